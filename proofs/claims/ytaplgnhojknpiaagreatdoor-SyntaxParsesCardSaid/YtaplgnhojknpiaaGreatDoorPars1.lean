/- The program's parser: its object; what reads a token. -/
import Derived.Test.YtaplgnhojknpiaaGreatDoorSplit2
import Derived.Test.YtaplgnhojknpiaaGreatDoorLoom4
namespace Go.Proofs.YtaplgnhojknpiaaGreatDoor
open Go.aU
set_option maxRecDepth 100000
abbrev pA:A:=.p (.c (.ptr 0 0))
def AG:List (ByteArray×Int) :=
 bR D.str (D.int .i64) ⟨#[94]⟩ (8:Int) (bR D.str (D.int .i64) ⟨#[37]⟩ (6:Int) (bR D.str (D.int .i64) ⟨#[47]⟩ (6:Int) (bR D.str (D.int .i64) ⟨#[42]⟩ (6:Int) (bR D.str (D.int .i64) ⟨#[45]⟩ (5:Int) (bR D.str (D.int .i64) ⟨#[43]⟩ (5:Int) (bR D.str (D.int .i64) ⟨#[105,110]⟩ (4:Int) (bR D.str (D.int .i64) ⟨#[62,61]⟩ (4:Int) (bR D.str (D.int .i64) ⟨#[62]⟩ (4:Int) (bR D.str (D.int .i64) ⟨#[60,61]⟩ (4:Int) (bR D.str (D.int .i64) ⟨#[60]⟩ (4:Int) (bR D.str (D.int .i64) ⟨#[33,61]⟩ (4:Int) (bR D.str (D.int .i64) ⟨#[61,61]⟩ (4:Int) (bR D.str (D.int .i64) ⟨#[97,110,100]⟩ (2:Int) (bR D.str (D.int .i64) ⟨#[111,114]⟩ (1:Int) []))))))))))))))
noncomputable def levM:{ m:List (ByteArray×Int) // m=AG }:=Classical.choice ⟨⟨AG,rfl⟩⟩
noncomputable def cK:List (ByteArray×Int):=levM.1
theorem Ou:cK=AG:=levM.2
noncomputable abbrev bH:Ob:=⟨65,[.m .str (.int .i64) cK]⟩
theorem Rn:bp Tryz.prog 34 [] [] (.p (.c (.mp 0))) [bH]:=by
 refine bh (aK:=[]) aE Tryz.func34 (by kernel_rfl) (au:=0) rfl (by kernel_rfl) 100 ?_;apply of_eq (q:=aq [V.c (W.mp (0:Nat))]=aP (W.mp (0:Nat))/\[Ob.mk 65 [Fd.m D.str (D.int .i64) (bR D.str (D.int .i64) (ByteArray.mk #[(94:UInt8)]) (8:Int) (bR D.str (D.int .i64) (ByteArray.mk #[(37:UInt8)]) (6:Int) (bR D.str (D.int .i64) (ByteArray.mk #[(47:UInt8)]) (6:Int) (bR D.str (D.int .i64) (ByteArray.mk #[(42:UInt8)]) (6:Int) (bR D.str (D.int .i64) (ByteArray.mk #[(45:UInt8)]) (5:Int) (bR D.str (D.int .i64) (ByteArray.mk #[(43:UInt8)]) (5:Int) (bR D.str (D.int .i64) (ByteArray.mk #[(105:UInt8),(110:UInt8)]) (4:Int) (bR D.str (D.int .i64) (ByteArray.mk #[(62:UInt8),(61:UInt8)]) (4:Int) (bR D.str (D.int .i64) (ByteArray.mk #[(62:UInt8)]) (4:Int) (bR D.str (D.int .i64) (ByteArray.mk #[(60:UInt8),(61:UInt8)]) (4:Int) (bR D.str (D.int .i64) (ByteArray.mk #[(60:UInt8)]) (4:Int) (bR D.str (D.int .i64) (ByteArray.mk #[(33:UInt8),(61:UInt8)]) (4:Int) (bR D.str (D.int .i64) (ByteArray.mk #[(61:UInt8),(61:UInt8)]) (4:Int) (bR D.str (D.int .i64) (ByteArray.mk #[(97:UInt8),(110:UInt8),(100:UInt8)]) (2:Int) (bR D.str (D.int .i64) (ByteArray.mk #[(111:UInt8),(114:UInt8)]) (1:Int) [])))))))))))))))]]=[bH]) (by kernel_rfl)
 try simp only[sL,Int.reduceEq,Int.reduceNe,Nat.reduceAdd]
 unfold bH;rw[Ou];exact⟨rfl,rfl⟩
abbrev UL(s:ByteArray)(l:List Tok)(i:Int)(ins:Bool)(m:Nat):Ob:=⟨72,[.c (.str s),.c (.rs 4 (ar l)),.c (.int .i64 i),.c (.mp 1),.c (.bool ins),.c (.sl 2 0 m 1)]⟩
abbrev iY(ns:List ByteArray):Ob:=⟨9,[.a 0 .str ns]⟩
noncomputable abbrev pO(s:ByteArray)(l:List Tok)(i:Int)(ins:Bool)(ns:List ByteArray):List Ob:=[UL s l i ins ns.length,bH,iY ns]
def aM(l:List Tok)(i:Int):Tok:=l.getD i.toNat ⟨0,eS,0,0⟩
def cV(s:ByteArray)(l:List Tok)(i:Int):Int:=if i<l.length then(aM l i).at_ else s.size
def aQ(l:List Tok)(i:Int)(x:ByteArray):Bool:=decide (i<l.length)&&(decide ((aM l i).text=x)&&(decide ((aM l i).kind=5)||decide ((aM l i).kind=2)))
abbrev dx(l:List Tok)(i:Int):Prop:=0<=i/\i<=l.length/\l.length<=20000
theorem tN(l:List Tok):(ar l).length/4=l.length:=by rw[jZ];omega
theorem UM{l:List Tok}{i:Int}(h:dx l i)(hi:i<l.length):∃ n,∃ hn:n<l.length,i.toNat=n/\aM l i=l[n]:=by
 obtain⟨h0,h1,_⟩:=h;refine⟨i.toNat,by omega,rfl,?_⟩;unfold aM;rw[List.getD_eq_getElem?_getD,List.getElem?_eq_getElem (by omega)];rfl
theorem F7{l:List Tok}{i:Int}(h:dx l i)(hi:i<l.length):(ar l).getD (i.toNat*4+0) (.bool false)=.int (aM l i).kind:=by
 obtain⟨n,hn,e1,e2⟩:=UM h hi;rw[e1,e2];exact uO hn 0 (by omega)
theorem Du{l:List Tok}{i:Int}(h:dx l i)(hi:i<l.length):(ar l).getD (i.toNat*4+1) (.bool false)=.str (aM l i).text:=by
 obtain⟨n,hn,e1,e2⟩:=UM h hi;rw[e1,e2];exact uO hn 1 (by omega)
theorem tkg2{l:List Tok}{i:Int}(h:dx l i)(hi:i<l.length):(ar l).getD (i.toNat*4+2) (.bool false)=.int (aM l i).n:=by
 obtain⟨n,hn,e1,e2⟩:=UM h hi;rw[e1,e2];exact uO hn 2 (by omega)
theorem Ll{l:List Tok}{i:Int}(h:dx l i)(hi:i<l.length):(ar l).getD (i.toNat*4+3) (.bool false)=.int (aM l i).at_:=by
 obtain⟨n,hn,e1,e2⟩:=UM h hi;rw[e1,e2];exact uO hn 3 (by omega)
theorem pz{l:List Tok}{i:Int}(h:dx l i)(hi:i<l.length)(j:Nat)(hj:j<4):i.toNat*4+j<(ar l).length:=by
 rw[jZ];obtain⟨h0,_,_⟩:=h;omega
theorem Ro(s:ByteArray)(l:List Tok)(i:Int)(ins:Bool)(ns:List ByteArray)(h:dx l i):bp Tryz.prog 42 [pA] (pO s l i ins ns) (.p (.c (.int .i64 (cV s l i)))) (pO s l i ins ns):=by
 refine bh (aK:=[]) aE Tryz.func42 (by kernel_rfl) (au:=3) rfl (by kernel_rfl) 100 ?_;apply of_eq (q:=let q1:=[Ob.mk 72 [Fd.c (W.str s),Fd.c (W.rs (4:Nat) (ar l)),fI i,Fd.c (W.mp (1:Nat)),Fd.c (W.bool ins),fS 2 0 ns.length],Ob.mk 65 [Fd.m D.str (D.int .i64) cK],Ob.mk 9 [Fd.a 0 D.str ns]]=pO s l i ins ns;(decide (i<(↑((ar l).length/4):Int))=true->((0:Int)<=i/\i.toNat*4<(ar l).length)/\i.toNat*4+3<(ar l).length/\(PV.int (0:Int)).like ((ar l).getD (i.toNat*4+3) (PV.bool false))=true/\aq [V.c ((PV.int (0:Int)).at ((ar l).getD (i.toNat*4+3) (PV.bool false)))]=nI (cV s l i)/\q1)/\(decide (i<(↑((ar l).length/4):Int))=false->aq [vI (s.size:Int)]=nI (cV s l i)/\q1)) (by kernel_rfl)
 try simp only[sL]
 rw[tN];unfold cV;refine⟨fun hi=>?_,fun hi=>by rw[if_neg (by omega)];rfl⟩;rw[Ll h hi,if_pos hi];exact⟨⟨h.1,pz h hi 0 (by omega)⟩,pz h hi 3 (by omega),rfl,rfl⟩
theorem is_sem(s:ByteArray)(l:List Tok)(i:Int)(ins:Bool)(ns:List ByteArray)(h:dx l i)(x:ByteArray):bp Tryz.prog 73 [pA,sS x] (pO s l i ins ns) (bB (aQ l i x)) (pO s l i ins ns):=by
 refine bh (aK:=[]) aE Tryz.func73 (by kernel_rfl) (au:=3) rfl (by kernel_rfl) 100 ?_;apply of_eq (q:=let q4:=(ar l);let q5:=decide (i<(↑(q4.length/4):Int));let q6:=(PV.int (0:Int)).like (q4.getD (i.toNat*4+0) (PV.bool false))=true;let q7:=decide ((q4.getD (i.toNat*4+1) (PV.bool false)).bM=x);let q8:=decide ((q4.getD (i.toNat*4+0) (PV.bool false)).asInt=5);let q1:=(bif q5 then q7 else false)=true;let q2:=q8=false;let q3:=q5=true;(q3->q3)/\(q3->q3)/\(q3->q3)/\(q3->q3)/\(q3->q3)/\(q3->q3)/\(q3->q3)/\(q3->q3)/\(q3->(0:Int)<=i/\i.toNat*4<q4.length)/\(q3->q3)/\(q3->q3)/\(q3->i.toNat*4+1<q4.length)/\(q3->(PV.str (ByteArray.mk #[])).like (q4.getD (i.toNat*4+1) (PV.bool false))=true)/\(q3->q3)/\(q3->q3)/\(q3->q3)/\(q1->q1)/\(q1->q1)/\(q1->q1)/\(q1->q1)/\(q1->q1)/\(q1->q1)/\(q1->q1)/\(q1->q1)/\(q1->(0:Int)<=i/\i.toNat*4<q4.length)/\(q1->q1)/\(q1->q1)/\(q1->i.toNat*4+0<q4.length)/\(q1->q6)/\(q1->q1)/\(q1->q1)/\(q1/\q2->q1/\q2)/\(q1/\q2->q1/\q2)/\(q1/\q2->q1/\q2)/\(q1/\q2->q1/\q2)/\(q1/\q2->q1/\q2)/\(q1/\q2->q1/\q2)/\(q1/\q2->q1/\q2)/\(q1/\q2->q1/\q2)/\(q1/\q2->(0:Int)<=i/\i.toNat*4<q4.length)/\(q1/\q2->q1/\q2)/\(q1/\q2->q1/\q2)/\(q1/\q2->i.toNat*4+0<q4.length)/\(q1/\q2->q6)/\(q1/\q2->q1/\q2)/\(q1->q1)/\(q1->q2->q1/\q2)/\(q1->q1)/\aq [vB (bif bif q5 then q7 else false then bif q8 then true else decide ((q4.getD (i.toNat*4+0) (PV.bool false)).asInt=2) else false)]=bB (aQ l i x)/\[Ob.mk 72 [Fd.c (W.str s),Fd.c (W.rs (4:Nat) q4),fI i,Fd.c (W.mp (1:Nat)),Fd.c (W.bool ins),fS 2 0 ns.length],Ob.mk 65 [Fd.m D.str (D.int .i64) cK],Ob.mk 9 [Fd.a 0 D.str ns]]=pO s l i ins ns) (by kernel_rfl)
 try simp only[sL]
 rw[tN];by_cases hi:i<l.length;rw[F7 h hi,Du h hi];have h0:=pz h hi 0 (by omega);have h1:=pz h hi 1 (by omega);refine⟨fun _=>⟨h.1,h0⟩,fun _=>h1,fun _=>rfl,fun _=>⟨h.1,h0⟩,fun _=>h0,fun _=>rfl,fun _=>⟨h.1,h0⟩,fun _=>h0,fun _=>rfl,fun a b=>⟨a,b⟩,?_⟩;unfold aQ;rw[Bool.and_assoc];rfl;unfold aQ;rw[decide_eq_false hi];refine⟨fun h=>absurd h hi,fun h=>absurd h hi,fun h=>absurd h hi,fun h=>absurd h.1 hi,fun h=>absurd h.1 hi,fun h=>absurd h.1 hi,fun h=>absurd h.1.1 hi,fun h=>absurd h.1.1 hi,fun h=>absurd h.1.1 hi,fun a b=>⟨a,b⟩,rfl⟩
structure bI(s:ByteArray)(l:List Tok)(s':ByteArray)(l':List PV)(oM:Ob)(n:Nat)(ns:List ByteArray)(i:Int):Prop where
 es:s'=s
 el:l'=ar l
 em:oM=bH
 en:n=ns.length
 ok:dx l i
theorem pin{s:ByteArray}{l:List Tok}{ns:List ByteArray}{i:Int}(h:dx l i):bI s l s (ar l) bH ns.length ns i:=⟨rfl,rfl,rfl,rfl,h⟩
structure Rp where
 c:Prop
 die:Bool:=false
 e:Int:=0
 a:Int:=0
 r:A
 i:Int
 ins:Bool
 ns:List ByteArray
abbrev iS:=List A->Int->Bool->List ByteArray->Option Rp
def Ov(ak:List Ob)(m:Nat):Bool:=match ak with
 | [⟨t,[.c (.str _),.c (.rs q _),.c (.int .i64 _),.c (.mp k),.c (.bool _),.c (.sl x y _ z)]⟩,_,⟨tn,[.a 0 .str _]⟩]=>Nat.beq m 0&&(Nat.beq t 72&&(Nat.beq q 4&&(Nat.beq k 1&&(Nat.beq x 2&&(Nat.beq y 0&&(Nat.beq z 1&&Nat.beq tn 9))))))
 | _=>false
noncomputable def gi(s:ByteArray)(l:List Tok)(cE:List Bool)(g:iS):cO:={ cE:=cE,au:=some 3,f:=fun args ak=>match args,ak with
 | .p (.c (.ptr m 0))::aN,[⟨t,[.c (.str s'),.c (.rs q l'),.c (.int .i64 i),.c (.mp k),.c (.bool ins),.c (.sl x y n z)]⟩,oM,⟨tn,[.a 0 .str ns]⟩]=>bif Ov ak m then(match g aN i ins ns with
  | some p=>some (.p (bI s l s' l' oM n ns i/\p.c/\p.die=false),p.r,pO s l p.i p.ins p.ns)
  | none=>none) else none
 | _,_=>none }
noncomputable def j9(s:ByteArray)(l:List Tok)(cE:List Bool)(g:iS):gu:={ cE:=cE,f:=fun args ak=>match args,ak with
 | .p (.c (.ptr m 0))::aN,[⟨t,[.c (.str s'),.c (.rs q l'),.c (.int .i64 i),.c (.mp k),.c (.bool ins),.c (.sl x y n z)]⟩,oM,⟨tn,[.a 0 .str ns]⟩]=>bif Ov ak m then(match g aN i ins ns with
  | some p=>some (.p (bI s l s' l' oM n ns i/\p.c),some p.die,aV p.e p.a)
  | none=>none) else none
 | _,_=>none }
def lZ(f:Nat)(s:ByteArray)(l:List Tok)(g:iS):Prop:=∀ aN i ins ns p,g aN i ins ns=some p->dx l i->p.c->
 (p.die=false->eW Tryz.prog f 3 (pA::aN) (pO s l i ins ns) p.r (pO s l p.i p.ins p.ns))/\(p.die=true->lg Tryz.prog f (pA::aN) (pO s l i ins ns) (aV p.e p.a))
theorem eX{f:Nat}{s:ByteArray}{l:List Tok}{cE:List Bool}{g:iS}(he:enters Tryz.prog f=true)(h:lZ f s l g):bq Tryz.prog f (gi s l cE g):=by
 refine⟨he,fun args ak c r aX e hc=>?_⟩;simp only[gi] at e;split at e;rename_i m aN t s' q l' i k ins x y n z oM tn ns;obtain⟨hb,e1⟩:=aj.aC e;clear e;simp only[Ov,Bool.and_eq_true,Nat.beq_eq] at hb;obtain⟨rfl,rfl,rfl,rfl,rfl,rfl,rfl,rfl⟩:=hb;split at e1;rename_i p hp;cases e1;obtain⟨⟨rfl,rfl,rfl,rfl,h2⟩,h3,h4⟩:=hc;exact(h aN i ins ns p hp h2 h3).1 h4;cases e1;cases e
theorem iD{f:Nat}{s:ByteArray}{l:List Tok}{cE:List Bool}{g:iS}(he:enters Tryz.prog f=true)(h:lZ f s l g):f5 Tryz.prog f (j9 s l cE g):=by
 refine⟨he,fun args ak c b u e hc hb0=>?_⟩;simp only[j9] at e;split at e;rename_i m aN t s' q l' i k ins x y n z oM tn ns;obtain⟨hb,e1⟩:=aj.aC e;clear e;simp only[Ov,Bool.and_eq_true,Nat.beq_eq] at hb;obtain⟨rfl,rfl,rfl,rfl,rfl,rfl,rfl,rfl⟩:=hb;split at e1
 . rename_i p hp;cases e1;obtain⟨⟨rfl,rfl,rfl,rfl,h2⟩,h3⟩:=hc;refine(h aN i ins ns p hp h2 h3).2 ?_;cases hd:p.die with
   | true=>rfl
   | false=>rw[hd] at hb0;exact absurd rfl hb0
 cases e1;cases e
section
variable (s:ByteArray) (l:List Tok)
def X7:iS:=fun aN i ins ns=>match aN with | []=>some { c:=True,r:=.p (.c (.int .i64 (cV s l i))),i:=i,ins:=ins,ns:=ns }|_=>none
theorem X8:lZ 42 s l (X7 s l):=by
 intro aN i ins ns p e h hc;unfold X7 at e;split at e;cases e;exact⟨fun _=>Ro s l i ins ns h,fun h=>by cases h⟩;cases e
def gIs:iS:=fun aN i ins ns=>match aN with | [.p (.c (.str x))]=>some { c:=True,r:=bB (aQ l i x),i:=i,ins:=ins,ns:=ns }|_=>none
theorem is_both:lZ 73 s l (gIs l):=by
 intro aN i ins ns p e h hc;unfold gIs at e;split at e;cases e;exact⟨fun _=>is_sem s l i ins ns h _,fun h=>by cases h⟩;cases e
noncomputable def gamA:bX:=[(42,gi s l [true] (X7 s l)),(73,gi s l [true,false] (gIs l))]
theorem F8:bg Tryz.prog (gamA s l):=ai (eX (by kernel_rfl) (X8 s l)) (ai (eX (by kernel_rfl) (is_both s l)) aE)
def dr(i:Int)(x:ByteArray):Int:=if aQ l i x then i+1 else i
variable {l} in
theorem iZ{i:Int}{x:ByteArray}(h:aQ l i x=false):dr l i x=i:=by unfold dr;rw[if_neg (by rw[h];simp)]
variable {l} in
theorem ja{i:Int}{x:ByteArray}(h:aQ l i x=true):dr l i x=i+1:=by unfold dr;rw[if_pos h]
def Rq:iS:=fun aN i ins ns=>match aN with | [.p (.c (.str x))]=>some { c:=True,r:=bB (aQ l i x),i:=dr l i x,ins:=ins,ns:=ns }|_=>none
variable {l} in
theorem bW{i:Int}{x:ByteArray}(h:aQ l i x=true):i<l.length:=by
 unfold aQ at h;simp only[Bool.and_eq_true,decide_eq_true_eq] at h;exact h.1
theorem UN:lZ 43 s l (Rq l):=by
 intro aN i ins ns p e h hc;unfold Rq at e;split at e;rename_i x;cases e;refine⟨fun _=>?_,fun h=>by cases h⟩;refine ew (aK:=[]) (eu:=[]) (fz:=[]) (F8 s l) Tryz.func43 (by kernel_rfl) 3 (by kernel_rfl) 100 ?_;apply of_eq (q:=let q1:=Ob.mk 65 [Fd.m D.str (D.int .i64) cK];(bI s l s (ar l) (q1) ns.length ns i/\True/\false=false)/\((!aQ l i x)=true->aq [vB false]=bB (aQ l i x)/\[Ob.mk 72 [Fd.c (W.str s),Fd.c (W.rs (4:Nat) (ar l)),fI i,Fd.c (W.mp (1:Nat)),Fd.c (W.bool ins),fS 2 0 ns.length],q1,Ob.mk 9 [Fd.a 0 D.str ns]]=pO s l (dr l i x) ins ns)/\((!aQ l i x)=false->aq [vB true]=bB (aQ l i x)/\[Ob.mk 72 [Fd.c (W.str s),Fd.c (W.rs (4:Nat) (ar l)),fI (IntKind.i64.wrap (i+1)),Fd.c (W.mp (1:Nat)),Fd.c (W.bool ins),fS 2 0 ns.length],q1,Ob.mk 9 [Fd.a 0 D.str ns]]=pO s l (dr l i x) ins ns)) (by kernel_rfl)
 try simp only[sL]
 refine⟨pin h,fun h1=>?_,fun h1=>?_⟩;rw[iZ h1,h1];exact⟨rfl,rfl⟩;have:=bW h1;have h0:=h.1;have h2:=h.2;rw[ja h1,h1,wrap64 (by omega) (by omega)];exact⟨rfl,rfl⟩;cases e
def Ln:iS:=fun aN i ins ns=>match aN with | []=>some { c:=True,die:=true,e:=11,a:=cV s l i,r:=.bC [],i:=i,ins:=ins,ns:=ns }|_=>none
theorem Rt:lZ 40 s l (Ln s l):=by
 intro aN i ins ns p e h hc;unfold Ln at e;split at e;cases e;refine⟨fun h=>(by cases h),fun h2=>?_⟩;refine(iM (dies:=[]) (aK:=[]) (eu:=[]) (fz:=[]) (F8 s l) Tryz.func40 (by kernel_rfl) 3 (by kernel_rfl) (b:=true) (r0:=.bC []) (bP:=[]) 100 ?_).2 rfl;apply of_eq (q:=(bI s l s (ar l) (Ob.mk 65 [Fd.m D.str (D.int .i64) cK]) ns.length ns i/\True/\false=false)/\true=true/\Value.iface (106:Nat) (Value.agg #[Value.int .i64 (11:Int),Value.int .i64 (cV s l i)])=aV (11:Int) (cV s l i)) (by kernel_rfl)
 try simp only[sL]
 exact⟨pin h,rfl⟩;cases e
noncomputable def ye:bX:=(43,gi s l [true,false] (Rq l))::gamA s l
theorem lF:bg Tryz.prog (ye s l):=ai (eX (by kernel_rfl) (UN s l)) (F8 s l)
noncomputable def CN:List { x:FuncId×gu // f5 Tryz.prog x.1 x.2 }:=[⟨(40,j9 s l [true] (Ln s l)),iD (by kernel_rfl) (Rt s l)⟩]
def rf:iS:=fun aN i ins ns=>match aN with | [.p (.c (.str x))]=>some { c:=True,die:=!aQ l i x,e:=11,a:=cV s l i,r:=.bC [],i:=i+1,ins:=ins,ns:=ns }|_=>none
theorem lN:lZ 57 s l (rf s l):=by
 intro aN i ins ns p e h hc;unfold rf at e;split at e;rename_i x;cases e;refine iM (dies:=CN s l) (aK:=[]) (eu:=[]) (fz:=[]) (lF s l) Tryz.func57 (by kernel_rfl) 3 (by kernel_rfl) 100 ?_;apply of_eq (q:=let q1:=Ob.mk 65 [Fd.m D.str (D.int .i64) cK];(bI s l s (ar l) (q1) ns.length ns i/\True/\false=false)/\((!aQ l i x)=true->(bI s l s (ar l) (q1) ns.length ns (dr l i x)/\True)/\(true=true->(!aQ l i x)=true/\aV (11:Int) (cV s l (dr l i x))=aV (11:Int) (cV s l i))/\(true=false->False))/\((!aQ l i x)=false->(!aQ l i x)=false/\aq []=A.bC []/\[Ob.mk 72 [Fd.c (W.str s),Fd.c (W.rs (4:Nat) (ar l)),fI (dr l i x),Fd.c (W.mp (1:Nat)),Fd.c (W.bool ins),fS 2 0 ns.length],q1,Ob.mk 9 [Fd.a 0 D.str ns]]=pO s l (i+1) ins ns)) (by kernel_rfl)
 try simp only[sL]
 refine⟨pin h,fun h1=>?_,fun h1=>?_⟩;rw[iZ h1,h1];exact⟨pin h,fun _=>⟨rfl,rfl⟩,fun h=>by cases h⟩;rw[ja h1,h1];exact⟨rfl,rfl,rfl⟩;cases e
def fk(i:Int):Bool:=decide (i<l.length)&&decide ((aM l i).kind=1)
def uQ:iS:=fun aN i ins ns=>match aN with | []=>some { c:=True,die:=!fk l i,e:=11,a:=cV s l i,r:=sS (aM l i).text,i:=i+1,ins:=ins,ns:=ns }|_=>none
theorem pE:lZ 77 s l (uQ s l):=by
 intro aN i ins ns p e h hc;unfold uQ at e;split at e;cases e;refine iM (dies:=CN s l) (aK:=[]) (eu:=[]) (fz:=[]) (lF s l) Tryz.func77 (by kernel_rfl) 3 (by kernel_rfl) 100 ?_;apply of_eq (q:=let q0:=IntKind.i64.wrap;let q2:=(q0 (q0 (i+1)-1));let q5:=(ar l);let q3:=decide ((↑(q5.length/4):Int)<=i);let q4:=decide ((q5.getD (i.toNat*4+0) (PV.bool false)).asInt=1);let q1:=q3=false;(q1->q1)/\(q1->q1)/\(q1->q1)/\(q1->q1)/\(q1->q1)/\(q1->q1)/\(q1->q1)/\(q1->q1)/\(q1->(0:Int)<=i/\i.toNat*4<q5.length)/\(q1->q1)/\(q1->q1)/\(q1->i.toNat*4+0<q5.length)/\(q1->(PV.int (0:Int)).like (q5.getD (i.toNat*4+0) (PV.bool false))=true)/\(q1->q1)/\(q1->q1)/\((bif q3 then true else !q4)=true->(bI s l s q5 (Ob.mk 65 [Fd.m D.str (D.int .i64) cK]) ns.length ns i/\True)/\(true=true->(!fk l i)=true/\aV (11:Int) (cV s l i)=aV (11:Int) (cV s l i))/\(true=false->False))/\((bif q3 then true else !q4)=false->((0:Int)<=q0 (q0 (i+1)-1)/\q2.toNat*4<q5.length)/\q2.toNat*4+1<q5.length/\(PV.str (ByteArray.mk #[])).like (q5.getD (q2.toNat*4+1) (PV.bool false))=true/\(!fk l i)=false/\aq [V.c ((PV.str (ByteArray.mk #[])).at (q5.getD (q2.toNat*4+1) (PV.bool false)))]=sS (aM l i).text/\[Ob.mk 72 [Fd.c (W.str s),Fd.c (W.rs (4:Nat) q5),fI (q0 (i+1)),Fd.c (W.mp (1:Nat)),Fd.c (W.bool ins),fS 2 0 ns.length],Ob.mk 65 [Fd.m D.str (D.int .i64) cK],Ob.mk 9 [Fd.a 0 D.str ns]]=pO s l (i+1) ins ns)) (by kernel_rfl)
 try simp only[sL]
 rw[tN];have h0:=h.1;have h2:=h.2;by_cases hi:i<l.length;rw[wrap64 (n:=i+1) (by omega) (by omega),Int.add_sub_cancel,wrap64 (by omega) (by omega),F7 h hi,Du h hi];have g0:=pz h hi 0 (by omega);have g1:=pz h hi 1 (by omega);unfold fk;rw[decide_eq_true hi];refine⟨fun _=>⟨h0,g0⟩,fun _=>g0,fun _=>rfl,fun h1=>⟨pin h,fun _=>?_,fun h=>by cases h⟩,fun h1=>⟨⟨h0,g0⟩,g1,rfl,?_,rfl,rfl⟩⟩;rcases h1 with h1|h1;omega;exact decide_eq_false h1;exact decide_eq_true h1.2;refine⟨fun h=>absurd h hi,fun h=>absurd h hi,fun h=>absurd h hi,fun _=>⟨pin h,fun _=>?_,fun h=>by cases h⟩,fun h1=>absurd h1.1 hi⟩;unfold fk;rw[decide_eq_false hi];rfl;cases e
def qN(x:ByteArray):Int:=eJ .str (.int .i64) AG x
theorem IZ(x:ByteArray):eJ .str (.int .i64) cK x=qN x:=by rw[Ou];rfl
def eT(i lv:Int):Bool:=decide (i<l.length)&&(aQ l i (aM l i).text&&decide (qN (aM l i).text=lv))
noncomputable def gOp:iS:=fun aN i ins ns=>match aN with | [.p (.c (.int .i64 lv))]=>some { c:=True,r:=.bC [.c (.str (if eT l i lv then(aM l i).text else eS)),.c (.bool (eT l i lv))],i:=if eT l i lv then i+1 else i,ins:=ins,ns:=ns }|_=>none
theorem op_both:lZ 56 s l (gOp l):=by
 intro aN i ins ns p e h hc;unfold gOp at e;split at e;rename_i lv;cases e;refine⟨fun _=>?_,fun h=>by cases h⟩;refine ew (aK:=[]) (eu:=[]) (fz:=[]) (lF s l) Tryz.func56 (by kernel_rfl) 3 (by kernel_rfl) 100 ?_;apply of_eq (q:=let q5:=Ob.mk 65 [Fd.m D.str (D.int .i64) cK];let q6:=V.c (W.str (if eT l i lv=true then(aM l i).text else eS));let q7:=(ar l);let q8:=(i.toNat*4+1);let q1:=(!aQ l i (q7.getD q8 (PV.bool false)).bM)=false;let q2:=[Ob.mk 72 [Fd.c (W.str s),Fd.c (W.rs (4:Nat) q7),fI i,Fd.c (W.mp (1:Nat)),Fd.c (W.bool ins),fS 2 0 ns.length],q5,Ob.mk 9 [Fd.a 0 D.str ns]]=pO s l (if eT l i lv=true then i+1 else i) ins ns;let q3:=aq [V.c (W.str (ByteArray.mk #[])),vB false]=A.bC [q6,vB (eT l i lv)];let q4:=decide (eJ D.str (D.int .i64) cK (q7.getD q8 (PV.bool false)).bM=lv);(decide ((↑(q7.length/4):Int)<=i)=true->q3/\q2)/\(decide ((↑(q7.length/4):Int)<=i)=false->((0:Int)<=i/\i.toNat*4<q7.length)/\i.toNat*4+1<q7.length/\(PV.str (ByteArray.mk #[])).like (q7.getD q8 (PV.bool false))=true/\(bI s l s q7 (q5) ns.length ns i/\True/\false=false)/\(q1->q1)/\(q1->q1)/\(q1->q1)/\(q1->q1/\q1/\((!q4)=true->q3/\q2)/\((!q4)=false->aq [V.c ((PV.str (ByteArray.mk #[])).at (q7.getD q8 (PV.bool false))),vB true]=A.bC [q6,vB (eT l i lv)]/\[Ob.mk 72 [Fd.c (W.str s),Fd.c (W.rs (4:Nat) q7),fI (IntKind.i64.wrap (i+1)),Fd.c (W.mp (1:Nat)),Fd.c (W.bool ins),fS 2 0 ns.length],q5,Ob.mk 9 [Fd.a 0 D.str ns]]=pO s l (if eT l i lv=true then i+1 else i) ins ns))/\((!aQ l i (q7.getD q8 (PV.bool false)).bM)=!false->q3/\q2))) (by kernel_rfl)
 try simp only[sL]
 rw[tN];have h0:=h.1;have h2:=h.2;have hF:eT l i lv=false->aq [V.c (W.str { data:=#[] }),V.c (W.bool false)]=A.bC [V.c (W.str (if eT l i lv=true then(aM l i).text else eS)),V.c (W.bool (eT l i lv))]/\pO s l i ins ns=pO s l (if eT l i lv=true then i+1 else i) ins ns:=by
  intro hf;rw[hf];exact⟨rfl,rfl⟩
 by_cases hi:i<l.length;rw[wrap64 (n:=i+1) (by omega) (by omega),Du h hi];refine⟨fun h=>by omega,fun _=>⟨⟨h0,pz h hi 0 (by omega)⟩,pz h hi 1 (by omega),rfl,pin h,?_⟩⟩;have ho:eT l i lv=(aQ l i (aM l i).text&&decide (qN (aM l i).text=lv)):=by unfold eT;rw[decide_eq_true hi];rfl
 refine⟨fun h1=>⟨h1,h1,fun h2=>hF ?_,fun h2=>?_⟩,fun h1=>hF ?_⟩;have h1:aQ l i (aM l i).text=true:=h1;rw[ho,h1];exact decide_eq_false (fun e=>h2 ((IZ _).trans e));have h1:aQ l i (aM l i).text=true:=h1;have h2:qN (aM l i).text=lv:=(IZ _).symm.trans h2;have:eT l i lv=true:=by rw[ho,h1,decide_eq_true h2];rfl
 rw[this];exact⟨rfl,rfl⟩;have h1:(!aQ l i (aM l i).text)=true:=h1;rw[Bool.not_eq_true'] at h1;rw[ho,h1];rfl;refine⟨fun _=>hF ?_,fun h=>absurd h hi⟩;unfold eT;rw[decide_eq_false hi];rfl;cases e
end
inductive Ex where
 | mk (k n:Int) (t:ByteArray) (l:List Ex)
def Ex.k:Ex->Int | .mk k _ _ _=>k
def Ex.n:Ex->Int | .mk _ n _ _=>n
def Ex.t:Ex->ByteArray | .mk _ _ t _=>t
def Ex.l:Ex->List Ex | .mk _ _ _ l=>l
mutual
def Ex.oB:Ex->List PV
 | .mk k n t l=>[.int k,.int n,.str t,.aH 4 (Ex.ah l)]
def Ex.ah:List Ex->List PV
 | []=>[]
 | e::l=>e.oB++Ex.ah l
end
theorem Ex.AJ(e:Ex):e.oB=[.int e.k,.int e.n,.str e.t,.aH 4 (Ex.ah e.l)]:=by
 cases e;rw[Ex.oB];rfl
theorem Ex.bJ:Ex.ah []=[]:=by rw[Ex.ah]
theorem Ex.fA(e:Ex)(l:List Ex):Ex.ah (e::l)=.int e.k::.int e.n::.str e.t::.aH 4 (Ex.ah e.l)::Ex.ah l:=by
 rw[Ex.ah,Ex.AJ];rfl
theorem Ex.qO(l m:List Ex):Ex.ah (l++m)=Ex.ah l++Ex.ah m:=by
 induction l with
 | nil=>rw[Ex.bJ];rfl
 | cons e l ih=>rw[List.cons_append,Ex.fA,Ex.fA,ih];rfl
theorem Ex.cI(l:List Ex):(Ex.ah l).length=l.length*4:=by
 induction l with
 | nil=>rw[Ex.bJ];rfl
 | cons e l ih=>rw[Ex.fA];simp only[List.length_cons,ih];omega
def exV(e:Ex):V:=.agg [.int .i64 e.k,.int .i64 e.n,.str e.t,.rs 4 (Ex.ah e.l)]
abbrev AK:ByteArray:=⟨#[110,111,116]⟩
abbrev vK:ByteArray:=⟨#[45]⟩
abbrev pF:ByteArray:=⟨#[91]⟩
abbrev mR:ByteArray:=⟨#[93]⟩
abbrev eY:ByteArray:=⟨#[40]⟩
abbrev fj:ByteArray:=⟨#[41]⟩
abbrev ic:ByteArray:=⟨#[44]⟩
abbrev AL:ByteArray:=⟨#[116,114,117,101]⟩
abbrev AO:ByteArray:=⟨#[102,97,108,115,101]⟩
def rm(t:ByteArray)(x y:Ex):Ex:=.mk 9 0 t [x,y]
def Lp(t:ByteArray)(x:Ex):Ex:=.mk 8 0 t [x]
def Ru(x y:Ex):Ex:=.mk 7 0 eS [x,y]
structure XR(α:Type) where
 die:Bool
 e:Int
 a:Int
 v:α
 i:Int
def gI:Ex:=.mk 0 0 eS []
section
variable (s:ByteArray) (l:List Tok)
def jB{α:Type}(v:α)(i:Int):XR α:=⟨true,11,cV s l i,v,i⟩
def gD{α:Type}(v:α)(i:Int):XR α:=⟨false,0,0,v,i⟩
abbrev jG:=Int->Int->XR Ex
noncomputable def sF(ex:jG)(lv:Int):Nat->Ex->Int->XR Ex
 | 0,x,i=>jB s l x i
 | k+1,x,i=>bif eT l i lv then
  (bif (ex (lv+1) (i+1)).die then ex (lv+1) (i+1) else
   bif decide (lv=4) then gD (rm (aM l i).text x (ex (lv+1) (i+1)).v) (ex (lv+1) (i+1)).i
   else sF ex lv k (rm (aM l i).text x (ex (lv+1) (i+1)).v) (ex (lv+1) (i+1)).i)
   else gD x i
noncomputable def uR(ex:jG):Nat->Ex->Int->XR Ex
 | 0,x,i=>jB s l x i
 | k+1,x,i=>bif aQ l i pF then
  (bif (ex 1 (i+1)).die then ex 1 (i+1) else
   bif aQ l (ex 1 (i+1)).i mR then uR ex k (Ru x (ex 1 (i+1)).v) ((ex 1 (i+1)).i+1) else jB s l x (ex 1 (i+1)).i)
   else gD x i
noncomputable def sG(ex:jG)(t:ByteArray):Nat->List Ex->Int->XR (List Ex)
 | 0,acc,i=>jB s l acc i
 | k+1,acc,i=>bif (ex 1 i).die then ⟨true,(ex 1 i).e,(ex 1 i).a,acc,i⟩ else
  bif aQ l (ex 1 i).i t then gD (acc++[(ex 1 i).v]) ((ex 1 i).i+1) else
  bif aQ l (ex 1 i).i ic then sG ex t k (acc++[(ex 1 i).v]) ((ex 1 i).i+1) else jB s l acc (ex 1 i).i
noncomputable def gF(ex:jG)(t:ByteArray)(i:Int):XR (List Ex):=bif aQ l i t then gD [] (i+1) else sG s l ex t (l.length+1) [] i
noncomputable def kW(ex:jG)(i:Int):XR Ex :=
 bif aQ l i eY then(bif (ex 1 (i+1)).die then ex 1 (i+1) else bif aQ l (ex 1 (i+1)).i fj then gD (ex 1 (i+1)).v ((ex 1 (i+1)).i+1) else jB s l gI (ex 1 (i+1)).i)
 else bif aQ l i pF then ⟨(gF s l ex mR (i+1)).die,(gF s l ex mR (i+1)).e,(gF s l ex mR (i+1)).a,.mk 5 0 eS (gF s l ex mR (i+1)).v,(gF s l ex mR (i+1)).i⟩
 else bif aQ l i AL then gD (.mk 3 1 eS []) (i+1)
 else bif aQ l i AO then gD (.mk 3 0 eS []) (i+1)
 else bif decide (l.length<=i) then jB s l gI i
 else bif decide ((aM l i).kind=3) then gD (.mk 1 (aM l i).n eS []) (i+1)
 else bif decide ((aM l i).kind=4) then gD (.mk 2 0 (aM l i).text []) (i+1)
 else bif fk l i then(bif aQ l (i+1) eY then ⟨(gF s l ex fj (i+1+1)).die,(gF s l ex fj (i+1+1)).e,(gF s l ex fj (i+1+1)).a,.mk 6 0 (aM l i).text (gF s l ex fj (i+1+1)).v,(gF s l ex fj (i+1+1)).i⟩
  else gD (.mk 4 0 (aM l i).text []) (i+1))
 else jB s l gI i
noncomputable def uS(ex:jG)(t:ByteArray)(lv i:Int):XR Ex :=
 bif aQ l i t then(bif (ex lv (i+1)).die then ex lv (i+1) else gD (Lp t (ex lv (i+1)).v) (ex lv (i+1)).i) else ex (lv+1) i
noncomputable def F9(ex:jG)(i:Int):XR Ex :=
 bif (ex 9 i).die then ex 9 i else bif eT l (ex 9 i).i 8 then
  (bif (ex 7 ((ex 9 i).i+1)).die then ex 7 ((ex 9 i).i+1) else gD (rm (aM l (ex 9 i).i).text (ex 9 i).v (ex 7 ((ex 9 i).i+1)).v) (ex 7 ((ex 9 i).i+1)).i)
 else gD (ex 9 i).v (ex 9 i).i
noncomputable def AP(ex:jG)(lv i:Int):XR Ex :=
 bif decide (lv=3) then uS l ex AK lv i
 else bif decide (lv=7) then uS l ex vK lv i
 else bif decide (lv=8) then F9 l ex i
 else bif decide (lv=9) then(bif (ex 10 i).die then ex 10 i else uR s l ex (l.length+1) (ex 10 i).v (ex 10 i).i)
 else bif decide (lv=10) then kW s l ex i
 else(bif (ex (lv+1) i).die then ex (lv+1) i else sF s l ex lv (l.length+1) (ex (lv+1) i).v (ex (lv+1) i).i)
noncomputable def cJ:Nat->jG
 | 0=>fun _ i=>jB s l gI i
 | n+1=>AP s l (cJ n)
def mN(ex:jG):Prop:=∀ lv i,(ex lv i).die=false->0<=i->i<(ex lv i).i/\(ex lv i).i<=l.length
variable {s l}
theorem op_lt{i lv:Int}(h:eT l i lv=true):i<l.length:=by
 unfold eT at h;simp only[Bool.and_eq_true,decide_eq_true_eq] at h;exact h.1
theorem sU{i:Int}(h:fk l i=true):i<l.length:=by
 unfold fk at h;simp only[Bool.and_eq_true,decide_eq_true_eq] at h;exact h.1
theorem UO{ex:jG}(h:mN l ex)(lv:Int):∀(k:Nat)(x:Ex)(i:Int),(sF s l ex lv k x i).die=false->0<=i->i<=l.length->i<=(sF s l ex lv k x i).i/\(sF s l ex lv k x i).i<=l.length
 | 0,x,i,hd,_,_=>by cases hd
 | k + 1, x, i, hd, h0, hl => by
   unfold sF at hd ⊢;cases ho:eT l i lv with
   | false=>rw[ho] at hd;exact⟨Int.le_refl _,hl⟩
   | true =>
     rw[ho] at hd;simp only[cond_true] at hd ⊢;cases hx:(ex (lv+1) (i+1)).die with
     | true=>rw[hx] at hd;simp only[cond_true] at hd;rw[hx] at hd;cases hd
     | false =>
       rw[hx] at hd;simp only[cond_false] at hd ⊢;obtain⟨a,b⟩:=h _ _ hx (by omega);cases h4:decide (lv=4) with
       | true=>exact⟨by show i<=(ex (lv+1) (i+1)).i;omega,b⟩
       | false =>
         rw[h4] at hd;simp only[cond_false] at hd ⊢;obtain⟨c,d⟩:=UO h lv k _ _ hd (by omega) b;exact⟨by omega,d⟩
theorem UQ{ex:jG}(h:mN l ex):∀(k:Nat)(x:Ex)(i:Int),(uR s l ex k x i).die=false->0<=i->i<=l.length->i<=(uR s l ex k x i).i/\(uR s l ex k x i).i<=l.length
 | 0,x,i,hd,_,_=>by cases hd
 | k + 1, x, i, hd, h0, hl => by
   unfold uR at hd ⊢;cases ho:aQ l i pF with
   | false=>rw[ho] at hd;exact⟨Int.le_refl _,hl⟩
   | true =>
     rw[ho] at hd;simp only[cond_true] at hd ⊢;cases hx:(ex 1 (i+1)).die with
     | true=>rw[hx] at hd;simp only[cond_true] at hd;rw[hx] at hd;cases hd
     | false =>
       rw[hx] at hd;simp only[cond_false] at hd ⊢;obtain⟨a,b⟩:=h _ _ hx (by omega);cases h4:aQ l (ex 1 (i+1)).i mR with
       | false=>rw[h4] at hd;cases hd
       | true =>
         rw[h4] at hd;simp only[cond_true] at hd ⊢;have:=bW h4;obtain⟨c,d⟩:=UQ h k _ _ hd (by omega) (by omega);exact⟨by omega,d⟩
theorem UR{ex:jG}(h:mN l ex)(t:ByteArray):∀(k:Nat)(acc:List Ex)(i:Int),(sG s l ex t k acc i).die=false->0<=i->i<(sG s l ex t k acc i).i/\(sG s l ex t k acc i).i<=l.length
 | 0,x,i,hd,_=>by cases hd
 | k + 1, acc, i, hd, h0 => by
   unfold sG at hd ⊢;cases hx:(ex 1 i).die with
   | true=>rw[hx] at hd;cases hd
   | false =>
     rw[hx] at hd;simp only[cond_false] at hd ⊢;obtain⟨a,b⟩:=h _ _ hx (by omega);cases h4:aQ l (ex 1 i).i t with
     | true =>
       have:=bW h4;exact⟨by show i<(ex 1 i).i+1;omega,by show (ex 1 i).i+1<=_;omega⟩
     | false =>
       rw[h4] at hd;simp only[cond_false] at hd ⊢;cases h5:aQ l (ex 1 i).i ic with
       | false=>rw[h5] at hd;cases hd
       | true =>
         rw[h5] at hd;simp only[cond_true] at hd ⊢;have:=bW h5;obtain⟨c,d⟩:=UR h t k _ _ hd (by omega);exact⟨by omega,d⟩
theorem Lq{ex:jG}(h:mN l ex)(t:ByteArray)(i:Int)(hd:(gF s l ex t i).die=false)(h0:0<=i):i<(gF s l ex t i).i/\(gF s l ex t i).i<=l.length:=by
 unfold gF at hd ⊢;cases h4:aQ l i t with
 | true =>
   have:=bW h4;exact⟨by show i<i+1;omega,by show i+1<=_;omega⟩
 | false=>rw[h4] at hd;exact UR h t _ _ _ hd h0
end
section
variable {s:ByteArray} {l:List Tok}
theorem X9{ex:jG}(h:mN l ex)(i:Int)(hd:(kW s l ex i).die=false)(h0:0<=i):i<(kW s l ex i).i/\(kW s l ex i).i<=l.length:=by
 unfold kW at hd ⊢;cases h1:aQ l i eY with
 | true =>
   rw[h1] at hd;simp only[cond_true] at hd ⊢;cases hx:(ex 1 (i+1)).die with
   | true=>rw[hx] at hd;simp only[cond_true] at hd;rw[hx] at hd;cases hd
   | false =>
     rw[hx] at hd;simp only[cond_false] at hd ⊢;obtain⟨a,b⟩:=h _ _ hx (by omega);cases h4:aQ l (ex 1 (i+1)).i fj with
     | false=>rw[h4] at hd;cases hd
     | true =>
       have:=bW h4;exact⟨by show i<(ex 1 (i+1)).i+1;omega,by show (ex 1 (i+1)).i+1<=_;omega⟩
 | false =>
 rw[h1] at hd;simp only[cond_false] at hd ⊢;cases h2:aQ l i pF with
 | true =>
   rw[h2] at hd;simp only[cond_true] at hd ⊢;obtain⟨a,b⟩:=Lq h _ _ hd (by omega);exact⟨by omega,b⟩
 | false =>
 rw[h2] at hd;simp only[cond_false] at hd ⊢;have one:∀ v:Ex,i<l.length->i<(gD v (i+1)).i/\(gD v (i+1)).i<=l.length:=fun v hi=>⟨by show i<i+1;omega,by show i+1<=_;omega⟩;cases h3:aQ l i AL with
 | true=>exact one _ (bW h3)
 | false =>
 cases h4:aQ l i AO with
 | true=>exact one _ (bW h4)
 | false =>
 rw[h3,h4] at hd;simp only[cond_false] at hd ⊢;by_cases hi:(l.length:Int)<=i;rw[decide_eq_true hi] at hd;cases hd;rw[decide_eq_false hi] at hd ⊢;simp only[cond_false] at hd ⊢;have hi:i<l.length:=by omega
 cases h5:decide ((aM l i).kind=3) with
 | true=>exact one _ hi
 | false =>
 cases h6:decide ((aM l i).kind=4) with
 | true=>exact one _ hi
 | false =>
 cases h7:fk l i with
 | false=>rw[h5,h6,h7] at hd;cases hd
 | true =>
 rw[h5,h6,h7] at hd;simp only[cond_false,cond_true] at hd ⊢;cases h8:aQ l (i+1) eY with
 | false=>exact one _ hi
 | true =>
   rw[h8] at hd;simp only[cond_true] at hd ⊢;obtain⟨a,b⟩:=Lq h _ _ hd (by omega);exact⟨by omega,b⟩
theorem UU{ex:jG}(h:mN l ex):mN l (AP s l ex):=by
 intro lv i hd h0;have un : ∀ t, (uS l ex t lv i).die = false → i < (uS l ex t lv i).i ∧ (uS l ex t lv i).i ≤ l.length := by
  intro t hd;unfold uS at hd ⊢;cases h1:aQ l i t with
  | false =>
    rw[h1] at hd;exact h _ _ hd h0
  | true =>
    rw[h1] at hd;simp only[cond_true] at hd ⊢;cases hx:(ex lv (i+1)).die with
    | true=>rw[hx] at hd;simp only[cond_true] at hd;rw[hx] at hd;cases hd
    | false =>
      obtain⟨a,b⟩:=h _ _ hx (by omega);exact⟨by show i<(ex lv (i+1)).i;omega,b⟩
 unfold AP at hd ⊢;cases c3:decide (lv=3) with
 | true=>rw[c3] at hd;exact un _ hd
 | false =>
 cases c7:decide (lv=7) with
 | true=>rw[c3,c7] at hd;exact un _ hd
 | false =>
 cases c8:decide (lv=8) with
 | true =>
   rw[c3,c7,c8] at hd;simp only[cond_false,cond_true] at hd ⊢;unfold F9 at hd ⊢;cases hx:(ex 9 i).die with
   | true=>rw[hx] at hd;simp only[cond_true] at hd;rw[hx] at hd;cases hd
   | false =>
   obtain⟨a,b⟩:=h _ _ hx h0;rw[hx] at hd;simp only[cond_false] at hd ⊢;cases ho:eT l (ex 9 i).i 8 with
   | false=>exact⟨a,b⟩
   | true =>
   rw[ho] at hd;simp only[cond_true] at hd ⊢;cases hy:(ex 7 ((ex 9 i).i+1)).die with
   | true=>rw[hy] at hd;simp only[cond_true] at hd;rw[hy] at hd;cases hd
   | false =>
     obtain⟨c,d⟩:=h _ _ hy (by omega);exact⟨by show i<(ex 7 ((ex 9 i).i+1)).i;omega,d⟩
 | false =>
 cases c9:decide (lv=9) with
 | true =>
   rw[c3,c7,c8,c9] at hd;simp only[cond_false,cond_true] at hd ⊢;cases hx:(ex 10 i).die with
   | true=>rw[hx] at hd;simp only[cond_true] at hd;rw[hx] at hd;cases hd
   | false =>
   obtain⟨a,b⟩:=h _ _ hx h0;rw[hx] at hd;simp only[cond_false] at hd ⊢;obtain⟨c,d⟩:=UQ h _ _ _ hd (by omega) b;exact⟨by omega,d⟩
 | false =>
 cases c10:decide (lv=10) with
 | true =>
   rw[c3,c7,c8,c9,c10] at hd;exact X9 h i hd h0
 | false =>
   rw[c3,c7,c8,c9,c10] at hd;simp only[cond_false] at hd ⊢;cases hx:(ex (lv+1) i).die with
   | true=>rw[hx] at hd;simp only[cond_true] at hd;rw[hx] at hd;cases hd
   | false =>
   obtain⟨a,b⟩:=h _ _ hx h0;rw[hx] at hd;simp only[cond_false] at hd ⊢;obtain⟨c,d⟩:=UO h _ _ _ _ hd (by omega) b;exact⟨by omega,d⟩
theorem kX:∀ n,mN l (cJ s l n)
 | 0=>fun _ _ hd=>by cases hd
 | n+1=>UU (kX n)
end
section
variable (s:ByteArray) (l:List Tok)
noncomputable abbrev Rv(c:Prop)(q:XR Ex)(ins:Bool)(ns:List ByteArray):Rp:={ c:=c,die:=q.die,e:=q.e,a:=q.a,r:=.p (exV q.v),i:=q.i,ins:=ins,ns:=ns }
def ez(n:Nat)(lv i:Int):Prop:=1<=lv/\lv<=10/\12*((l.length:Int)-i)+11-lv<n
noncomputable def Ow(n:Nat):iS:=fun aN i ins ns=>match aN with | [.p (.c (.int .i64 lv))]=>some (Rv (ez l n lv i) (cJ s l n lv i) ins ns)|_=>none
abbrev HX(n:Nat):Prop:=lZ 26 s l (Ow s l n)
noncomputable def Rx(n:Nat):bX:=(26,gi s l [true,false] (Ow s l n))::(57,gi s l [true,false] (rf s l))::ye s l
noncomputable def diE(n:Nat)(h:HX s l n):List { x:FuncId×gu // f5 Tryz.prog x.1 x.2 }:=⟨(26,j9 s l [true,false] (Ow s l n)),iD (by kernel_rfl) h⟩::⟨(57,j9 s l [true,false] (rf s l)),iD (by kernel_rfl) (lN s l)⟩::CN s l
variable {s l}
theorem Ga{n:Nat}(h:HX s l n):bg Tryz.prog (Rx s l n):=ai (eX (by kernel_rfl) h) (ai (eX (by kernel_rfl) (lN s l)) (lF s l))
variable (s l)
noncomputable def sLs(n:Nat)(h:HX s l n)(b:Bool)(u:Value):aZ:=jg Tryz.prog (Rx s l n) (diE s l n h) Tryz.f84 3 [([0,1,1],[0,1,4])] [] [some .pv] b u
abbrev Ry(acc:List Ex):Ob:=⟨32,[.a 0 .pv (Ex.ah acc)]⟩
theorem Ox(n:Nat)(h:HX s l n)(t:ByteArray)(ins:Bool)(ns:List ByteArray)(R:XR (List Ex)):∀(k:Nat)(acc:List Ex)(i:Int),sG s l (cJ s l n) t k acc i=R->dx l i->(l.length:Int)-i<k->12*((l.length:Int)-i)+10<n->(acc.length:Int)<=i->
 ax (sLs s l n h R.die (aV R.e R.a)) (iI R.die (.p (.c (.rs 4 (Ex.ah R.v)))) (pO s l R.i ins ns)) [0,1,1] (fr [(0,pA),(1,sS t),(4,.p (.c (.sl 3 0 acc.length 4)))]) (.ofList [UL s l i ins ns.length,bH,iY ns,Ry acc])
 | 0,acc,i,e,hi,hk,hn,hc=>by
   obtain⟨h0,h1,h2⟩:=hi;omega
 | k + 1, acc, i, e, hi, hk, hn, hc => by
   refine bD (Ga h) (by kernel_rfl) 100 ?_;apply of_eq (q:=let q1:=(cJ s l n (1:Int) i);let q2:=Ob.mk 65 [Fd.m D.str (D.int .i64) cK];let q3:=(List.drop (0:Nat) (Ex.ah acc));let q4:=(dr l q1.i t);let q5:=(ByteArray.mk #[(44:UInt8)]);(bI s l s (ar l) (q2) ns.length ns i/\ez l n (1:Int) i)/\(q1.die=true->R.die=true/\aV q1.e q1.a=aV R.e R.a)/\(q1.die=false->(bI s l s (ar l) (q2) ns.length ns i/\ez l n (1:Int) i/\q1.die=false)/\((0:Nat)+acc.length*4<=(Ex.ah acc).length/\(acc.length+1)*56<=140737488355328)/\(bI s l s (ar l) (q2) ns.length ns q1.i/\True/\false=false)/\(aQ l q1.i t=true->(0:Nat)+(acc.length+1)*4<=(List.take (acc.length*4) q3++[PV.int q1.v.k,PV.int q1.v.n,PV.str q1.v.t,PV.aH (4:Nat) (Ex.ah q1.v.l)]).length/\R.die=false/\aq [V.c (W.rs (4:Nat) (List.take ((acc.length+1)*4) (List.drop (0:Nat) (List.take (acc.length*4) q3++[PV.int q1.v.k,PV.int q1.v.n,PV.str q1.v.t,PV.aH (4:Nat) (Ex.ah q1.v.l)]))))]=aP (W.rs (4:Nat) (Ex.ah R.v))/\[Ob.mk 72 [Fd.c (W.str s),Fd.c (W.rs (4:Nat) (ar l)),fI q4,Fd.c (W.mp (1:Nat)),Fd.c (W.bool ins),fS 2 0 ns.length],q2,Ob.mk 9 [Fd.a 0 D.str ns]]=pO s l R.i ins ns)/\(aQ l q1.i t=false->(bI s l s (ar l) (q2) ns.length ns q4/\True)/\((!aQ l q4 q5)=true->R.die=true/\aV (11:Int) (cV s l q4)=aV R.e R.a)/\((!aQ l q4 q5)=false->(bI s l s (ar l) (q2) ns.length ns q4/\True/\(!aQ l q4 q5)=false)/\ax (sLs s l n h R.die (aV R.e R.a)) (iI R.die (aP (W.rs (4:Nat) (Ex.ah R.v))) (pO s l R.i ins ns)) [0,1,1] (fr [(0,aR 0 0),(1,aP (W.str t)),(4,aP (W.sl 3 0 (acc.length+1) 4))]) (af.ofList [Ob.mk 72 [Fd.c (W.str s),Fd.c (W.rs (4:Nat) (ar l)),fI (dr l q1.i t+1),Fd.c (W.mp (1:Nat)),Fd.c (W.bool ins),fS 2 0 ns.length],q2,Ob.mk 9 [Fd.a 0 D.str ns],Ob.mk 32 [Fd.a 0 D.pv (List.take (acc.length*4) q3++[PV.int q1.v.k,PV.int q1.v.n,PV.str q1.v.t,PV.aH (4:Nat) (Ex.ah q1.v.l)])]]))))) (by kernel_rfl)
   try simp only[sL]
   have ha:=kX (s:=s) (l:=l) n 1 i;have hx:ez l n 1 i:=⟨by omega,by omega,by omega⟩;have el:List.take (acc.length*4) (Ex.ah acc)=Ex.ah acc:=List.take_of_length_le (by rw[Ex.cI];exact Nat.le_refl _);rw[el];have e2:Ex.ah acc++[PV.int (cJ s l n 1 i).v.k,PV.int (cJ s l n 1 i).v.n,PV.str (cJ s l n 1 i).v.t,PV.aH 4 (Ex.ah (cJ s l n 1 i).v.l)]=Ex.ah (acc++[(cJ s l n 1 i).v]):=by
    rw[Ex.qO,Ex.fA,Ex.bJ]
   rw[e2];have el2:List.take ((acc.length+1)*4) (Ex.ah (acc++[(cJ s l n 1 i).v]))=Ex.ah (acc++[(cJ s l n 1 i).v]):=List.take_of_length_le (by rw[Ex.cI,List.length_append];exact Nat.le_refl _);rw[el2];unfold sG at e;refine⟨⟨pin hi,hx⟩,fun hd=>?_,fun hd=>?_⟩;rw[hd] at e;subst e;exact⟨rfl,rfl⟩;rw[hd] at e;simp only[cond_false] at e;obtain⟨a1,a2⟩:=ha hd hi.1;have hi2:dx l (cJ s l n 1 i).i:=⟨by have:=hi.1;omega,a2,hi.2.2⟩;refine⟨⟨pin hi,hx,hd⟩,⟨by rw[Ex.cI];exact Nat.le_refl _,?_⟩,pin hi2,fun h1=>?_,fun h1=>?_⟩;have:=hi.2;omega;rw[h1] at e;simp only[cond_true] at e;subst e;rw[ja h1];exact⟨by rw[Ex.cI,List.length_append];exact Nat.le_refl _,rfl,rfl,rfl⟩;rw[h1] at e;simp only[cond_false] at e;rw[iZ h1];refine⟨pin hi2,fun h2=>?_,fun h2=>?_⟩;rw[h2] at e;subst e;exact⟨rfl,rfl⟩;rw[h2] at e;have h3:=bW h2;have ih:=Ox n h t ins ns R k (acc++[(cJ s l n 1 i).v]) ((cJ s l n 1 i).i+1) e ⟨by have:=hi2.1;omega,by omega,hi.2.2⟩ (by omega) (by omega) (by simp only[List.length_append,List.length_singleton];omega);rw[List.length_append,List.length_singleton] at ih;exact⟨⟨pin hi2,h2⟩,ih⟩
noncomputable def I4(n:Nat):iS:=fun aN i ins ns=>match aN with
 | [.p (.c (.str t))]=>some { c:=12*((l.length:Int)-i)+10<n,die:=(gF s l (cJ s l n) t i).die,e:=(gF s l (cJ s l n) t i).e,a:=(gF s l (cJ s l n) t i).a,r:=.p (.c (.rs 4 (Ex.ah (gF s l (cJ s l n) t i).v))),i:=(gF s l (cJ s l n) t i).i,ins:=ins,ns:=ns }
 | _=>none
theorem H6(n:Nat)(h:HX s l n):lZ 84 s l (I4 s l n):=by
 intro aN i ins ns p e hi hc;unfold I4 at e;split at e;rename_i t;cases e;have hc:12*((l.length:Int)-i)+10<n:=hc;refine iM (dies:=diE s l n h) (aK:=[([0,1,1],[0,1,4])]) (eu:=[]) (fz:=[some .pv]) (Ga h) Tryz.func84 (by kernel_rfl) 3 (by kernel_rfl) 100 ?_;apply of_eq (q:=let q1:=(gF s l (cJ s l n) t i);let q2:=(12:Int)*((l.length:Int)-i)+10<(n:Int);let q3:=(W.rs (4:Nat) (Ex.ah q1.v));let q4:=(Rp.mk (q2) q1.die q1.e q1.a (aP q3) q1.i ins ns);let q5:=Ob.mk 72 [Fd.c (W.str s),Fd.c (W.rs (4:Nat) (ar l)),fI (dr l i t),Fd.c (W.mp (1:Nat)),Fd.c (W.bool ins),fS 2 0 ns.length];let q6:=Ob.mk 65 [Fd.m D.str (D.int .i64) cK];(bI s l s (ar l) (q6) ns.length ns i/\True/\false=false)/\(aQ l i t=true->(0:Nat)+0*4<=0/\q1.die=false/\aq [V.c (W.rs (4:Nat) (List.take ((0:Nat)*4) (List.drop (0:Nat) [])))]=aP q3/\[q5,q6,Ob.mk 9 [Fd.a 0 D.str ns]]=pO s l q1.i ins ns)/\(aQ l i t=false->ax (jg Tryz.prog (Rx s l n) (diE s l n h) Tryz.f84 (3:Nat) [([0,1,1],[0,1,4])] [] [some D.pv] q4.die (aV q4.e q4.a)) (iI q4.die q4.r (pO s l q4.i q4.ins q4.ns)) [0,1,1] (fr [(0,aR 0 0),(1,aP (W.str t)),(4,aP (W.sl 3 0 0 4))]) (af.ofList [q5,q6,Ob.mk 9 [Fd.a 0 D.str ns],Ob.mk 32 [Fd.a 0 D.pv []]]))) (by kernel_rfl)
 try simp only[sL]
 have hL:∀ b,aQ l i t=b->gF s l (cJ s l n) t i=bif b then gD [] (i+1) else sG s l (cJ s l n) t (l.length+1) [] i:=by rintro b rfl;rfl
 refine⟨pin hi,fun h1=>?_,fun h1=>?_⟩;rw[hL _ h1,ja h1];exact⟨rfl,by simp only[cond_true,gD,Ex.bJ];rfl,rfl⟩;rw[hL _ h1,iZ h1];have:=Ox s l n h t ins ns _ (l.length+1) [] i rfl hi (by have:=hi.1;omega) hc (by exact hi.1);unfold Ry at this;rw[Ex.bJ] at this;exact this;cases e
end
section
variable (s:ByteArray) (l:List Tok)
noncomputable def Lr(n:Nat):bX:=(84,gi s l [true,false] (I4 s l n))::(77,gi s l [true] (uQ s l))::Rx s l n
noncomputable def UW(n:Nat)(h:HX s l n):List { x:FuncId×gu // f5 Tryz.prog x.1 x.2 }:=⟨(84,j9 s l [true,false] (I4 s l n)),iD (by kernel_rfl) (H6 s l n h)⟩::⟨(77,j9 s l [true] (uQ s l)),iD (by kernel_rfl) (pE s l)⟩::diE s l n h
variable {s l}
theorem Oy{n:Nat}(h:HX s l n):bg Tryz.prog (Lr s l n):=ai (eX (by kernel_rfl) (H6 s l n h)) (ai (eX (by kernel_rfl) (pE s l)) (Ga h))
variable (s l)
noncomputable def I5(n:Nat):iS:=fun aN i ins ns=>match aN with
 | []=>some (Rv (12*((l.length:Int)-i)<n) (kW s l (cJ s l n) i) ins ns)
 | _=>none
theorem H7(n:Nat)(h:HX s l n):lZ 58 s l (I5 s l n):=by
 intro aN i ins ns p e hi hc;unfold I5 at e;split at e;cases e;have hc:12*((l.length:Int)-i)<n:=hc;refine iM (dies:=UW s l n h) (aK:=[]) (eu:=[]) (fz:=[]) (Oy h) Tryz.func58 (by kernel_rfl) 3 (by kernel_rfl) 400 ?_;apply of_eq (q:=let q3:=(kW s l (cJ s l n) i);let q7:=Ob.mk 65 [Fd.m D.str (D.int .i64) cK];let aT:=(ByteArray.mk #[(102:UInt8),(97:UInt8),(108:UInt8),(115:UInt8),(101:UInt8)]);let aY:=(ar l);let bt:=(ByteArray.mk #[(40:UInt8)]);let cu:=(ByteArray.mk #[(91:UInt8)]);let cn:=(W.rs (4:Nat) aY);let dD:=(ByteArray.mk #[(116:UInt8),(114:UInt8),(117:UInt8),(101:UInt8)]);let cQ:=Ob.mk 9 [Fd.a 0 D.str ns];let eH:=Fd.c (W.mp (1:Nat));let cN:=(R1.pure (Cd.t.and Cd.t) (aP cn));let d9:=(ByteArray.mk #[(41:UInt8)]);let dH:=Fd.c (W.bool ins);let dN:=fS 2 0 ns.length;let eC:=True/\false=false;let ep:=(ByteArray.mk #[]);let gT:=q3.die=false;let dO:=(exV q3.v);let gJ:=Fd.c (W.str s);let q4:=(dr l i bt);let aI:=(cJ s l n (1:Int) q4);let fX:=(dr l q4 cu);let iR:=(12:Int)*((l.length:Int)-dr l q4 cu)+10<(n:Int);let q6:=(dr l fX dD);let q8:=(gF s l (cJ s l n) (ByteArray.mk #[(93:UInt8)]) fX);let nZ:=decide ((↑(aY.length/4):Int)<=dr l q6 aT);let q1:=(dr l q6 aT);let q2:=(dr l q6 aT+1);let q9:=(gF s l (cJ s l n) d9 (dr l q2 bt));let cF:=[Ob.mk 72 [gJ,Fd.c cn,fI (IntKind.i64.wrap q2),eH,dH,dN],q7,cQ]=pO s l q3.i ins ns;let bw:=(PV.str ep).like (aY.getD (q1.toNat*4+1) (PV.bool false))=true;let cL:=(PV.int (0:Int)).like (aY.getD (q1.toNat*4+1+1+1) (PV.bool false))=true;let cG:=(PV.int (0:Int)).like (aY.getD (q1.toNat*4+1+1) (PV.bool false))=true;let cg:=q1.toNat*4+4<=aY.length;let dG:=(R1.pure (Cd.t.and Cd.t) (nI q1));let eO:=(q1.toNat*4);let mq:=(12:Int)*((l.length:Int)-dr l q2 bt)+10<(n:Int);let cB:=(A.p (V.agg (jD aY eO (shapes ((jg Tryz.prog (Lr s l n) (UW s l n h) Tryz.f58 (3:Nat) [] [] [] q3.die (aV q3.e q3.a)).env (iI q3.die (A.p dO) (pO s l q3.i ins ns))).P (78:Nat))).snd));let bF:=(PV.int (0:Int)).like (aY.getD eO (PV.bool false))=true;let q5:=(R1.pure (Cd.t.and ((Cd.p (cg)).and (jD aY eO (shapes ((jg Tryz.prog (Lr s l n) (UW s l n h) Tryz.f58 (3:Nat) [] [] [] q3.die (aV q3.e q3.a)).env (iI q3.die (A.p dO) (pO s l q3.i ins ns))).P (78:Nat))).fst)) cB).v=(R1.pure (Cd.t.and ((Cd.p (cg)).and (jD aY eO (shapes ((jg Tryz.prog (Lr s l n) (UW s l n h) Tryz.f58 (3:Nat) [] [] [] q3.die (aV q3.e q3.a)).env (iI q3.die (A.p dO) (pO s l q3.i ins ns))).P (78:Nat))).fst)) cB).v;(bI s l s aY (q7) ns.length ns i/\eC)/\(aQ l i bt=true->(bI s l s aY (q7) ns.length ns q4/\ez l n (1:Int) q4)/\(aI.die=true->q3.die=true/\aV aI.e aI.a=aV q3.e q3.a)/\(aI.die=false->(bI s l s aY (q7) ns.length ns q4/\ez l n (1:Int) q4/\aI.die=false)/\(bI s l s aY (q7) ns.length ns aI.i/\True)/\((!aQ l aI.i d9)=true->q3.die=true/\aV (11:Int) (cV s l aI.i)=aV q3.e q3.a)/\((!aQ l aI.i d9)=false->(bI s l s aY (q7) ns.length ns aI.i/\True/\(!aQ l aI.i d9)=false)/\gT/\aq [V.agg [wI aI.v.k,wI aI.v.n,W.str aI.v.t,W.rs (4:Nat) (Ex.ah aI.v.l)]]=A.p dO/\[Ob.mk 72 [gJ,Fd.c cn,fI (aI.i+1),eH,dH,dN],q7,cQ]=pO s l q3.i ins ns)))/\(aQ l i bt=false->(bI s l s aY (q7) ns.length ns q4/\eC)/\(aQ l q4 cu=true->(bI s l s aY (q7) ns.length ns fX/\iR)/\(q8.die=true->q3.die=true/\aV q8.e q8.a=aV q3.e q3.a)/\(q8.die=false->(bI s l s aY (q7) ns.length ns fX/\iR/\q8.die=false)/\gT/\aq [V.agg [wI (5),wI (0),W.str ep,W.rs (4:Nat) (Ex.ah q8.v)]]=A.p dO/\[Ob.mk 72 [gJ,Fd.c cn,fI q8.i,eH,dH,dN],q7,cQ]=pO s l q3.i ins ns))/\(aQ l q4 cu=false->(bI s l s aY (q7) ns.length ns fX/\eC)/\(aQ l fX dD=true->gT/\aq [V.agg [wI (3),wI (1),W.str ep,W.rs (4:Nat) []]]=A.p dO/\[Ob.mk 72 [gJ,Fd.c cn,fI q6,eH,dH,dN],q7,cQ]=pO s l q3.i ins ns)/\(aQ l fX dD=false->(bI s l s aY (q7) ns.length ns q6/\eC)/\(aQ l q6 aT=true->gT/\aq [V.agg [wI (3),wI (0),W.str ep,W.rs (4:Nat) []]]=A.p dO/\[Ob.mk 72 [gJ,Fd.c cn,fI q1,eH,dH,dN],q7,cQ]=pO s l q3.i ins ns)/\(aQ l q6 aT=false->(nZ=true->(bI s l s aY (q7) ns.length ns q1/\True)/\(true=true->q3.die=true/\aV (11:Int) (cV s l q1)=aV q3.e q3.a)/\(true=false->False))/\(nZ=false->((0:Int)<=dr l q6 aT/\q1.toNat*4<aY.length)/\cg/\bF/\bw/\cG/\cL/\cN.v=cN.v/\cN.v=cN.v/\dG.v=dG.v/\dG.v=dG.v/\cg/\bF/\bw/\cG/\cL/\q5/\cg/\bF/\bw/\cG/\cL/\q5/\(decide ((aY.getD eO (PV.bool false)).asInt=3)=true->gT/\aq [V.agg [wI (1),(PV.int (0:Int)).at (aY.getD (q1.toNat*4+1+1) (PV.bool false)),W.str ep,W.rs (4:Nat) []]]=A.p dO/\cF)/\(decide ((aY.getD eO (PV.bool false)).asInt=3)=false->(decide ((aY.getD eO (PV.bool false)).asInt=4)=true->gT/\aq [V.agg [wI (2),wI (0),(PV.str ep).at (aY.getD (q1.toNat*4+1) (PV.bool false)),W.rs (4:Nat) []]]=A.p dO/\cF)/\(decide ((aY.getD eO (PV.bool false)).asInt=4)=false->(bI s l s aY (q7) ns.length ns q1/\True)/\((!fk l q1)=true->q3.die=true/\aV (11:Int) (cV s l q1)=aV q3.e q3.a)/\((!fk l q1)=false->(bI s l s aY (q7) ns.length ns q1/\True/\(!fk l q1)=false)/\(bI s l s aY (q7) ns.length ns q2/\eC)/\(aQ l q2 bt=true->(bI s l s aY (q7) ns.length ns (dr l q2 bt)/\mq)/\(q9.die=true->q3.die=true/\aV q9.e q9.a=aV q3.e q3.a)/\(q9.die=false->(bI s l s aY (q7) ns.length ns (dr l q2 bt)/\mq/\q9.die=false)/\gT/\aq [V.agg [wI (6),wI (0),W.str (aM l q1).text,W.rs (4:Nat) (Ex.ah q9.v)]]=A.p dO/\[Ob.mk 72 [gJ,Fd.c cn,fI q9.i,eH,dH,dN],q7,cQ]=pO s l q3.i ins ns))/\(aQ l q2 bt=false->gT/\aq [V.agg [wI (4),wI (0),W.str (aM l q1).text,W.rs (4:Nat) []]]=A.p dO/\[Ob.mk 72 [gJ,Fd.c cn,fI (dr l q2 bt),eH,dH,dN],q7,cQ]=pO s l q3.i ins ns)))))))))) (by kernel_rfl)
 try simp only[sL]
 generalize hR:kW s l (cJ s l n) i=R;unfold kW at hR;rw[tN];have h0:=hi.1;have h9:=hi.2.2;have up:∀{j:Int},0<=j->j<l.length->dx l (j+1):=fun h h'=>⟨by omega,by omega,h9⟩;refine⟨pin hi,fun h1=>?_,fun h1=>?_⟩;have hlt:=bW h1;rw[h1] at hR;simp only[cond_true] at hR;rw[ja h1];have hx:ez l n 1 (i+1):=⟨by omega,by omega,by omega⟩;refine⟨⟨pin (up h0 hlt),hx⟩,fun hd=>?_,fun hd=>?_⟩;rw[hd] at hR;simp only[cond_true] at hR;subst hR;exact⟨hd,rfl⟩;rw[hd] at hR;simp only[cond_false] at hR;obtain⟨a1,a2⟩:=kX (s:=s) (l:=l) n 1 (i+1) hd (by omega);have hi2:dx l (cJ s l n 1 (i+1)).i:=⟨by omega,a2,h9⟩;refine⟨⟨pin (up h0 hlt),hx,hd⟩,pin hi2,fun h2=>?_,fun h2=>?_⟩;rw[h2] at hR;subst hR;exact⟨rfl,rfl⟩;rw[h2] at hR;subst hR;exact⟨⟨pin hi2,h2⟩,rfl,rfl,rfl⟩;rw[h1] at hR;simp only[cond_false] at hR;rw[iZ h1];refine⟨pin hi,fun h2=>?_,fun h2=>?_⟩;have hlt:=bW h2;rw[h2] at hR;simp only[cond_true] at hR;rw[ja h2];subst hR;exact⟨⟨pin (up h0 hlt),by omega⟩,fun hd=>⟨hd,rfl⟩,fun hd=>⟨⟨pin (up h0 hlt),by omega,hd⟩,hd,rfl,rfl⟩⟩;rw[h2] at hR;simp only[cond_false] at hR;rw[iZ h2];refine⟨pin hi,fun h3=>?_,fun h3=>?_⟩;rw[h3] at hR;rw[ja h3];subst hR;exact⟨rfl,by simp only[cond_true,gD,exV,Ex.l,Ex.bJ];rfl,rfl⟩;rw[h3] at hR;simp only[cond_false] at hR;rw[iZ h3];refine⟨pin hi,fun h4=>?_,fun h4=>?_⟩;rw[h4] at hR;rw[ja h4];subst hR;exact⟨rfl,by simp only[cond_true,gD,exV,Ex.l,Ex.bJ];rfl,rfl⟩;rw[h4] at hR;simp only[cond_false] at hR;rw[iZ h4];refine⟨fun hl=>⟨pin hi,fun _=>?_,fun h=>(by cases h)⟩,fun hl=>?_⟩;rw[decide_eq_true hl] at hR;subst hR;exact⟨rfl,rfl⟩;have e0:(ar l).getD (i.toNat*4) (.bool false)=.int (aM l i).kind:=F7 hi hl;have e2:(ar l).getD (i.toNat*4+1+1) (.bool false)=.int (aM l i).n:=tkg2 hi hl;have e3:(ar l).getD (i.toNat*4+1+1+1) (.bool false)=.int (aM l i).at_:=Ll hi hl
 have g0:=pz hi hl 0 (by omega);have g4:i.toNat*4+4<=(ar l).length:=pz hi hl 3 (by omega);rw[e0,e2,e3,Du hi hl,wrap64 (by omega) (by omega)];rw[decide_eq_false (by omega)] at hR;simp only[cond_false] at hR;refine⟨⟨h0,g0⟩,g4,rfl,rfl,rfl,rfl,g4,rfl,rfl,rfl,rfl,g4,rfl,rfl,rfl,rfl,fun h5=>?_,fun h5=>⟨fun h6=>?_,fun h6=>?_⟩⟩;have h5:(aM l i).kind=3:=h5;rw[decide_eq_true h5] at hR;subst hR;exact⟨rfl,by simp only[cond_true,gD,exV,Ex.l,Ex.bJ];rfl,rfl⟩;have h5:¬(aM l i).kind=3:=h5;have h6:(aM l i).kind=4:=h6;rw[decide_eq_false h5,decide_eq_true h6] at hR;subst hR;exact⟨rfl,by simp only[cond_true,cond_false,gD,exV,Ex.l,Ex.bJ];rfl,rfl⟩;have h5:¬(aM l i).kind=3:=h5;have h6:¬(aM l i).kind=4:=h6;rw[decide_eq_false h5,decide_eq_false h6] at hR;simp only[cond_false] at hR;refine⟨pin hi,fun h7=>?_,fun h7=>?_⟩;rw[h7] at hR;subst hR;exact⟨rfl,rfl⟩;rw[h7] at hR;simp only[cond_true] at hR;refine⟨⟨pin hi,h7⟩,pin (up h0 hl),fun h8=>?_,fun h8=>?_⟩;have hlt:=bW h8;have hc2:12*((l.length:Int)-(i+1+1))+10<n:=by omega
 have u2:=up (j:=i+1) (by omega) hlt;rw[h8] at hR;simp only[cond_true] at hR;rw[ja h8];subst hR;exact⟨⟨pin u2,hc2⟩,fun hd=>⟨hd,rfl⟩,fun hd=>⟨⟨pin u2,hc2,hd⟩,hd,rfl,rfl⟩⟩;rw[h8] at hR;rw[iZ h8];subst hR;exact⟨rfl,by simp only[cond_false,gD,exV,Ex.l,Ex.bJ];rfl,rfl⟩;cases e
end
section
variable (s:ByteArray) (l:List Tok)
noncomputable def Rz(n:Nat):bX:=(58,gi s l [true] (I5 s l n))::(56,gi s l [true,false] (gOp l))::Lr s l n
noncomputable def diG(n:Nat)(h:HX s l n):List { x:FuncId×gu // f5 Tryz.prog x.1 x.2 }:=⟨(58,j9 s l [true] (I5 s l n)),iD (by kernel_rfl) (H7 s l n h)⟩::UW s l n h
variable {s l}
theorem Gb{n:Nat}(h:HX s l n):bg Tryz.prog (Rz s l n):=ai (eX (by kernel_rfl) (H7 s l n h)) (ai (eX (by kernel_rfl) (op_both s l)) (Oy h))
variable (s l)
abbrev RB:List (List Nat×List Nat):=[([0,0,1,0,1,1,1,1,1,0,1,0,1],[0,4,9]),([0,1,1,1],[0,1,4,11])]
noncomputable def sEx(n:Nat)(h:HX s l n)(b:Bool)(u:Value):aZ:=jg Tryz.prog (Rz s l n) (diG s l n h) Tryz.f26 3 RB [] [] b u
abbrev Oz(x:Ex):Ob:=⟨32,[.c (.int .i64 x.k),.c (.int .i64 x.n),.c (.str x.t),.c (.rs 4 (Ex.ah x.l))]⟩
abbrev UX:Ob:=⟨32,[.c (.int .i64 0),.c (.int .i64 0),.c (.str eS),.c (.rs 4 [])]⟩
theorem RD(x:Ex):[PV.int x.k,.int x.n,.str x.t,.aH 4 (Ex.ah x.l)]=Ex.ah [x]:=by rw[Ex.fA,Ex.bJ]
theorem Dv(x y:Ex):[PV.int x.k,.int x.n,.str x.t,.aH 4 (Ex.ah x.l),.int y.k,.int y.n,.str y.t,.aH 4 (Ex.ah y.l)]=Ex.ah [x,y]:=by rw[Ex.fA,Ex.fA,Ex.bJ]
theorem OA(n:Nat)(h:HX s l n)(lv:Int)(hlv:1<=lv/\lv<=6)(ins:Bool)(ns:List ByteArray)(R:XR Ex):∀(k:Nat)(x:Ex)(i:Int),sF s l (cJ s l n) lv k x i=R->dx l i->(l.length:Int)-i<k->12*((l.length:Int)-i)<n->
 ax (sEx s l n h R.die (aV R.e R.a)) (iI R.die (.p (exV R.v)) (pO s l R.i ins ns)) [0,1,1,1] (fr [(0,pA),(1,.p (.c (.int .i64 lv))),(4,.p (.c (.ptr 3 0))),(11,.p (.c (.ptr 4 0)))]) (.ofList [UL s l i ins ns.length,bH,iY ns,UX,Oz x])
 | 0,x,i,e,hi,hk,hn=>by
   obtain⟨h0,h1,h2⟩:=hi;omega
 | k + 1, x, i, e, hi, hk, hn => by
   refine bD (Gb h) (by kernel_rfl) 200 ?_;apply of_eq (q:=let q2:=(IntKind.i64.wrap (lv+1));let q3:=Ob.mk 65 [Fd.m D.str (D.int .i64) cK];let q6:=(4:Nat);let q4:=Ob.mk 72 [Fd.c (W.str s),Fd.c (W.rs q6 (ar l)),fI (cJ s l n q2 (if eT l i lv=true then i+1 else i)).i,Fd.c (W.mp (1:Nat)),Fd.c (W.bool ins),fS 2 0 ns.length];let q5:=(A.p (V.agg (List.take q6 (List.drop (0:Nat) (Oz x).cells))));let q1:=(R1.pure Cd.t q5).v=(R1.pure Cd.t q5).v;(bI s l s (ar l) (q3) ns.length ns i/\True/\false=false)/\((!eT l i lv)=true->R.die=false/\aq [V.agg [wI x.k,wI x.n,W.str x.t,W.rs q6 (Ex.ah x.l)]]=A.p (exV R.v)/\[Ob.mk 72 [Fd.c (W.str s),Fd.c (W.rs q6 (ar l)),fI (if eT l i lv=true then i+1 else i),Fd.c (W.mp (1:Nat)),Fd.c (W.bool ins),fS 2 0 ns.length],q3,Ob.mk 9 [Fd.a 0 D.str ns]]=pO s l R.i ins ns)/\((!eT l i lv)=false->(bI s l s (ar l) (q3) ns.length ns (if eT l i lv=true then i+1 else i)/\ez l n q2 (if eT l i lv=true then i+1 else i))/\(cJ s l n q2 (if eT l i lv=true then i+1 else i)).die=true/\(R.die=true/\aV (cJ s l n q2 (if eT l i lv=true then i+1 else i)).e (cJ s l n q2 (if eT l i lv=true then i+1 else i)).a=aV R.e R.a)/\q1/\q1/\True∨(bI s l s (ar l) (q3) ns.length ns (if eT l i lv=true then i+1 else i)/\ez l n q2 (if eT l i lv=true then i+1 else i)/\(cJ s l n q2 (if eT l i lv=true then i+1 else i)).die=false)/\q1/\q1/\(decide (lv=4)=true->R.die=false/\aq [V.agg [wI (9),wI (0),W.str (if eT l i lv=true then(aM l i).text else eS),W.rs q6 [PV.int x.k,PV.int x.n,PV.str x.t,PV.aH q6 (Ex.ah x.l),PV.int (cJ s l n q2 (if eT l i lv=true then i+1 else i)).v.k,PV.int (cJ s l n q2 (if eT l i lv=true then i+1 else i)).v.n,PV.str (cJ s l n q2 (if eT l i lv=true then i+1 else i)).v.t,PV.aH q6 (Ex.ah (cJ s l n q2 (if eT l i lv=true then i+1 else i)).v.l)]]]=A.p (exV R.v)/\[q4,q3,Ob.mk 9 [Fd.a 0 D.str ns]]=pO s l R.i ins ns)/\(decide (lv=4)=false->ax (sEx s l n h R.die (aV R.e R.a)) (iI R.die (A.p (exV R.v)) (pO s l R.i ins ns)) [0,1,1,1] (fr [(0,aR 0 0),(1,nI lv),(4,aR 3 0),(11,aR 4 0)]) (af.ofList [q4,q3,Ob.mk 9 [Fd.a 0 D.str ns],Ob.mk 32 [fI (0),fI (0),Fd.c (W.str eS),Fd.c (W.rs q6 [])],Ob.mk 32 [fI (9),fI (0),Fd.c (W.str (if eT l i lv=true then(aM l i).text else eS)),Fd.c (W.rs q6 [PV.int x.k,PV.int x.n,PV.str x.t,PV.aH q6 (Ex.ah x.l),PV.int (cJ s l n q2 (if eT l i lv=true then i+1 else i)).v.k,PV.int (cJ s l n q2 (if eT l i lv=true then i+1 else i)).v.n,PV.str (cJ s l n q2 (if eT l i lv=true then i+1 else i)).v.t,PV.aH q6 (Ex.ah (cJ s l n q2 (if eT l i lv=true then i+1 else i)).v.l)])]])))) (by kernel_rfl)
   try simp only[sL]
   rw[Dv];have h0:=hi.1;have h9:=hi.2.2;unfold sF at e;refine⟨pin hi,fun h1=>?_,fun h1=>?_⟩;rw[h1] at e ⊢;subst e;exact⟨rfl,rfl,rfl⟩;have hlt:=op_lt h1;rw[h1] at e;simp only[cond_true] at e;rw[if_pos h1,if_pos h1,wrap64 (by omega) (by omega)];have hi1:dx l (i+1):=⟨by omega,by omega,h9⟩;have hx:ez l n (lv+1) (i+1):=⟨by omega,by omega,by omega⟩;cases hd:(cJ s l n (lv+1) (i+1)).die with
   | true=>rw[hd] at e;simp only[cond_true] at e;subst e;exact .inl ⟨⟨pin hi1,hx⟩,rfl,hd,rfl⟩
   | false =>
   rw[hd] at e;simp only[cond_false] at e;obtain⟨a1,a2⟩:=kX (s:=s) (l:=l) n (lv+1) (i+1) hd (by omega);refine .inr ⟨⟨pin hi1,hx,rfl⟩,fun h4=>?_,fun h4=>?_⟩;rw[decide_eq_true h4] at e;subst e;exact⟨rfl,rfl,rfl⟩;rw[decide_eq_false h4] at e;simp only[cond_false] at e;exact OA n h lv hlv ins ns R k _ _ e ⟨by omega,a2,h9⟩ (by omega) (by omega)
theorem OB(n:Nat)(h:HX s l n)(ins:Bool)(ns:List ByteArray)(R:XR Ex):∀(k:Nat)(x:Ex)(i:Int),uR s l (cJ s l n) k x i=R->dx l i->(l.length:Int)-i<k->12*((l.length:Int)-i)<n->
 ax (sEx s l n h R.die (aV R.e R.a)) (iI R.die (.p (exV R.v)) (pO s l R.i ins ns)) [0,0,1,0,1,1,1,1,1,0,1,0,1] (fr [(0,pA),(4,.p (.c (.ptr 3 0))),(9,.p (.c (.ptr 4 0)))]) (.ofList [UL s l i ins ns.length,bH,iY ns,UX,Oz x])
 | 0,x,i,e,hi,hk,hn=>by
   obtain⟨h0,h1,h2⟩:=hi;omega
 | k + 1, x, i, e, hi, hk, hn => by
   refine bD (Gb h) (by kernel_rfl) 200 ?_;apply of_eq (q:=let q2:=Ob.mk 65 [Fd.m D.str (D.int .i64) cK];let q3:=(ByteArray.mk #[(91:UInt8)]);let q4:=(ByteArray.mk #[(93:UInt8)]);let q1:=(cJ s l n (1:Int) (dr l i q3));(bI s l s (ar l) (q2) ns.length ns i/\True/\false=false)/\(aQ l i q3=true->(bI s l s (ar l) (q2) ns.length ns (dr l i q3)/\ez l n (1:Int) (dr l i q3))/\(q1.die=true->R.die=true/\aV q1.e q1.a=aV R.e R.a)/\(q1.die=false->(bI s l s (ar l) (q2) ns.length ns (dr l i q3)/\ez l n (1:Int) (dr l i q3)/\q1.die=false)/\(bI s l s (ar l) (q2) ns.length ns q1.i/\True)/\((!aQ l q1.i q4)=true->R.die=true/\aV (11:Int) (cV s l q1.i)=aV R.e R.a)/\((!aQ l q1.i q4)=false->(bI s l s (ar l) (q2) ns.length ns q1.i/\True/\(!aQ l q1.i q4)=false)/\ax (sEx s l n h R.die (aV R.e R.a)) (iI R.die (A.p (exV R.v)) (pO s l R.i ins ns)) [0,0,1,0,1,1,1,1,1,0,1,0,1] (fr [(0,aR 0 0),(4,aR 3 0),(9,aR 4 0)]) (af.ofList [Ob.mk 72 [Fd.c (W.str s),Fd.c (W.rs (4:Nat) (ar l)),fI (q1.i+1),Fd.c (W.mp (1:Nat)),Fd.c (W.bool ins),fS 2 0 ns.length],q2,Ob.mk 9 [Fd.a 0 D.str ns],Ob.mk 32 [fI (0),fI (0),Fd.c (W.str eS),Fd.c (W.rs (4:Nat) [])],Ob.mk 32 [fI (7),fI (0),Fd.c (W.str (ByteArray.mk #[])),Fd.c (W.rs (4:Nat) [PV.int x.k,PV.int x.n,PV.str x.t,PV.aH (4:Nat) (Ex.ah x.l),PV.int q1.v.k,PV.int q1.v.n,PV.str q1.v.t,PV.aH (4:Nat) (Ex.ah q1.v.l)])]]))))/\(aQ l i q3=false->R.die=false/\aq [V.agg [wI x.k,wI x.n,W.str x.t,W.rs (4:Nat) (Ex.ah x.l)]]=A.p (exV R.v)/\[Ob.mk 72 [Fd.c (W.str s),Fd.c (W.rs (4:Nat) (ar l)),fI (dr l i q3),Fd.c (W.mp (1:Nat)),Fd.c (W.bool ins),fS 2 0 ns.length],q2,Ob.mk 9 [Fd.a 0 D.str ns]]=pO s l R.i ins ns)) (by kernel_rfl)
   try simp only[sL]
   rw[Dv];have h0:=hi.1;have h9:=hi.2.2;unfold uR at e;refine⟨pin hi,fun h1=>?_,fun h1=>?_⟩;have hlt:=bW h1;rw[h1] at e;simp only[cond_true] at e;rw[ja h1];have hi1:dx l (i+1):=⟨by omega,by omega,h9⟩;have hx:ez l n 1 (i+1):=⟨by omega,by omega,by omega⟩;refine⟨⟨pin hi1,hx⟩,fun hd=>?_,fun hd=>?_⟩;rw[hd] at e;simp only[cond_true] at e;subst e;exact⟨hd,rfl⟩;rw[hd] at e;simp only[cond_false] at e;obtain⟨a1,a2⟩:=kX (s:=s) (l:=l) n 1 (i+1) hd (by omega);have hi2:dx l (cJ s l n 1 (i+1)).i:=⟨by omega,a2,h9⟩;refine⟨⟨pin hi1,hx,hd⟩,pin hi2,fun h2=>?_,fun h2=>?_⟩;rw[h2] at e;subst e;exact⟨rfl,rfl⟩;have h3:=bW h2;rw[h2] at e;simp only[cond_true] at e;exact⟨⟨pin hi2,h2⟩,OB n h ins ns R k _ _ e ⟨by omega,by omega,h9⟩ (by omega) (by omega)⟩;rw[h1] at e;rw[iZ h1];subst e;exact⟨rfl,rfl,rfl⟩
theorem UY(n:Nat)(h:HX s l n):HX s l (n+1):=by
 intro aN i ins ns p e hi hc;unfold Ow at e;split at e;rename_i lv;cases e;have hc:ez l (n+1) lv i:=hc;refine iM (dies:=diG s l n h) (aK:=RB) (eu:=[]) (fz:=[]) (Gb h) Tryz.func26 (by kernel_rfl) 3 (by kernel_rfl) 400 ?_;apply of_eq (q:=let q4:=(ByteArray.mk #[(110:UInt8),(111:UInt8),(116:UInt8)]);let q5:=(cJ s l n (9:Int) i);let q6:=Ob.mk 65 [Fd.m D.str (D.int .i64) cK];let q7:=(cJ s l (n+1) lv i);let q8:=(ByteArray.mk #[(45:UInt8)]);let q9:=(IntKind.i64.wrap (lv+1));let aT:=(Rv (ez l (n+1) lv i) q7 ins ns);let aI:=(7:Int);let aY:=(kW s l (cJ s l n) i);let bt:=(cJ s l n (10:Int) i);let bw:=(3:Int);let cn:=Ob.mk 9 [Fd.a 0 D.str ns];let cG:=(cJ s l n q9 i);let dD:=Fd.c (W.mp (1:Nat));let bF:=(ar l);let cg:=Fd.c (W.bool ins);let eH:=fS 2 0 ns.length;let cN:=(4:Nat);let dG:=Fd.c (W.str s);let d9:=q7.die=true;let q3:=(A.p (V.agg (List.take cN (List.drop (0:Nat) (Ob.mk 32 (fI q5.v.k::fI q5.v.n::Fd.c (W.str q5.v.t)::Fd.c (W.rs cN (Ex.ah q5.v.l))::sO._f [] PUnit.unit (List.append._f [] PUnit.unit []))).cells))));let cu:=Fd.c (W.rs cN bF);let cB:=(cJ s l n q9 (dr l i (eJ (D.int .i64) D.str (bR (D.int .i64) D.str aI q8 (bR (D.int .i64) D.str bw q4 [])) lv))).die=false;let cF:=(cJ s l n lv (dr l i (eJ (D.int .i64) D.str (bR (D.int .i64) D.str aI q8 (bR (D.int .i64) D.str bw q4 [])) lv))).die=false;let cL:=(R1.pure Cd.t q3).v=(R1.pure Cd.t q3).v;let cQ:=Ob.mk 32 [fI (0),fI (0),Fd.c (W.str (ByteArray.mk #[])),Fd.c (W.rs cN [])];let q1:=((cJ s l n q9 (dr l i (eJ (D.int .i64) D.str (bR (D.int .i64) D.str aI q8 (bR (D.int .i64) D.str bw q4 [])) lv))).die=true->d9/\aV (cJ s l n q9 (dr l i (eJ (D.int .i64) D.str (bR (D.int .i64) D.str aI q8 (bR (D.int .i64) D.str bw q4 [])) lv))).e (cJ s l n q9 (dr l i (eJ (D.int .i64) D.str (bR (D.int .i64) D.str aI q8 (bR (D.int .i64) D.str bw q4 [])) lv))).a=aV q7.e q7.a)/\(cB->(bI s l s bF (q6) ns.length ns (dr l i (eJ (D.int .i64) D.str (bR (D.int .i64) D.str aI q8 (bR (D.int .i64) D.str bw q4 [])) lv))/\ez l n q9 (dr l i (eJ (D.int .i64) D.str (bR (D.int .i64) D.str aI q8 (bR (D.int .i64) D.str bw q4 [])) lv))/\cB)/\q7.die=false/\aq [V.agg [wI (cJ s l n q9 (dr l i (eJ (D.int .i64) D.str (bR (D.int .i64) D.str aI q8 (bR (D.int .i64) D.str bw q4 [])) lv))).v.k,wI (cJ s l n q9 (dr l i (eJ (D.int .i64) D.str (bR (D.int .i64) D.str aI q8 (bR (D.int .i64) D.str bw q4 [])) lv))).v.n,W.str (cJ s l n q9 (dr l i (eJ (D.int .i64) D.str (bR (D.int .i64) D.str aI q8 (bR (D.int .i64) D.str bw q4 [])) lv))).v.t,W.rs cN (Ex.ah (cJ s l n q9 (dr l i (eJ (D.int .i64) D.str (bR (D.int .i64) D.str aI q8 (bR (D.int .i64) D.str bw q4 [])) lv))).v.l)]]=A.p (exV q7.v)/\[Ob.mk 72 [dG,cu,fI (cJ s l n q9 (dr l i (eJ (D.int .i64) D.str (bR (D.int .i64) D.str aI q8 (bR (D.int .i64) D.str bw q4 [])) lv))).i,dD,cg,eH],q6,cn]=pO s l q7.i ins ns);let q2:=(aQ l i (eJ (D.int .i64) D.str (bR (D.int .i64) D.str aI q8 (bR (D.int .i64) D.str bw q4 [])) lv)=true->(bI s l s bF (q6) ns.length ns (dr l i (eJ (D.int .i64) D.str (bR (D.int .i64) D.str aI q8 (bR (D.int .i64) D.str bw q4 [])) lv))/\ez l n lv (dr l i (eJ (D.int .i64) D.str (bR (D.int .i64) D.str aI q8 (bR (D.int .i64) D.str bw q4 [])) lv)))/\((cJ s l n lv (dr l i (eJ (D.int .i64) D.str (bR (D.int .i64) D.str aI q8 (bR (D.int .i64) D.str bw q4 [])) lv))).die=true->d9/\aV (cJ s l n lv (dr l i (eJ (D.int .i64) D.str (bR (D.int .i64) D.str aI q8 (bR (D.int .i64) D.str bw q4 [])) lv))).e (cJ s l n lv (dr l i (eJ (D.int .i64) D.str (bR (D.int .i64) D.str aI q8 (bR (D.int .i64) D.str bw q4 [])) lv))).a=aV q7.e q7.a)/\(cF->(bI s l s bF (q6) ns.length ns (dr l i (eJ (D.int .i64) D.str (bR (D.int .i64) D.str aI q8 (bR (D.int .i64) D.str bw q4 [])) lv))/\ez l n lv (dr l i (eJ (D.int .i64) D.str (bR (D.int .i64) D.str aI q8 (bR (D.int .i64) D.str bw q4 [])) lv))/\cF)/\q7.die=false/\aq [V.agg [wI (8),wI (0),W.str (eJ (D.int .i64) D.str (bR (D.int .i64) D.str aI q8 (bR (D.int .i64) D.str bw q4 [])) lv),W.rs cN [PV.int (cJ s l n lv (dr l i (eJ (D.int .i64) D.str (bR (D.int .i64) D.str aI q8 (bR (D.int .i64) D.str bw q4 [])) lv))).v.k,PV.int (cJ s l n lv (dr l i (eJ (D.int .i64) D.str (bR (D.int .i64) D.str aI q8 (bR (D.int .i64) D.str bw q4 [])) lv))).v.n,PV.str (cJ s l n lv (dr l i (eJ (D.int .i64) D.str (bR (D.int .i64) D.str aI q8 (bR (D.int .i64) D.str bw q4 [])) lv))).v.t,PV.aH cN (Ex.ah (cJ s l n lv (dr l i (eJ (D.int .i64) D.str (bR (D.int .i64) D.str aI q8 (bR (D.int .i64) D.str bw q4 [])) lv))).v.l)]]]=A.p (exV q7.v)/\[Ob.mk 72 [dG,cu,fI (cJ s l n lv (dr l i (eJ (D.int .i64) D.str (bR (D.int .i64) D.str aI q8 (bR (D.int .i64) D.str bw q4 [])) lv))).i,dD,cg,eH],q6,cn]=pO s l q7.i ins ns))/\(aQ l i (eJ (D.int .i64) D.str (bR (D.int .i64) D.str aI q8 (bR (D.int .i64) D.str bw q4 [])) lv)=false->(bI s l s bF (q6) ns.length ns (dr l i (eJ (D.int .i64) D.str (bR (D.int .i64) D.str aI q8 (bR (D.int .i64) D.str bw q4 [])) lv))/\ez l n q9 (dr l i (eJ (D.int .i64) D.str (bR (D.int .i64) D.str aI q8 (bR (D.int .i64) D.str bw q4 [])) lv)))/\q1);(decide (lv=3)=true->(bI s l s bF (q6) ns.length ns i/\True/\false=false)/\q2)/\(decide (lv=3)=false->(decide (lv=7)=true->(bI s l s bF (q6) ns.length ns i/\True/\false=false)/\q2)/\(decide (lv=7)=false->(decide (lv=8)=true->(bI s l s bF (q6) ns.length ns i/\ez l n (9:Int) i)/\(q5.die=true->d9/\aV q5.e q5.a=aV q7.e q7.a)/\(q5.die=false->(bI s l s bF (q6) ns.length ns i/\ez l n (9:Int) i/\q5.die=false)/\(bI s l s bF (q6) ns.length ns q5.i/\True/\false=false)/\(eT l q5.i lv=true->(bI s l s bF (q6) ns.length ns (if eT l q5.i lv=true then q5.i+1 else q5.i)/\ez l n aI (if eT l q5.i lv=true then q5.i+1 else q5.i))/\(cJ s l n aI (if eT l q5.i lv=true then q5.i+1 else q5.i)).die=true/\(d9/\aV (cJ s l n aI (if eT l q5.i lv=true then q5.i+1 else q5.i)).e (cJ s l n aI (if eT l q5.i lv=true then q5.i+1 else q5.i)).a=aV q7.e q7.a)/\cL/\cL/\True∨(bI s l s bF (q6) ns.length ns (if eT l q5.i lv=true then q5.i+1 else q5.i)/\ez l n aI (if eT l q5.i lv=true then q5.i+1 else q5.i)/\(cJ s l n aI (if eT l q5.i lv=true then q5.i+1 else q5.i)).die=false)/\cL/\cL/\q7.die=false/\aq [V.agg [wI (9),wI (0),W.str (if eT l q5.i lv=true then(aM l q5.i).text else eS),W.rs cN [PV.int q5.v.k,PV.int q5.v.n,PV.str q5.v.t,PV.aH cN (Ex.ah q5.v.l),PV.int (cJ s l n aI (if eT l q5.i lv=true then q5.i+1 else q5.i)).v.k,PV.int (cJ s l n aI (if eT l q5.i lv=true then q5.i+1 else q5.i)).v.n,PV.str (cJ s l n aI (if eT l q5.i lv=true then q5.i+1 else q5.i)).v.t,PV.aH cN (Ex.ah (cJ s l n aI (if eT l q5.i lv=true then q5.i+1 else q5.i)).v.l)]]]=A.p (exV q7.v)/\[Ob.mk 72 [dG,cu,fI (cJ s l n aI (if eT l q5.i lv=true then q5.i+1 else q5.i)).i,dD,cg,eH],q6,cn]=pO s l q7.i ins ns)/\(eT l q5.i lv=false->q7.die=false/\aq [V.agg [wI q5.v.k,wI q5.v.n,W.str q5.v.t,W.rs cN (Ex.ah q5.v.l)]]=A.p (exV q7.v)/\[Ob.mk 72 [dG,cu,fI (if eT l q5.i lv=true then q5.i+1 else q5.i),dD,cg,eH],q6,cn]=pO s l q7.i ins ns)))/\(decide (lv=8)=false->(decide (lv=9)=true->(bI s l s bF (q6) ns.length ns i/\ez l n (10:Int) i)/\(bt.die=true->d9/\aV bt.e bt.a=aV q7.e q7.a)/\(bt.die=false->(bI s l s bF (q6) ns.length ns i/\ez l n (10:Int) i/\bt.die=false)/\ax (jg Tryz.prog (Rz s l n) (diG s l n h) Tryz.f26 (3:Nat) RB [] [] aT.die (aV aT.e aT.a)) (iI aT.die aT.r (pO s l aT.i aT.ins aT.ns)) [0,0,1,0,1,1,1,1,1,0,1,0,1] (fr [(0,aR 0 0),(4,aR 3 0),(9,aR 4 0)]) (af.ofList [Ob.mk 72 [dG,cu,fI bt.i,dD,cg,eH],q6,cn,cQ,Ob.mk 32 [fI bt.v.k,fI bt.v.n,Fd.c (W.str bt.v.t),Fd.c (W.rs cN (Ex.ah bt.v.l))]])))/\(decide (lv=9)=false->(decide (lv=10)=true->(bI s l s bF (q6) ns.length ns i/\(12:Int)*((l.length:Int)-i)<(n:Int))/\(aY.die=true->d9/\aV aY.e aY.a=aV q7.e q7.a)/\(aY.die=false->(bI s l s bF (q6) ns.length ns i/\(12:Int)*((l.length:Int)-i)<(n:Int)/\aY.die=false)/\q7.die=false/\aq [V.agg [wI aY.v.k,wI aY.v.n,W.str aY.v.t,W.rs cN (Ex.ah aY.v.l)]]=A.p (exV q7.v)/\[Ob.mk 72 [dG,cu,fI aY.i,dD,cg,eH],q6,cn]=pO s l q7.i ins ns))/\(decide (lv=10)=false->(bI s l s bF (q6) ns.length ns i/\ez l n q9 i)/\(cG.die=true->d9/\aV cG.e cG.a=aV q7.e q7.a)/\(cG.die=false->(bI s l s bF (q6) ns.length ns i/\ez l n q9 i/\cG.die=false)/\ax (jg Tryz.prog (Rz s l n) (diG s l n h) Tryz.f26 (3:Nat) RB [] [] aT.die (aV aT.e aT.a)) (iI aT.die aT.r (pO s l aT.i aT.ins aT.ns)) [0,1,1,1] (fr [(0,aR 0 0),(1,nI lv),(4,aR 3 0),(11,aR 4 0)]) (af.ofList [Ob.mk 72 [dG,cu,fI cG.i,dD,cg,eH],q6,cn,cQ,Ob.mk 32 [fI cG.v.k,fI cG.v.n,Fd.c (W.str cG.v.t),Fd.c (W.rs cN (Ex.ah cG.v.l))]])))))))) (by kernel_rfl)
 try simp only[sL]
 generalize hR:cJ s l (n+1) lv i=R;have hR:AP s l (cJ s l n) lv i=R:=hR;generalize hT:eJ (D.int .i64) D.str (bR (D.int .i64) D.str (7:Int) (⟨#[45]⟩:ByteArray) (bR (D.int .i64) D.str (3:Int) (⟨#[110,111,116]⟩:ByteArray) [])) lv=T;have h0:=hi.1;have h9:=hi.2.2;obtain⟨l1,l2,l3⟩:=hc;have hT3:lv=3->T=AK:=by rintro rfl;rw[<-hT];rfl
 have hT7:lv=7->T=vK:=by rintro rfl;rw[<-hT];rfl
 clear hT;rw[wrap64 (n:=lv+1) (by omega) (by omega),RD];have hx1:lv+1<=10->ez l n (lv+1) i:=fun h=>⟨by omega,h,by omega⟩;refine⟨fun h3=>?_,fun h3=>⟨fun h7=>?_,fun h7=>?_⟩⟩;unfold AP at hR;rw[decide_eq_true h3] at hR;simp only[cond_true] at hR;rw[<-hT3 h3] at hR;unfold uS at hR;refine⟨pin hi,fun h1=>?_,fun h1=>?_⟩;have hlt:=bW h1;rw[h1] at hR;simp only[cond_true] at hR;rw[ja h1];have hi1:dx l (i+1):=⟨by omega,by omega,h9⟩;have hx:ez l n lv (i+1):=⟨l1,l2,by omega⟩;refine⟨⟨pin hi1,hx⟩,fun hd=>?_,fun hd=>?_⟩;rw[hd] at hR;simp only[cond_true] at hR;subst hR;exact⟨hd,rfl⟩;rw[hd] at hR;simp only[cond_false] at hR;subst hR;exact⟨⟨pin hi1,hx,hd⟩,rfl,rfl,rfl⟩;rw[h1] at hR;simp only[cond_false] at hR;rw[iZ h1];subst hR;exact⟨⟨pin hi,hx1 (by omega)⟩,fun hd=>⟨hd,rfl⟩,fun hd=>⟨⟨pin hi,hx1 (by omega),hd⟩,hd,rfl,rfl⟩⟩;unfold AP at hR;rw[decide_eq_false h3,decide_eq_true h7] at hR;simp only[cond_true,cond_false] at hR;rw[<-hT7 h7] at hR;unfold uS at hR;refine⟨pin hi,fun h1=>?_,fun h1=>?_⟩;have hlt:=bW h1;rw[h1] at hR;simp only[cond_true] at hR;rw[ja h1];have hi1:dx l (i+1):=⟨by omega,by omega,h9⟩;have hx:ez l n lv (i+1):=⟨l1,l2,by omega⟩;refine⟨⟨pin hi1,hx⟩,fun hd=>?_,fun hd=>?_⟩;rw[hd] at hR;simp only[cond_true] at hR;subst hR;exact⟨hd,rfl⟩;rw[hd] at hR;simp only[cond_false] at hR;subst hR;exact⟨⟨pin hi1,hx,hd⟩,rfl,rfl,rfl⟩;rw[h1] at hR;simp only[cond_false] at hR;rw[iZ h1];subst hR;exact⟨⟨pin hi,hx1 (by omega)⟩,fun hd=>⟨hd,rfl⟩,fun hd=>⟨⟨pin hi,hx1 (by omega),hd⟩,hd,rfl,rfl⟩⟩;unfold AP at hR;rw[decide_eq_false h3,decide_eq_false h7] at hR;simp only[cond_false] at hR;refine⟨fun h8=>?_,fun h8=>⟨fun hn9=>?_,fun hn9=>⟨fun Ya=>?_,fun Ya=>?_⟩⟩⟩;rw[decide_eq_true h8] at hR;simp only[cond_true] at hR;unfold F9 at hR;have hx:ez l n 9 i:=⟨by omega,by omega,by omega⟩;refine⟨⟨pin hi,hx⟩,fun hd=>?_,fun hd=>?_⟩;rw[hd] at hR;simp only[cond_true] at hR;subst hR;exact⟨hd,rfl⟩;rw[hd] at hR;simp only[cond_false] at hR;obtain⟨a1,a2⟩:=kX (s:=s) (l:=l) n 9 i hd h0;have hi2:dx l (cJ s l n 9 i).i:=⟨by omega,a2,h9⟩;rw[<-h8] at hR;refine⟨⟨pin hi,hx,hd⟩,pin hi2,fun ho=>?_,fun ho=>?_⟩
 . have hlt:=op_lt ho;rw[ho] at hR;simp only[cond_true] at hR;rw[if_pos ho,if_pos ho,Dv];have hi3:dx l ((cJ s l n 9 i).i+1):=⟨by omega,by omega,h9⟩;have hx7:ez l n 7 ((cJ s l n 9 i).i+1):=⟨by omega,by omega,by omega⟩;cases hd7:(cJ s l n 7 ((cJ s l n 9 i).i+1)).die with
   | true=>rw[hd7] at hR;simp only[cond_true] at hR;subst hR;exact .inl ⟨⟨pin hi3,hx7⟩,rfl,hd7,rfl⟩
   | false=>rw[hd7] at hR;simp only[cond_false] at hR;subst hR;exact .inr ⟨⟨pin hi3,hx7,rfl⟩,rfl,rfl,rfl⟩
 rw[ho] at hR;simp only[cond_false] at hR;subst hR;rw[if_neg (by rw[ho];simp)];exact⟨rfl,rfl,rfl⟩;rw[decide_eq_false h8,decide_eq_true hn9] at hR;simp only[cond_true,cond_false] at hR;have hx:ez l n 10 i:=⟨by omega,by omega,by omega⟩;refine⟨⟨pin hi,hx⟩,fun hd=>?_,fun hd=>?_⟩;rw[hd] at hR;simp only[cond_true] at hR;subst hR;exact⟨hd,rfl⟩;rw[hd] at hR;simp only[cond_false] at hR;obtain⟨a1,a2⟩:=kX (s:=s) (l:=l) n 10 i hd h0;exact⟨⟨pin hi,hx,hd⟩,OB s l n h ins ns R _ _ _ hR ⟨by omega,a2,h9⟩ (by omega) (by omega)⟩;rw[decide_eq_false h8,decide_eq_false hn9,decide_eq_true Ya] at hR;simp only[cond_true,cond_false] at hR;have hc:12*((l.length:Int)-i)<n:=by omega
 subst hR;exact⟨⟨pin hi,hc⟩,fun hd=>⟨hd,rfl⟩,fun hd=>⟨⟨pin hi,hc,hd⟩,hd,rfl,rfl⟩⟩;rw[decide_eq_false h8,decide_eq_false hn9,decide_eq_false Ya] at hR;simp only[cond_false] at hR;have hx:=hx1 (by omega);refine⟨⟨pin hi,hx⟩,fun hd=>?_,fun hd=>?_⟩;rw[hd] at hR;simp only[cond_true] at hR;subst hR;exact⟨hd,rfl⟩;rw[hd] at hR;simp only[cond_false] at hR;obtain⟨a1,a2⟩:=kX (s:=s) (l:=l) n (lv+1) i hd h0;exact⟨⟨pin hi,hx,hd⟩,OA s l n h lv ⟨l1,by omega⟩ ins ns R _ _ _ hR ⟨by omega,a2,h9⟩ (by omega) (by omega)⟩;cases e
theorem UZ:HX s l 0:=by
 intro aN i ins ns p e hi hc;unfold Ow at e;split at e;rename_i lv;cases e;have hc:ez l 0 lv i:=hc;obtain⟨_,h2,h3⟩:=hc;have:=hi.2.1;omega;cases e
theorem rP:∀ n,HX s l n
 | 0=>UZ s l
 | n+1=>UY s l n (rP n)
end
inductive St where
 | mk (k line:Int) (name:ByteArray) (params:List ByteArray) (e:Ex) (body els:List St)
def St.k:St->Int | .mk k _ _ _ _ _ _=>k
def St.line:St->Int | .mk _ n _ _ _ _ _=>n
def St.name:St->ByteArray | .mk _ _ t _ _ _ _=>t
def St.params:St->List ByteArray | .mk _ _ _ p _ _ _=>p
def St.e:St->Ex | .mk _ _ _ _ e _ _=>e
def St.body:St->List St | .mk _ _ _ _ _ b _=>b
def St.els:St->List St | .mk _ _ _ _ _ _ c=>c
mutual
def St.oB:St->List PV
 | .mk k n t p e b c=>[.int k,.int n,.str t,.strs p,.int e.k,.int e.n,.str e.t,.aH 4 (Ex.ah e.l),.aH 10 (St.ah b),.aH 10 (St.ah c)]
def St.ah:List St->List PV
 | []=>[]
 | e::l=>e.oB++St.ah l
end
theorem St.bJ:St.ah []=[]:=by rw[St.ah]
theorem St.fA(x:St)(l:List St):St.ah (x::l)=[.int x.k,.int x.line,.str x.name,.strs x.params,.int x.e.k,.int x.e.n,.str x.e.t,.aH 4 (Ex.ah x.e.l),.aH 10 (St.ah x.body),.aH 10 (St.ah x.els)]++St.ah l:=by
 cases x;rw[St.ah,St.oB];rfl
theorem St.qO(l m:List St):St.ah (l++m)=St.ah l++St.ah m:=by
 induction l with
 | nil=>rw[St.bJ];rfl
 | cons e l ih=>rw[List.cons_append,St.fA,St.fA,ih,List.append_assoc]
theorem St.cI(l:List St):(St.ah l).length=l.length*10:=by
 induction l with
 | nil=>rw[St.bJ];rfl
 | cons e l ih=>rw[St.fA];simp only[List.length_append,List.length_cons,List.length_nil,ih];omega
abbrev AQ:ByteArray:=⟨#[112,114,105,110,116]⟩
abbrev H8:ByteArray:=⟨#[105,102]⟩
abbrev AR:ByteArray:=⟨#[101,108,115,101]⟩
abbrev AU:ByteArray:=⟨#[119,104,105,108,101]⟩
abbrev AV:ByteArray:=⟨#[102,111,114]⟩
abbrev CO:ByteArray:=⟨#[105,110]⟩
abbrev yg:ByteArray:=⟨#[114,101,116,117,114,110]⟩
abbrev Dw:ByteArray:=⟨#[100,101,102]⟩
abbrev pG:ByteArray:=⟨#[61]⟩
abbrev ou:ByteArray:=⟨#[59]⟩
abbrev AW:ByteArray:=⟨#[123]⟩
abbrev Lu:ByteArray:=⟨#[125]⟩
def qd(x:ByteArray):Int:=(Lib.countByte x.data.toList 10:Nat)
def pX:St:=.mk 0 0 eS [] gI [] []
def XR.to{α β:Type}(r:XR α)(v:β):XR β:=⟨true,r.e,r.a,v,r.i⟩
section
variable (s:ByteArray) (l:List Tok)
noncomputable def EX:jG:=cJ s l (12*l.length+12)
noncomputable def fD(i:Int):XR Ex :=
 bif (EX s l 1 i).die then EX s l 1 i else bif aQ l (EX s l 1 i).i ou then gD (EX s l 1 i).v ((EX s l 1 i).i+1) else jB s l gI (EX s l 1 i).i
def f9(i:Int):Int:=1+qd (s.extract 0 (cV s l i).toNat)
abbrev mS:=Int->XR (List St)
noncomputable def wP(k line:Int)(q:XR Ex):XR St:=bif q.die then q.to pX else gD (.mk k line eS [] q.v [] []) q.i
noncomputable def wQ(bl:mS)(line:Int)(r:XR Ex):XR St :=
 bif r.die then r.to pX else
 bif (bl r.i).die then(bl r.i).to pX else
 bif aQ l (bl r.i).i AR then
  (bif (bl ((bl r.i).i+1)).die then(bl ((bl r.i).i+1)).to pX else gD (.mk 3 line eS [] r.v (bl r.i).v (bl ((bl r.i).i+1)).v) (bl ((bl r.i).i+1)).i)
 else gD (.mk 3 line eS [] r.v (bl r.i).v []) (bl r.i).i
noncomputable def tO(bl:mS)(k line:Int)(name:ByteArray)(r:XR Ex):XR St :=
 bif r.die then r.to pX else
 bif (bl r.i).die then(bl r.i).to pX else gD (.mk k line name [] r.v (bl r.i).v []) (bl r.i).i
noncomputable def sj(line:Int)(name:ByteArray)(q:XR Ex):XR St:=bif q.die then q.to pX else gD (.mk 1 line name [] q.v [] []) q.i
noncomputable def nu(bl:mS)(ins:Bool)(i:Int):XR St :=
 bif aQ l i AQ then wP 2 (f9 s l i) (fD s l (i+1))
 else bif aQ l i H8 then wQ l bl (f9 s l i) (EX s l 1 (i+1))
 else bif aQ l i AU then tO bl 4 (f9 s l i) eS (EX s l 1 (i+1))
 else bif aQ l i AV then
  (bif fk l (i+1) then(bif aQ l (i+1+1) CO then tO bl 5 (f9 s l i) (aM l (i+1)).text (EX s l 1 (i+1+1+1)) else jB s l pX (i+1+1)) else jB s l pX (i+1))
 else bif ins&&aQ l i yg then wP 6 (f9 s l i) (fD s l (i+1))
 else bif fk l i then(bif aQ l (i+1) pG then sj (f9 s l i) (aM l i).text (fD s l (i+1+1)) else jB s l pX (i+1))
 else jB s l pX i
noncomputable def uT(st:Int->XR St):Nat->List St->Int->XR (List St)
 | 0,acc,i=>jB s l acc i
 | k+1,acc,i=>bif aQ l i Lu then gD acc (i+1) else bif (st i).die then(st i).to acc else uT st k (acc++[(st i).v]) (st i).i
noncomputable def EL(st:Int->XR St)(i:Int):XR (List St):=bif aQ l i AW then uT s l st (l.length+1) [] (i+1) else jB s l [] i
noncomputable def jh(ins:Bool):Nat->mS
 | 0=>fun i=>jB s l [] i
 | n+1=>EL s l (nu s l (jh ins n) ins)
def vL(bl:mS):Prop:=∀ i,(bl i).die=false->0<=i->i<(bl i).i/\(bl i).i<=l.length
def Gc(st:Int->XR St):Prop:=∀ i,(st i).die=false->0<=i->i<(st i).i/\(st i).i<=l.length/\(st i).v.params=[]
variable {s l}
theorem tP:mN l (EX s l):=kX _
theorem yh(i:Int)(hd:(fD s l i).die=false)(h0:0<=i):i<(fD s l i).i/\(fD s l i).i<=l.length:=by
 unfold fD at hd ⊢;cases hx:(EX s l 1 i).die with
 | true=>rw[hx] at hd;simp only[cond_true] at hd;rw[hx] at hd;cases hd
 | false =>
 obtain⟨a,b⟩:=tP (s:=s) _ _ hx h0;rw[hx] at hd;simp only[cond_false] at hd ⊢;cases h1:aQ l (EX s l 1 i).i ou with
 | false=>rw[h1] at hd;cases hd
 | true =>
   have:=bW h1;exact⟨by show i<(EX s l 1 i).i+1;omega,by show (EX s l 1 i).i+1<=_;omega⟩
theorem U0{k line:Int}{q:XR Ex}{j:Int}(hq:q.die=false->j<q.i/\q.i<=l.length)(hd:(wP k line q).die=false):j<(wP k line q).i/\(wP k line q).i<=l.length/\(wP k line q).v.params=[]:=by
 unfold wP at hd ⊢;cases hx:q.die with
 | true=>rw[hx] at hd;cases hd
 | false=>obtain⟨a,b⟩:=hq hx;exact⟨a,b,rfl⟩
theorem set_adv{line:Int}{t:ByteArray}{q:XR Ex}{j:Int}(hq:q.die=false->j<q.i/\q.i<=l.length)(hd:(sj line t q).die=false):j<(sj line t q).i/\(sj line t q).i<=l.length/\(sj line t q).v.params=[]:=by
 unfold sj at hd ⊢;cases hx:q.die with
 | true=>rw[hx] at hd;cases hd
 | false=>obtain⟨a,b⟩:=hq hx;exact⟨a,b,rfl⟩
theorem U1{bl:mS}(h:vL l bl){k line:Int}{t:ByteArray}{q:XR Ex}{j:Int}(hj:0<=j)(hq:q.die=false->j<q.i/\q.i<=l.length)(hd:(tO bl k line t q).die=false):j<(tO bl k line t q).i/\(tO bl k line t q).i<=l.length/\(tO bl k line t q).v.params=[]:=by
 unfold tO at hd ⊢;cases hx:q.die with
 | true=>rw[hx] at hd;cases hd
 | false =>
 obtain⟨a,b⟩:=hq hx;rw[hx] at hd;simp only[cond_false] at hd ⊢;cases hy:(bl q.i).die with
 | true=>rw[hy] at hd;cases hd
 | false =>
   obtain⟨c,d⟩:=h _ hy (by omega);exact⟨by show j<(bl q.i).i;omega,d,rfl⟩
theorem if_adv{bl:mS}(h:vL l bl){line:Int}{q:XR Ex}{j:Int}(hj:0<=j)(hq:q.die=false->j<q.i/\q.i<=l.length)(hd:(wQ l bl line q).die=false):j<(wQ l bl line q).i/\(wQ l bl line q).i<=l.length/\(wQ l bl line q).v.params=[]:=by
 unfold wQ at hd ⊢;cases hx:q.die with
 | true=>rw[hx] at hd;cases hd
 | false =>
 obtain⟨a,b⟩:=hq hx;rw[hx] at hd;simp only[cond_false] at hd ⊢;cases hy:(bl q.i).die with
 | true=>rw[hy] at hd;cases hd
 | false =>
 obtain⟨c,d⟩:=h _ hy (by omega);rw[hy] at hd;simp only[cond_false] at hd ⊢;cases he:aQ l (bl q.i).i AR with
 | false=>exact⟨by show j<(bl q.i).i;omega,d,rfl⟩
 | true =>
 rw[he] at hd;simp only[cond_true] at hd ⊢;cases hz:(bl ((bl q.i).i+1)).die with
 | true=>rw[hz] at hd;cases hd
 | false =>
   obtain⟨c2,d2⟩:=h _ hz (by omega);exact⟨by show j<(bl ((bl q.i).i+1)).i;omega,d2,rfl⟩
theorem tQ{bl:mS}(h:vL l bl)(ins:Bool):Gc l (nu s l bl ins):=by
 intro i hd h0;have lt:∀{j:Int}{x:XR St},i<=j->(j<x.i/\x.i<=l.length/\x.v.params=[])->i<x.i/\x.i<=l.length/\x.v.params=[]:=fun hj h=>⟨by omega,h.2.1,h.2.2⟩;unfold nu at hd ⊢;cases h1:aQ l i AQ with
 | true=>rw[h1] at hd;exact lt (j:=i+1) (by omega) (U0 (fun hq=>yh _ hq (by omega)) hd)
 | false =>
 cases h2:aQ l i H8 with
 | true=>rw[h1,h2] at hd;exact lt (j:=i+1) (by omega) (if_adv h (by omega) (fun hq=>tP _ _ hq (by omega)) hd)
 | false =>
 cases h3:aQ l i AU with
 | true=>rw[h1,h2,h3] at hd;exact lt (j:=i+1) (by omega) (U1 h (by omega) (fun hq=>tP _ _ hq (by omega)) hd)
 | false =>
 cases h4:aQ l i AV with
 | true =>
   rw[h1,h2,h3,h4] at hd;simp only[cond_true,cond_false] at hd ⊢;cases h5:fk l (i+1) with
   | false=>rw[h5] at hd;cases hd
   | true =>
   cases h6:aQ l (i+1+1) CO with
   | false=>rw[h5,h6] at hd;cases hd
   | true =>
     rw[h5,h6] at hd;exact lt (j:=i+1+1+1) (by omega) (U1 h (by omega) (fun hq=>tP _ _ hq (by omega)) hd)
 | false =>
 cases h7:ins&&aQ l i yg with
 | true=>rw[h1,h2,h3,h4,h7] at hd;exact lt (j:=i+1) (by omega) (U0 (fun hq=>yh _ hq (by omega)) hd)
 | false =>
 rw[h1,h2,h3,h4,h7] at hd;simp only[cond_false] at hd ⊢;cases h5:fk l i with
 | false=>rw[h5] at hd;cases hd
 | true =>
 cases h6:aQ l (i+1) pG with
 | false=>rw[h5,h6] at hd;cases hd
 | true =>
   rw[h5,h6] at hd;exact lt (j:=i+1+1) (by omega) (set_adv (fun hq=>yh _ hq (by omega)) hd)
theorem OC{st:Int->XR St}(h:Gc l st):∀(k:Nat)(acc:List St)(i:Int),(uT s l st k acc i).die=false->0<=i->i<(uT s l st k acc i).i/\(uT s l st k acc i).i<=l.length
 | 0,acc,i,hd,_=>by cases hd
 | k + 1, acc, i, hd, h0 => by
   unfold uT at hd ⊢;cases h1:aQ l i Lu with
   | true=>have:=bW h1;exact⟨by show i<i+1;omega,by show i+1<=_;omega⟩
   | false =>
   rw[h1] at hd;simp only[cond_false] at hd ⊢;cases hx:(st i).die with
   | true=>rw[hx] at hd;cases hd
   | false =>
     obtain⟨a,b,_⟩:=h _ hx h0;rw[hx] at hd;obtain⟨c,d⟩:=OC h k _ _ hd (by omega);exact⟨by show i<_;simp only[cond_false];omega,d⟩
theorem bl_adv{st:Int->XR St}(h:Gc l st):vL l (EL s l st):=by
 intro i hd h0;unfold EL at hd ⊢;cases h1:aQ l i AW with
 | false=>rw[h1] at hd;cases hd
 | true =>
   rw[h1] at hd;obtain⟨c,d⟩:=OC h _ _ _ hd (by omega);exact⟨by simp only[cond_true];omega,d⟩
theorem jO(ins:Bool):∀ n,vL l (jh s l ins n)
 | 0=>fun _ hd=>by cases hd
 | n+1=>bl_adv (tQ (jO ins n) ins)
end
end Go.Proofs.YtaplgnhojknpiaaGreatDoor
namespace Go.Proofs.YtaplgnhojknpiaaGreatDoor
open Go.aU Go.RowKit
set_option maxRecDepth 100000
theorem U2(x:ByteArray):bp Tryz.prog 41 [sS x,sS ⟨#[10]⟩] [] (.p (.c (.int .i64 (qd x)))) []:=by
 intro base η Z w vs R hvs hK
 match vs,hvs with
 | [u,v],⟨⟨_,h1⟩,⟨_,h2⟩,_⟩ =>
   have h1:u=.string x:=h1;have h2:v=.string ⟨#[10]⟩:=h2;subst h1;subst h2;refine(callsIn_wide.2 (Tryz.strings_Count_one x 10 w)).mono ?_;rintro e w' ⟨rfl,rfl⟩;exact⟨_,η,Z,rfl,⟨fun _ _ _ h=>h,R,Step.refl _ _ _ _⟩,by simp,rfl⟩
def Ge:cO:=vH .str .str fun x sep=>(.p (sep=⟨#[10]⟩),.p (.c (.int .i64 (qd x))),[])
theorem EM:bq Tryz.prog 41 Ge:=o9 (by kernel_rfl) fun x sep h=>by
 have h:sep=⟨#[10]⟩:=h;subst h;exact U2 x
section
variable (s:ByteArray) (l:List Tok)
noncomputable abbrev gX:iS:=Ow s l (12*l.length+12)
noncomputable def gamI:bX:=(26,gi s l [true,false] (gX s l))::(57,gi s l [true,false] (rf s l))::(77,gi s l [true] (uQ s l))::(41,Ge)::ye s l
theorem OD:bg Tryz.prog (gamI s l):=ai (eX (by kernel_rfl) (rP s l _)) (ai (eX (by kernel_rfl) (lN s l)) (ai (eX (by kernel_rfl) (pE s l)) (ai EM (lF s l))))
noncomputable def diI:List { x:FuncId×gu // f5 Tryz.prog x.1 x.2 }:=⟨(26,j9 s l [true,false] (gX s l)),iD (by kernel_rfl) (rP s l _)⟩::⟨(57,j9 s l [true,false] (rf s l)),iD (by kernel_rfl) (lN s l)⟩::⟨(77,j9 s l [true] (uQ s l)),iD (by kernel_rfl) (pE s l)⟩::CN s l
variable {s l} in
theorem qe{i:Int}(h:dx l i):ez l (12*l.length+12) 1 i:=⟨by omega,by omega,by have:=h.1;omega⟩
noncomputable def BL:iS:=fun aN i ins ns=>match aN with | []=>some (Rv True (fD s l i) ins ns)|_=>none
theorem CP:lZ 76 s l (BL s l):=by
 intro aN i ins ns p e hi hc;unfold BL at e;split at e;cases e;refine iM (dies:=diI s l) (aK:=[]) (eu:=[]) (fz:=[]) (OD s l) Tryz.func76 (by kernel_rfl) 3 (by kernel_rfl) 200 ?_;apply of_eq (q:=let q1:=(cJ s l ((12:Nat)*l.length+12) (1:Int) i);let q2:=Ob.mk 65 [Fd.m D.str (D.int .i64) cK];let q3:=(fD s l i);let q4:=(ByteArray.mk #[(59:UInt8)]);(bI s l s (ar l) (q2) ns.length ns i/\ez l ((12:Nat)*l.length+12) (1:Int) i)/\(q1.die=true->q3.die=true/\aV q1.e q1.a=aV q3.e q3.a)/\(q1.die=false->(bI s l s (ar l) (q2) ns.length ns i/\ez l ((12:Nat)*l.length+12) (1:Int) i/\q1.die=false)/\(bI s l s (ar l) (q2) ns.length ns q1.i/\True)/\((!aQ l q1.i q4)=true->q3.die=true/\aV (11:Int) (cV s l q1.i)=aV q3.e q3.a)/\((!aQ l q1.i q4)=false->(bI s l s (ar l) (q2) ns.length ns q1.i/\True/\(!aQ l q1.i q4)=false)/\q3.die=false/\aq [V.agg [wI q1.v.k,wI q1.v.n,W.str q1.v.t,W.rs (4:Nat) (Ex.ah q1.v.l)]]=A.p (exV q3.v)/\[Ob.mk 72 [Fd.c (W.str s),Fd.c (W.rs (4:Nat) (ar l)),fI (q1.i+1),Fd.c (W.mp (1:Nat)),Fd.c (W.bool ins),fS 2 0 ns.length],q2,Ob.mk 9 [Fd.a 0 D.str ns]]=pO s l q3.i ins ns))) (by kernel_rfl)
 try simp only[sL]
 generalize hR:fD s l i=R;unfold fD at hR;have hE:EX s l 1 i=cJ s l (12*l.length+12) 1 i:=rfl;rw[hE] at hR;have h0:=hi.1;refine⟨⟨pin hi,qe hi⟩,fun hd=>?_,fun hd=>?_⟩;rw[hd] at hR;simp only[cond_true] at hR;subst hR;exact⟨hd,rfl⟩;rw[hd] at hR;simp only[cond_false] at hR;obtain⟨a,b⟩:=kX (s:=s) (l:=l) _ _ _ hd h0;have hi2:dx l (cJ s l (12*l.length+12) 1 i).i:=⟨by omega,b,hi.2.2⟩;refine⟨⟨pin hi,qe hi,hd⟩,pin hi2,fun h1=>?_,fun h1=>?_⟩;rw[h1] at hR;subst hR;exact⟨rfl,rfl⟩;rw[h1] at hR;subst hR;exact⟨⟨pin hi2,h1⟩,rfl,rfl,rfl⟩;cases e
def fR:Prop:=s.size<=1000000/\∀ t∈l,0<=t.at_/\t.at_<=s.size
variable {s} in
theorem Lv(x:ByteArray):0<=qd x/\qd x<=x.size:=by
 have:Lib.countByte x.data.toList 10<=x.data.toList.length:=List.count_le_length;have h2:x.data.toList.length=x.size:=rfl;unfold qd;omega
theorem H9(h:s.size<=1000000)(i:Int):IntKind.i64.wrap (1+qd (s.extract 0 (cV s l i).toNat))=f9 s l i:=by
 obtain⟨a,b⟩:=Lv (s.extract 0 (cV s l i).toNat);have:(s.extract 0 (cV s l i).toNat).size<=s.size:=by rw[ByteArray.size_extract];omega
 rw[wrap64 (by omega) (by omega)];rfl
theorem and3{p:Prop}(h:p):(p/\p)/\p:=⟨⟨h,h⟩,h⟩
variable {s l} in
theorem U3(h:fR s l){i:Int}(hi:dx l i):0<=cV s l i/\cV s l i<=s.size:=by
 unfold cV;by_cases hl:i<l.length;rw[if_pos hl];obtain⟨n,hn,_,e⟩:=UM hi hl;rw[e];exact h.2 _ (List.getElem_mem hn);rw[if_neg hl];omega
def OE(x:St):V:=.agg [.int .i64 x.k,.int .i64 x.line,.str x.name,.nil,.int .i64 x.e.k,.int .i64 x.e.n,.str x.e.t,.rs 4 (Ex.ah x.e.l),.rs 10 (St.ah x.body),.rs 10 (St.ah x.els)]
theorem lG(k line:Int)(t:ByteArray)(e:Ex)(b c:List St):OE (.mk k line t [] e b c)=.agg [.int .i64 k,.int .i64 line,.str t,.nil,.int .i64 e.k,.int .i64 e.n,.str e.t,.rs 4 (Ex.ah e.l),.rs 10 (St.ah b),.rs 10 (St.ah c)]:=rfl
noncomputable def Lw(n:Nat):iS:=fun aN i ins ns=>match aN with
 | []=>some { c:=(l.length:Int)-i<n,die:=(jh s l ins n i).die,e:=(jh s l ins n i).e,a:=(jh s l ins n i).a,r:=.p (.c (.rs 10 (St.ah (jh s l ins n i).v))),i:=(jh s l ins n i).i,ins:=ins,ns:=ns }
 | _=>none
noncomputable def OG(n:Nat):iS:=fun aN i ins ns=>match aN with
 | []=>some { c:=(l.length:Int)-i<=n,die:=(nu s l (jh s l ins n) ins i).die,e:=(nu s l (jh s l ins n) ins i).e,a:=(nu s l (jh s l ins n) ins i).a,r:=.p (OE (nu s l (jh s l ins n) ins i).v),i:=(nu s l (jh s l ins n) ins i).i,ins:=ins,ns:=ns }
 | _=>none
abbrev HB(n:Nat):Prop:=lZ 75 s l (Lw s l n)
abbrev HS(n:Nat):Prop:=lZ 45 s l (OG s l n)
noncomputable def gamS(n:Nat):bX:=(75,gi s l [true] (Lw s l n))::(76,gi s l [true] (BL s l))::gamI s l
noncomputable def diS(n:Nat)(h:HB s l n):List { x:FuncId×gu // f5 Tryz.prog x.1 x.2 }:=⟨(75,j9 s l [true] (Lw s l n)),iD (by kernel_rfl) h⟩::⟨(76,j9 s l [true] (BL s l)),iD (by kernel_rfl) (CP s l)⟩::diI s l
variable {s l} in
theorem gamS_ok{n:Nat}(h:HB s l n):bg Tryz.prog (gamS s l n):=ai (eX (by kernel_rfl) h) (ai (eX (by kernel_rfl) (CP s l)) (OD s l))
theorem Gf(ht:fR s l)(n:Nat)(h:HB s l n):HS s l n:=by
 intro aN i ins ns p e hi hc;unfold OG at e;split at e;cases e;have hc:(l.length:Int)-i<=n:=hc;refine iM (dies:=diS s l n h) (aK:=[]) (eu:=[]) (fz:=[]) (gamS_ok h) Tryz.func45 (by kernel_rfl) 3 (by kernel_rfl) 900 ?_;apply of_eq (q:=let q3:=(ByteArray.mk #[(102:UInt8),(111:UInt8),(114:UInt8)]);let q4:=(ByteArray.mk #[(114:UInt8),(101:UInt8),(116:UInt8),(117:UInt8),(114:UInt8),(110:UInt8)]);let aI:=Ob.mk 65 [Fd.m D.str (D.int .i64) cK];let aY:=(nu s l (jh s l ins n) ins i);let cu:=(ByteArray.mk #[(101:UInt8),(108:UInt8),(115:UInt8),(101:UInt8)]);let cF:=(IntKind.i64.wrap ((1:Int)+qd (s.extract (0:Nat) (cV s l i).toNat)));let bF:=(ar l);let cg:=((12:Nat)*l.length+12);let eH:=(ByteArray.mk #[(119:UInt8),(104:UInt8),(105:UInt8),(108:UInt8),(101:UInt8)]);let dG:=(ByteArray.mk #[(112:UInt8),(114:UInt8),(105:UInt8),(110:UInt8),(116:UInt8)]);let d9:=(R1.pure (Cd.t.and Cd.t) (aP (W.str s))).v=(R1.pure (Cd.t.and Cd.t) (aP (W.str s))).v;let dH:=aY.die=true;let dN:=Fd.c (W.rs (4:Nat) bF);let eC:=Ob.mk 9 [Fd.a 0 D.str ns];let eO:=True/\false=false;let gT:=(ByteArray.mk #[(61:UInt8)]);let fX:=Fd.c (W.mp (1:Nat));let nZ:=Fd.c (W.bool ins);let kB:=(10:Nat);let oC:=(l.length:Int);let sH:=(ByteArray.mk #[(105:UInt8),(110:UInt8)]);let Ia:=(ByteArray.mk #[(105:UInt8),(102:UInt8)]);let Ib:=fS 2 0 ns.length;let Ic:=aY.die=false;let Ie:=Fd.c (W.str s);let U4:=(ByteArray.mk #[]);let Ig:=(OE aY.v);let aT:=(dr l i dG);let cn:=(dr l aT Ia);let gJ:=(fD s l aT);let q1:=(dr l cn eH);let q2:=(cJ s l cg (1:Int) cn);let cB:=(cJ s l cg (1:Int) q1);let bw:=(dr l q1 q3);let cL:=(jh s l ins n q2.i);let cG:=(fD s l (dr l bw q4+1+1));let cN:=(jh s l ins n (dr l cL.i cu));let ep:=(dr l q1 q3+1);let dO:=(dr l q1 q3+1+1);let mq:=(jh s l ins n cB.i);let tR:=(dr l bw q4);let OH:=(dr l bw q4+1);let q5:=(q2.die=true->dH/\aV q2.e q2.a=aV aY.e aY.a)/\(q2.die=false->(bI s l s bF (aI) ns.length ns cn/\ez l cg (1:Int) cn/\q2.die=false)/\(bI s l s bF (aI) ns.length ns q2.i/\oC-q2.i<(n:Int))/\(cL.die=true->dH/\aV cL.e cL.a=aV aY.e aY.a)/\(cL.die=false->(bI s l s bF (aI) ns.length ns q2.i/\oC-q2.i<(n:Int)/\cL.die=false)/\(bI s l s bF (aI) ns.length ns cL.i/\eO)/\(aQ l cL.i cu=true->(bI s l s bF (aI) ns.length ns (dr l cL.i cu)/\oC-dr l cL.i cu<(n:Int))/\(cN.die=true->dH/\aV cN.e cN.a=aV aY.e aY.a)/\(cN.die=false->(bI s l s bF (aI) ns.length ns (dr l cL.i cu)/\oC-dr l cL.i cu<(n:Int)/\cN.die=false)/\Ic/\aq [V.agg [wI (3),wI cF,W.str U4,W.nil,wI q2.v.k,wI q2.v.n,W.str q2.v.t,W.rs (4:Nat) (Ex.ah q2.v.l),W.rs kB (St.ah cL.v),W.rs kB (St.ah cN.v)]]=A.p Ig/\[Ob.mk 72 [Ie,dN,fI cN.i,fX,nZ,Ib],aI,eC]=pO s l aY.i ins ns))/\(aQ l cL.i cu=false->Ic/\aq [V.agg [wI (3),wI cF,W.str U4,W.nil,wI q2.v.k,wI q2.v.n,W.str q2.v.t,W.rs (4:Nat) (Ex.ah q2.v.l),W.rs kB (St.ah cL.v),W.rs kB []]]=A.p Ig/\[Ob.mk 72 [Ie,dN,fI (dr l cL.i cu),fX,nZ,Ib],aI,eC]=pO s l aY.i ins ns)));let bt:=(cJ s l cg (1:Int) dO);let dD:=(fD s l dO);let cQ:=(fD s l tR);let iR:=(jh s l ins n bt.i);let q6:=(bI s l s bF (aI) ns.length ns bw/\eO)/\(aQ l bw q4=true->(bI s l s bF (aI) ns.length ns tR/\True)/\(cQ.die=true->dH/\aV cQ.e cQ.a=aV aY.e aY.a)/\(cQ.die=false->(bI s l s bF (aI) ns.length ns tR/\True/\cQ.die=false)/\Ic/\aq [V.agg [wI (6),wI cF,W.str U4,W.nil,wI cQ.v.k,wI cQ.v.n,W.str cQ.v.t,W.rs (4:Nat) (Ex.ah cQ.v.l),W.rs kB [],W.rs kB []]]=A.p Ig/\[Ob.mk 72 [Ie,dN,fI cQ.i,fX,nZ,Ib],aI,eC]=pO s l aY.i ins ns))/\(aQ l bw q4=false->(bI s l s bF (aI) ns.length ns tR/\True)/\((!fk l tR)=true->dH/\aV (11:Int) (cV s l tR)=aV aY.e aY.a)/\((!fk l tR)=false->(bI s l s bF (aI) ns.length ns tR/\True/\(!fk l tR)=false)/\(bI s l s bF (aI) ns.length ns OH/\True)/\((!aQ l OH gT)=true->dH/\aV (11:Int) (cV s l OH)=aV aY.e aY.a)/\((!aQ l OH gT)=false->(bI s l s bF (aI) ns.length ns OH/\True/\(!aQ l OH gT)=false)/\(bI s l s bF (aI) ns.length ns (dr l bw q4+1+1)/\True)/\(cG.die=true->dH/\aV cG.e cG.a=aV aY.e aY.a)/\(cG.die=false->(bI s l s bF (aI) ns.length ns (dr l bw q4+1+1)/\True/\cG.die=false)/\Ic/\aq [V.agg [wI (1),wI cF,W.str (aM l tR).text,W.nil,wI cG.v.k,wI cG.v.n,W.str cG.v.t,W.rs (4:Nat) (Ex.ah cG.v.l),W.rs kB [],W.rs kB []]]=A.p Ig/\[Ob.mk 72 [Ie,dN,fI cG.i,fX,nZ,Ib],aI,eC]=pO s l aY.i ins ns))));let q7:=((!fk l bw)=true->dH/\aV (11:Int) (cV s l bw)=aV aY.e aY.a)/\((!fk l bw)=false->(bI s l s bF (aI) ns.length ns bw/\True/\(!fk l bw)=false)/\(bI s l s bF (aI) ns.length ns ep/\True)/\((!aQ l ep sH)=true->dH/\aV (11:Int) (cV s l ep)=aV aY.e aY.a)/\((!aQ l ep sH)=false->(bI s l s bF (aI) ns.length ns ep/\True/\(!aQ l ep sH)=false)/\(bI s l s bF (aI) ns.length ns dO/\ez l cg (1:Int) dO)/\(bt.die=true->dH/\aV bt.e bt.a=aV aY.e aY.a)/\(bt.die=false->(bI s l s bF (aI) ns.length ns dO/\ez l cg (1:Int) dO/\bt.die=false)/\(bI s l s bF (aI) ns.length ns bt.i/\oC-bt.i<(n:Int))/\(iR.die=true->dH/\aV iR.e iR.a=aV aY.e aY.a)/\(iR.die=false->(bI s l s bF (aI) ns.length ns bt.i/\oC-bt.i<(n:Int)/\iR.die=false)/\Ic/\aq [V.agg [wI (5),wI cF,W.str (aM l bw).text,W.nil,wI bt.v.k,wI bt.v.n,W.str bt.v.t,W.rs (4:Nat) (Ex.ah bt.v.l),W.rs kB (St.ah iR.v),W.rs kB []]]=A.p Ig/\[Ob.mk 72 [Ie,dN,fI iR.i,fX,nZ,Ib],aI,eC]=pO s l aY.i ins ns))));let q8:=(aQ l cn eH=true->(bI s l s bF (aI) ns.length ns q1/\ez l cg (1:Int) q1)/\(cB.die=true->dH/\aV cB.e cB.a=aV aY.e aY.a)/\(cB.die=false->(bI s l s bF (aI) ns.length ns q1/\ez l cg (1:Int) q1/\cB.die=false)/\(bI s l s bF (aI) ns.length ns cB.i/\oC-cB.i<(n:Int))/\(mq.die=true->dH/\aV mq.e mq.a=aV aY.e aY.a)/\(mq.die=false->(bI s l s bF (aI) ns.length ns cB.i/\oC-cB.i<(n:Int)/\mq.die=false)/\Ic/\aq [V.agg [wI (4),wI cF,W.str U4,W.nil,wI cB.v.k,wI cB.v.n,W.str cB.v.t,W.rs (4:Nat) (Ex.ah cB.v.l),W.rs kB (St.ah mq.v),W.rs kB []]]=A.p Ig/\[Ob.mk 72 [Ie,dN,fI mq.i,fX,nZ,Ib],aI,eC]=pO s l aY.i ins ns)))/\(aQ l cn eH=false->(bI s l s bF (aI) ns.length ns q1/\eO)/\(aQ l q1 q3=true->(bI s l s bF (aI) ns.length ns bw/\True)/\q7)/\(aQ l q1 q3=false->(ins=true->ins=true/\q6)/\(ins=!true->(bI s l s bF (aI) ns.length ns bw/\True)/\((!fk l bw)=true->dH/\aV (11:Int) (cV s l bw)=aV aY.e aY.a)/\((!fk l bw)=false->(bI s l s bF (aI) ns.length ns bw/\True/\(!fk l bw)=false)/\(bI s l s bF (aI) ns.length ns ep/\True)/\((!aQ l ep gT)=true->dH/\aV (11:Int) (cV s l ep)=aV aY.e aY.a)/\((!aQ l ep gT)=false->(bI s l s bF (aI) ns.length ns ep/\True/\(!aQ l ep gT)=false)/\(bI s l s bF (aI) ns.length ns dO/\True)/\(dD.die=true->dH/\aV dD.e dD.a=aV aY.e aY.a)/\(dD.die=false->(bI s l s bF (aI) ns.length ns dO/\True/\dD.die=false)/\Ic/\aq [V.agg [wI (1),wI cF,W.str (aM l bw).text,W.nil,wI dD.v.k,wI dD.v.n,W.str dD.v.t,W.rs (4:Nat) (Ex.ah dD.v.l),W.rs kB [],W.rs kB []]]=A.p Ig/\[Ob.mk 72 [Ie,dN,fI dD.i,fX,nZ,Ib],aI,eC]=pO s l aY.i ins ns))))));let q9:=((0:Int)<=0/\(0:Int)<=cV s l i/\cV s l i<=(s.size:Int))/\ByteArray.mk #[(10:UInt8)]=ByteArray.mk #[(10:UInt8)]/\d9/\d9/\d9/\(bI s l s bF (aI) ns.length ns i/\eO)/\(aQ l i dG=true->(bI s l s bF (aI) ns.length ns aT/\True)/\(gJ.die=true->dH/\aV gJ.e gJ.a=aV aY.e aY.a)/\(gJ.die=false->(bI s l s bF (aI) ns.length ns aT/\True/\gJ.die=false)/\Ic/\aq [V.agg [wI (2),wI cF,W.str U4,W.nil,wI gJ.v.k,wI gJ.v.n,W.str gJ.v.t,W.rs (4:Nat) (Ex.ah gJ.v.l),W.rs kB [],W.rs kB []]]=A.p Ig/\[Ob.mk 72 [Ie,dN,fI gJ.i,fX,nZ,Ib],aI,eC]=pO s l aY.i ins ns))/\(aQ l i dG=false->(bI s l s bF (aI) ns.length ns aT/\eO)/\(aQ l aT Ia=true->(bI s l s bF (aI) ns.length ns cn/\ez l cg (1:Int) cn)/\q5)/\(aQ l aT Ia=false->(bI s l s bF (aI) ns.length ns cn/\eO)/\q8));(((bI s l s bF (aI) ns.length ns i/\eO)/\q9)/\(bI s l s bF (aI) ns.length ns i/\eO)/\q9)/\(bI s l s bF (aI) ns.length ns i/\eO)/\q9) (by kernel_rfl)
 try simp only[sL]
 generalize hR:nu s l (jh s l ins n) ins i=R;unfold nu at hR;rw[H9 s l ht.1];generalize f9 s l i=L at hR ⊢;have h0:=hi.1;have h9:=hi.2.2;have up:∀{j:Int},0<=j->j<l.length->dx l (j+1):=fun h h'=>⟨by omega,by omega,h9⟩;have bA:=jO (s:=s) (l:=l) ins n;have eA:=kX (s:=s) (l:=l) (12*l.length+12);have hE:∀ j,EX s l 1 j=cJ s l (12*l.length+12) 1 j:=fun _=>rfl;simp only[hE] at hR;generalize cJ s l (12*l.length+12)=ex at hR eA ⊢;refine and3 ⟨pin hi,U3 ht hi,pin hi,fun h1=>?_,fun h1=>?_⟩;rw[h1] at hR;simp only[cond_true] at hR;unfold wP at hR;have u1:=up h0 (bW h1);rw[ja h1];refine⟨pin u1,fun hd=>?_,fun hd=>?_⟩;rw[hd] at hR;subst hR;exact⟨rfl,rfl⟩;rw[hd] at hR;subst hR;exact⟨⟨pin u1,hd⟩,rfl,by rw[cond_false,gD,lG,St.bJ];rfl,rfl⟩;rw[h1] at hR;simp only[cond_false] at hR;rw[iZ h1];refine⟨pin hi,fun h2=>?_,fun h2=>?_⟩;rw[h2] at hR;simp only[cond_true] at hR;have u1:=up h0 (bW h2);rw[ja h2];unfold wQ at hR;have hx:=qe u1;refine⟨⟨pin u1,hx⟩,fun hd=>?_,fun hd=>?_⟩;rw[hd] at hR;subst hR;exact⟨rfl,rfl⟩;rw[hd] at hR;simp only[cond_false] at hR;obtain⟨a,b⟩:=eA 1 (i+1) hd (by omega);have v:dx l (ex 1 (i+1)).i:=⟨by omega,b,h9⟩;have lt:(l.length:Int)-(ex 1 (i+1)).i<n:=by omega
 refine⟨⟨pin u1,hx,hd⟩,⟨pin v,lt⟩,fun hb=>?_,fun hb=>?_⟩;rw[hb] at hR;subst hR;exact⟨rfl,rfl⟩;rw[hb] at hR;simp only[cond_false] at hR;obtain⟨a2,b2⟩:=bA _ hb v.1;have v2:dx l (jh s l ins n (ex 1 (i+1)).i).i:=⟨by omega,b2,h9⟩;refine⟨⟨pin v,lt,hb⟩,pin v2,fun he=>?_,fun he=>?_⟩;have hel:=bW he;have v3:=up v2.1 hel;have lt3:(l.length:Int)-((jh s l ins n (ex 1 (i+1)).i).i+1)<n:=by omega
 rw[he] at hR;simp only[cond_true] at hR;rw[ja he];refine⟨⟨pin v3,lt3⟩,fun hc=>?_,fun hc=>?_⟩;rw[hc] at hR;subst hR;exact⟨rfl,rfl⟩;rw[hc] at hR;subst hR;exact⟨⟨pin v3,lt3,hc⟩,rfl,rfl,rfl⟩;rw[he] at hR;rw[iZ he];subst hR;exact⟨rfl,by rw[cond_false,gD,lG,St.bJ];rfl,rfl⟩;rw[h2] at hR;simp only[cond_false] at hR;rw[iZ h2];refine⟨pin hi,fun h3=>?_,fun h3=>?_⟩;rw[h3] at hR;simp only[cond_true] at hR;have u1:=up h0 (bW h3);rw[ja h3];unfold tO at hR;have hx:=qe u1;refine⟨⟨pin u1,hx⟩,fun hd=>?_,fun hd=>?_⟩;rw[hd] at hR;subst hR;exact⟨rfl,rfl⟩;rw[hd] at hR;simp only[cond_false] at hR;obtain⟨a,b⟩:=eA 1 (i+1) hd (by omega);have v:dx l (ex 1 (i+1)).i:=⟨by omega,b,h9⟩;have lt:(l.length:Int)-(ex 1 (i+1)).i<n:=by omega
 refine⟨⟨pin u1,hx,hd⟩,⟨pin v,lt⟩,fun hb=>?_,fun hb=>?_⟩;rw[hb] at hR;subst hR;exact⟨rfl,rfl⟩;rw[hb] at hR;subst hR;exact⟨⟨pin v,lt,hb⟩,rfl,by rw[cond_false,gD,lG,St.bJ];rfl,rfl⟩;rw[h3] at hR;simp only[cond_false] at hR;rw[iZ h3];refine⟨pin hi,fun h4=>?_,fun h4=>?_⟩;rw[h4] at hR;simp only[cond_true] at hR;have u1:=up h0 (bW h4);rw[ja h4];refine⟨pin u1,fun hn=>?_,fun hn=>?_⟩;rw[hn] at hR;subst hR;exact⟨rfl,rfl⟩;have u2:=up (by omega) (sU hn);rw[hn] at hR;simp only[cond_true] at hR;refine⟨⟨pin u1,hn⟩,pin u2,fun hm=>?_,fun hm=>?_⟩;rw[hm] at hR;subst hR;exact⟨rfl,rfl⟩;have u3:=up (by omega) (bW hm);rw[hm] at hR;simp only[cond_true] at hR;refine⟨⟨pin u2,hm⟩,?_⟩;unfold tO at hR;have hx:=qe u3;refine⟨⟨pin u3,hx⟩,fun hd=>?_,fun hd=>?_⟩;rw[hd] at hR;subst hR;exact⟨rfl,rfl⟩;rw[hd] at hR;simp only[cond_false] at hR;obtain⟨a,b⟩:=eA 1 (i+1+1+1) hd (by omega);have v:dx l (ex 1 (i+1+1+1)).i:=⟨by omega,b,h9⟩;have lt:(l.length:Int)-(ex 1 (i+1+1+1)).i<n:=by omega
 refine⟨⟨pin u3,hx,hd⟩,⟨pin v,lt⟩,fun hb=>?_,fun hb=>?_⟩;rw[hb] at hR;subst hR;exact⟨rfl,rfl⟩;rw[hb] at hR;subst hR;exact⟨⟨pin v,lt,hb⟩,rfl,by rw[cond_false,gD,lG,St.bJ];rfl,rfl⟩;rw[h4] at hR;simp only[cond_false] at hR;rw[iZ h4];refine⟨fun h5=>⟨h5,pin hi,fun h6=>?_,fun h6=>?_⟩,fun h5=>?_⟩;rw[h5,h6] at hR;simp only[Bool.and_self,cond_true] at hR;have u1:=up h0 (bW h6);rw[ja h6];unfold wP at hR;refine⟨pin u1,fun hd=>?_,fun hd=>?_⟩;rw[hd] at hR;subst hR;exact⟨rfl,rfl⟩;rw[hd] at hR;subst hR;exact⟨⟨pin u1,hd⟩,rfl,by rw[cond_false,gD,lG,St.bJ];rfl,rfl⟩;rw[h6,Bool.and_false] at hR;simp only[cond_false] at hR;rw[iZ h6];refine⟨pin hi,fun hn=>?_,fun hn=>?_⟩;rw[hn] at hR;subst hR;exact⟨rfl,rfl⟩;have u1:=up h0 (sU hn);rw[hn] at hR;simp only[cond_true] at hR;refine⟨⟨pin hi,hn⟩,pin u1,fun he=>?_,fun he=>?_⟩;rw[he] at hR;subst hR;exact⟨rfl,rfl⟩;have u2:=up (by omega) (bW he);rw[he] at hR;simp only[cond_true] at hR;unfold sj at hR;refine⟨⟨pin u1,he⟩,pin u2,fun hd=>?_,fun hd=>?_⟩;rw[hd] at hR;subst hR;exact⟨rfl,rfl⟩;rw[hd] at hR;subst hR;exact⟨⟨pin u2,hd⟩,rfl,by rw[cond_false,gD,lG,St.bJ];rfl,rfl⟩;have h5:ins=false:=h5;rw[h5,Bool.false_and] at hR;simp only[cond_false] at hR;refine⟨pin hi,fun hn=>?_,fun hn=>?_⟩;rw[hn] at hR;subst hR;exact⟨rfl,rfl⟩;have u1:=up h0 (sU hn);rw[hn] at hR;simp only[cond_true] at hR;refine⟨⟨pin hi,hn⟩,pin u1,fun he=>?_,fun he=>?_⟩;rw[he] at hR;subst hR;exact⟨rfl,rfl⟩;have u2:=up (by omega) (bW he);rw[he] at hR;simp only[cond_true] at hR;unfold sj at hR;refine⟨⟨pin u1,he⟩,pin u2,fun hd=>?_,fun hd=>?_⟩;rw[hd] at hR;subst hR;exact⟨rfl,rfl⟩;rw[hd] at hR;subst hR;exact⟨⟨pin u2,hd⟩,rfl,by rw[cond_false,gD,lG,St.bJ];rfl,rfl⟩;cases e
end
section
variable (s:ByteArray) (l:List Tok)
noncomputable def Yb(n:Nat):bX:=(45,gi s l [true] (OG s l n))::(57,gi s l [true,false] (rf s l))::ye s l
noncomputable def diJ(n:Nat)(h:HS s l n):List { x:FuncId×gu // f5 Tryz.prog x.1 x.2 }:=⟨(45,j9 s l [true] (OG s l n)),iD (by kernel_rfl) h⟩::⟨(57,j9 s l [true,false] (rf s l)),iD (by kernel_rfl) (lN s l)⟩::CN s l
variable {s l} in
theorem OI{n:Nat}(h:HS s l n):bg Tryz.prog (Yb s l n):=ai (eX (by kernel_rfl) h) (ai (eX (by kernel_rfl) (lN s l)) (lF s l))
noncomputable def sBl(n:Nat)(h:HS s l n)(b:Bool)(u:Value):aZ:=jg Tryz.prog (Yb s l n) (diJ s l n h) Tryz.f75 3 [([0,0,1,1],[0,2])] [] [some .pv] b u
abbrev qP(acc:List St):Ob:=⟨54,[.a 0 .pv (St.ah acc)]⟩
theorem yj(acc:List St)(x:St)(h:x.params=[]):St.ah acc++[PV.int x.k,PV.int x.line,PV.str x.name,PV.strs [],PV.int x.e.k,PV.int x.e.n,PV.str x.e.t,PV.aH 4 (Ex.ah x.e.l),PV.aH 10 (St.ah x.body),PV.aH 10 (St.ah x.els)]=St.ah (acc++[x]):=by
 rw[St.qO,St.fA,St.bJ,h,List.append_nil]
theorem OJ(n:Nat)(h:HS s l n)(ins:Bool)(ns:List ByteArray)(R:XR (List St)):∀(k:Nat)(acc:List St)(i:Int),uT s l (nu s l (jh s l ins n) ins) k acc i=R->dx l i->(l.length:Int)-i<k->(l.length:Int)-i<=n->(acc.length:Int)<=i->
 ax (sBl s l n h R.die (aV R.e R.a)) (iI R.die (.p (.c (.rs 10 (St.ah R.v)))) (pO s l R.i ins ns)) [0,0,1,1] (fr [(0,pA),(2,.p (.c (.sl 3 0 acc.length 10)))]) (.ofList [UL s l i ins ns.length,bH,iY ns,qP acc])
 | 0,acc,i,e,hi,hk,hn,hc=>by
   obtain⟨h0,h1,h2⟩:=hi;omega
 | k + 1, acc, i, e, hi, hk, hn, hc => by
   refine bD (OI h) (by kernel_rfl) 100 ?_;apply of_eq (q:=let q2:=(ByteArray.mk #[(125:UInt8)]);let q3:=Ob.mk 65 [Fd.m D.str (D.int .i64) cK];let q1:=(nu s l (jh s l ins n) ins (dr l i q2));(bI s l s (ar l) (q3) ns.length ns i/\True/\false=false)/\((!aQ l i q2)=true->(bI s l s (ar l) (q3) ns.length ns (dr l i q2)/\(l.length:Int)-dr l i q2<=(n:Int))/\(q1.die=true->R.die=true/\aV q1.e q1.a=aV R.e R.a)/\(q1.die=false->(bI s l s (ar l) (q3) ns.length ns (dr l i q2)/\(l.length:Int)-dr l i q2<=(n:Int)/\q1.die=false)/\((0:Nat)+acc.length*10<=(St.ah acc).length/\(acc.length+1)*160<=140737488355328)/\ax (sBl s l n h R.die (aV R.e R.a)) (iI R.die (aP (W.rs (10:Nat) (St.ah R.v))) (pO s l R.i ins ns)) [0,0,1,1] (fr [(0,aR 0 0),(2,aP (W.sl 3 0 (acc.length+1) 10))]) (af.ofList [Ob.mk 72 [Fd.c (W.str s),Fd.c (W.rs (4:Nat) (ar l)),fI q1.i,Fd.c (W.mp (1:Nat)),Fd.c (W.bool ins),fS 2 0 ns.length],q3,Ob.mk 9 [Fd.a 0 D.str ns],Ob.mk 54 [Fd.a 0 D.pv (List.take (acc.length*10) (List.drop (0:Nat) (St.ah acc))++[PV.int q1.v.k,PV.int q1.v.line,PV.str q1.v.name,PV.strs [],PV.int q1.v.e.k,PV.int q1.v.e.n,PV.str q1.v.e.t,PV.aH (4:Nat) (Ex.ah q1.v.e.l),PV.aH (10:Nat) (St.ah q1.v.body),PV.aH (10:Nat) (St.ah q1.v.els)])]])))/\((!aQ l i q2)=false->(0:Nat)+acc.length*10<=(St.ah acc).length/\R.die=false/\aq [V.c (W.rs (10:Nat) (List.take (acc.length*10) (List.drop (0:Nat) (St.ah acc))))]=aP (W.rs (10:Nat) (St.ah R.v))/\[Ob.mk 72 [Fd.c (W.str s),Fd.c (W.rs (4:Nat) (ar l)),fI (dr l i q2),Fd.c (W.mp (1:Nat)),Fd.c (W.bool ins),fS 2 0 ns.length],q3,Ob.mk 9 [Fd.a 0 D.str ns]]=pO s l R.i ins ns)) (by kernel_rfl)
   try simp only[sL]
   generalize hq:nu s l (jh s l ins n) ins=st at e ⊢;have hA:Gc l st:=by rw[<-hq];exact tQ (jO ins n) ins
   have h0:=hi.1;have h9:=hi.2.2;have el:List.take (acc.length*10) (St.ah acc)=St.ah acc:=List.take_of_length_le (by rw[St.cI];exact Nat.le_refl _);have hl:acc.length*10<=(St.ah acc).length:=by rw[St.cI];exact Nat.le_refl _
   rw[el];unfold uT at e;refine⟨pin hi,fun h1=>?_,fun h1=>?_⟩;rw[h1] at e;simp only[cond_false] at e;rw[iZ h1];refine⟨⟨pin hi,hn⟩,fun hd=>?_,fun hd=>?_⟩;rw[hd] at e;subst e;exact⟨rfl,rfl⟩;rw[hd] at e;simp only[cond_false] at e;obtain⟨a,b,c⟩:=hA _ hd h0;rw[yj _ _ c];have ih:=OJ n h ins ns R k (acc++[(st i).v]) (st i).i (by rw[hq];exact e) ⟨by omega,b,h9⟩ (by omega) (by omega) (by simp only[List.length_append,List.length_singleton];omega);rw[List.length_append,List.length_singleton] at ih;exact⟨⟨pin hi,hn,hd⟩,⟨hl,by have:=hi.2;omega⟩,ih⟩;rw[h1] at e;rw[ja h1];subst e;exact⟨hl,rfl,rfl,rfl⟩
theorem bl_step(n:Nat)(h:HS s l n):HB s l (n+1):=by
 intro aN i ins ns p e hi hc;unfold Lw at e;split at e;cases e;have hc:(l.length:Int)-i<(n+1:Nat):=hc;refine iM (dies:=diJ s l n h) (aK:=[([0,0,1,1],[0,2])]) (eu:=[]) (fz:=[some .pv]) (OI h) Tryz.func75 (by kernel_rfl) 3 (by kernel_rfl) 100 ?_;apply of_eq (q:=let q1:=(jh s l ins (n+1) i);let q2:=(l.length:Int)-i<(↑(n+1):Int);let q3:=aP (W.rs (10:Nat) (St.ah q1.v));let q4:=(Rp.mk (q2) q1.die q1.e q1.a (q3) q1.i ins ns);let q5:=Ob.mk 65 [Fd.m D.str (D.int .i64) cK];let q6:=(ByteArray.mk #[(123:UInt8)]);(bI s l s (ar l) (q5) ns.length ns i/\True)/\((!aQ l i q6)=true->q1.die=true/\aV (11:Int) (cV s l i)=aV q1.e q1.a)/\((!aQ l i q6)=false->(bI s l s (ar l) (q5) ns.length ns i/\True/\(!aQ l i q6)=false)/\ax (jg Tryz.prog (Yb s l n) (diJ s l n h) Tryz.f75 (3:Nat) [([0,0,1,1],[0,2])] [] [some D.pv] q4.die (aV q4.e q4.a)) (iI q4.die q4.r (pO s l q4.i q4.ins q4.ns)) [0,0,1,1] (fr [(0,aR 0 0),(2,aP (W.sl 3 0 0 10))]) (af.ofList [Ob.mk 72 [Fd.c (W.str s),Fd.c (W.rs (4:Nat) (ar l)),fI (i+1),Fd.c (W.mp (1:Nat)),Fd.c (W.bool ins),fS 2 0 ns.length],q5,Ob.mk 9 [Fd.a 0 D.str ns],Ob.mk 54 [Fd.a 0 D.pv []]]))) (by kernel_rfl)
 try simp only[sL]
 generalize hR:jh s l ins (n+1) i=R;have hR:EL s l (nu s l (jh s l ins n) ins) i=R:=hR;unfold EL at hR;refine⟨pin hi,fun h1=>?_,fun h1=>?_⟩;rw[h1] at hR;subst hR;exact⟨rfl,rfl⟩;have hlt:=bW h1;have h0:=hi.1;rw[h1] at hR;simp only[cond_true] at hR;have:=OJ s l n h ins ns R (l.length+1) [] (i+1) hR ⟨by omega,by omega,hi.2.2⟩ (by omega) (by omega) (by simp only[List.length_nil];omega);unfold qP at this;rw[St.bJ] at this;exact⟨⟨pin hi,h1⟩,this⟩;cases e
theorem bl_zero:HB s l 0:=by
 intro aN i ins ns p e hi hc;unfold Lw at e;split at e;cases e;have hc:(l.length:Int)-i<(0:Nat):=hc;have:=hi.2.1;omega;cases e
theorem wS(ht:fR s l):∀ n,HB s l n
 | 0=>bl_zero s l
 | n+1=>bl_step s l n (Gf s l ht n (wS ht n))
end
end Go.Proofs.YtaplgnhojknpiaaGreatDoor
