/- The program's parser: its object; what reads a token. -/
import Derived.Test.YtnbjjocbncblaaaGreatDoorSplit2
import Derived.Test.YtnbjjocbncblaaaGreatDoorLoom4
namespace Go.Proofs.YtnbjjocbncblaaaGreatDoor
open Go.aN
set_option maxRecDepth 100000
abbrev pA:A:=.p (.c (.ptr 0 0))
def vf:List (ByteArray×Int) :=
 bJ D.str (D.int .i64) ⟨#[94]⟩ (8:Int) (bJ D.str (D.int .i64) ⟨#[37]⟩ (6:Int) (bJ D.str (D.int .i64) ⟨#[47]⟩ (6:Int) (bJ D.str (D.int .i64) ⟨#[42]⟩ (6:Int) (bJ D.str (D.int .i64) ⟨#[45]⟩ (5:Int) (bJ D.str (D.int .i64) ⟨#[43]⟩ (5:Int) (bJ D.str (D.int .i64) ⟨#[105,110]⟩ (4:Int) (bJ D.str (D.int .i64) ⟨#[62,61]⟩ (4:Int) (bJ D.str (D.int .i64) ⟨#[62]⟩ (4:Int) (bJ D.str (D.int .i64) ⟨#[60,61]⟩ (4:Int) (bJ D.str (D.int .i64) ⟨#[60]⟩ (4:Int) (bJ D.str (D.int .i64) ⟨#[33,61]⟩ (4:Int) (bJ D.str (D.int .i64) ⟨#[61,61]⟩ (4:Int) (bJ D.str (D.int .i64) ⟨#[97,110,100]⟩ (2:Int) (bJ D.str (D.int .i64) ⟨#[111,114]⟩ (1:Int) []))))))))))))))
noncomputable def levM:{ m:List (ByteArray×Int) // m=vf }:=Classical.choice ⟨⟨vf,rfl⟩⟩
noncomputable def cF:List (ByteArray×Int):=levM.1
theorem O0:cF=vf:=levM.2
noncomputable abbrev bC:Ob:=⟨42,[.m .str (.int .i64) cF]⟩
theorem RM:br Tryz.prog 14 [] [] (.p (.c (.mp 0))) [bC]:=by
 refine bn (aK:=[]) aD Tryz.func14 (by kernel_rfl) (aj:=0) rfl (by kernel_rfl) 100 ?_;apply of_eq (q:=ax [V.c (W.mp (0:Nat))]=aP (W.mp (0:Nat))/\[Ob.mk 42 [Fd.m D.str (D.int .i64) (bJ D.str (D.int .i64) (ByteArray.mk #[(94:UInt8)]) (8:Int) (bJ D.str (D.int .i64) (ByteArray.mk #[(37:UInt8)]) (6:Int) (bJ D.str (D.int .i64) (ByteArray.mk #[(47:UInt8)]) (6:Int) (bJ D.str (D.int .i64) (ByteArray.mk #[(42:UInt8)]) (6:Int) (bJ D.str (D.int .i64) (ByteArray.mk #[(45:UInt8)]) (5:Int) (bJ D.str (D.int .i64) (ByteArray.mk #[(43:UInt8)]) (5:Int) (bJ D.str (D.int .i64) (ByteArray.mk #[(105:UInt8),(110:UInt8)]) (4:Int) (bJ D.str (D.int .i64) (ByteArray.mk #[(62:UInt8),(61:UInt8)]) (4:Int) (bJ D.str (D.int .i64) (ByteArray.mk #[(62:UInt8)]) (4:Int) (bJ D.str (D.int .i64) (ByteArray.mk #[(60:UInt8),(61:UInt8)]) (4:Int) (bJ D.str (D.int .i64) (ByteArray.mk #[(60:UInt8)]) (4:Int) (bJ D.str (D.int .i64) (ByteArray.mk #[(33:UInt8),(61:UInt8)]) (4:Int) (bJ D.str (D.int .i64) (ByteArray.mk #[(61:UInt8),(61:UInt8)]) (4:Int) (bJ D.str (D.int .i64) (ByteArray.mk #[(97:UInt8),(110:UInt8),(100:UInt8)]) (2:Int) (bJ D.str (D.int .i64) (ByteArray.mk #[(111:UInt8),(114:UInt8)]) (1:Int) [])))))))))))))))]]=[bC]) (by kernel_rfl)
 try simp only[sL,Int.reduceEq,Int.reduceNe,Nat.reduceAdd]
 unfold bC;rw[O0];exact⟨rfl,rfl⟩
abbrev U8(s:ByteArray)(l:List Tok)(i:Int)(ins:Bool)(m:Nat):Ob:=⟨63,[.c (.str s),.c (.rs 4 (aE l)),.c (.int .i64 i),.c (.mp 1),.c (.bool ins),.c (.sl 2 0 m 1)]⟩
abbrev nZ(ns:List ByteArray):Ob:=⟨9,[.a 0 .str ns]⟩
noncomputable abbrev pO(s:ByteArray)(l:List Tok)(i:Int)(ins:Bool)(ns:List ByteArray):List Ob:=[U8 s l i ins ns.length,bC,nZ ns]
def aM(l:List Tok)(i:Int):Tok:=l.getD i.toNat ⟨0,eS,0,0⟩
def dn(s:ByteArray)(l:List Tok)(i:Int):Int:=if i<l.length then(aM l i).at_ else s.size
def aA(l:List Tok)(i:Int)(x:ByteArray):Bool:=decide (i<l.length)&&(decide ((aM l i).text=x)&&(decide ((aM l i).kind=5)||decide ((aM l i).kind=2)))
abbrev iy(l:List Tok)(i:Int):Prop:=0<=i/\i<=l.length/\l.length<=20000
theorem Js(l:List Tok):(aE l).length/4=l.length:=by rw[qD];omega
theorem U9{l:List Tok}{i:Int}(h:iy l i)(hi:i<l.length):∃ n,∃ hn:n<l.length,i.toNat=n/\aM l i=l[n]:=by
 obtain⟨h0,h1,_⟩:=h;refine⟨i.toNat,by omega,rfl,?_⟩;unfold aM;rw[List.getD_eq_getElem?_getD,List.getElem?_eq_getElem (by omega)];rfl
theorem Ym{l:List Tok}{i:Int}(h:iy l i)(hi:i<l.length):(aE l).getD (i.toNat*4+0) (.bool false)=.int (aM l i).kind:=by
 obtain⟨n,hn,e1,e2⟩:=U9 h hi;rw[e1,e2];exact wh hn 0 (by omega)
theorem RN{l:List Tok}{i:Int}(h:iy l i)(hi:i<l.length):(aE l).getD (i.toNat*4+1) (.bool false)=.str (aM l i).text:=by
 obtain⟨n,hn,e1,e2⟩:=U9 h hi;rw[e1,e2];exact wh hn 1 (by omega)
theorem tkg2{l:List Tok}{i:Int}(h:iy l i)(hi:i<l.length):(aE l).getD (i.toNat*4+2) (.bool false)=.int (aM l i).n:=by
 obtain⟨n,hn,e1,e2⟩:=U9 h hi;rw[e1,e2];exact wh hn 2 (by omega)
theorem tkg3{l:List Tok}{i:Int}(h:iy l i)(hi:i<l.length):(aE l).getD (i.toNat*4+3) (.bool false)=.int (aM l i).at_:=by
 obtain⟨n,hn,e1,e2⟩:=U9 h hi;rw[e1,e2];exact wh hn 3 (by omega)
theorem cT{l:List Tok}{i:Int}(h:iy l i)(hi:i<l.length)(j:Nat)(hj:j<4):i.toNat*4+j<(aE l).length:=by
 rw[qD];obtain⟨h0,_,_⟩:=h;omega
theorem RO(s:ByteArray)(l:List Tok)(i:Int)(ins:Bool)(ns:List ByteArray)(h:iy l i):br Tryz.prog 27 [pA] (pO s l i ins ns) (.p (.c (.int .i64 (dn s l i)))) (pO s l i ins ns):=by
 refine bn (aK:=[]) aD Tryz.func27 (by kernel_rfl) (aj:=3) rfl (by kernel_rfl) 100 ?_;apply of_eq (q:=let q1:=[Ob.mk 63 [Fd.c (W.str s),Fd.c (W.rs (4:Nat) (aE l)),fI i,Fd.c (W.mp (1:Nat)),Fd.c (W.bool ins),fS 2 0 ns.length],Ob.mk 42 [Fd.m D.str (D.int .i64) cF],Ob.mk 9 [Fd.a 0 D.str ns]]=pO s l i ins ns;(decide (i<(↑((aE l).length/4):Int))=true->((0:Int)<=i/\i.toNat*4<(aE l).length)/\i.toNat*4+3<(aE l).length/\(PV.int (0:Int)).like ((aE l).getD (i.toNat*4+3) (PV.bool false))=true/\ax [V.c ((PV.int (0:Int)).at ((aE l).getD (i.toNat*4+3) (PV.bool false)))]=nI (dn s l i)/\q1)/\(decide (i<(↑((aE l).length/4):Int))=false->ax [vI (s.size:Int)]=nI (dn s l i)/\q1)) (by kernel_rfl)
 try simp only[sL]
 rw[Js];unfold dn;refine⟨fun hi=>?_,fun hi=>by rw[if_neg (by omega)];rfl⟩;rw[tkg3 h hi,if_pos hi];exact⟨⟨h.1,cT h hi 0 (by omega)⟩,cT h hi 3 (by omega),rfl,rfl⟩
theorem is_sem(s:ByteArray)(l:List Tok)(i:Int)(ins:Bool)(ns:List ByteArray)(h:iy l i)(x:ByteArray):br Tryz.prog 54 [pA,sS x] (pO s l i ins ns) (bB (aA l i x)) (pO s l i ins ns):=by
 refine bn (aK:=[]) aD Tryz.func54 (by kernel_rfl) (aj:=3) rfl (by kernel_rfl) 100 ?_;apply of_eq (q:=let q4:=(aE l);let q5:=decide (i<(↑(q4.length/4):Int));let q6:=(PV.int (0:Int)).like (q4.getD (i.toNat*4+0) (PV.bool false))=true;let q7:=decide ((q4.getD (i.toNat*4+1) (PV.bool false)).bN=x);let q8:=decide ((q4.getD (i.toNat*4+0) (PV.bool false)).asInt=5);let q1:=(bif q5 then q7 else false)=true;let q2:=q8=false;let q3:=q5=true;(q3->q3)/\(q3->q3)/\(q3->q3)/\(q3->q3)/\(q3->q3)/\(q3->q3)/\(q3->q3)/\(q3->q3)/\(q3->(0:Int)<=i/\i.toNat*4<q4.length)/\(q3->q3)/\(q3->q3)/\(q3->i.toNat*4+1<q4.length)/\(q3->(PV.str (ByteArray.mk #[])).like (q4.getD (i.toNat*4+1) (PV.bool false))=true)/\(q3->q3)/\(q3->q3)/\(q3->q3)/\(q1->q1)/\(q1->q1)/\(q1->q1)/\(q1->q1)/\(q1->q1)/\(q1->q1)/\(q1->q1)/\(q1->q1)/\(q1->(0:Int)<=i/\i.toNat*4<q4.length)/\(q1->q1)/\(q1->q1)/\(q1->i.toNat*4+0<q4.length)/\(q1->q6)/\(q1->q1)/\(q1->q1)/\(q1/\q2->q1/\q2)/\(q1/\q2->q1/\q2)/\(q1/\q2->q1/\q2)/\(q1/\q2->q1/\q2)/\(q1/\q2->q1/\q2)/\(q1/\q2->q1/\q2)/\(q1/\q2->q1/\q2)/\(q1/\q2->q1/\q2)/\(q1/\q2->(0:Int)<=i/\i.toNat*4<q4.length)/\(q1/\q2->q1/\q2)/\(q1/\q2->q1/\q2)/\(q1/\q2->i.toNat*4+0<q4.length)/\(q1/\q2->q6)/\(q1/\q2->q1/\q2)/\(q1->q1)/\(q1->q2->q1/\q2)/\(q1->q1)/\ax [vB (bif bif q5 then q7 else false then bif q8 then true else decide ((q4.getD (i.toNat*4+0) (PV.bool false)).asInt=2) else false)]=bB (aA l i x)/\[Ob.mk 63 [Fd.c (W.str s),Fd.c (W.rs (4:Nat) q4),fI i,Fd.c (W.mp (1:Nat)),Fd.c (W.bool ins),fS 2 0 ns.length],Ob.mk 42 [Fd.m D.str (D.int .i64) cF],Ob.mk 9 [Fd.a 0 D.str ns]]=pO s l i ins ns) (by kernel_rfl)
 try simp only[sL]
 rw[Js];by_cases hi:i<l.length;rw[Ym h hi,RN h hi];have h0:=cT h hi 0 (by omega);have h1:=cT h hi 1 (by omega);refine⟨fun _=>⟨h.1,h0⟩,fun _=>h1,fun _=>rfl,fun _=>⟨h.1,h0⟩,fun _=>h0,fun _=>rfl,fun _=>⟨h.1,h0⟩,fun _=>h0,fun _=>rfl,fun a b=>⟨a,b⟩,?_⟩;unfold aA;rw[Bool.and_assoc];rfl;unfold aA;rw[decide_eq_false hi];refine⟨fun h=>absurd h hi,fun h=>absurd h hi,fun h=>absurd h hi,fun h=>absurd h.1 hi,fun h=>absurd h.1 hi,fun h=>absurd h.1 hi,fun h=>absurd h.1.1 hi,fun h=>absurd h.1.1 hi,fun h=>absurd h.1.1 hi,fun a b=>⟨a,b⟩,rfl⟩
structure bD(s:ByteArray)(l:List Tok)(s':ByteArray)(l':List PV)(oM:Ob)(n:Nat)(ns:List ByteArray)(i:Int):Prop where
 es:s'=s
 el:l'=aE l
 em:oM=bC
 en:n=ns.length
 ok:iy l i
theorem pin{s:ByteArray}{l:List Tok}{ns:List ByteArray}{i:Int}(h:iy l i):bD s l s (aE l) bC ns.length ns i:=⟨rfl,rfl,rfl,rfl,h⟩
structure RP where
 c:Prop
 die:Bool:=false
 e:Int:=0
 a:Int:=0
 r:A
 i:Int
 ins:Bool
 ns:List ByteArray
abbrev jk:=List A->Int->Bool->List ByteArray->Option RP
def O1(ai:List Ob)(m:Nat):Bool:=match ai with
 | [⟨t,[.c (.str _),.c (.rs q _),.c (.int .i64 _),.c (.mp k),.c (.bool _),.c (.sl x y _ z)]⟩,_,⟨tn,[.a 0 .str _]⟩]=>Nat.beq m 0&&(Nat.beq t 63&&(Nat.beq q 4&&(Nat.beq k 1&&(Nat.beq x 2&&(Nat.beq y 0&&(Nat.beq z 1&&Nat.beq tn 9))))))
 | _=>false
noncomputable def ga(s:ByteArray)(l:List Tok)(cC:List Bool)(g:jk):cV:={ cC:=cC,aj:=some 3,f:=fun args ai=>match args,ai with
 | .p (.c (.ptr m 0))::aL,[⟨t,[.c (.str s'),.c (.rs q l'),.c (.int .i64 i),.c (.mp k),.c (.bool ins),.c (.sl x y n z)]⟩,oM,⟨tn,[.a 0 .str ns]⟩]=>bif O1 ai m then(match g aL i ins ns with
  | some p=>some (.p (bD s l s' l' oM n ns i/\p.c/\p.die=false),p.r,pO s l p.i p.ins p.ns)
  | none=>none) else none
 | _,_=>none }
noncomputable def kV(s:ByteArray)(l:List Tok)(cC:List Bool)(g:jk):gq:={ cC:=cC,f:=fun args ai=>match args,ai with
 | .p (.c (.ptr m 0))::aL,[⟨t,[.c (.str s'),.c (.rs q l'),.c (.int .i64 i),.c (.mp k),.c (.bool ins),.c (.sl x y n z)]⟩,oM,⟨tn,[.a 0 .str ns]⟩]=>bif O1 ai m then(match g aL i ins ns with
  | some p=>some (.p (bD s l s' l' oM n ns i/\p.c),some p.die,aU p.e p.a)
  | none=>none) else none
 | _,_=>none }
def nu(f:Nat)(s:ByteArray)(l:List Tok)(g:jk):Prop:=∀ aL i ins ns p,g aL i ins ns=some p->iy l i->p.c->
 (p.die=false->eX Tryz.prog f 3 (pA::aL) (pO s l i ins ns) p.r (pO s l p.i p.ins p.ns))/\(p.die=true->mA Tryz.prog f (pA::aL) (pO s l i ins ns) (aU p.e p.a))
theorem eD{f:Nat}{s:ByteArray}{l:List Tok}{cC:List Bool}{g:jk}(he:enters Tryz.prog f=true)(h:nu f s l g):bt Tryz.prog f (ga s l cC g):=by
 refine⟨he,fun args ai c r aV e hc=>?_⟩;simp only[ga] at e;split at e;rename_i m aL t s' q l' i k ins x y n z oM tn ns;obtain⟨hb,e1⟩:=ah.ay e;clear e;simp only[O1,Bool.and_eq_true,Nat.beq_eq] at hb;obtain⟨rfl,rfl,rfl,rfl,rfl,rfl,rfl,rfl⟩:=hb;split at e1;rename_i p hp;cases e1;obtain⟨⟨rfl,rfl,rfl,rfl,h2⟩,h3,h4⟩:=hc;exact(h aL i ins ns p hp h2 h3).1 h4;cases e1;cases e
theorem iP{f:Nat}{s:ByteArray}{l:List Tok}{cC:List Bool}{g:jk}(he:enters Tryz.prog f=true)(h:nu f s l g):fR Tryz.prog f (kV s l cC g):=by
 refine⟨he,fun args ai c b u e hc hb0=>?_⟩;simp only[kV] at e;split at e;rename_i m aL t s' q l' i k ins x y n z oM tn ns;obtain⟨hb,e1⟩:=ah.ay e;clear e;simp only[O1,Bool.and_eq_true,Nat.beq_eq] at hb;obtain⟨rfl,rfl,rfl,rfl,rfl,rfl,rfl,rfl⟩:=hb;split at e1
 . rename_i p hp;cases e1;obtain⟨⟨rfl,rfl,rfl,rfl,h2⟩,h3⟩:=hc;refine(h aL i ins ns p hp h2 h3).2 ?_;cases hd:p.die with
   | true=>rfl
   | false=>rw[hd] at hb0;exact absurd rfl hb0
 cases e1;cases e
section
variable (s:ByteArray) (l:List Tok)
def Yn:jk:=fun aL i ins ns=>match aL with | []=>some { c:=True,r:=.p (.c (.int .i64 (dn s l i))),i:=i,ins:=ins,ns:=ns }|_=>none
theorem Yo:nu 27 s l (Yn s l):=by
 intro aL i ins ns p e h hc;unfold Yn at e;split at e;cases e;exact⟨fun _=>RO s l i ins ns h,fun h=>by cases h⟩;cases e
def gIs:jk:=fun aL i ins ns=>match aL with | [.p (.c (.str x))]=>some { c:=True,r:=bB (aA l i x),i:=i,ins:=ins,ns:=ns }|_=>none
theorem is_both:nu 54 s l (gIs l):=by
 intro aL i ins ns p e h hc;unfold gIs at e;split at e;cases e;exact⟨fun _=>is_sem s l i ins ns h _,fun h=>by cases h⟩;cases e
noncomputable def gamA:bX:=[(27,ga s l [true] (Yn s l)),(54,ga s l [true,false] (gIs l))]
theorem G9:bh Tryz.prog (gamA s l):=aq (eD (by kernel_rfl) (Yo s l)) (aq (eD (by kernel_rfl) (is_both s l)) aD)
def cO(i:Int)(x:ByteArray):Int:=if aA l i x then i+1 else i
variable {l} in
theorem ju{i:Int}{x:ByteArray}(h:aA l i x=false):cO l i x=i:=by unfold cO;rw[if_neg (by rw[h];simp)]
variable {l} in
theorem jv{i:Int}{x:ByteArray}(h:aA l i x=true):cO l i x=i+1:=by unfold cO;rw[if_pos h]
def RQ:jk:=fun aL i ins ns=>match aL with | [.p (.c (.str x))]=>some { c:=True,r:=bB (aA l i x),i:=cO l i x,ins:=ins,ns:=ns }|_=>none
variable {l} in
theorem cU{i:Int}{x:ByteArray}(h:aA l i x=true):i<l.length:=by
 unfold aA at h;simp only[Bool.and_eq_true,decide_eq_true_eq] at h;exact h.1
theorem Va:nu 28 s l (RQ l):=by
 intro aL i ins ns p e h hc;unfold RQ at e;split at e;rename_i x;cases e;refine⟨fun _=>?_,fun h=>by cases h⟩;refine jW (aK:=[]) (eZ:=[]) (fz:=[]) (G9 s l) Tryz.func28 (by kernel_rfl) 3 (by kernel_rfl) 100 ?_;apply of_eq (q:=let q1:=Ob.mk 42 [Fd.m D.str (D.int .i64) cF];(bD s l s (aE l) (q1) ns.length ns i/\True/\false=false)/\((!aA l i x)=true->ax [vB false]=bB (aA l i x)/\[Ob.mk 63 [Fd.c (W.str s),Fd.c (W.rs (4:Nat) (aE l)),fI i,Fd.c (W.mp (1:Nat)),Fd.c (W.bool ins),fS 2 0 ns.length],q1,Ob.mk 9 [Fd.a 0 D.str ns]]=pO s l (cO l i x) ins ns)/\((!aA l i x)=false->ax [vB true]=bB (aA l i x)/\[Ob.mk 63 [Fd.c (W.str s),Fd.c (W.rs (4:Nat) (aE l)),fI (IntKind.i64.wrap (i+1)),Fd.c (W.mp (1:Nat)),Fd.c (W.bool ins),fS 2 0 ns.length],q1,Ob.mk 9 [Fd.a 0 D.str ns]]=pO s l (cO l i x) ins ns)) (by kernel_rfl)
 try simp only[sL]
 refine⟨pin h,fun h1=>?_,fun h1=>?_⟩;rw[ju h1,h1];exact⟨rfl,rfl⟩;have:=cU h1;have h0:=h.1;have h2:=h.2;rw[jv h1,h1,wrap64 (by omega) (by omega)];exact⟨rfl,rfl⟩;cases e
def Mj:jk:=fun aL i ins ns=>match aL with | []=>some { c:=True,die:=true,e:=11,a:=dn s l i,r:=.bG [],i:=i,ins:=ins,ns:=ns }|_=>none
theorem RR:nu 25 s l (Mj s l):=by
 intro aL i ins ns p e h hc;unfold Mj at e;split at e;cases e;refine⟨fun h=>(by cases h),fun h2=>?_⟩;refine(jb (dies:=[]) (aK:=[]) (eZ:=[]) (fz:=[]) (G9 s l) Tryz.func25 (by kernel_rfl) 3 (by kernel_rfl) (b:=true) (r0:=.bG []) (bI:=[]) 100 ?_).2 rfl;apply of_eq (q:=(bD s l s (aE l) (Ob.mk 42 [Fd.m D.str (D.int .i64) cF]) ns.length ns i/\True/\false=false)/\true=true/\Value.iface (96:Nat) (Value.agg #[Value.int .i64 (11:Int),Value.int .i64 (dn s l i)])=aU (11:Int) (dn s l i)) (by kernel_rfl)
 try simp only[sL]
 exact⟨pin h,rfl⟩;cases e
noncomputable def zI:bX:=(28,ga s l [true,false] (RQ l))::gamA s l
theorem mF:bh Tryz.prog (zI s l):=aq (eD (by kernel_rfl) (Va s l)) (G9 s l)
noncomputable def DK:List { x:FuncId×gq // fR Tryz.prog x.1 x.2 }:=[⟨(25,kV s l [true] (Mj s l)),iP (by kernel_rfl) (RR s l)⟩]
def sJ:jk:=fun aL i ins ns=>match aL with | [.p (.c (.str x))]=>some { c:=True,die:=!aA l i x,e:=11,a:=dn s l i,r:=.bG [],i:=i+1,ins:=ins,ns:=ns }|_=>none
theorem mS:nu 56 s l (sJ s l):=by
 intro aL i ins ns p e h hc;unfold sJ at e;split at e;rename_i x;cases e;refine jb (dies:=DK s l) (aK:=[]) (eZ:=[]) (fz:=[]) (mF s l) Tryz.func56 (by kernel_rfl) 3 (by kernel_rfl) 100 ?_;apply of_eq (q:=let q1:=Ob.mk 42 [Fd.m D.str (D.int .i64) cF];(bD s l s (aE l) (q1) ns.length ns i/\True/\false=false)/\((!aA l i x)=true->(bD s l s (aE l) (q1) ns.length ns (cO l i x)/\True)/\(true=true->(!aA l i x)=true/\aU (11:Int) (dn s l (cO l i x))=aU (11:Int) (dn s l i))/\(true=false->False))/\((!aA l i x)=false->(!aA l i x)=false/\ax []=A.bG []/\[Ob.mk 63 [Fd.c (W.str s),Fd.c (W.rs (4:Nat) (aE l)),fI (cO l i x),Fd.c (W.mp (1:Nat)),Fd.c (W.bool ins),fS 2 0 ns.length],q1,Ob.mk 9 [Fd.a 0 D.str ns]]=pO s l (i+1) ins ns)) (by kernel_rfl)
 try simp only[sL]
 refine⟨pin h,fun h1=>?_,fun h1=>?_⟩;rw[ju h1,h1];exact⟨pin h,fun _=>⟨rfl,rfl⟩,fun h=>by cases h⟩;rw[jv h1,h1];exact⟨rfl,rfl,rfl⟩;cases e
def eY(i:Int):Bool:=decide (i<l.length)&&decide ((aM l i).kind=1)
def wj:jk:=fun aL i ins ns=>match aL with | []=>some { c:=True,die:=!eY l i,e:=11,a:=dn s l i,r:=sS (aM l i).text,i:=i+1,ins:=ins,ns:=ns }|_=>none
theorem qF:nu 59 s l (wj s l):=by
 intro aL i ins ns p e h hc;unfold wj at e;split at e;cases e;refine jb (dies:=DK s l) (aK:=[]) (eZ:=[]) (fz:=[]) (mF s l) Tryz.func59 (by kernel_rfl) 3 (by kernel_rfl) 100 ?_;apply of_eq (q:=let q0:=IntKind.i64.wrap;let q2:=(q0 (q0 (i+1)-1));let q5:=(aE l);let q3:=decide ((↑(q5.length/4):Int)<=i);let q4:=decide ((q5.getD (i.toNat*4+0) (PV.bool false)).asInt=1);let q1:=q3=false;(q1->q1)/\(q1->q1)/\(q1->q1)/\(q1->q1)/\(q1->q1)/\(q1->q1)/\(q1->q1)/\(q1->q1)/\(q1->(0:Int)<=i/\i.toNat*4<q5.length)/\(q1->q1)/\(q1->q1)/\(q1->i.toNat*4+0<q5.length)/\(q1->(PV.int (0:Int)).like (q5.getD (i.toNat*4+0) (PV.bool false))=true)/\(q1->q1)/\(q1->q1)/\((bif q3 then true else !q4)=true->(bD s l s q5 (Ob.mk 42 [Fd.m D.str (D.int .i64) cF]) ns.length ns i/\True)/\(true=true->(!eY l i)=true/\aU (11:Int) (dn s l i)=aU (11:Int) (dn s l i))/\(true=false->False))/\((bif q3 then true else !q4)=false->((0:Int)<=q0 (q0 (i+1)-1)/\q2.toNat*4<q5.length)/\q2.toNat*4+1<q5.length/\(PV.str (ByteArray.mk #[])).like (q5.getD (q2.toNat*4+1) (PV.bool false))=true/\(!eY l i)=false/\ax [V.c ((PV.str (ByteArray.mk #[])).at (q5.getD (q2.toNat*4+1) (PV.bool false)))]=sS (aM l i).text/\[Ob.mk 63 [Fd.c (W.str s),Fd.c (W.rs (4:Nat) q5),fI (q0 (i+1)),Fd.c (W.mp (1:Nat)),Fd.c (W.bool ins),fS 2 0 ns.length],Ob.mk 42 [Fd.m D.str (D.int .i64) cF],Ob.mk 9 [Fd.a 0 D.str ns]]=pO s l (i+1) ins ns)) (by kernel_rfl)
 try simp only[sL]
 rw[Js];have h0:=h.1;have h2:=h.2;by_cases hi:i<l.length;rw[wrap64 (n:=i+1) (by omega) (by omega),Int.add_sub_cancel,wrap64 (by omega) (by omega),Ym h hi,RN h hi];have g0:=cT h hi 0 (by omega);have g1:=cT h hi 1 (by omega);unfold eY;rw[decide_eq_true hi];refine⟨fun _=>⟨h0,g0⟩,fun _=>g0,fun _=>rfl,fun h1=>⟨pin h,fun _=>?_,fun h=>by cases h⟩,fun h1=>⟨⟨h0,g0⟩,g1,rfl,?_,rfl,rfl⟩⟩;rcases h1 with h1|h1;omega;exact decide_eq_false h1;exact decide_eq_true h1.2;refine⟨fun h=>absurd h hi,fun h=>absurd h hi,fun h=>absurd h hi,fun _=>⟨pin h,fun _=>?_,fun h=>by cases h⟩,fun h1=>absurd h1.1 hi⟩;unfold eY;rw[decide_eq_false hi];rfl;cases e
def dU(x:ByteArray):Int:=dH .str (.int .i64) vf x
theorem J2(x:ByteArray):dH .str (.int .i64) cF x=dU x:=by rw[O0];rfl
def cY(i lv:Int):Bool:=decide (i<l.length)&&(aA l i (aM l i).text&&decide (dU (aM l i).text=lv))
noncomputable def gOp:jk:=fun aL i ins ns=>match aL with | [.p (.c (.int .i64 lv))]=>some { c:=True,r:=.bG [.c (.str (if cY l i lv then(aM l i).text else eS)),.c (.bool (cY l i lv))],i:=if cY l i lv then i+1 else i,ins:=ins,ns:=ns }|_=>none
theorem op_both:nu 82 s l (gOp l):=by
 intro aL i ins ns p e h hc;unfold gOp at e;split at e;rename_i lv;cases e;refine⟨fun _=>?_,fun h=>by cases h⟩;refine jW (aK:=[]) (eZ:=[]) (fz:=[]) (mF s l) Tryz.func82 (by kernel_rfl) 3 (by kernel_rfl) 100 ?_;apply of_eq (q:=let q5:=Ob.mk 42 [Fd.m D.str (D.int .i64) cF];let q6:=V.c (W.str (if cY l i lv=true then(aM l i).text else eS));let q7:=(aE l);let q8:=(i.toNat*4+1);let q1:=(!aA l i (q7.getD q8 (PV.bool false)).bN)=false;let q2:=[Ob.mk 63 [Fd.c (W.str s),Fd.c (W.rs (4:Nat) q7),fI i,Fd.c (W.mp (1:Nat)),Fd.c (W.bool ins),fS 2 0 ns.length],q5,Ob.mk 9 [Fd.a 0 D.str ns]]=pO s l (if cY l i lv=true then i+1 else i) ins ns;let q3:=ax [V.c (W.str (ByteArray.mk #[])),vB false]=A.bG [q6,vB (cY l i lv)];let q4:=decide (dH D.str (D.int .i64) cF (q7.getD q8 (PV.bool false)).bN=lv);(decide ((↑(q7.length/4):Int)<=i)=true->q3/\q2)/\(decide ((↑(q7.length/4):Int)<=i)=false->((0:Int)<=i/\i.toNat*4<q7.length)/\i.toNat*4+1<q7.length/\(PV.str (ByteArray.mk #[])).like (q7.getD q8 (PV.bool false))=true/\(bD s l s q7 (q5) ns.length ns i/\True/\false=false)/\(q1->q1)/\(q1->q1)/\(q1->q1)/\(q1->q1/\q1/\((!q4)=true->q3/\q2)/\((!q4)=false->ax [V.c ((PV.str (ByteArray.mk #[])).at (q7.getD q8 (PV.bool false))),vB true]=A.bG [q6,vB (cY l i lv)]/\[Ob.mk 63 [Fd.c (W.str s),Fd.c (W.rs (4:Nat) q7),fI (IntKind.i64.wrap (i+1)),Fd.c (W.mp (1:Nat)),Fd.c (W.bool ins),fS 2 0 ns.length],q5,Ob.mk 9 [Fd.a 0 D.str ns]]=pO s l (if cY l i lv=true then i+1 else i) ins ns))/\((!aA l i (q7.getD q8 (PV.bool false)).bN)=!false->q3/\q2))) (by kernel_rfl)
 try simp only[sL]
 rw[Js];have h0:=h.1;have h2:=h.2;have hF:cY l i lv=false->ax [V.c (W.str { data:=#[] }),V.c (W.bool false)]=A.bG [V.c (W.str (if cY l i lv=true then(aM l i).text else eS)),V.c (W.bool (cY l i lv))]/\pO s l i ins ns=pO s l (if cY l i lv=true then i+1 else i) ins ns:=by
  intro hf;rw[hf];exact⟨rfl,rfl⟩
 by_cases hi:i<l.length;rw[wrap64 (n:=i+1) (by omega) (by omega),RN h hi];refine⟨fun h=>by omega,fun _=>⟨⟨h0,cT h hi 0 (by omega)⟩,cT h hi 1 (by omega),rfl,pin h,?_⟩⟩;have ho:cY l i lv=(aA l i (aM l i).text&&decide (dU (aM l i).text=lv)):=by unfold cY;rw[decide_eq_true hi];rfl
 refine⟨fun h1=>⟨h1,h1,fun h2=>hF ?_,fun h2=>?_⟩,fun h1=>hF ?_⟩;have h1:aA l i (aM l i).text=true:=h1;rw[ho,h1];exact decide_eq_false (fun e=>h2 ((J2 _).trans e));have h1:aA l i (aM l i).text=true:=h1;have h2:dU (aM l i).text=lv:=(J2 _).symm.trans h2;have:cY l i lv=true:=by rw[ho,h1,decide_eq_true h2];rfl
 rw[this];exact⟨rfl,rfl⟩;have h1:(!aA l i (aM l i).text)=true:=h1;rw[Bool.not_eq_true'] at h1;rw[ho,h1];rfl;refine⟨fun _=>hF ?_,fun h=>absurd h hi⟩;unfold cY;rw[decide_eq_false hi];rfl;cases e
end
inductive Ex where
 | mk (k n:Int) (t:ByteArray) (l:List Ex)
def Ex.k:Ex->Int | .mk k _ _ _=>k
def Ex.n:Ex->Int | .mk _ n _ _=>n
def Ex.t:Ex->ByteArray | .mk _ _ t _=>t
def Ex.l:Ex->List Ex | .mk _ _ _ l=>l
mutual
def Ex.pV:Ex->List PV
 | .mk k n t l=>[.int k,.int n,.str t,.aZ 4 (Ex.ak l)]
def Ex.ak:List Ex->List PV
 | []=>[]
 | e::l=>e.pV++Ex.ak l
end
theorem Ex.BV(e:Ex):e.pV=[.int e.k,.int e.n,.str e.t,.aZ 4 (Ex.ak e.l)]:=by
 cases e;rw[Ex.pV];rfl
theorem Ex.cg:Ex.ak []=[]:=by rw[Ex.ak]
theorem Ex.fA(e:Ex)(l:List Ex):Ex.ak (e::l)=.int e.k::.int e.n::.str e.t::.aZ 4 (Ex.ak e.l)::Ex.ak l:=by
 rw[Ex.ak,Ex.BV];rfl
theorem Ex.ur(l m:List Ex):Ex.ak (l++m)=Ex.ak l++Ex.ak m:=by
 induction l with
 | nil=>rw[Ex.cg];rfl
 | cons e l ih=>rw[List.cons_append,Ex.fA,Ex.fA,ih];rfl
theorem Ex.dQ(l:List Ex):(Ex.ak l).length=l.length*4:=by
 induction l with
 | nil=>rw[Ex.cg];rfl
 | cons e l ih=>rw[Ex.fA];simp only[List.length_cons,ih];omega
def exV(e:Ex):V:=.agg [.int .i64 e.k,.int .i64 e.n,.str e.t,.rs 4 (Ex.ak e.l)]
abbrev jK:ByteArray:=⟨#[110,111,116]⟩
abbrev gJ:ByteArray:=⟨#[45]⟩
abbrev jh:ByteArray:=⟨#[91]⟩
abbrev ji:ByteArray:=⟨#[93]⟩
abbrev eH:ByteArray:=⟨#[40]⟩
abbrev dx:ByteArray:=⟨#[41]⟩
abbrev jL:ByteArray:=⟨#[44]⟩
abbrev su:ByteArray:=⟨#[116,114,117,101]⟩
abbrev tO:ByteArray:=⟨#[102,97,108,115,101]⟩
def iX(t:ByteArray)(x y:Ex):Ex:=.mk 9 0 t [x,y]
def mG(t:ByteArray)(x:Ex):Ex:=.mk 8 0 t [x]
def vg(x y:Ex):Ex:=.mk 7 0 eS [x,y]
structure XR(α:Type) where
 die:Bool
 e:Int
 a:Int
 v:α
 i:Int
def iY:Ex:=.mk 0 0 eS []
section
variable (s:ByteArray) (l:List Tok)
def kI{α:Type}(v:α)(i:Int):XR α:=⟨true,11,dn s l i,v,i⟩
def cA{α:Type}(v:α)(i:Int):XR α:=⟨false,0,0,v,i⟩
abbrev jY:=Int->Int->XR Ex
noncomputable def mq(ex:jY)(lv:Int):Nat->Ex->Int->XR Ex
 | 0,x,i=>kI s l x i
 | k+1,x,i=>bif cY l i lv then
  (bif (ex (lv+1) (i+1)).die then ex (lv+1) (i+1) else
   bif decide (lv=4) then cA (iX (aM l i).text x (ex (lv+1) (i+1)).v) (ex (lv+1) (i+1)).i
   else mq ex lv k (iX (aM l i).text x (ex (lv+1) (i+1)).v) (ex (lv+1) (i+1)).i)
   else cA x i
noncomputable def pW(ex:jY):Nat->Ex->Int->XR Ex
 | 0,x,i=>kI s l x i
 | k+1,x,i=>bif aA l i jh then
  (bif (ex 1 (i+1)).die then ex 1 (i+1) else
   bif aA l (ex 1 (i+1)).i ji then pW ex k (vg x (ex 1 (i+1)).v) ((ex 1 (i+1)).i+1) else kI s l x (ex 1 (i+1)).i)
   else cA x i
noncomputable def oe(ex:jY)(t:ByteArray):Nat->List Ex->Int->XR (List Ex)
 | 0,acc,i=>kI s l acc i
 | k+1,acc,i=>bif (ex 1 i).die then ⟨true,(ex 1 i).e,(ex 1 i).a,acc,i⟩ else
  bif aA l (ex 1 i).i t then cA (acc++[(ex 1 i).v]) ((ex 1 i).i+1) else
  bif aA l (ex 1 i).i jL then oe ex t k (acc++[(ex 1 i).v]) ((ex 1 i).i+1) else kI s l acc (ex 1 i).i
noncomputable def dM(ex:jY)(t:ByteArray)(i:Int):XR (List Ex):=bif aA l i t then cA [] (i+1) else oe s l ex t (l.length+1) [] i
noncomputable def gB(ex:jY)(i:Int):XR Ex :=
 bif aA l i eH then(bif (ex 1 (i+1)).die then ex 1 (i+1) else bif aA l (ex 1 (i+1)).i dx then cA (ex 1 (i+1)).v ((ex 1 (i+1)).i+1) else kI s l iY (ex 1 (i+1)).i)
 else bif aA l i jh then ⟨(dM s l ex ji (i+1)).die,(dM s l ex ji (i+1)).e,(dM s l ex ji (i+1)).a,.mk 5 0 eS (dM s l ex ji (i+1)).v,(dM s l ex ji (i+1)).i⟩
 else bif aA l i su then cA (.mk 3 1 eS []) (i+1)
 else bif aA l i tO then cA (.mk 3 0 eS []) (i+1)
 else bif decide (l.length<=i) then kI s l iY i
 else bif decide ((aM l i).kind=3) then cA (.mk 1 (aM l i).n eS []) (i+1)
 else bif decide ((aM l i).kind=4) then cA (.mk 2 0 (aM l i).text []) (i+1)
 else bif eY l i then(bif aA l (i+1) eH then ⟨(dM s l ex dx (i+1+1)).die,(dM s l ex dx (i+1+1)).e,(dM s l ex dx (i+1+1)).a,.mk 6 0 (aM l i).text (dM s l ex dx (i+1+1)).v,(dM s l ex dx (i+1+1)).i⟩
  else cA (.mk 4 0 (aM l i).text []) (i+1))
 else kI s l iY i
noncomputable def og(ex:jY)(t:ByteArray)(lv i:Int):XR Ex :=
 bif aA l i t then(bif (ex lv (i+1)).die then ex lv (i+1) else cA (mG t (ex lv (i+1)).v) (ex lv (i+1)).i) else ex (lv+1) i
noncomputable def wY(ex:jY)(i:Int):XR Ex :=
 bif (ex 9 i).die then ex 9 i else bif cY l (ex 9 i).i 8 then
  (bif (ex 7 ((ex 9 i).i+1)).die then ex 7 ((ex 9 i).i+1) else cA (iX (aM l (ex 9 i).i).text (ex 9 i).v (ex 7 ((ex 9 i).i+1)).v) (ex 7 ((ex 9 i).i+1)).i)
 else cA (ex 9 i).v (ex 9 i).i
noncomputable def tZ(ex:jY)(lv i:Int):XR Ex :=
 bif decide (lv=3) then og l ex jK lv i
 else bif decide (lv=7) then og l ex gJ lv i
 else bif decide (lv=8) then wY l ex i
 else bif decide (lv=9) then(bif (ex 10 i).die then ex 10 i else pW s l ex (l.length+1) (ex 10 i).v (ex 10 i).i)
 else bif decide (lv=10) then gB s l ex i
 else(bif (ex (lv+1) i).die then ex (lv+1) i else mq s l ex lv (l.length+1) (ex (lv+1) i).v (ex (lv+1) i).i)
noncomputable def bQ:Nat->jY
 | 0=>fun _ i=>kI s l iY i
 | n+1=>tZ s l (bQ n)
def wZ(ex:jY):Prop:=∀ lv i,(ex lv i).die=false->0<=i->i<(ex lv i).i/\(ex lv i).i<=l.length
variable {s l}
theorem op_lt{i lv:Int}(h:cY l i lv=true):i<l.length:=by
 unfold cY at h;simp only[Bool.and_eq_true,decide_eq_true_eq] at h;exact h.1
theorem J3{i:Int}(h:eY l i=true):i<l.length:=by
 unfold eY at h;simp only[Bool.and_eq_true,decide_eq_true_eq] at h;exact h.1
theorem Vb{ex:jY}(h:wZ l ex)(lv:Int):∀(k:Nat)(x:Ex)(i:Int),(mq s l ex lv k x i).die=false->0<=i->i<=l.length->i<=(mq s l ex lv k x i).i/\(mq s l ex lv k x i).i<=l.length
 | 0,x,i,hd,_,_=>by cases hd
 | k + 1, x, i, hd, h0, hl => by
   unfold mq at hd ⊢;cases ho:cY l i lv with
   | false=>rw[ho] at hd;exact⟨Int.le_refl _,hl⟩
   | true =>
     rw[ho] at hd;simp only[cond_true] at hd ⊢;cases hx:(ex (lv+1) (i+1)).die with
     | true=>rw[hx] at hd;simp only[cond_true] at hd;rw[hx] at hd;cases hd
     | false =>
       rw[hx] at hd;simp only[cond_false] at hd ⊢;obtain⟨a,b⟩:=h _ _ hx (by omega);cases h4:decide (lv=4) with
       | true=>exact⟨by show i<=(ex (lv+1) (i+1)).i;omega,b⟩
       | false =>
         rw[h4] at hd;simp only[cond_false] at hd ⊢;obtain⟨c,d⟩:=Vb h lv k _ _ hd (by omega) b;exact⟨by omega,d⟩
theorem Vc{ex:jY}(h:wZ l ex):∀(k:Nat)(x:Ex)(i:Int),(pW s l ex k x i).die=false->0<=i->i<=l.length->i<=(pW s l ex k x i).i/\(pW s l ex k x i).i<=l.length
 | 0,x,i,hd,_,_=>by cases hd
 | k + 1, x, i, hd, h0, hl => by
   unfold pW at hd ⊢;cases ho:aA l i jh with
   | false=>rw[ho] at hd;exact⟨Int.le_refl _,hl⟩
   | true =>
     rw[ho] at hd;simp only[cond_true] at hd ⊢;cases hx:(ex 1 (i+1)).die with
     | true=>rw[hx] at hd;simp only[cond_true] at hd;rw[hx] at hd;cases hd
     | false =>
       rw[hx] at hd;simp only[cond_false] at hd ⊢;obtain⟨a,b⟩:=h _ _ hx (by omega);cases h4:aA l (ex 1 (i+1)).i ji with
       | false=>rw[h4] at hd;cases hd
       | true =>
         rw[h4] at hd;simp only[cond_true] at hd ⊢;have:=cU h4;obtain⟨c,d⟩:=Vc h k _ _ hd (by omega) (by omega);exact⟨by omega,d⟩
theorem Vd{ex:jY}(h:wZ l ex)(t:ByteArray):∀(k:Nat)(acc:List Ex)(i:Int),(oe s l ex t k acc i).die=false->0<=i->i<(oe s l ex t k acc i).i/\(oe s l ex t k acc i).i<=l.length
 | 0,x,i,hd,_=>by cases hd
 | k + 1, acc, i, hd, h0 => by
   unfold oe at hd ⊢;cases hx:(ex 1 i).die with
   | true=>rw[hx] at hd;cases hd
   | false =>
     rw[hx] at hd;simp only[cond_false] at hd ⊢;obtain⟨a,b⟩:=h _ _ hx (by omega);cases h4:aA l (ex 1 i).i t with
     | true =>
       have:=cU h4;exact⟨by show i<(ex 1 i).i+1;omega,by show (ex 1 i).i+1<=_;omega⟩
     | false =>
       rw[h4] at hd;simp only[cond_false] at hd ⊢;cases h5:aA l (ex 1 i).i jL with
       | false=>rw[h5] at hd;cases hd
       | true =>
         rw[h5] at hd;simp only[cond_true] at hd ⊢;have:=cU h5;obtain⟨c,d⟩:=Vd h t k _ _ hd (by omega);exact⟨by omega,d⟩
theorem Mk{ex:jY}(h:wZ l ex)(t:ByteArray)(i:Int)(hd:(dM s l ex t i).die=false)(h0:0<=i):i<(dM s l ex t i).i/\(dM s l ex t i).i<=l.length:=by
 unfold dM at hd ⊢;cases h4:aA l i t with
 | true =>
   have:=cU h4;exact⟨by show i<i+1;omega,by show i+1<=_;omega⟩
 | false=>rw[h4] at hd;exact Vd h t _ _ _ hd h0
end
section
variable {s:ByteArray} {l:List Tok}
theorem Yp{ex:jY}(h:wZ l ex)(i:Int)(hd:(gB s l ex i).die=false)(h0:0<=i):i<(gB s l ex i).i/\(gB s l ex i).i<=l.length:=by
 unfold gB at hd ⊢;cases h1:aA l i eH with
 | true =>
   rw[h1] at hd;simp only[cond_true] at hd ⊢;cases hx:(ex 1 (i+1)).die with
   | true=>rw[hx] at hd;simp only[cond_true] at hd;rw[hx] at hd;cases hd
   | false =>
     rw[hx] at hd;simp only[cond_false] at hd ⊢;obtain⟨a,b⟩:=h _ _ hx (by omega);cases h4:aA l (ex 1 (i+1)).i dx with
     | false=>rw[h4] at hd;cases hd
     | true =>
       have:=cU h4;exact⟨by show i<(ex 1 (i+1)).i+1;omega,by show (ex 1 (i+1)).i+1<=_;omega⟩
 | false =>
 rw[h1] at hd;simp only[cond_false] at hd ⊢;cases h2:aA l i jh with
 | true =>
   rw[h2] at hd;simp only[cond_true] at hd ⊢;obtain⟨a,b⟩:=Mk h _ _ hd (by omega);exact⟨by omega,b⟩
 | false =>
 rw[h2] at hd;simp only[cond_false] at hd ⊢;have one:∀ v:Ex,i<l.length->i<(cA v (i+1)).i/\(cA v (i+1)).i<=l.length:=fun v hi=>⟨by show i<i+1;omega,by show i+1<=_;omega⟩;cases h3:aA l i su with
 | true=>exact one _ (cU h3)
 | false =>
 cases h4:aA l i tO with
 | true=>exact one _ (cU h4)
 | false =>
 rw[h3,h4] at hd;simp only[cond_false] at hd ⊢;by_cases hi:(l.length:Int)<=i;rw[decide_eq_true hi] at hd;cases hd;rw[decide_eq_false hi] at hd ⊢;simp only[cond_false] at hd ⊢;have hi:i<l.length:=by omega
 cases h5:decide ((aM l i).kind=3) with
 | true=>exact one _ hi
 | false =>
 cases h6:decide ((aM l i).kind=4) with
 | true=>exact one _ hi
 | false =>
 cases h7:eY l i with
 | false=>rw[h5,h6,h7] at hd;cases hd
 | true =>
 rw[h5,h6,h7] at hd;simp only[cond_false,cond_true] at hd ⊢;cases h8:aA l (i+1) eH with
 | false=>exact one _ hi
 | true =>
   rw[h8] at hd;simp only[cond_true] at hd ⊢;obtain⟨a,b⟩:=Mk h _ _ hd (by omega);exact⟨by omega,b⟩
theorem Ve{ex:jY}(h:wZ l ex):wZ l (tZ s l ex):=by
 intro lv i hd h0;have un : ∀ t, (og l ex t lv i).die = false → i < (og l ex t lv i).i ∧ (og l ex t lv i).i ≤ l.length := by
  intro t hd;unfold og at hd ⊢;cases h1:aA l i t with
  | false =>
    rw[h1] at hd;exact h _ _ hd h0
  | true =>
    rw[h1] at hd;simp only[cond_true] at hd ⊢;cases hx:(ex lv (i+1)).die with
    | true=>rw[hx] at hd;simp only[cond_true] at hd;rw[hx] at hd;cases hd
    | false =>
      obtain⟨a,b⟩:=h _ _ hx (by omega);exact⟨by show i<(ex lv (i+1)).i;omega,b⟩
 unfold tZ at hd ⊢;cases c3:decide (lv=3) with
 | true=>rw[c3] at hd;exact un _ hd
 | false =>
 cases c7:decide (lv=7) with
 | true=>rw[c3,c7] at hd;exact un _ hd
 | false =>
 cases c8:decide (lv=8) with
 | true =>
   rw[c3,c7,c8] at hd;simp only[cond_false,cond_true] at hd ⊢;unfold wY at hd ⊢;cases hx:(ex 9 i).die with
   | true=>rw[hx] at hd;simp only[cond_true] at hd;rw[hx] at hd;cases hd
   | false =>
   obtain⟨a,b⟩:=h _ _ hx h0;rw[hx] at hd;simp only[cond_false] at hd ⊢;cases ho:cY l (ex 9 i).i 8 with
   | false=>exact⟨a,b⟩
   | true =>
   rw[ho] at hd;simp only[cond_true] at hd ⊢;cases hy:(ex 7 ((ex 9 i).i+1)).die with
   | true=>rw[hy] at hd;simp only[cond_true] at hd;rw[hy] at hd;cases hd
   | false =>
     obtain⟨c,d⟩:=h _ _ hy (by omega);exact⟨by show i<(ex 7 ((ex 9 i).i+1)).i;omega,d⟩
 | false =>
 cases c9:decide (lv=9) with
 | true =>
   rw[c3,c7,c8,c9] at hd;simp only[cond_false,cond_true] at hd ⊢;cases hx:(ex 10 i).die with
   | true=>rw[hx] at hd;simp only[cond_true] at hd;rw[hx] at hd;cases hd
   | false =>
   obtain⟨a,b⟩:=h _ _ hx h0;rw[hx] at hd;simp only[cond_false] at hd ⊢;obtain⟨c,d⟩:=Vc h _ _ _ hd (by omega) b;exact⟨by omega,d⟩
 | false =>
 cases c10:decide (lv=10) with
 | true =>
   rw[c3,c7,c8,c9,c10] at hd;exact Yp h i hd h0
 | false =>
   rw[c3,c7,c8,c9,c10] at hd;simp only[cond_false] at hd ⊢;cases hx:(ex (lv+1) i).die with
   | true=>rw[hx] at hd;simp only[cond_true] at hd;rw[hx] at hd;cases hd
   | false =>
   obtain⟨a,b⟩:=h _ _ hx h0;rw[hx] at hd;simp only[cond_false] at hd ⊢;obtain⟨c,d⟩:=Vb h _ _ _ _ hd (by omega) b;exact⟨by omega,d⟩
theorem nF:∀ n,wZ l (bQ s l n)
 | 0=>fun _ _ hd=>by cases hd
 | n+1=>Ve (nF n)
end
section
variable (s:ByteArray) (l:List Tok)
noncomputable abbrev RS(c:Prop)(q:XR Ex)(ins:Bool)(ns:List ByteArray):RP:={ c:=c,die:=q.die,e:=q.e,a:=q.a,r:=.p (exV q.v),i:=q.i,ins:=ins,ns:=ns }
def iJ(n:Nat)(lv i:Int):Prop:=1<=lv/\lv<=10/\12*((l.length:Int)-i)+11-lv<n
noncomputable def O2(n:Nat):jk:=fun aL i ins ns=>match aL with | [.p (.c (.int .i64 lv))]=>some (RS (iJ l n lv i) (bQ s l n lv i) ins ns)|_=>none
abbrev HX(n:Nat):Prop:=nu 48 s l (O2 s l n)
noncomputable def RT(n:Nat):bX:=(48,ga s l [true,false] (O2 s l n))::(56,ga s l [true,false] (sJ s l))::zI s l
noncomputable def diE(n:Nat)(h:HX s l n):List { x:FuncId×gq // fR Tryz.prog x.1 x.2 }:=⟨(48,kV s l [true,false] (O2 s l n)),iP (by kernel_rfl) h⟩::⟨(56,kV s l [true,false] (sJ s l)),iP (by kernel_rfl) (mS s l)⟩::DK s l
variable {s l}
theorem He{n:Nat}(h:HX s l n):bh Tryz.prog (RT s l n):=aq (eD (by kernel_rfl) h) (aq (eD (by kernel_rfl) (mS s l)) (mF s l))
variable (s l)
noncomputable def sLs(n:Nat)(h:HX s l n)(b:Bool)(u:Value):bg:=jA Tryz.prog (RT s l n) (diE s l n h) Tryz.f96 3 [([0,1,1],[0,1,4])] [] [some .pv] b u
abbrev obXs(acc:List Ex):Ob:=⟨48,[.a 0 .pv (Ex.ak acc)]⟩
theorem O3(n:Nat)(h:HX s l n)(t:ByteArray)(ins:Bool)(ns:List ByteArray)(R:XR (List Ex)):∀(k:Nat)(acc:List Ex)(i:Int),oe s l (bQ s l n) t k acc i=R->iy l i->(l.length:Int)-i<k->12*((l.length:Int)-i)+10<n->(acc.length:Int)<=i->
 aJ (sLs s l n h R.die (aU R.e R.a)) (iW R.die (.p (.c (.rs 4 (Ex.ak R.v)))) (pO s l R.i ins ns)) [0,1,1] (fr [(0,pA),(1,sS t),(4,.p (.c (.sl 3 0 acc.length 4)))]) (.ofList [U8 s l i ins ns.length,bC,nZ ns,obXs acc])
 | 0,acc,i,e,hi,hk,hn,hc=>by
   obtain⟨h0,h1,h2⟩:=hi;omega
 | k + 1, acc, i, e, hi, hk, hn, hc => by
   refine ct (He h) (by kernel_rfl) 100 ?_;apply of_eq (q:=let q1:=(bQ s l n (1:Int) i);let q2:=Ob.mk 42 [Fd.m D.str (D.int .i64) cF];let q3:=(List.drop (0:Nat) (Ex.ak acc));let q4:=(cO l q1.i t);let q5:=(ByteArray.mk #[(44:UInt8)]);(bD s l s (aE l) (q2) ns.length ns i/\iJ l n (1:Int) i)/\(q1.die=true->R.die=true/\aU q1.e q1.a=aU R.e R.a)/\(q1.die=false->(bD s l s (aE l) (q2) ns.length ns i/\iJ l n (1:Int) i/\q1.die=false)/\((0:Nat)+acc.length*4<=(Ex.ak acc).length/\(acc.length+1)*56<=140737488355328)/\(bD s l s (aE l) (q2) ns.length ns q1.i/\True/\false=false)/\(aA l q1.i t=true->(0:Nat)+(acc.length+1)*4<=(List.take (acc.length*4) q3++[PV.int q1.v.k,PV.int q1.v.n,PV.str q1.v.t,PV.aZ (4:Nat) (Ex.ak q1.v.l)]).length/\R.die=false/\ax [V.c (W.rs (4:Nat) (List.take ((acc.length+1)*4) (List.drop (0:Nat) (List.take (acc.length*4) q3++[PV.int q1.v.k,PV.int q1.v.n,PV.str q1.v.t,PV.aZ (4:Nat) (Ex.ak q1.v.l)]))))]=aP (W.rs (4:Nat) (Ex.ak R.v))/\[Ob.mk 63 [Fd.c (W.str s),Fd.c (W.rs (4:Nat) (aE l)),fI q4,Fd.c (W.mp (1:Nat)),Fd.c (W.bool ins),fS 2 0 ns.length],q2,Ob.mk 9 [Fd.a 0 D.str ns]]=pO s l R.i ins ns)/\(aA l q1.i t=false->(bD s l s (aE l) (q2) ns.length ns q4/\True)/\((!aA l q4 q5)=true->R.die=true/\aU (11:Int) (dn s l q4)=aU R.e R.a)/\((!aA l q4 q5)=false->(bD s l s (aE l) (q2) ns.length ns q4/\True/\(!aA l q4 q5)=false)/\aJ (sLs s l n h R.die (aU R.e R.a)) (iW R.die (aP (W.rs (4:Nat) (Ex.ak R.v))) (pO s l R.i ins ns)) [0,1,1] (fr [(0,aR 0 0),(1,aP (W.str t)),(4,aP (W.sl 3 0 (acc.length+1) 4))]) (af.ofList [Ob.mk 63 [Fd.c (W.str s),Fd.c (W.rs (4:Nat) (aE l)),fI (cO l q1.i t+1),Fd.c (W.mp (1:Nat)),Fd.c (W.bool ins),fS 2 0 ns.length],q2,Ob.mk 9 [Fd.a 0 D.str ns],Ob.mk 48 [Fd.a 0 D.pv (List.take (acc.length*4) q3++[PV.int q1.v.k,PV.int q1.v.n,PV.str q1.v.t,PV.aZ (4:Nat) (Ex.ak q1.v.l)])]]))))) (by kernel_rfl)
   try simp only[sL]
   have ha:=nF (s:=s) (l:=l) n 1 i;have hx:iJ l n 1 i:=⟨by omega,by omega,by omega⟩;have el:List.take (acc.length*4) (Ex.ak acc)=Ex.ak acc:=List.take_of_length_le (by rw[Ex.dQ];exact Nat.le_refl _);rw[el];have e2:Ex.ak acc++[PV.int (bQ s l n 1 i).v.k,PV.int (bQ s l n 1 i).v.n,PV.str (bQ s l n 1 i).v.t,PV.aZ 4 (Ex.ak (bQ s l n 1 i).v.l)]=Ex.ak (acc++[(bQ s l n 1 i).v]):=by
    rw[Ex.ur,Ex.fA,Ex.cg]
   rw[e2];have el2:List.take ((acc.length+1)*4) (Ex.ak (acc++[(bQ s l n 1 i).v]))=Ex.ak (acc++[(bQ s l n 1 i).v]):=List.take_of_length_le (by rw[Ex.dQ,List.length_append];exact Nat.le_refl _);rw[el2];unfold oe at e;refine⟨⟨pin hi,hx⟩,fun hd=>?_,fun hd=>?_⟩;rw[hd] at e;subst e;exact⟨rfl,rfl⟩;rw[hd] at e;simp only[cond_false] at e;obtain⟨a1,a2⟩:=ha hd hi.1;have hi2:iy l (bQ s l n 1 i).i:=⟨by have:=hi.1;omega,a2,hi.2.2⟩;refine⟨⟨pin hi,hx,hd⟩,⟨by rw[Ex.dQ];exact Nat.le_refl _,?_⟩,pin hi2,fun h1=>?_,fun h1=>?_⟩;have:=hi.2;omega;rw[h1] at e;simp only[cond_true] at e;subst e;rw[jv h1];exact⟨by rw[Ex.dQ,List.length_append];exact Nat.le_refl _,rfl,rfl,rfl⟩;rw[h1] at e;simp only[cond_false] at e;rw[ju h1];refine⟨pin hi2,fun h2=>?_,fun h2=>?_⟩;rw[h2] at e;subst e;exact⟨rfl,rfl⟩;rw[h2] at e;have h3:=cU h2;have ih:=O3 n h t ins ns R k (acc++[(bQ s l n 1 i).v]) ((bQ s l n 1 i).i+1) e ⟨by have:=hi2.1;omega,by omega,hi.2.2⟩ (by omega) (by omega) (by simp only[List.length_append,List.length_singleton];omega);rw[List.length_append,List.length_singleton] at ih;exact⟨⟨pin hi2,h2⟩,ih⟩
noncomputable def J4(n:Nat):jk:=fun aL i ins ns=>match aL with
 | [.p (.c (.str t))]=>some { c:=12*((l.length:Int)-i)+10<n,die:=(dM s l (bQ s l n) t i).die,e:=(dM s l (bQ s l n) t i).e,a:=(dM s l (bQ s l n) t i).a,r:=.p (.c (.rs 4 (Ex.ak (dM s l (bQ s l n) t i).v))),i:=(dM s l (bQ s l n) t i).i,ins:=ins,ns:=ns }
 | _=>none
theorem Jt(n:Nat)(h:HX s l n):nu 96 s l (J4 s l n):=by
 intro aL i ins ns p e hi hc;unfold J4 at e;split at e;rename_i t;cases e;have hc:12*((l.length:Int)-i)+10<n:=hc;refine jb (dies:=diE s l n h) (aK:=[([0,1,1],[0,1,4])]) (eZ:=[]) (fz:=[some .pv]) (He h) Tryz.func96 (by kernel_rfl) 3 (by kernel_rfl) 100 ?_;apply of_eq (q:=let q1:=(dM s l (bQ s l n) t i);let q2:=(12:Int)*((l.length:Int)-i)+10<(n:Int);let q3:=(W.rs (4:Nat) (Ex.ak q1.v));let q4:=(RP.mk (q2) q1.die q1.e q1.a (aP q3) q1.i ins ns);let q5:=Ob.mk 63 [Fd.c (W.str s),Fd.c (W.rs (4:Nat) (aE l)),fI (cO l i t),Fd.c (W.mp (1:Nat)),Fd.c (W.bool ins),fS 2 0 ns.length];let q6:=Ob.mk 42 [Fd.m D.str (D.int .i64) cF];(bD s l s (aE l) (q6) ns.length ns i/\True/\false=false)/\(aA l i t=true->(0:Nat)+0*4<=0/\q1.die=false/\ax [V.c (W.rs (4:Nat) (List.take ((0:Nat)*4) (List.drop (0:Nat) [])))]=aP q3/\[q5,q6,Ob.mk 9 [Fd.a 0 D.str ns]]=pO s l q1.i ins ns)/\(aA l i t=false->aJ (jA Tryz.prog (RT s l n) (diE s l n h) Tryz.f96 (3:Nat) [([0,1,1],[0,1,4])] [] [some D.pv] q4.die (aU q4.e q4.a)) (iW q4.die q4.r (pO s l q4.i q4.ins q4.ns)) [0,1,1] (fr [(0,aR 0 0),(1,aP (W.str t)),(4,aP (W.sl 3 0 0 4))]) (af.ofList [q5,q6,Ob.mk 9 [Fd.a 0 D.str ns],Ob.mk 48 [Fd.a 0 D.pv []]]))) (by kernel_rfl)
 try simp only[sL]
 have hL:∀ b,aA l i t=b->dM s l (bQ s l n) t i=bif b then cA [] (i+1) else oe s l (bQ s l n) t (l.length+1) [] i:=by rintro b rfl;rfl
 refine⟨pin hi,fun h1=>?_,fun h1=>?_⟩;rw[hL _ h1,jv h1];exact⟨rfl,by simp only[cond_true,cA,Ex.cg];rfl,rfl⟩;rw[hL _ h1,ju h1];have:=O3 s l n h t ins ns _ (l.length+1) [] i rfl hi (by have:=hi.1;omega) hc (by exact hi.1);unfold obXs at this;rw[Ex.cg] at this;exact this;cases e
end
section
variable (s:ByteArray) (l:List Tok)
noncomputable def Ml(n:Nat):bX:=(96,ga s l [true,false] (J4 s l n))::(59,ga s l [true] (wj s l))::RT s l n
noncomputable def Vf(n:Nat)(h:HX s l n):List { x:FuncId×gq // fR Tryz.prog x.1 x.2 }:=⟨(96,kV s l [true,false] (J4 s l n)),iP (by kernel_rfl) (Jt s l n h)⟩::⟨(59,kV s l [true] (wj s l)),iP (by kernel_rfl) (qF s l)⟩::diE s l n h
variable {s l}
theorem O4{n:Nat}(h:HX s l n):bh Tryz.prog (Ml s l n):=aq (eD (by kernel_rfl) (Jt s l n h)) (aq (eD (by kernel_rfl) (qF s l)) (He h))
variable (s l)
noncomputable def J5(n:Nat):jk:=fun aL i ins ns=>match aL with
 | []=>some (RS (12*((l.length:Int)-i)<n) (gB s l (bQ s l n) i) ins ns)
 | _=>none
theorem Ju(n:Nat)(h:HX s l n):nu 83 s l (J5 s l n):=by
 intro aL i ins ns p e hi hc;unfold J5 at e;split at e;cases e;have hc:12*((l.length:Int)-i)<n:=hc;refine jb (dies:=Vf s l n h) (aK:=[]) (eZ:=[]) (fz:=[]) (O4 h) Tryz.func83 (by kernel_rfl) 3 (by kernel_rfl) 400 ?_;apply of_eq (q:=let q3:=(gB s l (bQ s l n) i);let q7:=Ob.mk 42 [Fd.m D.str (D.int .i64) cF];let bM:=(ByteArray.mk #[(102:UInt8),(97:UInt8),(108:UInt8),(115:UInt8),(101:UInt8)]);let bp:=(aE l);let bW:=(ByteArray.mk #[(40:UInt8)]);let dO:=(ByteArray.mk #[(91:UInt8)]);let fe:=(W.rs (4:Nat) bp);let gP:=(ByteArray.mk #[(116:UInt8),(114:UInt8),(117:UInt8),(101:UInt8)]);let gI:=Ob.mk 9 [Fd.a 0 D.str ns];let kW:=Fd.c (W.mp (1:Nat));let gK:=(R1.pure (Cd.t.and Cd.t) (aP fe));let lG:=(ByteArray.mk #[(41:UInt8)]);let iz:=Fd.c (W.bool ins);let gL:=fS 2 0 ns.length;let jZ:=True/\false=false;let gQ:=(ByteArray.mk #[]);let j7:=q3.die=false;let fC:=(exV q3.v);let jO:=Fd.c (W.str s);let q4:=(cO l i bW);let aQ:=(bQ s l n (1:Int) q4);let jP:=(cO l q4 dO);let pz:=(12:Int)*((l.length:Int)-cO l q4 dO)+10<(n:Int);let q6:=(cO l jP gP);let q8:=(dM s l (bQ s l n) (ByteArray.mk #[(93:UInt8)]) jP);let BW:=decide ((↑(bp.length/4):Int)<=cO l q6 bM);let q1:=(cO l q6 bM);let q2:=(cO l q6 bM+1);let q9:=(dM s l (bQ s l n) lG (cO l q2 bW));let fM:=[Ob.mk 63 [jO,Fd.c fe,fI (IntKind.i64.wrap q2),kW,iz,gL],q7,gI]=pO s l q3.i ins ns;let bY:=(PV.str gQ).like (bp.getD (q1.toNat*4+1) (PV.bool false))=true;let gH:=(PV.int (0:Int)).like (bp.getD (q1.toNat*4+1+1+1) (PV.bool false))=true;let fZ:=(PV.int (0:Int)).like (bp.getD (q1.toNat*4+1+1) (PV.bool false))=true;let dL:=q1.toNat*4+4<=bp.length;let mT:=(R1.pure (Cd.t.and Cd.t) (nI q1));let iB:=(q1.toNat*4);let yc:=(12:Int)*((l.length:Int)-cO l q2 bW)+10<(n:Int);let eC:=(A.p (V.agg (nW bp iB (shapes ((jA Tryz.prog (Ml s l n) (Vf s l n h) Tryz.f83 (3:Nat) [] [] [] q3.die (aU q3.e q3.a)).env (iW q3.die (A.p fC) (pO s l q3.i ins ns))).P (100:Nat))).snd));let cu:=(PV.int (0:Int)).like (bp.getD iB (PV.bool false))=true;let q5:=(R1.pure (Cd.t.and ((Cd.p (dL)).and (nW bp iB (shapes ((jA Tryz.prog (Ml s l n) (Vf s l n h) Tryz.f83 (3:Nat) [] [] [] q3.die (aU q3.e q3.a)).env (iW q3.die (A.p fC) (pO s l q3.i ins ns))).P (100:Nat))).fst)) eC).v=(R1.pure (Cd.t.and ((Cd.p (dL)).and (nW bp iB (shapes ((jA Tryz.prog (Ml s l n) (Vf s l n h) Tryz.f83 (3:Nat) [] [] [] q3.die (aU q3.e q3.a)).env (iW q3.die (A.p fC) (pO s l q3.i ins ns))).P (100:Nat))).fst)) eC).v;(bD s l s bp (q7) ns.length ns i/\jZ)/\(aA l i bW=true->(bD s l s bp (q7) ns.length ns q4/\iJ l n (1:Int) q4)/\(aQ.die=true->q3.die=true/\aU aQ.e aQ.a=aU q3.e q3.a)/\(aQ.die=false->(bD s l s bp (q7) ns.length ns q4/\iJ l n (1:Int) q4/\aQ.die=false)/\(bD s l s bp (q7) ns.length ns aQ.i/\True)/\((!aA l aQ.i lG)=true->q3.die=true/\aU (11:Int) (dn s l aQ.i)=aU q3.e q3.a)/\((!aA l aQ.i lG)=false->(bD s l s bp (q7) ns.length ns aQ.i/\True/\(!aA l aQ.i lG)=false)/\j7/\ax [V.agg [wI aQ.v.k,wI aQ.v.n,W.str aQ.v.t,W.rs (4:Nat) (Ex.ak aQ.v.l)]]=A.p fC/\[Ob.mk 63 [jO,Fd.c fe,fI (aQ.i+1),kW,iz,gL],q7,gI]=pO s l q3.i ins ns)))/\(aA l i bW=false->(bD s l s bp (q7) ns.length ns q4/\jZ)/\(aA l q4 dO=true->(bD s l s bp (q7) ns.length ns jP/\pz)/\(q8.die=true->q3.die=true/\aU q8.e q8.a=aU q3.e q3.a)/\(q8.die=false->(bD s l s bp (q7) ns.length ns jP/\pz/\q8.die=false)/\j7/\ax [V.agg [wI (5),wI (0),W.str gQ,W.rs (4:Nat) (Ex.ak q8.v)]]=A.p fC/\[Ob.mk 63 [jO,Fd.c fe,fI q8.i,kW,iz,gL],q7,gI]=pO s l q3.i ins ns))/\(aA l q4 dO=false->(bD s l s bp (q7) ns.length ns jP/\jZ)/\(aA l jP gP=true->j7/\ax [V.agg [wI (3),wI (1),W.str gQ,W.rs (4:Nat) []]]=A.p fC/\[Ob.mk 63 [jO,Fd.c fe,fI q6,kW,iz,gL],q7,gI]=pO s l q3.i ins ns)/\(aA l jP gP=false->(bD s l s bp (q7) ns.length ns q6/\jZ)/\(aA l q6 bM=true->j7/\ax [V.agg [wI (3),wI (0),W.str gQ,W.rs (4:Nat) []]]=A.p fC/\[Ob.mk 63 [jO,Fd.c fe,fI q1,kW,iz,gL],q7,gI]=pO s l q3.i ins ns)/\(aA l q6 bM=false->(BW=true->(bD s l s bp (q7) ns.length ns q1/\True)/\(true=true->q3.die=true/\aU (11:Int) (dn s l q1)=aU q3.e q3.a)/\(true=false->False))/\(BW=false->((0:Int)<=cO l q6 bM/\q1.toNat*4<bp.length)/\dL/\cu/\bY/\fZ/\gH/\gK.v=gK.v/\gK.v=gK.v/\mT.v=mT.v/\mT.v=mT.v/\dL/\cu/\bY/\fZ/\gH/\q5/\dL/\cu/\bY/\fZ/\gH/\q5/\(decide ((bp.getD iB (PV.bool false)).asInt=3)=true->j7/\ax [V.agg [wI (1),(PV.int (0:Int)).at (bp.getD (q1.toNat*4+1+1) (PV.bool false)),W.str gQ,W.rs (4:Nat) []]]=A.p fC/\fM)/\(decide ((bp.getD iB (PV.bool false)).asInt=3)=false->(decide ((bp.getD iB (PV.bool false)).asInt=4)=true->j7/\ax [V.agg [wI (2),wI (0),(PV.str gQ).at (bp.getD (q1.toNat*4+1) (PV.bool false)),W.rs (4:Nat) []]]=A.p fC/\fM)/\(decide ((bp.getD iB (PV.bool false)).asInt=4)=false->(bD s l s bp (q7) ns.length ns q1/\True)/\((!eY l q1)=true->q3.die=true/\aU (11:Int) (dn s l q1)=aU q3.e q3.a)/\((!eY l q1)=false->(bD s l s bp (q7) ns.length ns q1/\True/\(!eY l q1)=false)/\(bD s l s bp (q7) ns.length ns q2/\jZ)/\(aA l q2 bW=true->(bD s l s bp (q7) ns.length ns (cO l q2 bW)/\yc)/\(q9.die=true->q3.die=true/\aU q9.e q9.a=aU q3.e q3.a)/\(q9.die=false->(bD s l s bp (q7) ns.length ns (cO l q2 bW)/\yc/\q9.die=false)/\j7/\ax [V.agg [wI (6),wI (0),W.str (aM l q1).text,W.rs (4:Nat) (Ex.ak q9.v)]]=A.p fC/\[Ob.mk 63 [jO,Fd.c fe,fI q9.i,kW,iz,gL],q7,gI]=pO s l q3.i ins ns))/\(aA l q2 bW=false->j7/\ax [V.agg [wI (4),wI (0),W.str (aM l q1).text,W.rs (4:Nat) []]]=A.p fC/\[Ob.mk 63 [jO,Fd.c fe,fI (cO l q2 bW),kW,iz,gL],q7,gI]=pO s l q3.i ins ns)))))))))) (by kernel_rfl)
 try simp only[sL]
 generalize hR:gB s l (bQ s l n) i=R;unfold gB at hR;rw[Js];have h0:=hi.1;have h9:=hi.2.2;have up:∀{j:Int},0<=j->j<l.length->iy l (j+1):=fun h h'=>⟨by omega,by omega,h9⟩;refine⟨pin hi,fun h1=>?_,fun h1=>?_⟩;have hlt:=cU h1;rw[h1] at hR;simp only[cond_true] at hR;rw[jv h1];have hx:iJ l n 1 (i+1):=⟨by omega,by omega,by omega⟩;refine⟨⟨pin (up h0 hlt),hx⟩,fun hd=>?_,fun hd=>?_⟩;rw[hd] at hR;simp only[cond_true] at hR;subst hR;exact⟨hd,rfl⟩;rw[hd] at hR;simp only[cond_false] at hR;obtain⟨a1,a2⟩:=nF (s:=s) (l:=l) n 1 (i+1) hd (by omega);have hi2:iy l (bQ s l n 1 (i+1)).i:=⟨by omega,a2,h9⟩;refine⟨⟨pin (up h0 hlt),hx,hd⟩,pin hi2,fun h2=>?_,fun h2=>?_⟩;rw[h2] at hR;subst hR;exact⟨rfl,rfl⟩;rw[h2] at hR;subst hR;exact⟨⟨pin hi2,h2⟩,rfl,rfl,rfl⟩;rw[h1] at hR;simp only[cond_false] at hR;rw[ju h1];refine⟨pin hi,fun h2=>?_,fun h2=>?_⟩;have hlt:=cU h2;rw[h2] at hR;simp only[cond_true] at hR;rw[jv h2];subst hR;exact⟨⟨pin (up h0 hlt),by omega⟩,fun hd=>⟨hd,rfl⟩,fun hd=>⟨⟨pin (up h0 hlt),by omega,hd⟩,hd,rfl,rfl⟩⟩;rw[h2] at hR;simp only[cond_false] at hR;rw[ju h2];refine⟨pin hi,fun h3=>?_,fun h3=>?_⟩;rw[h3] at hR;rw[jv h3];subst hR;exact⟨rfl,by simp only[cond_true,cA,exV,Ex.l,Ex.cg];rfl,rfl⟩;rw[h3] at hR;simp only[cond_false] at hR;rw[ju h3];refine⟨pin hi,fun h4=>?_,fun h4=>?_⟩;rw[h4] at hR;rw[jv h4];subst hR;exact⟨rfl,by simp only[cond_true,cA,exV,Ex.l,Ex.cg];rfl,rfl⟩;rw[h4] at hR;simp only[cond_false] at hR;rw[ju h4];refine⟨fun hl=>⟨pin hi,fun _=>?_,fun h=>(by cases h)⟩,fun hl=>?_⟩;rw[decide_eq_true hl] at hR;subst hR;exact⟨rfl,rfl⟩;have e0:(aE l).getD (i.toNat*4) (.bool false)=.int (aM l i).kind:=Ym hi hl;have e2:(aE l).getD (i.toNat*4+1+1) (.bool false)=.int (aM l i).n:=tkg2 hi hl;have e3:(aE l).getD (i.toNat*4+1+1+1) (.bool false)=.int (aM l i).at_:=tkg3 hi hl
 have g0:=cT hi hl 0 (by omega);have g4:i.toNat*4+4<=(aE l).length:=cT hi hl 3 (by omega);rw[e0,e2,e3,RN hi hl,wrap64 (by omega) (by omega)];rw[decide_eq_false (by omega)] at hR;simp only[cond_false] at hR;refine⟨⟨h0,g0⟩,g4,rfl,rfl,rfl,rfl,g4,rfl,rfl,rfl,rfl,g4,rfl,rfl,rfl,rfl,fun h5=>?_,fun h5=>⟨fun h6=>?_,fun h6=>?_⟩⟩;have h5:(aM l i).kind=3:=h5;rw[decide_eq_true h5] at hR;subst hR;exact⟨rfl,by simp only[cond_true,cA,exV,Ex.l,Ex.cg];rfl,rfl⟩;have h5:¬(aM l i).kind=3:=h5;have h6:(aM l i).kind=4:=h6;rw[decide_eq_false h5,decide_eq_true h6] at hR;subst hR;exact⟨rfl,by simp only[cond_true,cond_false,cA,exV,Ex.l,Ex.cg];rfl,rfl⟩;have h5:¬(aM l i).kind=3:=h5;have h6:¬(aM l i).kind=4:=h6;rw[decide_eq_false h5,decide_eq_false h6] at hR;simp only[cond_false] at hR;refine⟨pin hi,fun h7=>?_,fun h7=>?_⟩;rw[h7] at hR;subst hR;exact⟨rfl,rfl⟩;rw[h7] at hR;simp only[cond_true] at hR;refine⟨⟨pin hi,h7⟩,pin (up h0 hl),fun h8=>?_,fun h8=>?_⟩;have hlt:=cU h8;have hc2:12*((l.length:Int)-(i+1+1))+10<n:=by omega
 have u2:=up (j:=i+1) (by omega) hlt;rw[h8] at hR;simp only[cond_true] at hR;rw[jv h8];subst hR;exact⟨⟨pin u2,hc2⟩,fun hd=>⟨hd,rfl⟩,fun hd=>⟨⟨pin u2,hc2,hd⟩,hd,rfl,rfl⟩⟩;rw[h8] at hR;rw[ju h8];subst hR;exact⟨rfl,by simp only[cond_false,cA,exV,Ex.l,Ex.cg];rfl,rfl⟩;cases e
end
section
variable (s:ByteArray) (l:List Tok)
noncomputable def RU(n:Nat):bX:=(83,ga s l [true] (J5 s l n))::(82,ga s l [true,false] (gOp l))::Ml s l n
noncomputable def diG(n:Nat)(h:HX s l n):List { x:FuncId×gq // fR Tryz.prog x.1 x.2 }:=⟨(83,kV s l [true] (J5 s l n)),iP (by kernel_rfl) (Ju s l n h)⟩::Vf s l n h
variable {s l}
theorem Hf{n:Nat}(h:HX s l n):bh Tryz.prog (RU s l n):=aq (eD (by kernel_rfl) (Ju s l n h)) (aq (eD (by kernel_rfl) (op_both s l)) (O4 h))
variable (s l)
abbrev RV:List (List Nat×List Nat):=[([0,0,1,0,1,1,1,1,1,0,1,0,1],[0,4,9]),([0,1,1,1],[0,1,4,11])]
noncomputable def sEx(n:Nat)(h:HX s l n)(b:Bool)(u:Value):bg:=jA Tryz.prog (RU s l n) (diG s l n h) Tryz.f48 3 RV [] [] b u
abbrev obE(x:Ex):Ob:=⟨48,[.c (.int .i64 x.k),.c (.int .i64 x.n),.c (.str x.t),.c (.rs 4 (Ex.ak x.l))]⟩
abbrev obZ:Ob:=⟨48,[.c (.int .i64 0),.c (.int .i64 0),.c (.str eS),.c (.rs 4 [])]⟩
theorem pvl1(x:Ex):[PV.int x.k,.int x.n,.str x.t,.aZ 4 (Ex.ak x.l)]=Ex.ak [x]:=by rw[Ex.fA,Ex.cg]
theorem Yq(x y:Ex):[PV.int x.k,.int x.n,.str x.t,.aZ 4 (Ex.ak x.l),.int y.k,.int y.n,.str y.t,.aZ 4 (Ex.ak y.l)]=Ex.ak [x,y]:=by rw[Ex.fA,Ex.fA,Ex.cg]
theorem O5(n:Nat)(h:HX s l n)(lv:Int)(hlv:1<=lv/\lv<=6)(ins:Bool)(ns:List ByteArray)(R:XR Ex):∀(k:Nat)(x:Ex)(i:Int),mq s l (bQ s l n) lv k x i=R->iy l i->(l.length:Int)-i<k->12*((l.length:Int)-i)<n->
 aJ (sEx s l n h R.die (aU R.e R.a)) (iW R.die (.p (exV R.v)) (pO s l R.i ins ns)) [0,1,1,1] (fr [(0,pA),(1,.p (.c (.int .i64 lv))),(4,.p (.c (.ptr 3 0))),(11,.p (.c (.ptr 4 0)))]) (.ofList [U8 s l i ins ns.length,bC,nZ ns,obZ,obE x])
 | 0,x,i,e,hi,hk,hn=>by
   obtain⟨h0,h1,h2⟩:=hi;omega
 | k + 1, x, i, e, hi, hk, hn => by
   refine ct (Hf h) (by kernel_rfl) 200 ?_;apply of_eq (q:=let q2:=(IntKind.i64.wrap (lv+1));let q3:=Ob.mk 42 [Fd.m D.str (D.int .i64) cF];let q6:=(4:Nat);let q4:=Ob.mk 63 [Fd.c (W.str s),Fd.c (W.rs q6 (aE l)),fI (bQ s l n q2 (if cY l i lv=true then i+1 else i)).i,Fd.c (W.mp (1:Nat)),Fd.c (W.bool ins),fS 2 0 ns.length];let q5:=(A.p (V.agg (List.take q6 (List.drop (0:Nat) (obE x).cells))));let q1:=(R1.pure Cd.t q5).v=(R1.pure Cd.t q5).v;(bD s l s (aE l) (q3) ns.length ns i/\True/\false=false)/\((!cY l i lv)=true->R.die=false/\ax [V.agg [wI x.k,wI x.n,W.str x.t,W.rs q6 (Ex.ak x.l)]]=A.p (exV R.v)/\[Ob.mk 63 [Fd.c (W.str s),Fd.c (W.rs q6 (aE l)),fI (if cY l i lv=true then i+1 else i),Fd.c (W.mp (1:Nat)),Fd.c (W.bool ins),fS 2 0 ns.length],q3,Ob.mk 9 [Fd.a 0 D.str ns]]=pO s l R.i ins ns)/\((!cY l i lv)=false->(bD s l s (aE l) (q3) ns.length ns (if cY l i lv=true then i+1 else i)/\iJ l n q2 (if cY l i lv=true then i+1 else i))/\(bQ s l n q2 (if cY l i lv=true then i+1 else i)).die=true/\(R.die=true/\aU (bQ s l n q2 (if cY l i lv=true then i+1 else i)).e (bQ s l n q2 (if cY l i lv=true then i+1 else i)).a=aU R.e R.a)/\q1/\q1/\True∨(bD s l s (aE l) (q3) ns.length ns (if cY l i lv=true then i+1 else i)/\iJ l n q2 (if cY l i lv=true then i+1 else i)/\(bQ s l n q2 (if cY l i lv=true then i+1 else i)).die=false)/\q1/\q1/\(decide (lv=4)=true->R.die=false/\ax [V.agg [wI (9),wI (0),W.str (if cY l i lv=true then(aM l i).text else eS),W.rs q6 [PV.int x.k,PV.int x.n,PV.str x.t,PV.aZ q6 (Ex.ak x.l),PV.int (bQ s l n q2 (if cY l i lv=true then i+1 else i)).v.k,PV.int (bQ s l n q2 (if cY l i lv=true then i+1 else i)).v.n,PV.str (bQ s l n q2 (if cY l i lv=true then i+1 else i)).v.t,PV.aZ q6 (Ex.ak (bQ s l n q2 (if cY l i lv=true then i+1 else i)).v.l)]]]=A.p (exV R.v)/\[q4,q3,Ob.mk 9 [Fd.a 0 D.str ns]]=pO s l R.i ins ns)/\(decide (lv=4)=false->aJ (sEx s l n h R.die (aU R.e R.a)) (iW R.die (A.p (exV R.v)) (pO s l R.i ins ns)) [0,1,1,1] (fr [(0,aR 0 0),(1,nI lv),(4,aR 3 0),(11,aR 4 0)]) (af.ofList [q4,q3,Ob.mk 9 [Fd.a 0 D.str ns],Ob.mk 48 [fI (0),fI (0),Fd.c (W.str eS),Fd.c (W.rs q6 [])],Ob.mk 48 [fI (9),fI (0),Fd.c (W.str (if cY l i lv=true then(aM l i).text else eS)),Fd.c (W.rs q6 [PV.int x.k,PV.int x.n,PV.str x.t,PV.aZ q6 (Ex.ak x.l),PV.int (bQ s l n q2 (if cY l i lv=true then i+1 else i)).v.k,PV.int (bQ s l n q2 (if cY l i lv=true then i+1 else i)).v.n,PV.str (bQ s l n q2 (if cY l i lv=true then i+1 else i)).v.t,PV.aZ q6 (Ex.ak (bQ s l n q2 (if cY l i lv=true then i+1 else i)).v.l)])]])))) (by kernel_rfl)
   try simp only[sL]
   rw[Yq];have h0:=hi.1;have h9:=hi.2.2;unfold mq at e;refine⟨pin hi,fun h1=>?_,fun h1=>?_⟩;rw[h1] at e ⊢;subst e;exact⟨rfl,rfl,rfl⟩;have hlt:=op_lt h1;rw[h1] at e;simp only[cond_true] at e;rw[if_pos h1,if_pos h1,wrap64 (by omega) (by omega)];have hi1:iy l (i+1):=⟨by omega,by omega,h9⟩;have hx:iJ l n (lv+1) (i+1):=⟨by omega,by omega,by omega⟩;cases hd:(bQ s l n (lv+1) (i+1)).die with
   | true=>rw[hd] at e;simp only[cond_true] at e;subst e;exact .inl ⟨⟨pin hi1,hx⟩,rfl,hd,rfl⟩
   | false =>
   rw[hd] at e;simp only[cond_false] at e;obtain⟨a1,a2⟩:=nF (s:=s) (l:=l) n (lv+1) (i+1) hd (by omega);refine .inr ⟨⟨pin hi1,hx,rfl⟩,fun h4=>?_,fun h4=>?_⟩;rw[decide_eq_true h4] at e;subst e;exact⟨rfl,rfl,rfl⟩;rw[decide_eq_false h4] at e;simp only[cond_false] at e;exact O5 n h lv hlv ins ns R k _ _ e ⟨by omega,a2,h9⟩ (by omega) (by omega)
theorem O6(n:Nat)(h:HX s l n)(ins:Bool)(ns:List ByteArray)(R:XR Ex):∀(k:Nat)(x:Ex)(i:Int),pW s l (bQ s l n) k x i=R->iy l i->(l.length:Int)-i<k->12*((l.length:Int)-i)<n->
 aJ (sEx s l n h R.die (aU R.e R.a)) (iW R.die (.p (exV R.v)) (pO s l R.i ins ns)) [0,0,1,0,1,1,1,1,1,0,1,0,1] (fr [(0,pA),(4,.p (.c (.ptr 3 0))),(9,.p (.c (.ptr 4 0)))]) (.ofList [U8 s l i ins ns.length,bC,nZ ns,obZ,obE x])
 | 0,x,i,e,hi,hk,hn=>by
   obtain⟨h0,h1,h2⟩:=hi;omega
 | k + 1, x, i, e, hi, hk, hn => by
   refine ct (Hf h) (by kernel_rfl) 200 ?_;apply of_eq (q:=let q2:=Ob.mk 42 [Fd.m D.str (D.int .i64) cF];let q3:=(ByteArray.mk #[(91:UInt8)]);let q4:=(ByteArray.mk #[(93:UInt8)]);let q1:=(bQ s l n (1:Int) (cO l i q3));(bD s l s (aE l) (q2) ns.length ns i/\True/\false=false)/\(aA l i q3=true->(bD s l s (aE l) (q2) ns.length ns (cO l i q3)/\iJ l n (1:Int) (cO l i q3))/\(q1.die=true->R.die=true/\aU q1.e q1.a=aU R.e R.a)/\(q1.die=false->(bD s l s (aE l) (q2) ns.length ns (cO l i q3)/\iJ l n (1:Int) (cO l i q3)/\q1.die=false)/\(bD s l s (aE l) (q2) ns.length ns q1.i/\True)/\((!aA l q1.i q4)=true->R.die=true/\aU (11:Int) (dn s l q1.i)=aU R.e R.a)/\((!aA l q1.i q4)=false->(bD s l s (aE l) (q2) ns.length ns q1.i/\True/\(!aA l q1.i q4)=false)/\aJ (sEx s l n h R.die (aU R.e R.a)) (iW R.die (A.p (exV R.v)) (pO s l R.i ins ns)) [0,0,1,0,1,1,1,1,1,0,1,0,1] (fr [(0,aR 0 0),(4,aR 3 0),(9,aR 4 0)]) (af.ofList [Ob.mk 63 [Fd.c (W.str s),Fd.c (W.rs (4:Nat) (aE l)),fI (q1.i+1),Fd.c (W.mp (1:Nat)),Fd.c (W.bool ins),fS 2 0 ns.length],q2,Ob.mk 9 [Fd.a 0 D.str ns],Ob.mk 48 [fI (0),fI (0),Fd.c (W.str eS),Fd.c (W.rs (4:Nat) [])],Ob.mk 48 [fI (7),fI (0),Fd.c (W.str (ByteArray.mk #[])),Fd.c (W.rs (4:Nat) [PV.int x.k,PV.int x.n,PV.str x.t,PV.aZ (4:Nat) (Ex.ak x.l),PV.int q1.v.k,PV.int q1.v.n,PV.str q1.v.t,PV.aZ (4:Nat) (Ex.ak q1.v.l)])]]))))/\(aA l i q3=false->R.die=false/\ax [V.agg [wI x.k,wI x.n,W.str x.t,W.rs (4:Nat) (Ex.ak x.l)]]=A.p (exV R.v)/\[Ob.mk 63 [Fd.c (W.str s),Fd.c (W.rs (4:Nat) (aE l)),fI (cO l i q3),Fd.c (W.mp (1:Nat)),Fd.c (W.bool ins),fS 2 0 ns.length],q2,Ob.mk 9 [Fd.a 0 D.str ns]]=pO s l R.i ins ns)) (by kernel_rfl)
   try simp only[sL]
   rw[Yq];have h0:=hi.1;have h9:=hi.2.2;unfold pW at e;refine⟨pin hi,fun h1=>?_,fun h1=>?_⟩;have hlt:=cU h1;rw[h1] at e;simp only[cond_true] at e;rw[jv h1];have hi1:iy l (i+1):=⟨by omega,by omega,h9⟩;have hx:iJ l n 1 (i+1):=⟨by omega,by omega,by omega⟩;refine⟨⟨pin hi1,hx⟩,fun hd=>?_,fun hd=>?_⟩;rw[hd] at e;simp only[cond_true] at e;subst e;exact⟨hd,rfl⟩;rw[hd] at e;simp only[cond_false] at e;obtain⟨a1,a2⟩:=nF (s:=s) (l:=l) n 1 (i+1) hd (by omega);have hi2:iy l (bQ s l n 1 (i+1)).i:=⟨by omega,a2,h9⟩;refine⟨⟨pin hi1,hx,hd⟩,pin hi2,fun h2=>?_,fun h2=>?_⟩;rw[h2] at e;subst e;exact⟨rfl,rfl⟩;have h3:=cU h2;rw[h2] at e;simp only[cond_true] at e;exact⟨⟨pin hi2,h2⟩,O6 n h ins ns R k _ _ e ⟨by omega,by omega,h9⟩ (by omega) (by omega)⟩;rw[h1] at e;rw[ju h1];subst e;exact⟨rfl,rfl,rfl⟩
theorem Vg(n:Nat)(h:HX s l n):HX s l (n+1):=by
 intro aL i ins ns p e hi hc;unfold O2 at e;split at e;rename_i lv;cases e;have hc:iJ l (n+1) lv i:=hc;refine jb (dies:=diG s l n h) (aK:=RV) (eZ:=[]) (fz:=[]) (Hf h) Tryz.func48 (by kernel_rfl) 3 (by kernel_rfl) 400 ?_;apply of_eq (q:=let q4:=(ByteArray.mk #[(110:UInt8),(111:UInt8),(116:UInt8)]);let q5:=(bQ s l n (9:Int) i);let q6:=Ob.mk 42 [Fd.m D.str (D.int .i64) cF];let q7:=(bQ s l (n+1) lv i);let q8:=(ByteArray.mk #[(45:UInt8)]);let q9:=(IntKind.i64.wrap (lv+1));let bM:=(RS (iJ l (n+1) lv i) q7 ins ns);let aQ:=(7:Int);let bp:=(gB s l (bQ s l n) i);let bW:=(bQ s l n (10:Int) i);let bY:=(3:Int);let fe:=Ob.mk 9 [Fd.a 0 D.str ns];let fZ:=(bQ s l n q9 i);let gP:=Fd.c (W.mp (1:Nat));let cu:=(aE l);let dL:=Fd.c (W.bool ins);let kW:=fS 2 0 ns.length;let gK:=(4:Nat);let mT:=Fd.c (W.str s);let lG:=q7.die=true;let q3:=(A.p (V.agg (List.take gK (List.drop (0:Nat) (Ob.mk 48 (fI q5.v.k::fI q5.v.n::Fd.c (W.str q5.v.t)::Fd.c (W.rs gK (Ex.ak q5.v.l))::yQ._f [] PUnit.unit (List.append._f [] PUnit.unit []))).cells))));let dO:=Fd.c (W.rs gK cu);let eC:=(bQ s l n q9 (cO l i (dH (D.int .i64) D.str (bJ (D.int .i64) D.str aQ q8 (bJ (D.int .i64) D.str bY q4 [])) lv))).die=false;let fM:=(bQ s l n lv (cO l i (dH (D.int .i64) D.str (bJ (D.int .i64) D.str aQ q8 (bJ (D.int .i64) D.str bY q4 [])) lv))).die=false;let gH:=(R1.pure Cd.t q3).v=(R1.pure Cd.t q3).v;let gI:=Ob.mk 48 [fI (0),fI (0),Fd.c (W.str (ByteArray.mk #[])),Fd.c (W.rs gK [])];let q1:=((bQ s l n q9 (cO l i (dH (D.int .i64) D.str (bJ (D.int .i64) D.str aQ q8 (bJ (D.int .i64) D.str bY q4 [])) lv))).die=true->lG/\aU (bQ s l n q9 (cO l i (dH (D.int .i64) D.str (bJ (D.int .i64) D.str aQ q8 (bJ (D.int .i64) D.str bY q4 [])) lv))).e (bQ s l n q9 (cO l i (dH (D.int .i64) D.str (bJ (D.int .i64) D.str aQ q8 (bJ (D.int .i64) D.str bY q4 [])) lv))).a=aU q7.e q7.a)/\(eC->(bD s l s cu (q6) ns.length ns (cO l i (dH (D.int .i64) D.str (bJ (D.int .i64) D.str aQ q8 (bJ (D.int .i64) D.str bY q4 [])) lv))/\iJ l n q9 (cO l i (dH (D.int .i64) D.str (bJ (D.int .i64) D.str aQ q8 (bJ (D.int .i64) D.str bY q4 [])) lv))/\eC)/\q7.die=false/\ax [V.agg [wI (bQ s l n q9 (cO l i (dH (D.int .i64) D.str (bJ (D.int .i64) D.str aQ q8 (bJ (D.int .i64) D.str bY q4 [])) lv))).v.k,wI (bQ s l n q9 (cO l i (dH (D.int .i64) D.str (bJ (D.int .i64) D.str aQ q8 (bJ (D.int .i64) D.str bY q4 [])) lv))).v.n,W.str (bQ s l n q9 (cO l i (dH (D.int .i64) D.str (bJ (D.int .i64) D.str aQ q8 (bJ (D.int .i64) D.str bY q4 [])) lv))).v.t,W.rs gK (Ex.ak (bQ s l n q9 (cO l i (dH (D.int .i64) D.str (bJ (D.int .i64) D.str aQ q8 (bJ (D.int .i64) D.str bY q4 [])) lv))).v.l)]]=A.p (exV q7.v)/\[Ob.mk 63 [mT,dO,fI (bQ s l n q9 (cO l i (dH (D.int .i64) D.str (bJ (D.int .i64) D.str aQ q8 (bJ (D.int .i64) D.str bY q4 [])) lv))).i,gP,dL,kW],q6,fe]=pO s l q7.i ins ns);let q2:=(aA l i (dH (D.int .i64) D.str (bJ (D.int .i64) D.str aQ q8 (bJ (D.int .i64) D.str bY q4 [])) lv)=true->(bD s l s cu (q6) ns.length ns (cO l i (dH (D.int .i64) D.str (bJ (D.int .i64) D.str aQ q8 (bJ (D.int .i64) D.str bY q4 [])) lv))/\iJ l n lv (cO l i (dH (D.int .i64) D.str (bJ (D.int .i64) D.str aQ q8 (bJ (D.int .i64) D.str bY q4 [])) lv)))/\((bQ s l n lv (cO l i (dH (D.int .i64) D.str (bJ (D.int .i64) D.str aQ q8 (bJ (D.int .i64) D.str bY q4 [])) lv))).die=true->lG/\aU (bQ s l n lv (cO l i (dH (D.int .i64) D.str (bJ (D.int .i64) D.str aQ q8 (bJ (D.int .i64) D.str bY q4 [])) lv))).e (bQ s l n lv (cO l i (dH (D.int .i64) D.str (bJ (D.int .i64) D.str aQ q8 (bJ (D.int .i64) D.str bY q4 [])) lv))).a=aU q7.e q7.a)/\(fM->(bD s l s cu (q6) ns.length ns (cO l i (dH (D.int .i64) D.str (bJ (D.int .i64) D.str aQ q8 (bJ (D.int .i64) D.str bY q4 [])) lv))/\iJ l n lv (cO l i (dH (D.int .i64) D.str (bJ (D.int .i64) D.str aQ q8 (bJ (D.int .i64) D.str bY q4 [])) lv))/\fM)/\q7.die=false/\ax [V.agg [wI (8),wI (0),W.str (dH (D.int .i64) D.str (bJ (D.int .i64) D.str aQ q8 (bJ (D.int .i64) D.str bY q4 [])) lv),W.rs gK [PV.int (bQ s l n lv (cO l i (dH (D.int .i64) D.str (bJ (D.int .i64) D.str aQ q8 (bJ (D.int .i64) D.str bY q4 [])) lv))).v.k,PV.int (bQ s l n lv (cO l i (dH (D.int .i64) D.str (bJ (D.int .i64) D.str aQ q8 (bJ (D.int .i64) D.str bY q4 [])) lv))).v.n,PV.str (bQ s l n lv (cO l i (dH (D.int .i64) D.str (bJ (D.int .i64) D.str aQ q8 (bJ (D.int .i64) D.str bY q4 [])) lv))).v.t,PV.aZ gK (Ex.ak (bQ s l n lv (cO l i (dH (D.int .i64) D.str (bJ (D.int .i64) D.str aQ q8 (bJ (D.int .i64) D.str bY q4 [])) lv))).v.l)]]]=A.p (exV q7.v)/\[Ob.mk 63 [mT,dO,fI (bQ s l n lv (cO l i (dH (D.int .i64) D.str (bJ (D.int .i64) D.str aQ q8 (bJ (D.int .i64) D.str bY q4 [])) lv))).i,gP,dL,kW],q6,fe]=pO s l q7.i ins ns))/\(aA l i (dH (D.int .i64) D.str (bJ (D.int .i64) D.str aQ q8 (bJ (D.int .i64) D.str bY q4 [])) lv)=false->(bD s l s cu (q6) ns.length ns (cO l i (dH (D.int .i64) D.str (bJ (D.int .i64) D.str aQ q8 (bJ (D.int .i64) D.str bY q4 [])) lv))/\iJ l n q9 (cO l i (dH (D.int .i64) D.str (bJ (D.int .i64) D.str aQ q8 (bJ (D.int .i64) D.str bY q4 [])) lv)))/\q1);(decide (lv=3)=true->(bD s l s cu (q6) ns.length ns i/\True/\false=false)/\q2)/\(decide (lv=3)=false->(decide (lv=7)=true->(bD s l s cu (q6) ns.length ns i/\True/\false=false)/\q2)/\(decide (lv=7)=false->(decide (lv=8)=true->(bD s l s cu (q6) ns.length ns i/\iJ l n (9:Int) i)/\(q5.die=true->lG/\aU q5.e q5.a=aU q7.e q7.a)/\(q5.die=false->(bD s l s cu (q6) ns.length ns i/\iJ l n (9:Int) i/\q5.die=false)/\(bD s l s cu (q6) ns.length ns q5.i/\True/\false=false)/\(cY l q5.i lv=true->(bD s l s cu (q6) ns.length ns (if cY l q5.i lv=true then q5.i+1 else q5.i)/\iJ l n aQ (if cY l q5.i lv=true then q5.i+1 else q5.i))/\(bQ s l n aQ (if cY l q5.i lv=true then q5.i+1 else q5.i)).die=true/\(lG/\aU (bQ s l n aQ (if cY l q5.i lv=true then q5.i+1 else q5.i)).e (bQ s l n aQ (if cY l q5.i lv=true then q5.i+1 else q5.i)).a=aU q7.e q7.a)/\gH/\gH/\True∨(bD s l s cu (q6) ns.length ns (if cY l q5.i lv=true then q5.i+1 else q5.i)/\iJ l n aQ (if cY l q5.i lv=true then q5.i+1 else q5.i)/\(bQ s l n aQ (if cY l q5.i lv=true then q5.i+1 else q5.i)).die=false)/\gH/\gH/\q7.die=false/\ax [V.agg [wI (9),wI (0),W.str (if cY l q5.i lv=true then(aM l q5.i).text else eS),W.rs gK [PV.int q5.v.k,PV.int q5.v.n,PV.str q5.v.t,PV.aZ gK (Ex.ak q5.v.l),PV.int (bQ s l n aQ (if cY l q5.i lv=true then q5.i+1 else q5.i)).v.k,PV.int (bQ s l n aQ (if cY l q5.i lv=true then q5.i+1 else q5.i)).v.n,PV.str (bQ s l n aQ (if cY l q5.i lv=true then q5.i+1 else q5.i)).v.t,PV.aZ gK (Ex.ak (bQ s l n aQ (if cY l q5.i lv=true then q5.i+1 else q5.i)).v.l)]]]=A.p (exV q7.v)/\[Ob.mk 63 [mT,dO,fI (bQ s l n aQ (if cY l q5.i lv=true then q5.i+1 else q5.i)).i,gP,dL,kW],q6,fe]=pO s l q7.i ins ns)/\(cY l q5.i lv=false->q7.die=false/\ax [V.agg [wI q5.v.k,wI q5.v.n,W.str q5.v.t,W.rs gK (Ex.ak q5.v.l)]]=A.p (exV q7.v)/\[Ob.mk 63 [mT,dO,fI (if cY l q5.i lv=true then q5.i+1 else q5.i),gP,dL,kW],q6,fe]=pO s l q7.i ins ns)))/\(decide (lv=8)=false->(decide (lv=9)=true->(bD s l s cu (q6) ns.length ns i/\iJ l n (10:Int) i)/\(bW.die=true->lG/\aU bW.e bW.a=aU q7.e q7.a)/\(bW.die=false->(bD s l s cu (q6) ns.length ns i/\iJ l n (10:Int) i/\bW.die=false)/\aJ (jA Tryz.prog (RU s l n) (diG s l n h) Tryz.f48 (3:Nat) RV [] [] bM.die (aU bM.e bM.a)) (iW bM.die bM.r (pO s l bM.i bM.ins bM.ns)) [0,0,1,0,1,1,1,1,1,0,1,0,1] (fr [(0,aR 0 0),(4,aR 3 0),(9,aR 4 0)]) (af.ofList [Ob.mk 63 [mT,dO,fI bW.i,gP,dL,kW],q6,fe,gI,Ob.mk 48 [fI bW.v.k,fI bW.v.n,Fd.c (W.str bW.v.t),Fd.c (W.rs gK (Ex.ak bW.v.l))]])))/\(decide (lv=9)=false->(decide (lv=10)=true->(bD s l s cu (q6) ns.length ns i/\(12:Int)*((l.length:Int)-i)<(n:Int))/\(bp.die=true->lG/\aU bp.e bp.a=aU q7.e q7.a)/\(bp.die=false->(bD s l s cu (q6) ns.length ns i/\(12:Int)*((l.length:Int)-i)<(n:Int)/\bp.die=false)/\q7.die=false/\ax [V.agg [wI bp.v.k,wI bp.v.n,W.str bp.v.t,W.rs gK (Ex.ak bp.v.l)]]=A.p (exV q7.v)/\[Ob.mk 63 [mT,dO,fI bp.i,gP,dL,kW],q6,fe]=pO s l q7.i ins ns))/\(decide (lv=10)=false->(bD s l s cu (q6) ns.length ns i/\iJ l n q9 i)/\(fZ.die=true->lG/\aU fZ.e fZ.a=aU q7.e q7.a)/\(fZ.die=false->(bD s l s cu (q6) ns.length ns i/\iJ l n q9 i/\fZ.die=false)/\aJ (jA Tryz.prog (RU s l n) (diG s l n h) Tryz.f48 (3:Nat) RV [] [] bM.die (aU bM.e bM.a)) (iW bM.die bM.r (pO s l bM.i bM.ins bM.ns)) [0,1,1,1] (fr [(0,aR 0 0),(1,nI lv),(4,aR 3 0),(11,aR 4 0)]) (af.ofList [Ob.mk 63 [mT,dO,fI fZ.i,gP,dL,kW],q6,fe,gI,Ob.mk 48 [fI fZ.v.k,fI fZ.v.n,Fd.c (W.str fZ.v.t),Fd.c (W.rs gK (Ex.ak fZ.v.l))]])))))))) (by kernel_rfl)
 try simp only[sL]
 generalize hR:bQ s l (n+1) lv i=R;have hR:tZ s l (bQ s l n) lv i=R:=hR;generalize hT:dH (D.int .i64) D.str (bJ (D.int .i64) D.str (7:Int) (⟨#[45]⟩:ByteArray) (bJ (D.int .i64) D.str (3:Int) (⟨#[110,111,116]⟩:ByteArray) [])) lv=T;have h0:=hi.1;have h9:=hi.2.2;obtain⟨l1,l2,l3⟩:=hc;have hT3:lv=3->T=jK:=by rintro rfl;rw[<-hT];rfl
 have hT7:lv=7->T=gJ:=by rintro rfl;rw[<-hT];rfl
 clear hT;rw[wrap64 (n:=lv+1) (by omega) (by omega),pvl1];have hx1:lv+1<=10->iJ l n (lv+1) i:=fun h=>⟨by omega,h,by omega⟩;refine⟨fun h3=>?_,fun h3=>⟨fun h7=>?_,fun h7=>?_⟩⟩;unfold tZ at hR;rw[decide_eq_true h3] at hR;simp only[cond_true] at hR;rw[<-hT3 h3] at hR;unfold og at hR;refine⟨pin hi,fun h1=>?_,fun h1=>?_⟩;have hlt:=cU h1;rw[h1] at hR;simp only[cond_true] at hR;rw[jv h1];have hi1:iy l (i+1):=⟨by omega,by omega,h9⟩;have hx:iJ l n lv (i+1):=⟨l1,l2,by omega⟩;refine⟨⟨pin hi1,hx⟩,fun hd=>?_,fun hd=>?_⟩;rw[hd] at hR;simp only[cond_true] at hR;subst hR;exact⟨hd,rfl⟩;rw[hd] at hR;simp only[cond_false] at hR;subst hR;exact⟨⟨pin hi1,hx,hd⟩,rfl,rfl,rfl⟩;rw[h1] at hR;simp only[cond_false] at hR;rw[ju h1];subst hR;exact⟨⟨pin hi,hx1 (by omega)⟩,fun hd=>⟨hd,rfl⟩,fun hd=>⟨⟨pin hi,hx1 (by omega),hd⟩,hd,rfl,rfl⟩⟩;unfold tZ at hR;rw[decide_eq_false h3,decide_eq_true h7] at hR;simp only[cond_true,cond_false] at hR;rw[<-hT7 h7] at hR;unfold og at hR;refine⟨pin hi,fun h1=>?_,fun h1=>?_⟩;have hlt:=cU h1;rw[h1] at hR;simp only[cond_true] at hR;rw[jv h1];have hi1:iy l (i+1):=⟨by omega,by omega,h9⟩;have hx:iJ l n lv (i+1):=⟨l1,l2,by omega⟩;refine⟨⟨pin hi1,hx⟩,fun hd=>?_,fun hd=>?_⟩;rw[hd] at hR;simp only[cond_true] at hR;subst hR;exact⟨hd,rfl⟩;rw[hd] at hR;simp only[cond_false] at hR;subst hR;exact⟨⟨pin hi1,hx,hd⟩,rfl,rfl,rfl⟩;rw[h1] at hR;simp only[cond_false] at hR;rw[ju h1];subst hR;exact⟨⟨pin hi,hx1 (by omega)⟩,fun hd=>⟨hd,rfl⟩,fun hd=>⟨⟨pin hi,hx1 (by omega),hd⟩,hd,rfl,rfl⟩⟩;unfold tZ at hR;rw[decide_eq_false h3,decide_eq_false h7] at hR;simp only[cond_false] at hR;refine⟨fun h8=>?_,fun h8=>⟨fun hn9=>?_,fun hn9=>⟨fun Yr=>?_,fun Yr=>?_⟩⟩⟩;rw[decide_eq_true h8] at hR;simp only[cond_true] at hR;unfold wY at hR;have hx:iJ l n 9 i:=⟨by omega,by omega,by omega⟩;refine⟨⟨pin hi,hx⟩,fun hd=>?_,fun hd=>?_⟩;rw[hd] at hR;simp only[cond_true] at hR;subst hR;exact⟨hd,rfl⟩;rw[hd] at hR;simp only[cond_false] at hR;obtain⟨a1,a2⟩:=nF (s:=s) (l:=l) n 9 i hd h0;have hi2:iy l (bQ s l n 9 i).i:=⟨by omega,a2,h9⟩;rw[<-h8] at hR;refine⟨⟨pin hi,hx,hd⟩,pin hi2,fun ho=>?_,fun ho=>?_⟩
 . have hlt:=op_lt ho;rw[ho] at hR;simp only[cond_true] at hR;rw[if_pos ho,if_pos ho,Yq];have hi3:iy l ((bQ s l n 9 i).i+1):=⟨by omega,by omega,h9⟩;have hx7:iJ l n 7 ((bQ s l n 9 i).i+1):=⟨by omega,by omega,by omega⟩;cases hd7:(bQ s l n 7 ((bQ s l n 9 i).i+1)).die with
   | true=>rw[hd7] at hR;simp only[cond_true] at hR;subst hR;exact .inl ⟨⟨pin hi3,hx7⟩,rfl,hd7,rfl⟩
   | false=>rw[hd7] at hR;simp only[cond_false] at hR;subst hR;exact .inr ⟨⟨pin hi3,hx7,rfl⟩,rfl,rfl,rfl⟩
 rw[ho] at hR;simp only[cond_false] at hR;subst hR;rw[if_neg (by rw[ho];simp)];exact⟨rfl,rfl,rfl⟩;rw[decide_eq_false h8,decide_eq_true hn9] at hR;simp only[cond_true,cond_false] at hR;have hx:iJ l n 10 i:=⟨by omega,by omega,by omega⟩;refine⟨⟨pin hi,hx⟩,fun hd=>?_,fun hd=>?_⟩;rw[hd] at hR;simp only[cond_true] at hR;subst hR;exact⟨hd,rfl⟩;rw[hd] at hR;simp only[cond_false] at hR;obtain⟨a1,a2⟩:=nF (s:=s) (l:=l) n 10 i hd h0;exact⟨⟨pin hi,hx,hd⟩,O6 s l n h ins ns R _ _ _ hR ⟨by omega,a2,h9⟩ (by omega) (by omega)⟩;rw[decide_eq_false h8,decide_eq_false hn9,decide_eq_true Yr] at hR;simp only[cond_true,cond_false] at hR;have hc:12*((l.length:Int)-i)<n:=by omega
 subst hR;exact⟨⟨pin hi,hc⟩,fun hd=>⟨hd,rfl⟩,fun hd=>⟨⟨pin hi,hc,hd⟩,hd,rfl,rfl⟩⟩;rw[decide_eq_false h8,decide_eq_false hn9,decide_eq_false Yr] at hR;simp only[cond_false] at hR;have hx:=hx1 (by omega);refine⟨⟨pin hi,hx⟩,fun hd=>?_,fun hd=>?_⟩;rw[hd] at hR;simp only[cond_true] at hR;subst hR;exact⟨hd,rfl⟩;rw[hd] at hR;simp only[cond_false] at hR;obtain⟨a1,a2⟩:=nF (s:=s) (l:=l) n (lv+1) i hd h0;exact⟨⟨pin hi,hx,hd⟩,O5 s l n h lv ⟨l1,by omega⟩ ins ns R _ _ _ hR ⟨by omega,a2,h9⟩ (by omega) (by omega)⟩;cases e
theorem Vh:HX s l 0:=by
 intro aL i ins ns p e hi hc;unfold O2 at e;split at e;rename_i lv;cases e;have hc:iJ l 0 lv i:=hc;obtain⟨_,h2,h3⟩:=hc;have:=hi.2.1;omega;cases e
theorem tj:∀ n,HX s l n
 | 0=>Vh s l
 | n+1=>Vg s l n (tj n)
end
inductive St where
 | mk (k line:Int) (name:ByteArray) (params:List ByteArray) (e:Ex) (body els:List St)
def St.k:St->Int | .mk k _ _ _ _ _ _=>k
def St.line:St->Int | .mk _ n _ _ _ _ _=>n
def St.name:St->ByteArray | .mk _ _ t _ _ _ _=>t
def St.params:St->List ByteArray | .mk _ _ _ p _ _ _=>p
def St.e:St->Ex | .mk _ _ _ _ e _ _=>e
def St.body:St->List St | .mk _ _ _ _ _ b _=>b
def St.els:St->List St | .mk _ _ _ _ _ _ c=>c
mutual
def St.pV:St->List PV
 | .mk k n t p e b c=>[.int k,.int n,.str t,.strs p,.int e.k,.int e.n,.str e.t,.aZ 4 (Ex.ak e.l),.aZ 10 (St.ak b),.aZ 10 (St.ak c)]
def St.ak:List St->List PV
 | []=>[]
 | e::l=>e.pV++St.ak l
end
theorem St.cg:St.ak []=[]:=by rw[St.ak]
theorem St.fA(x:St)(l:List St):St.ak (x::l)=[.int x.k,.int x.line,.str x.name,.strs x.params,.int x.e.k,.int x.e.n,.str x.e.t,.aZ 4 (Ex.ak x.e.l),.aZ 10 (St.ak x.body),.aZ 10 (St.ak x.els)]++St.ak l:=by
 cases x;rw[St.ak,St.pV];rfl
theorem St.ur(l m:List St):St.ak (l++m)=St.ak l++St.ak m:=by
 induction l with
 | nil=>rw[St.cg];rfl
 | cons e l ih=>rw[List.cons_append,St.fA,St.fA,ih,List.append_assoc]
theorem St.dQ(l:List St):(St.ak l).length=l.length*10:=by
 induction l with
 | nil=>rw[St.cg];rfl
 | cons e l ih=>rw[St.fA];simp only[List.length_append,List.length_cons,List.length_nil,ih];omega
abbrev oG:ByteArray:=⟨#[112,114,105,110,116]⟩
abbrev vk:ByteArray:=⟨#[105,102]⟩
abbrev mH:ByteArray:=⟨#[101,108,115,101]⟩
abbrev rD:ByteArray:=⟨#[119,104,105,108,101]⟩
abbrev sw:ByteArray:=⟨#[102,111,114]⟩
abbrev wm:ByteArray:=⟨#[105,110]⟩
abbrev tP:ByteArray:=⟨#[114,101,116,117,114,110]⟩
abbrev qk:ByteArray:=⟨#[100,101,102]⟩
abbrev yd:ByteArray:=⟨#[61]⟩
abbrev kX:ByteArray:=⟨#[59]⟩
abbrev pX:ByteArray:=⟨#[123]⟩
abbrev mI:ByteArray:=⟨#[125]⟩
def FB(x:ByteArray):Int:=(Lib.countByte x.data.toList 10:Nat)
def pS:St:=.mk 0 0 eS [] iY [] []
def XR.to{α β:Type}(r:XR α)(v:β):XR β:=⟨true,r.e,r.a,v,r.i⟩
section
variable (s:ByteArray) (l:List Tok)
noncomputable def EX:jY:=bQ s l (12*l.length+12)
noncomputable def dW(i:Int):XR Ex :=
 bif (EX s l 1 i).die then EX s l 1 i else bif aA l (EX s l 1 i).i kX then cA (EX s l 1 i).v ((EX s l 1 i).i+1) else kI s l iY (EX s l 1 i).i
def fG(i:Int):Int:=1+FB (s.extract 0 (dn s l i).toNat)
abbrev oH:=Int->XR (List St)
noncomputable def qG(k line:Int)(q:XR Ex):XR St:=bif q.die then q.to pS else cA (.mk k line eS [] q.v [] []) q.i
noncomputable def pE(bl:oH)(line:Int)(r:XR Ex):XR St :=
 bif r.die then r.to pS else
 bif (bl r.i).die then(bl r.i).to pS else
 bif aA l (bl r.i).i mH then
  (bif (bl ((bl r.i).i+1)).die then(bl ((bl r.i).i+1)).to pS else cA (.mk 3 line eS [] r.v (bl r.i).v (bl ((bl r.i).i+1)).v) (bl ((bl r.i).i+1)).i)
 else cA (.mk 3 line eS [] r.v (bl r.i).v []) (bl r.i).i
noncomputable def oh(bl:oH)(k line:Int)(name:ByteArray)(r:XR Ex):XR St :=
 bif r.die then r.to pS else
 bif (bl r.i).die then(bl r.i).to pS else cA (.mk k line name [] r.v (bl r.i).v []) (bl r.i).i
noncomputable def ny(line:Int)(name:ByteArray)(q:XR Ex):XR St:=bif q.die then q.to pS else cA (.mk 1 line name [] q.v [] []) q.i
noncomputable def iZ(bl:oH)(ins:Bool)(i:Int):XR St :=
 bif aA l i oG then qG 2 (fG s l i) (dW s l (i+1))
 else bif aA l i vk then pE l bl (fG s l i) (EX s l 1 (i+1))
 else bif aA l i rD then oh bl 4 (fG s l i) eS (EX s l 1 (i+1))
 else bif aA l i sw then
  (bif eY l (i+1) then(bif aA l (i+1+1) wm then oh bl 5 (fG s l i) (aM l (i+1)).text (EX s l 1 (i+1+1+1)) else kI s l pS (i+1+1)) else kI s l pS (i+1))
 else bif ins&&aA l i tP then qG 6 (fG s l i) (dW s l (i+1))
 else bif eY l i then(bif aA l (i+1) yd then ny (fG s l i) (aM l i).text (dW s l (i+1+1)) else kI s l pS (i+1))
 else kI s l pS i
noncomputable def ol(st:Int->XR St):Nat->List St->Int->XR (List St)
 | 0,acc,i=>kI s l acc i
 | k+1,acc,i=>bif aA l i mI then cA acc (i+1) else bif (st i).die then(st i).to acc else ol st k (acc++[(st i).v]) (st i).i
noncomputable def t6(st:Int->XR St)(i:Int):XR (List St):=bif aA l i pX then ol s l st (l.length+1) [] (i+1) else kI s l [] i
noncomputable def gM(ins:Bool):Nat->oH
 | 0=>fun i=>kI s l [] i
 | n+1=>t6 s l (iZ s l (gM ins n) ins)
def w6(bl:oH):Prop:=∀ i,(bl i).die=false->0<=i->i<(bl i).i/\(bl i).i<=l.length
def Hg(st:Int->XR St):Prop:=∀ i,(st i).die=false->0<=i->i<(st i).i/\(st i).i<=l.length/\(st i).v.params=[]
variable {s l}
theorem ye:wZ l (EX s l):=nF _
theorem zJ(i:Int)(hd:(dW s l i).die=false)(h0:0<=i):i<(dW s l i).i/\(dW s l i).i<=l.length:=by
 unfold dW at hd ⊢;cases hx:(EX s l 1 i).die with
 | true=>rw[hx] at hd;simp only[cond_true] at hd;rw[hx] at hd;cases hd
 | false =>
 obtain⟨a,b⟩:=ye (s:=s) _ _ hx h0;rw[hx] at hd;simp only[cond_false] at hd ⊢;cases h1:aA l (EX s l 1 i).i kX with
 | false=>rw[h1] at hd;cases hd
 | true =>
   have:=cU h1;exact⟨by show i<(EX s l 1 i).i+1;omega,by show (EX s l 1 i).i+1<=_;omega⟩
theorem Vi{k line:Int}{q:XR Ex}{j:Int}(hq:q.die=false->j<q.i/\q.i<=l.length)(hd:(qG k line q).die=false):j<(qG k line q).i/\(qG k line q).i<=l.length/\(qG k line q).v.params=[]:=by
 unfold qG at hd ⊢;cases hx:q.die with
 | true=>rw[hx] at hd;cases hd
 | false=>obtain⟨a,b⟩:=hq hx;exact⟨a,b,rfl⟩
theorem set_adv{line:Int}{t:ByteArray}{q:XR Ex}{j:Int}(hq:q.die=false->j<q.i/\q.i<=l.length)(hd:(ny line t q).die=false):j<(ny line t q).i/\(ny line t q).i<=l.length/\(ny line t q).v.params=[]:=by
 unfold ny at hd ⊢;cases hx:q.die with
 | true=>rw[hx] at hd;cases hd
 | false=>obtain⟨a,b⟩:=hq hx;exact⟨a,b,rfl⟩
theorem Vj{bl:oH}(h:w6 l bl){k line:Int}{t:ByteArray}{q:XR Ex}{j:Int}(hj:0<=j)(hq:q.die=false->j<q.i/\q.i<=l.length)(hd:(oh bl k line t q).die=false):j<(oh bl k line t q).i/\(oh bl k line t q).i<=l.length/\(oh bl k line t q).v.params=[]:=by
 unfold oh at hd ⊢;cases hx:q.die with
 | true=>rw[hx] at hd;cases hd
 | false =>
 obtain⟨a,b⟩:=hq hx;rw[hx] at hd;simp only[cond_false] at hd ⊢;cases hy:(bl q.i).die with
 | true=>rw[hy] at hd;cases hd
 | false =>
   obtain⟨c,d⟩:=h _ hy (by omega);exact⟨by show j<(bl q.i).i;omega,d,rfl⟩
theorem if_adv{bl:oH}(h:w6 l bl){line:Int}{q:XR Ex}{j:Int}(hj:0<=j)(hq:q.die=false->j<q.i/\q.i<=l.length)(hd:(pE l bl line q).die=false):j<(pE l bl line q).i/\(pE l bl line q).i<=l.length/\(pE l bl line q).v.params=[]:=by
 unfold pE at hd ⊢;cases hx:q.die with
 | true=>rw[hx] at hd;cases hd
 | false =>
 obtain⟨a,b⟩:=hq hx;rw[hx] at hd;simp only[cond_false] at hd ⊢;cases hy:(bl q.i).die with
 | true=>rw[hy] at hd;cases hd
 | false =>
 obtain⟨c,d⟩:=h _ hy (by omega);rw[hy] at hd;simp only[cond_false] at hd ⊢;cases he:aA l (bl q.i).i mH with
 | false=>exact⟨by show j<(bl q.i).i;omega,d,rfl⟩
 | true =>
 rw[he] at hd;simp only[cond_true] at hd ⊢;cases hz:(bl ((bl q.i).i+1)).die with
 | true=>rw[hz] at hd;cases hd
 | false =>
   obtain⟨c2,d2⟩:=h _ hz (by omega);exact⟨by show j<(bl ((bl q.i).i+1)).i;omega,d2,rfl⟩
theorem yg{bl:oH}(h:w6 l bl)(ins:Bool):Hg l (iZ s l bl ins):=by
 intro i hd h0;have lt:∀{j:Int}{x:XR St},i<=j->(j<x.i/\x.i<=l.length/\x.v.params=[])->i<x.i/\x.i<=l.length/\x.v.params=[]:=fun hj h=>⟨by omega,h.2.1,h.2.2⟩;unfold iZ at hd ⊢;cases h1:aA l i oG with
 | true=>rw[h1] at hd;exact lt (j:=i+1) (by omega) (Vi (fun hq=>zJ _ hq (by omega)) hd)
 | false =>
 cases h2:aA l i vk with
 | true=>rw[h1,h2] at hd;exact lt (j:=i+1) (by omega) (if_adv h (by omega) (fun hq=>ye _ _ hq (by omega)) hd)
 | false =>
 cases h3:aA l i rD with
 | true=>rw[h1,h2,h3] at hd;exact lt (j:=i+1) (by omega) (Vj h (by omega) (fun hq=>ye _ _ hq (by omega)) hd)
 | false =>
 cases h4:aA l i sw with
 | true =>
   rw[h1,h2,h3,h4] at hd;simp only[cond_true,cond_false] at hd ⊢;cases h5:eY l (i+1) with
   | false=>rw[h5] at hd;cases hd
   | true =>
   cases h6:aA l (i+1+1) wm with
   | false=>rw[h5,h6] at hd;cases hd
   | true =>
     rw[h5,h6] at hd;exact lt (j:=i+1+1+1) (by omega) (Vj h (by omega) (fun hq=>ye _ _ hq (by omega)) hd)
 | false =>
 cases h7:ins&&aA l i tP with
 | true=>rw[h1,h2,h3,h4,h7] at hd;exact lt (j:=i+1) (by omega) (Vi (fun hq=>zJ _ hq (by omega)) hd)
 | false =>
 rw[h1,h2,h3,h4,h7] at hd;simp only[cond_false] at hd ⊢;cases h5:eY l i with
 | false=>rw[h5] at hd;cases hd
 | true =>
 cases h6:aA l (i+1) yd with
 | false=>rw[h5,h6] at hd;cases hd
 | true =>
   rw[h5,h6] at hd;exact lt (j:=i+1+1) (by omega) (set_adv (fun hq=>zJ _ hq (by omega)) hd)
theorem O7{st:Int->XR St}(h:Hg l st):∀(k:Nat)(acc:List St)(i:Int),(ol s l st k acc i).die=false->0<=i->i<(ol s l st k acc i).i/\(ol s l st k acc i).i<=l.length
 | 0,acc,i,hd,_=>by cases hd
 | k + 1, acc, i, hd, h0 => by
   unfold ol at hd ⊢;cases h1:aA l i mI with
   | true=>have:=cU h1;exact⟨by show i<i+1;omega,by show i+1<=_;omega⟩
   | false =>
   rw[h1] at hd;simp only[cond_false] at hd ⊢;cases hx:(st i).die with
   | true=>rw[hx] at hd;cases hd
   | false =>
     obtain⟨a,b,_⟩:=h _ hx h0;rw[hx] at hd;obtain⟨c,d⟩:=O7 h k _ _ hd (by omega);exact⟨by show i<_;simp only[cond_false];omega,d⟩
theorem bl_adv{st:Int->XR St}(h:Hg l st):w6 l (t6 s l st):=by
 intro i hd h0;unfold t6 at hd ⊢;cases h1:aA l i pX with
 | false=>rw[h1] at hd;cases hd
 | true =>
   rw[h1] at hd;obtain⟨c,d⟩:=O7 h _ _ _ hd (by omega);exact⟨by simp only[cond_true];omega,d⟩
theorem mJ(ins:Bool):∀ n,w6 l (gM s l ins n)
 | 0=>fun _ hd=>by cases hd
 | n+1=>bl_adv (yg (mJ ins n) ins)
end
end Go.Proofs.YtnbjjocbncblaaaGreatDoor
namespace Go.Proofs.YtnbjjocbncblaaaGreatDoor
open Go.aN Go.RowKit
set_option maxRecDepth 100000
theorem Vk(x:ByteArray):br Tryz.prog 26 [sS x,sS ⟨#[10]⟩] [] (.p (.c (.int .i64 (FB x)))) []:=by
 intro base η Z w vs R hvs hK
 match vs,hvs with
 | [u,v],⟨⟨_,h1⟩,⟨_,h2⟩,_⟩ =>
   have h1:u=.string x:=h1;have h2:v=.string ⟨#[10]⟩:=h2;subst h1;subst h2;refine(callsIn_wide.2 (Tryz.strings_Count_one x 10 w)).mono ?_;rintro e w' ⟨rfl,rfl⟩;exact⟨_,η,Z,rfl,⟨fun _ _ _ h=>h,R,Step.refl _ _ _ _⟩,by simp,rfl⟩
def Hj:cV:=zy .str .str fun x sep=>(.p (sep=⟨#[10]⟩),.p (.c (.int .i64 (FB x))),[])
theorem FC:bt Tryz.prog 26 Hj:=r9 (by kernel_rfl) fun x sep h=>by
 have h:sep=⟨#[10]⟩:=h;subst h;exact Vk x
section
variable (s:ByteArray) (l:List Tok)
noncomputable abbrev gX:jk:=O2 s l (12*l.length+12)
noncomputable def gamI:bX:=(48,ga s l [true,false] (gX s l))::(56,ga s l [true,false] (sJ s l))::(59,ga s l [true] (wj s l))::(26,Hj)::zI s l
theorem O8:bh Tryz.prog (gamI s l):=aq (eD (by kernel_rfl) (tj s l _)) (aq (eD (by kernel_rfl) (mS s l)) (aq (eD (by kernel_rfl) (qF s l)) (aq FC (mF s l))))
noncomputable def diI:List { x:FuncId×gq // fR Tryz.prog x.1 x.2 }:=⟨(48,kV s l [true,false] (gX s l)),iP (by kernel_rfl) (tj s l _)⟩::⟨(56,kV s l [true,false] (sJ s l)),iP (by kernel_rfl) (mS s l)⟩::⟨(59,kV s l [true] (wj s l)),iP (by kernel_rfl) (qF s l)⟩::DK s l
variable {s l} in
theorem Er{i:Int}(h:iy l i):iJ l (12*l.length+12) 1 i:=⟨by omega,by omega,by have:=h.1;omega⟩
noncomputable def CU:jk:=fun aL i ins ns=>match aL with | []=>some (RS True (dW s l i) ins ns)|_=>none
theorem DL:nu 58 s l (CU s l):=by
 intro aL i ins ns p e hi hc;unfold CU at e;split at e;cases e;refine jb (dies:=diI s l) (aK:=[]) (eZ:=[]) (fz:=[]) (O8 s l) Tryz.func58 (by kernel_rfl) 3 (by kernel_rfl) 200 ?_;apply of_eq (q:=let q1:=(bQ s l ((12:Nat)*l.length+12) (1:Int) i);let q2:=Ob.mk 42 [Fd.m D.str (D.int .i64) cF];let q3:=(dW s l i);let q4:=(ByteArray.mk #[(59:UInt8)]);(bD s l s (aE l) (q2) ns.length ns i/\iJ l ((12:Nat)*l.length+12) (1:Int) i)/\(q1.die=true->q3.die=true/\aU q1.e q1.a=aU q3.e q3.a)/\(q1.die=false->(bD s l s (aE l) (q2) ns.length ns i/\iJ l ((12:Nat)*l.length+12) (1:Int) i/\q1.die=false)/\(bD s l s (aE l) (q2) ns.length ns q1.i/\True)/\((!aA l q1.i q4)=true->q3.die=true/\aU (11:Int) (dn s l q1.i)=aU q3.e q3.a)/\((!aA l q1.i q4)=false->(bD s l s (aE l) (q2) ns.length ns q1.i/\True/\(!aA l q1.i q4)=false)/\q3.die=false/\ax [V.agg [wI q1.v.k,wI q1.v.n,W.str q1.v.t,W.rs (4:Nat) (Ex.ak q1.v.l)]]=A.p (exV q3.v)/\[Ob.mk 63 [Fd.c (W.str s),Fd.c (W.rs (4:Nat) (aE l)),fI (q1.i+1),Fd.c (W.mp (1:Nat)),Fd.c (W.bool ins),fS 2 0 ns.length],q2,Ob.mk 9 [Fd.a 0 D.str ns]]=pO s l q3.i ins ns))) (by kernel_rfl)
 try simp only[sL]
 generalize hR:dW s l i=R;unfold dW at hR;have hE:EX s l 1 i=bQ s l (12*l.length+12) 1 i:=rfl;rw[hE] at hR;have h0:=hi.1;refine⟨⟨pin hi,Er hi⟩,fun hd=>?_,fun hd=>?_⟩;rw[hd] at hR;simp only[cond_true] at hR;subst hR;exact⟨hd,rfl⟩;rw[hd] at hR;simp only[cond_false] at hR;obtain⟨a,b⟩:=nF (s:=s) (l:=l) _ _ _ hd h0;have hi2:iy l (bQ s l (12*l.length+12) 1 i).i:=⟨by omega,b,hi.2.2⟩;refine⟨⟨pin hi,Er hi,hd⟩,pin hi2,fun h1=>?_,fun h1=>?_⟩;rw[h1] at hR;subst hR;exact⟨rfl,rfl⟩;rw[h1] at hR;subst hR;exact⟨⟨pin hi2,h1⟩,rfl,rfl,rfl⟩;cases e
def jm:Prop:=s.size<=1000000/\∀ t∈l,0<=t.at_/\t.at_<=s.size
variable {s} in
theorem nlC_le(x:ByteArray):0<=FB x/\FB x<=x.size:=by
 have:Lib.countByte x.data.toList 10<=x.data.toList.length:=List.count_le_length;have h2:x.data.toList.length=x.size:=rfl;unfold FB;omega
theorem Jv(h:s.size<=1000000)(i:Int):IntKind.i64.wrap (1+FB (s.extract 0 (dn s l i).toNat))=fG s l i:=by
 obtain⟨a,b⟩:=nlC_le (s.extract 0 (dn s l i).toNat);have:(s.extract 0 (dn s l i).toNat).size<=s.size:=by rw[ByteArray.size_extract];omega
 rw[wrap64 (by omega) (by omega)];rfl
theorem and3{p:Prop}(h:p):(p/\p)/\p:=⟨⟨h,h⟩,h⟩
variable {s l} in
theorem Vl(h:jm s l){i:Int}(hi:iy l i):0<=dn s l i/\dn s l i<=s.size:=by
 unfold dn;by_cases hl:i<l.length;rw[if_pos hl];obtain⟨n,hn,_,e⟩:=U9 hi hl;rw[e];exact h.2 _ (List.getElem_mem hn);rw[if_neg hl];omega
def stV(x:St):V:=.agg [.int .i64 x.k,.int .i64 x.line,.str x.name,.nil,.int .i64 x.e.k,.int .i64 x.e.n,.str x.e.t,.rs 4 (Ex.ak x.e.l),.rs 10 (St.ak x.body),.rs 10 (St.ak x.els)]
theorem vl(k line:Int)(t:ByteArray)(e:Ex)(b c:List St):stV (.mk k line t [] e b c)=.agg [.int .i64 k,.int .i64 line,.str t,.nil,.int .i64 e.k,.int .i64 e.n,.str e.t,.rs 4 (Ex.ak e.l),.rs 10 (St.ak b),.rs 10 (St.ak c)]:=rfl
noncomputable def Mn(n:Nat):jk:=fun aL i ins ns=>match aL with
 | []=>some { c:=(l.length:Int)-i<n,die:=(gM s l ins n i).die,e:=(gM s l ins n i).e,a:=(gM s l ins n i).a,r:=.p (.c (.rs 10 (St.ak (gM s l ins n i).v))),i:=(gM s l ins n i).i,ins:=ins,ns:=ns }
 | _=>none
noncomputable def O9(n:Nat):jk:=fun aL i ins ns=>match aL with
 | []=>some { c:=(l.length:Int)-i<=n,die:=(iZ s l (gM s l ins n) ins i).die,e:=(iZ s l (gM s l ins n) ins i).e,a:=(iZ s l (gM s l ins n) ins i).a,r:=.p (stV (iZ s l (gM s l ins n) ins i).v),i:=(iZ s l (gM s l ins n) ins i).i,ins:=ins,ns:=ns }
 | _=>none
abbrev HB(n:Nat):Prop:=nu 57 s l (Mn s l n)
abbrev HS(n:Nat):Prop:=nu 30 s l (O9 s l n)
noncomputable def gamS(n:Nat):bX:=(57,ga s l [true] (Mn s l n))::(58,ga s l [true] (CU s l))::gamI s l
noncomputable def diS(n:Nat)(h:HB s l n):List { x:FuncId×gq // fR Tryz.prog x.1 x.2 }:=⟨(57,kV s l [true] (Mn s l n)),iP (by kernel_rfl) h⟩::⟨(58,kV s l [true] (CU s l)),iP (by kernel_rfl) (DL s l)⟩::diI s l
variable {s l} in
theorem gamS_ok{n:Nat}(h:HB s l n):bh Tryz.prog (gamS s l n):=aq (eD (by kernel_rfl) h) (aq (eD (by kernel_rfl) (DL s l)) (O8 s l))
theorem Hl(ht:jm s l)(n:Nat)(h:HB s l n):HS s l n:=by
 intro aL i ins ns p e hi hc;unfold O9 at e;split at e;cases e;have hc:(l.length:Int)-i<=n:=hc;refine jb (dies:=diS s l n h) (aK:=[]) (eZ:=[]) (fz:=[]) (gamS_ok h) Tryz.func30 (by kernel_rfl) 3 (by kernel_rfl) 900 ?_;apply of_eq (q:=let q3:=(ByteArray.mk #[(102:UInt8),(111:UInt8),(114:UInt8)]);let q4:=(ByteArray.mk #[(114:UInt8),(101:UInt8),(116:UInt8),(117:UInt8),(114:UInt8),(110:UInt8)]);let aQ:=Ob.mk 42 [Fd.m D.str (D.int .i64) cF];let bp:=(iZ s l (gM s l ins n) ins i);let dO:=(ByteArray.mk #[(101:UInt8),(108:UInt8),(115:UInt8),(101:UInt8)]);let fM:=(IntKind.i64.wrap ((1:Int)+FB (s.extract (0:Nat) (dn s l i).toNat)));let cu:=(aE l);let dL:=((12:Nat)*l.length+12);let kW:=(ByteArray.mk #[(119:UInt8),(104:UInt8),(105:UInt8),(108:UInt8),(101:UInt8)]);let mT:=(ByteArray.mk #[(112:UInt8),(114:UInt8),(105:UInt8),(110:UInt8),(116:UInt8)]);let lG:=(R1.pure (Cd.t.and Cd.t) (aP (W.str s))).v=(R1.pure (Cd.t.and Cd.t) (aP (W.str s))).v;let iz:=bp.die=true;let gL:=Fd.c (W.rs (4:Nat) cu);let jZ:=Ob.mk 9 [Fd.a 0 D.str ns];let iB:=True/\false=false;let j7:=(ByteArray.mk #[(61:UInt8)]);let jP:=Fd.c (W.mp (1:Nat));let BW:=Fd.c (W.bool ins);let t7:=(10:Nat);let Jw:=(l.length:Int);let q44:=(ByteArray.mk #[(105:UInt8),(110:UInt8)]);let q45:=(ByteArray.mk #[(105:UInt8),(102:UInt8)]);let Jy:=fS 2 0 ns.length;let Jz:=bp.die=false;let JA:=Fd.c (W.str s);let Vm:=(ByteArray.mk #[]);let JB:=(stV bp.v);let bM:=(cO l i mT);let fe:=(cO l bM q45);let jO:=(dW s l bM);let q1:=(cO l fe kW);let q2:=(bQ s l dL (1:Int) fe);let eC:=(bQ s l dL (1:Int) q1);let bY:=(cO l q1 q3);let gH:=(gM s l ins n q2.i);let fZ:=(dW s l (cO l bY q4+1+1));let gK:=(gM s l ins n (cO l gH.i dO));let gQ:=(cO l q1 q3+1);let fC:=(cO l q1 q3+1+1);let yc:=(gM s l ins n eC.i);let DM:=(cO l bY q4);let Pa:=(cO l bY q4+1);let q5:=(q2.die=true->iz/\aU q2.e q2.a=aU bp.e bp.a)/\(q2.die=false->(bD s l s cu (aQ) ns.length ns fe/\iJ l dL (1:Int) fe/\q2.die=false)/\(bD s l s cu (aQ) ns.length ns q2.i/\Jw-q2.i<(n:Int))/\(gH.die=true->iz/\aU gH.e gH.a=aU bp.e bp.a)/\(gH.die=false->(bD s l s cu (aQ) ns.length ns q2.i/\Jw-q2.i<(n:Int)/\gH.die=false)/\(bD s l s cu (aQ) ns.length ns gH.i/\iB)/\(aA l gH.i dO=true->(bD s l s cu (aQ) ns.length ns (cO l gH.i dO)/\Jw-cO l gH.i dO<(n:Int))/\(gK.die=true->iz/\aU gK.e gK.a=aU bp.e bp.a)/\(gK.die=false->(bD s l s cu (aQ) ns.length ns (cO l gH.i dO)/\Jw-cO l gH.i dO<(n:Int)/\gK.die=false)/\Jz/\ax [V.agg [wI (3),wI fM,W.str Vm,W.nil,wI q2.v.k,wI q2.v.n,W.str q2.v.t,W.rs (4:Nat) (Ex.ak q2.v.l),W.rs t7 (St.ak gH.v),W.rs t7 (St.ak gK.v)]]=A.p JB/\[Ob.mk 63 [JA,gL,fI gK.i,jP,BW,Jy],aQ,jZ]=pO s l bp.i ins ns))/\(aA l gH.i dO=false->Jz/\ax [V.agg [wI (3),wI fM,W.str Vm,W.nil,wI q2.v.k,wI q2.v.n,W.str q2.v.t,W.rs (4:Nat) (Ex.ak q2.v.l),W.rs t7 (St.ak gH.v),W.rs t7 []]]=A.p JB/\[Ob.mk 63 [JA,gL,fI (cO l gH.i dO),jP,BW,Jy],aQ,jZ]=pO s l bp.i ins ns)));let bW:=(bQ s l dL (1:Int) fC);let gP:=(dW s l fC);let gI:=(dW s l DM);let pz:=(gM s l ins n bW.i);let q6:=(bD s l s cu (aQ) ns.length ns bY/\iB)/\(aA l bY q4=true->(bD s l s cu (aQ) ns.length ns DM/\True)/\(gI.die=true->iz/\aU gI.e gI.a=aU bp.e bp.a)/\(gI.die=false->(bD s l s cu (aQ) ns.length ns DM/\True/\gI.die=false)/\Jz/\ax [V.agg [wI (6),wI fM,W.str Vm,W.nil,wI gI.v.k,wI gI.v.n,W.str gI.v.t,W.rs (4:Nat) (Ex.ak gI.v.l),W.rs t7 [],W.rs t7 []]]=A.p JB/\[Ob.mk 63 [JA,gL,fI gI.i,jP,BW,Jy],aQ,jZ]=pO s l bp.i ins ns))/\(aA l bY q4=false->(bD s l s cu (aQ) ns.length ns DM/\True)/\((!eY l DM)=true->iz/\aU (11:Int) (dn s l DM)=aU bp.e bp.a)/\((!eY l DM)=false->(bD s l s cu (aQ) ns.length ns DM/\True/\(!eY l DM)=false)/\(bD s l s cu (aQ) ns.length ns Pa/\True)/\((!aA l Pa j7)=true->iz/\aU (11:Int) (dn s l Pa)=aU bp.e bp.a)/\((!aA l Pa j7)=false->(bD s l s cu (aQ) ns.length ns Pa/\True/\(!aA l Pa j7)=false)/\(bD s l s cu (aQ) ns.length ns (cO l bY q4+1+1)/\True)/\(fZ.die=true->iz/\aU fZ.e fZ.a=aU bp.e bp.a)/\(fZ.die=false->(bD s l s cu (aQ) ns.length ns (cO l bY q4+1+1)/\True/\fZ.die=false)/\Jz/\ax [V.agg [wI (1),wI fM,W.str (aM l DM).text,W.nil,wI fZ.v.k,wI fZ.v.n,W.str fZ.v.t,W.rs (4:Nat) (Ex.ak fZ.v.l),W.rs t7 [],W.rs t7 []]]=A.p JB/\[Ob.mk 63 [JA,gL,fI fZ.i,jP,BW,Jy],aQ,jZ]=pO s l bp.i ins ns))));let q7:=((!eY l bY)=true->iz/\aU (11:Int) (dn s l bY)=aU bp.e bp.a)/\((!eY l bY)=false->(bD s l s cu (aQ) ns.length ns bY/\True/\(!eY l bY)=false)/\(bD s l s cu (aQ) ns.length ns gQ/\True)/\((!aA l gQ q44)=true->iz/\aU (11:Int) (dn s l gQ)=aU bp.e bp.a)/\((!aA l gQ q44)=false->(bD s l s cu (aQ) ns.length ns gQ/\True/\(!aA l gQ q44)=false)/\(bD s l s cu (aQ) ns.length ns fC/\iJ l dL (1:Int) fC)/\(bW.die=true->iz/\aU bW.e bW.a=aU bp.e bp.a)/\(bW.die=false->(bD s l s cu (aQ) ns.length ns fC/\iJ l dL (1:Int) fC/\bW.die=false)/\(bD s l s cu (aQ) ns.length ns bW.i/\Jw-bW.i<(n:Int))/\(pz.die=true->iz/\aU pz.e pz.a=aU bp.e bp.a)/\(pz.die=false->(bD s l s cu (aQ) ns.length ns bW.i/\Jw-bW.i<(n:Int)/\pz.die=false)/\Jz/\ax [V.agg [wI (5),wI fM,W.str (aM l bY).text,W.nil,wI bW.v.k,wI bW.v.n,W.str bW.v.t,W.rs (4:Nat) (Ex.ak bW.v.l),W.rs t7 (St.ak pz.v),W.rs t7 []]]=A.p JB/\[Ob.mk 63 [JA,gL,fI pz.i,jP,BW,Jy],aQ,jZ]=pO s l bp.i ins ns))));let q8:=(aA l fe kW=true->(bD s l s cu (aQ) ns.length ns q1/\iJ l dL (1:Int) q1)/\(eC.die=true->iz/\aU eC.e eC.a=aU bp.e bp.a)/\(eC.die=false->(bD s l s cu (aQ) ns.length ns q1/\iJ l dL (1:Int) q1/\eC.die=false)/\(bD s l s cu (aQ) ns.length ns eC.i/\Jw-eC.i<(n:Int))/\(yc.die=true->iz/\aU yc.e yc.a=aU bp.e bp.a)/\(yc.die=false->(bD s l s cu (aQ) ns.length ns eC.i/\Jw-eC.i<(n:Int)/\yc.die=false)/\Jz/\ax [V.agg [wI (4),wI fM,W.str Vm,W.nil,wI eC.v.k,wI eC.v.n,W.str eC.v.t,W.rs (4:Nat) (Ex.ak eC.v.l),W.rs t7 (St.ak yc.v),W.rs t7 []]]=A.p JB/\[Ob.mk 63 [JA,gL,fI yc.i,jP,BW,Jy],aQ,jZ]=pO s l bp.i ins ns)))/\(aA l fe kW=false->(bD s l s cu (aQ) ns.length ns q1/\iB)/\(aA l q1 q3=true->(bD s l s cu (aQ) ns.length ns bY/\True)/\q7)/\(aA l q1 q3=false->(ins=true->ins=true/\q6)/\(ins=!true->(bD s l s cu (aQ) ns.length ns bY/\True)/\((!eY l bY)=true->iz/\aU (11:Int) (dn s l bY)=aU bp.e bp.a)/\((!eY l bY)=false->(bD s l s cu (aQ) ns.length ns bY/\True/\(!eY l bY)=false)/\(bD s l s cu (aQ) ns.length ns gQ/\True)/\((!aA l gQ j7)=true->iz/\aU (11:Int) (dn s l gQ)=aU bp.e bp.a)/\((!aA l gQ j7)=false->(bD s l s cu (aQ) ns.length ns gQ/\True/\(!aA l gQ j7)=false)/\(bD s l s cu (aQ) ns.length ns fC/\True)/\(gP.die=true->iz/\aU gP.e gP.a=aU bp.e bp.a)/\(gP.die=false->(bD s l s cu (aQ) ns.length ns fC/\True/\gP.die=false)/\Jz/\ax [V.agg [wI (1),wI fM,W.str (aM l bY).text,W.nil,wI gP.v.k,wI gP.v.n,W.str gP.v.t,W.rs (4:Nat) (Ex.ak gP.v.l),W.rs t7 [],W.rs t7 []]]=A.p JB/\[Ob.mk 63 [JA,gL,fI gP.i,jP,BW,Jy],aQ,jZ]=pO s l bp.i ins ns))))));let q9:=((0:Int)<=0/\(0:Int)<=dn s l i/\dn s l i<=(s.size:Int))/\ByteArray.mk #[(10:UInt8)]=ByteArray.mk #[(10:UInt8)]/\lG/\lG/\lG/\(bD s l s cu (aQ) ns.length ns i/\iB)/\(aA l i mT=true->(bD s l s cu (aQ) ns.length ns bM/\True)/\(jO.die=true->iz/\aU jO.e jO.a=aU bp.e bp.a)/\(jO.die=false->(bD s l s cu (aQ) ns.length ns bM/\True/\jO.die=false)/\Jz/\ax [V.agg [wI (2),wI fM,W.str Vm,W.nil,wI jO.v.k,wI jO.v.n,W.str jO.v.t,W.rs (4:Nat) (Ex.ak jO.v.l),W.rs t7 [],W.rs t7 []]]=A.p JB/\[Ob.mk 63 [JA,gL,fI jO.i,jP,BW,Jy],aQ,jZ]=pO s l bp.i ins ns))/\(aA l i mT=false->(bD s l s cu (aQ) ns.length ns bM/\iB)/\(aA l bM q45=true->(bD s l s cu (aQ) ns.length ns fe/\iJ l dL (1:Int) fe)/\q5)/\(aA l bM q45=false->(bD s l s cu (aQ) ns.length ns fe/\iB)/\q8));(((bD s l s cu (aQ) ns.length ns i/\iB)/\q9)/\(bD s l s cu (aQ) ns.length ns i/\iB)/\q9)/\(bD s l s cu (aQ) ns.length ns i/\iB)/\q9) (by kernel_rfl)
 try simp only[sL]
 generalize hR:iZ s l (gM s l ins n) ins i=R;unfold iZ at hR;rw[Jv s l ht.1];generalize fG s l i=L at hR ⊢;have h0:=hi.1;have h9:=hi.2.2;have up:∀{j:Int},0<=j->j<l.length->iy l (j+1):=fun h h'=>⟨by omega,by omega,h9⟩;have bA:=mJ (s:=s) (l:=l) ins n;have eA:=nF (s:=s) (l:=l) (12*l.length+12);have hE:∀ j,EX s l 1 j=bQ s l (12*l.length+12) 1 j:=fun _=>rfl;simp only[hE] at hR;generalize bQ s l (12*l.length+12)=ex at hR eA ⊢;refine and3 ⟨pin hi,Vl ht hi,pin hi,fun h1=>?_,fun h1=>?_⟩;rw[h1] at hR;simp only[cond_true] at hR;unfold qG at hR;have u1:=up h0 (cU h1);rw[jv h1];refine⟨pin u1,fun hd=>?_,fun hd=>?_⟩;rw[hd] at hR;subst hR;exact⟨rfl,rfl⟩;rw[hd] at hR;subst hR;exact⟨⟨pin u1,hd⟩,rfl,by rw[cond_false,cA,vl,St.cg];rfl,rfl⟩;rw[h1] at hR;simp only[cond_false] at hR;rw[ju h1];refine⟨pin hi,fun h2=>?_,fun h2=>?_⟩;rw[h2] at hR;simp only[cond_true] at hR;have u1:=up h0 (cU h2);rw[jv h2];unfold pE at hR;have hx:=Er u1;refine⟨⟨pin u1,hx⟩,fun hd=>?_,fun hd=>?_⟩;rw[hd] at hR;subst hR;exact⟨rfl,rfl⟩;rw[hd] at hR;simp only[cond_false] at hR;obtain⟨a,b⟩:=eA 1 (i+1) hd (by omega);have v:iy l (ex 1 (i+1)).i:=⟨by omega,b,h9⟩;have lt:(l.length:Int)-(ex 1 (i+1)).i<n:=by omega
 refine⟨⟨pin u1,hx,hd⟩,⟨pin v,lt⟩,fun hb=>?_,fun hb=>?_⟩;rw[hb] at hR;subst hR;exact⟨rfl,rfl⟩;rw[hb] at hR;simp only[cond_false] at hR;obtain⟨a2,b2⟩:=bA _ hb v.1;have v2:iy l (gM s l ins n (ex 1 (i+1)).i).i:=⟨by omega,b2,h9⟩;refine⟨⟨pin v,lt,hb⟩,pin v2,fun he=>?_,fun he=>?_⟩;have hel:=cU he;have v3:=up v2.1 hel;have lt3:(l.length:Int)-((gM s l ins n (ex 1 (i+1)).i).i+1)<n:=by omega
 rw[he] at hR;simp only[cond_true] at hR;rw[jv he];refine⟨⟨pin v3,lt3⟩,fun hc=>?_,fun hc=>?_⟩;rw[hc] at hR;subst hR;exact⟨rfl,rfl⟩;rw[hc] at hR;subst hR;exact⟨⟨pin v3,lt3,hc⟩,rfl,rfl,rfl⟩;rw[he] at hR;rw[ju he];subst hR;exact⟨rfl,by rw[cond_false,cA,vl,St.cg];rfl,rfl⟩;rw[h2] at hR;simp only[cond_false] at hR;rw[ju h2];refine⟨pin hi,fun h3=>?_,fun h3=>?_⟩;rw[h3] at hR;simp only[cond_true] at hR;have u1:=up h0 (cU h3);rw[jv h3];unfold oh at hR;have hx:=Er u1;refine⟨⟨pin u1,hx⟩,fun hd=>?_,fun hd=>?_⟩;rw[hd] at hR;subst hR;exact⟨rfl,rfl⟩;rw[hd] at hR;simp only[cond_false] at hR;obtain⟨a,b⟩:=eA 1 (i+1) hd (by omega);have v:iy l (ex 1 (i+1)).i:=⟨by omega,b,h9⟩;have lt:(l.length:Int)-(ex 1 (i+1)).i<n:=by omega
 refine⟨⟨pin u1,hx,hd⟩,⟨pin v,lt⟩,fun hb=>?_,fun hb=>?_⟩;rw[hb] at hR;subst hR;exact⟨rfl,rfl⟩;rw[hb] at hR;subst hR;exact⟨⟨pin v,lt,hb⟩,rfl,by rw[cond_false,cA,vl,St.cg];rfl,rfl⟩;rw[h3] at hR;simp only[cond_false] at hR;rw[ju h3];refine⟨pin hi,fun h4=>?_,fun h4=>?_⟩;rw[h4] at hR;simp only[cond_true] at hR;have u1:=up h0 (cU h4);rw[jv h4];refine⟨pin u1,fun hn=>?_,fun hn=>?_⟩;rw[hn] at hR;subst hR;exact⟨rfl,rfl⟩;have u2:=up (by omega) (J3 hn);rw[hn] at hR;simp only[cond_true] at hR;refine⟨⟨pin u1,hn⟩,pin u2,fun hm=>?_,fun hm=>?_⟩;rw[hm] at hR;subst hR;exact⟨rfl,rfl⟩;have u3:=up (by omega) (cU hm);rw[hm] at hR;simp only[cond_true] at hR;refine⟨⟨pin u2,hm⟩,?_⟩;unfold oh at hR;have hx:=Er u3;refine⟨⟨pin u3,hx⟩,fun hd=>?_,fun hd=>?_⟩;rw[hd] at hR;subst hR;exact⟨rfl,rfl⟩;rw[hd] at hR;simp only[cond_false] at hR;obtain⟨a,b⟩:=eA 1 (i+1+1+1) hd (by omega);have v:iy l (ex 1 (i+1+1+1)).i:=⟨by omega,b,h9⟩;have lt:(l.length:Int)-(ex 1 (i+1+1+1)).i<n:=by omega
 refine⟨⟨pin u3,hx,hd⟩,⟨pin v,lt⟩,fun hb=>?_,fun hb=>?_⟩;rw[hb] at hR;subst hR;exact⟨rfl,rfl⟩;rw[hb] at hR;subst hR;exact⟨⟨pin v,lt,hb⟩,rfl,by rw[cond_false,cA,vl,St.cg];rfl,rfl⟩;rw[h4] at hR;simp only[cond_false] at hR;rw[ju h4];refine⟨fun h5=>⟨h5,pin hi,fun h6=>?_,fun h6=>?_⟩,fun h5=>?_⟩;rw[h5,h6] at hR;simp only[Bool.and_self,cond_true] at hR;have u1:=up h0 (cU h6);rw[jv h6];unfold qG at hR;refine⟨pin u1,fun hd=>?_,fun hd=>?_⟩;rw[hd] at hR;subst hR;exact⟨rfl,rfl⟩;rw[hd] at hR;subst hR;exact⟨⟨pin u1,hd⟩,rfl,by rw[cond_false,cA,vl,St.cg];rfl,rfl⟩;rw[h6,Bool.and_false] at hR;simp only[cond_false] at hR;rw[ju h6];refine⟨pin hi,fun hn=>?_,fun hn=>?_⟩;rw[hn] at hR;subst hR;exact⟨rfl,rfl⟩;have u1:=up h0 (J3 hn);rw[hn] at hR;simp only[cond_true] at hR;refine⟨⟨pin hi,hn⟩,pin u1,fun he=>?_,fun he=>?_⟩;rw[he] at hR;subst hR;exact⟨rfl,rfl⟩;have u2:=up (by omega) (cU he);rw[he] at hR;simp only[cond_true] at hR;unfold ny at hR;refine⟨⟨pin u1,he⟩,pin u2,fun hd=>?_,fun hd=>?_⟩;rw[hd] at hR;subst hR;exact⟨rfl,rfl⟩;rw[hd] at hR;subst hR;exact⟨⟨pin u2,hd⟩,rfl,by rw[cond_false,cA,vl,St.cg];rfl,rfl⟩;have h5:ins=false:=h5;rw[h5,Bool.false_and] at hR;simp only[cond_false] at hR;refine⟨pin hi,fun hn=>?_,fun hn=>?_⟩;rw[hn] at hR;subst hR;exact⟨rfl,rfl⟩;have u1:=up h0 (J3 hn);rw[hn] at hR;simp only[cond_true] at hR;refine⟨⟨pin hi,hn⟩,pin u1,fun he=>?_,fun he=>?_⟩;rw[he] at hR;subst hR;exact⟨rfl,rfl⟩;have u2:=up (by omega) (cU he);rw[he] at hR;simp only[cond_true] at hR;unfold ny at hR;refine⟨⟨pin u1,he⟩,pin u2,fun hd=>?_,fun hd=>?_⟩;rw[hd] at hR;subst hR;exact⟨rfl,rfl⟩;rw[hd] at hR;subst hR;exact⟨⟨pin u2,hd⟩,rfl,by rw[cond_false,cA,vl,St.cg];rfl,rfl⟩;cases e
end
section
variable (s:ByteArray) (l:List Tok)
noncomputable def Ys(n:Nat):bX:=(30,ga s l [true] (O9 s l n))::(56,ga s l [true,false] (sJ s l))::zI s l
noncomputable def diJ(n:Nat)(h:HS s l n):List { x:FuncId×gq // fR Tryz.prog x.1 x.2 }:=⟨(30,kV s l [true] (O9 s l n)),iP (by kernel_rfl) h⟩::⟨(56,kV s l [true,false] (sJ s l)),iP (by kernel_rfl) (mS s l)⟩::DK s l
variable {s l} in
theorem Pb{n:Nat}(h:HS s l n):bh Tryz.prog (Ys s l n):=aq (eD (by kernel_rfl) h) (aq (eD (by kernel_rfl) (mS s l)) (mF s l))
noncomputable def sBl(n:Nat)(h:HS s l n)(b:Bool)(u:Value):bg:=jA Tryz.prog (Ys s l n) (diJ s l n h) Tryz.f57 3 [([0,0,1,1],[0,2])] [] [some .pv] b u
abbrev RW(acc:List St):Ob:=⟨50,[.a 0 .pv (St.ak acc)]⟩
theorem Mp(acc:List St)(x:St)(h:x.params=[]):St.ak acc++[PV.int x.k,PV.int x.line,PV.str x.name,PV.strs [],PV.int x.e.k,PV.int x.e.n,PV.str x.e.t,PV.aZ 4 (Ex.ak x.e.l),PV.aZ 10 (St.ak x.body),PV.aZ 10 (St.ak x.els)]=St.ak (acc++[x]):=by
 rw[St.ur,St.fA,St.cg,h,List.append_nil]
theorem Pc(n:Nat)(h:HS s l n)(ins:Bool)(ns:List ByteArray)(R:XR (List St)):∀(k:Nat)(acc:List St)(i:Int),ol s l (iZ s l (gM s l ins n) ins) k acc i=R->iy l i->(l.length:Int)-i<k->(l.length:Int)-i<=n->(acc.length:Int)<=i->
 aJ (sBl s l n h R.die (aU R.e R.a)) (iW R.die (.p (.c (.rs 10 (St.ak R.v)))) (pO s l R.i ins ns)) [0,0,1,1] (fr [(0,pA),(2,.p (.c (.sl 3 0 acc.length 10)))]) (.ofList [U8 s l i ins ns.length,bC,nZ ns,RW acc])
 | 0,acc,i,e,hi,hk,hn,hc=>by
   obtain⟨h0,h1,h2⟩:=hi;omega
 | k + 1, acc, i, e, hi, hk, hn, hc => by
   refine ct (Pb h) (by kernel_rfl) 100 ?_;apply of_eq (q:=let q2:=(ByteArray.mk #[(125:UInt8)]);let q3:=Ob.mk 42 [Fd.m D.str (D.int .i64) cF];let q1:=(iZ s l (gM s l ins n) ins (cO l i q2));(bD s l s (aE l) (q3) ns.length ns i/\True/\false=false)/\((!aA l i q2)=true->(bD s l s (aE l) (q3) ns.length ns (cO l i q2)/\(l.length:Int)-cO l i q2<=(n:Int))/\(q1.die=true->R.die=true/\aU q1.e q1.a=aU R.e R.a)/\(q1.die=false->(bD s l s (aE l) (q3) ns.length ns (cO l i q2)/\(l.length:Int)-cO l i q2<=(n:Int)/\q1.die=false)/\((0:Nat)+acc.length*10<=(St.ak acc).length/\(acc.length+1)*160<=140737488355328)/\aJ (sBl s l n h R.die (aU R.e R.a)) (iW R.die (aP (W.rs (10:Nat) (St.ak R.v))) (pO s l R.i ins ns)) [0,0,1,1] (fr [(0,aR 0 0),(2,aP (W.sl 3 0 (acc.length+1) 10))]) (af.ofList [Ob.mk 63 [Fd.c (W.str s),Fd.c (W.rs (4:Nat) (aE l)),fI q1.i,Fd.c (W.mp (1:Nat)),Fd.c (W.bool ins),fS 2 0 ns.length],q3,Ob.mk 9 [Fd.a 0 D.str ns],Ob.mk 50 [Fd.a 0 D.pv (List.take (acc.length*10) (List.drop (0:Nat) (St.ak acc))++[PV.int q1.v.k,PV.int q1.v.line,PV.str q1.v.name,PV.strs [],PV.int q1.v.e.k,PV.int q1.v.e.n,PV.str q1.v.e.t,PV.aZ (4:Nat) (Ex.ak q1.v.e.l),PV.aZ (10:Nat) (St.ak q1.v.body),PV.aZ (10:Nat) (St.ak q1.v.els)])]])))/\((!aA l i q2)=false->(0:Nat)+acc.length*10<=(St.ak acc).length/\R.die=false/\ax [V.c (W.rs (10:Nat) (List.take (acc.length*10) (List.drop (0:Nat) (St.ak acc))))]=aP (W.rs (10:Nat) (St.ak R.v))/\[Ob.mk 63 [Fd.c (W.str s),Fd.c (W.rs (4:Nat) (aE l)),fI (cO l i q2),Fd.c (W.mp (1:Nat)),Fd.c (W.bool ins),fS 2 0 ns.length],q3,Ob.mk 9 [Fd.a 0 D.str ns]]=pO s l R.i ins ns)) (by kernel_rfl)
   try simp only[sL]
   generalize hq:iZ s l (gM s l ins n) ins=st at e ⊢;have hA:Hg l st:=by rw[<-hq];exact yg (mJ ins n) ins
   have h0:=hi.1;have h9:=hi.2.2;have el:List.take (acc.length*10) (St.ak acc)=St.ak acc:=List.take_of_length_le (by rw[St.dQ];exact Nat.le_refl _);have hl:acc.length*10<=(St.ak acc).length:=by rw[St.dQ];exact Nat.le_refl _
   rw[el];unfold ol at e;refine⟨pin hi,fun h1=>?_,fun h1=>?_⟩;rw[h1] at e;simp only[cond_false] at e;rw[ju h1];refine⟨⟨pin hi,hn⟩,fun hd=>?_,fun hd=>?_⟩;rw[hd] at e;subst e;exact⟨rfl,rfl⟩;rw[hd] at e;simp only[cond_false] at e;obtain⟨a,b,c⟩:=hA _ hd h0;rw[Mp _ _ c];have ih:=Pc n h ins ns R k (acc++[(st i).v]) (st i).i (by rw[hq];exact e) ⟨by omega,b,h9⟩ (by omega) (by omega) (by simp only[List.length_append,List.length_singleton];omega);rw[List.length_append,List.length_singleton] at ih;exact⟨⟨pin hi,hn,hd⟩,⟨hl,by have:=hi.2;omega⟩,ih⟩;rw[h1] at e;rw[jv h1];subst e;exact⟨hl,rfl,rfl,rfl⟩
theorem bl_step(n:Nat)(h:HS s l n):HB s l (n+1):=by
 intro aL i ins ns p e hi hc;unfold Mn at e;split at e;cases e;have hc:(l.length:Int)-i<(n+1:Nat):=hc;refine jb (dies:=diJ s l n h) (aK:=[([0,0,1,1],[0,2])]) (eZ:=[]) (fz:=[some .pv]) (Pb h) Tryz.func57 (by kernel_rfl) 3 (by kernel_rfl) 100 ?_;apply of_eq (q:=let q1:=(gM s l ins (n+1) i);let q2:=(l.length:Int)-i<(↑(n+1):Int);let q3:=aP (W.rs (10:Nat) (St.ak q1.v));let q4:=(RP.mk (q2) q1.die q1.e q1.a (q3) q1.i ins ns);let q5:=Ob.mk 42 [Fd.m D.str (D.int .i64) cF];let q6:=(ByteArray.mk #[(123:UInt8)]);(bD s l s (aE l) (q5) ns.length ns i/\True)/\((!aA l i q6)=true->q1.die=true/\aU (11:Int) (dn s l i)=aU q1.e q1.a)/\((!aA l i q6)=false->(bD s l s (aE l) (q5) ns.length ns i/\True/\(!aA l i q6)=false)/\aJ (jA Tryz.prog (Ys s l n) (diJ s l n h) Tryz.f57 (3:Nat) [([0,0,1,1],[0,2])] [] [some D.pv] q4.die (aU q4.e q4.a)) (iW q4.die q4.r (pO s l q4.i q4.ins q4.ns)) [0,0,1,1] (fr [(0,aR 0 0),(2,aP (W.sl 3 0 0 10))]) (af.ofList [Ob.mk 63 [Fd.c (W.str s),Fd.c (W.rs (4:Nat) (aE l)),fI (i+1),Fd.c (W.mp (1:Nat)),Fd.c (W.bool ins),fS 2 0 ns.length],q5,Ob.mk 9 [Fd.a 0 D.str ns],Ob.mk 50 [Fd.a 0 D.pv []]]))) (by kernel_rfl)
 try simp only[sL]
 generalize hR:gM s l ins (n+1) i=R;have hR:t6 s l (iZ s l (gM s l ins n) ins) i=R:=hR;unfold t6 at hR;refine⟨pin hi,fun h1=>?_,fun h1=>?_⟩;rw[h1] at hR;subst hR;exact⟨rfl,rfl⟩;have hlt:=cU h1;have h0:=hi.1;rw[h1] at hR;simp only[cond_true] at hR;have:=Pc s l n h ins ns R (l.length+1) [] (i+1) hR ⟨by omega,by omega,hi.2.2⟩ (by omega) (by omega) (by simp only[List.length_nil];omega);unfold RW at this;rw[St.cg] at this;exact⟨⟨pin hi,h1⟩,this⟩;cases e
theorem bl_zero:HB s l 0:=by
 intro aL i ins ns p e hi hc;unfold Mn at e;split at e;cases e;have hc:(l.length:Int)-i<(0:Nat):=hc;have:=hi.2.1;omega;cases e
theorem yh(ht:jm s l):∀ n,HB s l n
 | 0=>bl_zero s l
 | n+1=>bl_step s l n (Hl s l ht n (yh ht n))
end
end Go.Proofs.YtnbjjocbncblaaaGreatDoor
