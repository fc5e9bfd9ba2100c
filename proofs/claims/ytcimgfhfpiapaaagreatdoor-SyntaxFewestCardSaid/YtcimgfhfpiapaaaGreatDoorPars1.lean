/- The program's parser: its object; what reads a token. -/
import Derived.Test.YtcimgfhfpiapaaaGreatDoorSplit2
import Derived.Test.YtcimgfhfpiapaaaGreatDoorLoom4
namespace Go.Proofs.YtcimgfhfpiapaaaGreatDoor
open Go.aU
set_option maxRecDepth 100000
abbrev pA:A:=.p (.c (.ptr 0 0))
def tE:List (ByteArray×Int) :=
 bI D.str (D.int .i64) ⟨#[94]⟩ (8:Int) (bI D.str (D.int .i64) ⟨#[37]⟩ (6:Int) (bI D.str (D.int .i64) ⟨#[47]⟩ (6:Int) (bI D.str (D.int .i64) ⟨#[42]⟩ (6:Int) (bI D.str (D.int .i64) ⟨#[45]⟩ (5:Int) (bI D.str (D.int .i64) ⟨#[43]⟩ (5:Int) (bI D.str (D.int .i64) ⟨#[105,110]⟩ (4:Int) (bI D.str (D.int .i64) ⟨#[62,61]⟩ (4:Int) (bI D.str (D.int .i64) ⟨#[62]⟩ (4:Int) (bI D.str (D.int .i64) ⟨#[60,61]⟩ (4:Int) (bI D.str (D.int .i64) ⟨#[60]⟩ (4:Int) (bI D.str (D.int .i64) ⟨#[33,61]⟩ (4:Int) (bI D.str (D.int .i64) ⟨#[61,61]⟩ (4:Int) (bI D.str (D.int .i64) ⟨#[97,110,100]⟩ (2:Int) (bI D.str (D.int .i64) ⟨#[111,114]⟩ (1:Int) []))))))))))))))
noncomputable def levM:{ m:List (ByteArray×Int) // m=tE }:=Classical.choice ⟨⟨tE,rfl⟩⟩
noncomputable def cx:List (ByteArray×Int):=levM.1
theorem Nh:cx=tE:=levM.2
noncomputable abbrev bw:Ob:=⟨49,[.m .str (.int .i64) cx]⟩
theorem Qf:bt Tryz.prog 17 [] [] (.p (.c (.mp 0))) [bw]:=by
 refine bq (aQ:=[]) aK Tryz.func17 (by kernel_rfl) (ak:=0) rfl (by kernel_rfl) 100 ?_;apply of_eq (q:=ax [V.c (W.mp (0:Nat))]=aP (W.mp (0:Nat))/\[Ob.mk 49 [Fd.m D.str (D.int .i64) (bI D.str (D.int .i64) (ByteArray.mk #[(94:UInt8)]) (8:Int) (bI D.str (D.int .i64) (ByteArray.mk #[(37:UInt8)]) (6:Int) (bI D.str (D.int .i64) (ByteArray.mk #[(47:UInt8)]) (6:Int) (bI D.str (D.int .i64) (ByteArray.mk #[(42:UInt8)]) (6:Int) (bI D.str (D.int .i64) (ByteArray.mk #[(45:UInt8)]) (5:Int) (bI D.str (D.int .i64) (ByteArray.mk #[(43:UInt8)]) (5:Int) (bI D.str (D.int .i64) (ByteArray.mk #[(105:UInt8),(110:UInt8)]) (4:Int) (bI D.str (D.int .i64) (ByteArray.mk #[(62:UInt8),(61:UInt8)]) (4:Int) (bI D.str (D.int .i64) (ByteArray.mk #[(62:UInt8)]) (4:Int) (bI D.str (D.int .i64) (ByteArray.mk #[(60:UInt8),(61:UInt8)]) (4:Int) (bI D.str (D.int .i64) (ByteArray.mk #[(60:UInt8)]) (4:Int) (bI D.str (D.int .i64) (ByteArray.mk #[(33:UInt8),(61:UInt8)]) (4:Int) (bI D.str (D.int .i64) (ByteArray.mk #[(61:UInt8),(61:UInt8)]) (4:Int) (bI D.str (D.int .i64) (ByteArray.mk #[(97:UInt8),(110:UInt8),(100:UInt8)]) (2:Int) (bI D.str (D.int .i64) (ByteArray.mk #[(111:UInt8),(114:UInt8)]) (1:Int) [])))))))))))))))]]=[bw]) (by kernel_rfl)
 try simp only[sL,Int.reduceEq,Int.reduceNe,Nat.reduceAdd]
 unfold bw;rw[Nh];exact⟨rfl,rfl⟩
abbrev Tf(s:ByteArray)(l:List Tok)(i:Int)(ins:Bool)(m:Nat):Ob:=⟨73,[.c (.str s),.c (.rs 4 (aB l)),.c (.int .i64 i),.c (.mp 1),.c (.bool ins),.c (.sl 2 0 m 1)]⟩
abbrev mJ(ns:List ByteArray):Ob:=⟨9,[.a 0 .str ns]⟩
noncomputable abbrev pO(s:ByteArray)(l:List Tok)(i:Int)(ins:Bool)(ns:List ByteArray):List Ob:=[Tf s l i ins ns.length,bw,mJ ns]
def ay(l:List Tok)(i:Int):Tok:=l.getD i.toNat ⟨0,eS,0,0⟩
def dn(s:ByteArray)(l:List Tok)(i:Int):Int:=if i<l.length then(ay l i).at_ else s.size
def aG(l:List Tok)(i:Int)(x:ByteArray):Bool:=decide (i<l.length)&&(decide ((ay l i).text=x)&&(decide ((ay l i).kind=5)||decide ((ay l i).kind=2)))
abbrev gJ(l:List Tok)(i:Int):Prop:=0<=i/\i<=l.length/\l.length<=20000
theorem CA(l:List Tok):(aB l).length/4=l.length:=by rw[lH];omega
theorem Tg{l:List Tok}{i:Int}(h:gJ l i)(hi:i<l.length):∃ n,∃ hn:n<l.length,i.toNat=n/\ay l i=l[n]:=by
 obtain⟨h0,h1,_⟩:=h;refine⟨i.toNat,by omega,rfl,?_⟩;unfold ay;rw[List.getD_eq_getElem?_getD,List.getElem?_eq_getElem (by omega)];rfl
theorem WI{l:List Tok}{i:Int}(h:gJ l i)(hi:i<l.length):(aB l).getD (i.toNat*4+0) (.bool false)=.int (ay l i).kind:=by
 obtain⟨n,hn,e1,e2⟩:=Tg h hi;rw[e1,e2];exact mU hn 0 (by omega)
theorem Qg{l:List Tok}{i:Int}(h:gJ l i)(hi:i<l.length):(aB l).getD (i.toNat*4+1) (.bool false)=.str (ay l i).text:=by
 obtain⟨n,hn,e1,e2⟩:=Tg h hi;rw[e1,e2];exact mU hn 1 (by omega)
theorem tkg2{l:List Tok}{i:Int}(h:gJ l i)(hi:i<l.length):(aB l).getD (i.toNat*4+2) (.bool false)=.int (ay l i).n:=by
 obtain⟨n,hn,e1,e2⟩:=Tg h hi;rw[e1,e2];exact mU hn 2 (by omega)
theorem tkg3{l:List Tok}{i:Int}(h:gJ l i)(hi:i<l.length):(aB l).getD (i.toNat*4+3) (.bool false)=.int (ay l i).at_:=by
 obtain⟨n,hn,e1,e2⟩:=Tg h hi;rw[e1,e2];exact mU hn 3 (by omega)
theorem CB{l:List Tok}{i:Int}(h:gJ l i)(hi:i<l.length)(j:Nat)(hj:j<4):i.toNat*4+j<(aB l).length:=by
 rw[lH];obtain⟨h0,_,_⟩:=h;omega
theorem Qh(s:ByteArray)(l:List Tok)(i:Int)(ins:Bool)(ns:List ByteArray)(h:gJ l i):bt Tryz.prog 50 [pA] (pO s l i ins ns) (.p (.c (.int .i64 (dn s l i)))) (pO s l i ins ns):=by
 refine bq (aQ:=[]) aK Tryz.func50 (by kernel_rfl) (ak:=3) rfl (by kernel_rfl) 100 ?_;apply of_eq (q:=let q1:=[Ob.mk 73 [Fd.c (W.str s),Fd.c (W.rs (4:Nat) (aB l)),fI i,Fd.c (W.mp (1:Nat)),Fd.c (W.bool ins),fS 2 0 ns.length],Ob.mk 49 [Fd.m D.str (D.int .i64) cx],Ob.mk 9 [Fd.a 0 D.str ns]]=pO s l i ins ns;(decide (i<(↑((aB l).length/4):Int))=true->((0:Int)<=i/\i.toNat*4<(aB l).length)/\i.toNat*4+3<(aB l).length/\(PV.int (0:Int)).like ((aB l).getD (i.toNat*4+3) (PV.bool false))=true/\ax [V.c ((PV.int (0:Int)).at ((aB l).getD (i.toNat*4+3) (PV.bool false)))]=nI (dn s l i)/\q1)/\(decide (i<(↑((aB l).length/4):Int))=false->ax [vI (s.size:Int)]=nI (dn s l i)/\q1)) (by kernel_rfl)
 try simp only[sL]
 rw[CA];unfold dn;refine⟨fun hi=>?_,fun hi=>by rw[if_neg (by omega)];rfl⟩;rw[tkg3 h hi,if_pos hi];exact⟨⟨h.1,CB h hi 0 (by omega)⟩,CB h hi 3 (by omega),rfl,rfl⟩
theorem is_sem(s:ByteArray)(l:List Tok)(i:Int)(ins:Bool)(ns:List ByteArray)(h:gJ l i)(x:ByteArray):bt Tryz.prog 59 [pA,sS x] (pO s l i ins ns) (bB (aG l i x)) (pO s l i ins ns):=by
 refine bq (aQ:=[]) aK Tryz.func59 (by kernel_rfl) (ak:=3) rfl (by kernel_rfl) 100 ?_;apply of_eq (q:=let q4:=(aB l);let q5:=decide (i<(↑(q4.length/4):Int));let q6:=(PV.int (0:Int)).like (q4.getD (i.toNat*4+0) (PV.bool false))=true;let q7:=decide ((q4.getD (i.toNat*4+1) (PV.bool false)).bL=x);let q8:=decide ((q4.getD (i.toNat*4+0) (PV.bool false)).asInt=5);let q1:=(bif q5 then q7 else false)=true;let q2:=q8=false;let q3:=q5=true;(q3->q3)/\(q3->q3)/\(q3->q3)/\(q3->q3)/\(q3->q3)/\(q3->q3)/\(q3->q3)/\(q3->q3)/\(q3->(0:Int)<=i/\i.toNat*4<q4.length)/\(q3->q3)/\(q3->q3)/\(q3->i.toNat*4+1<q4.length)/\(q3->(PV.str (ByteArray.mk #[])).like (q4.getD (i.toNat*4+1) (PV.bool false))=true)/\(q3->q3)/\(q3->q3)/\(q3->q3)/\(q1->q1)/\(q1->q1)/\(q1->q1)/\(q1->q1)/\(q1->q1)/\(q1->q1)/\(q1->q1)/\(q1->q1)/\(q1->(0:Int)<=i/\i.toNat*4<q4.length)/\(q1->q1)/\(q1->q1)/\(q1->i.toNat*4+0<q4.length)/\(q1->q6)/\(q1->q1)/\(q1->q1)/\(q1/\q2->q1/\q2)/\(q1/\q2->q1/\q2)/\(q1/\q2->q1/\q2)/\(q1/\q2->q1/\q2)/\(q1/\q2->q1/\q2)/\(q1/\q2->q1/\q2)/\(q1/\q2->q1/\q2)/\(q1/\q2->q1/\q2)/\(q1/\q2->(0:Int)<=i/\i.toNat*4<q4.length)/\(q1/\q2->q1/\q2)/\(q1/\q2->q1/\q2)/\(q1/\q2->i.toNat*4+0<q4.length)/\(q1/\q2->q6)/\(q1/\q2->q1/\q2)/\(q1->q1)/\(q1->q2->q1/\q2)/\(q1->q1)/\ax [vB (bif bif q5 then q7 else false then bif q8 then true else decide ((q4.getD (i.toNat*4+0) (PV.bool false)).asInt=2) else false)]=bB (aG l i x)/\[Ob.mk 73 [Fd.c (W.str s),Fd.c (W.rs (4:Nat) q4),fI i,Fd.c (W.mp (1:Nat)),Fd.c (W.bool ins),fS 2 0 ns.length],Ob.mk 49 [Fd.m D.str (D.int .i64) cx],Ob.mk 9 [Fd.a 0 D.str ns]]=pO s l i ins ns) (by kernel_rfl)
 try simp only[sL]
 rw[CA];by_cases hi:i<l.length;rw[WI h hi,Qg h hi];have h0:=CB h hi 0 (by omega);have h1:=CB h hi 1 (by omega);refine⟨fun _=>⟨h.1,h0⟩,fun _=>h1,fun _=>rfl,fun _=>⟨h.1,h0⟩,fun _=>h0,fun _=>rfl,fun _=>⟨h.1,h0⟩,fun _=>h0,fun _=>rfl,fun a b=>⟨a,b⟩,?_⟩;unfold aG;rw[Bool.and_assoc];rfl;unfold aG;rw[decide_eq_false hi];refine⟨fun h=>absurd h hi,fun h=>absurd h hi,fun h=>absurd h hi,fun h=>absurd h.1 hi,fun h=>absurd h.1 hi,fun h=>absurd h.1 hi,fun h=>absurd h.1.1 hi,fun h=>absurd h.1.1 hi,fun h=>absurd h.1.1 hi,fun a b=>⟨a,b⟩,rfl⟩
structure bC(s:ByteArray)(l:List Tok)(s':ByteArray)(l':List PV)(oM:Ob)(n:Nat)(ns:List ByteArray)(i:Int):Prop where
 es:s'=s
 el:l'=aB l
 em:oM=bw
 en:n=ns.length
 ok:gJ l i
theorem pin{s:ByteArray}{l:List Tok}{ns:List ByteArray}{i:Int}(h:gJ l i):bC s l s (aB l) bw ns.length ns i:=⟨rfl,rfl,rfl,rfl,h⟩
structure Qi where
 c:Prop
 die:Bool:=false
 e:Int:=0
 a:Int:=0
 r:A
 i:Int
 ins:Bool
 ns:List ByteArray
abbrev iI:=List A->Int->Bool->List ByteArray->Option Qi
def Ni(aj:List Ob)(m:Nat):Bool:=match aj with
 | [⟨t,[.c (.str _),.c (.rs q _),.c (.int .i64 _),.c (.mp k),.c (.bool _),.c (.sl x y _ z)]⟩,_,⟨tn,[.a 0 .str _]⟩]=>Nat.beq m 0&&(Nat.beq t 73&&(Nat.beq q 4&&(Nat.beq k 1&&(Nat.beq x 2&&(Nat.beq y 0&&(Nat.beq z 1&&Nat.beq tn 9))))))
 | _=>false
noncomputable def fR(s:ByteArray)(l:List Tok)(cB:List Bool)(g:iI):cT:={ cB:=cB,ak:=some 3,f:=fun args aj=>match args,aj with
 | .p (.c (.ptr m 0))::aO,[⟨t,[.c (.str s'),.c (.rs q l'),.c (.int .i64 i),.c (.mp k),.c (.bool ins),.c (.sl x y n z)]⟩,oM,⟨tn,[.a 0 .str ns]⟩]=>bif Ni aj m then(match g aO i ins ns with
  | some p=>some (.p (bC s l s' l' oM n ns i/\p.c/\p.die=false),p.r,pO s l p.i p.ins p.ns)
  | none=>none) else none
 | _,_=>none }
noncomputable def jZ(s:ByteArray)(l:List Tok)(cB:List Bool)(g:iI):fX:={ cB:=cB,f:=fun args aj=>match args,aj with
 | .p (.c (.ptr m 0))::aO,[⟨t,[.c (.str s'),.c (.rs q l'),.c (.int .i64 i),.c (.mp k),.c (.bool ins),.c (.sl x y n z)]⟩,oM,⟨tn,[.a 0 .str ns]⟩]=>bif Ni aj m then(match g aO i ins ns with
  | some p=>some (.p (bC s l s' l' oM n ns i/\p.c),some p.die,aV p.e p.a)
  | none=>none) else none
 | _,_=>none }
def lV(f:Nat)(s:ByteArray)(l:List Tok)(g:iI):Prop:=∀ aO i ins ns p,g aO i ins ns=some p->gJ l i->p.c->
 (p.die=false->fQ Tryz.prog f 3 (pA::aO) (pO s l i ins ns) p.r (pO s l p.i p.ins p.ns))/\(p.die=true->kW Tryz.prog f (pA::aO) (pO s l i ins ns) (aV p.e p.a))
theorem eu{f:Nat}{s:ByteArray}{l:List Tok}{cB:List Bool}{g:iI}(he:enters Tryz.prog f=true)(h:lV f s l g):bE Tryz.prog f (fR s l cB g):=by
 refine⟨he,fun args aj c r aY e hc=>?_⟩;simp only[fR] at e;split at e;rename_i m aO t s' q l' i k ins x y n z oM tn ns;obtain⟨hb,e1⟩:=ah.aA e;clear e;simp only[Ni,Bool.and_eq_true,Nat.beq_eq] at hb;obtain⟨rfl,rfl,rfl,rfl,rfl,rfl,rfl,rfl⟩:=hb;split at e1;rename_i p hp;cases e1;obtain⟨⟨rfl,rfl,rfl,rfl,h2⟩,h3,h4⟩:=hc;exact(h aO i ins ns p hp h2 h3).1 h4;cases e1;cases e
theorem ij{f:Nat}{s:ByteArray}{l:List Tok}{cB:List Bool}{g:iI}(he:enters Tryz.prog f=true)(h:lV f s l g):fJ Tryz.prog f (jZ s l cB g):=by
 refine⟨he,fun args aj c b u e hc hb0=>?_⟩;simp only[jZ] at e;split at e;rename_i m aO t s' q l' i k ins x y n z oM tn ns;obtain⟨hb,e1⟩:=ah.aA e;clear e;simp only[Ni,Bool.and_eq_true,Nat.beq_eq] at hb;obtain⟨rfl,rfl,rfl,rfl,rfl,rfl,rfl,rfl⟩:=hb;split at e1
 . rename_i p hp;cases e1;obtain⟨⟨rfl,rfl,rfl,rfl,h2⟩,h3⟩:=hc;refine(h aO i ins ns p hp h2 h3).2 ?_;cases hd:p.die with
   | true=>rfl
   | false=>rw[hd] at hb0;exact absurd rfl hb0
 cases e1;cases e
section
variable (s:ByteArray) (l:List Tok)
def WJ:iI:=fun aO i ins ns=>match aO with | []=>some { c:=True,r:=.p (.c (.int .i64 (dn s l i))),i:=i,ins:=ins,ns:=ns }|_=>none
theorem WK:lV 50 s l (WJ s l):=by
 intro aO i ins ns p e h hc;unfold WJ at e;split at e;cases e;exact⟨fun _=>Qh s l i ins ns h,fun h=>by cases h⟩;cases e
def gIs:iI:=fun aO i ins ns=>match aO with | [.p (.c (.str x))]=>some { c:=True,r:=bB (aG l i x),i:=i,ins:=ins,ns:=ns }|_=>none
theorem aas:lV 59 s l (gIs l):=by
 intro aO i ins ns p e h hc;unfold gIs at e;split at e;cases e;exact⟨fun _=>is_sem s l i ins ns h _,fun h=>by cases h⟩;cases e
noncomputable def gamA:cg:=[(50,fR s l [true] (WJ s l)),(59,fR s l [true,false] (gIs l))]
theorem FJ:bp Tryz.prog (gamA s l):=aq (eu (by kernel_rfl) (WK s l)) (aq (eu (by kernel_rfl) (aas s l)) aK)
def cJ(i:Int)(x:ByteArray):Int:=if aG l i x then i+1 else i
variable {l} in
theorem iM{i:Int}{x:ByteArray}(h:aG l i x=false):cJ l i x=i:=by unfold cJ;rw[if_neg (by rw[h];simp)]
variable {l} in
theorem iN{i:Int}{x:ByteArray}(h:aG l i x=true):cJ l i x=i+1:=by unfold cJ;rw[if_pos h]
def Qj:iI:=fun aO i ins ns=>match aO with | [.p (.c (.str x))]=>some { c:=True,r:=bB (aG l i x),i:=cJ l i x,ins:=ins,ns:=ns }|_=>none
variable {l} in
theorem cP{i:Int}{x:ByteArray}(h:aG l i x=true):i<l.length:=by
 unfold aG at h;simp only[Bool.and_eq_true,decide_eq_true_eq] at h;exact h.1
theorem Ti:lV 32 s l (Qj l):=by
 intro aO i ins ns p e h hc;unfold Qj at e;split at e;rename_i x;cases e;refine⟨fun _=>?_,fun h=>by cases h⟩;refine lF (aQ:=[]) (eV:=[]) (fz:=[]) (FJ s l) Tryz.func32 (by kernel_rfl) 3 (by kernel_rfl) 100 ?_;apply of_eq (q:=let q1:=Ob.mk 49 [Fd.m D.str (D.int .i64) cx];(bC s l s (aB l) (q1) ns.length ns i/\True/\false=false)/\((!aG l i x)=true->ax [vB false]=bB (aG l i x)/\[Ob.mk 73 [Fd.c (W.str s),Fd.c (W.rs (4:Nat) (aB l)),fI i,Fd.c (W.mp (1:Nat)),Fd.c (W.bool ins),fS 2 0 ns.length],q1,Ob.mk 9 [Fd.a 0 D.str ns]]=pO s l (cJ l i x) ins ns)/\((!aG l i x)=false->ax [vB true]=bB (aG l i x)/\[Ob.mk 73 [Fd.c (W.str s),Fd.c (W.rs (4:Nat) (aB l)),fI (IntKind.i64.wrap (i+1)),Fd.c (W.mp (1:Nat)),Fd.c (W.bool ins),fS 2 0 ns.length],q1,Ob.mk 9 [Fd.a 0 D.str ns]]=pO s l (cJ l i x) ins ns)) (by kernel_rfl)
 try simp only[sL]
 refine⟨pin h,fun h1=>?_,fun h1=>?_⟩;rw[iM h1,h1];exact⟨rfl,rfl⟩;have:=cP h1;have h0:=h.1;have h2:=h.2;rw[iN h1,h1,wrap64 (by omega) (by omega)];exact⟨rfl,rfl⟩;cases e
def KH:iI:=fun aO i ins ns=>match aO with | []=>some { c:=True,die:=true,e:=11,a:=dn s l i,r:=.bF [],i:=i,ins:=ins,ns:=ns }|_=>none
theorem Qk:lV 31 s l (KH s l):=by
 intro aO i ins ns p e h hc;unfold KH at e;split at e;cases e;refine⟨fun h=>(by cases h),fun h2=>?_⟩;refine(iE (dies:=[]) (aQ:=[]) (eV:=[]) (fz:=[]) (FJ s l) Tryz.func31 (by kernel_rfl) 3 (by kernel_rfl) (b:=true) (r0:=.bF []) (bH:=[]) 100 ?_).2 rfl;apply of_eq (q:=(bC s l s (aB l) (Ob.mk 49 [Fd.m D.str (D.int .i64) cx]) ns.length ns i/\True/\false=false)/\true=true/\Value.iface (107:Nat) (Value.agg #[Value.int .i64 (11:Int),Value.int .i64 (dn s l i)])=aV (11:Int) (dn s l i)) (by kernel_rfl)
 try simp only[sL]
 exact⟨pin h,rfl⟩;cases e
noncomputable def yg:cg:=(32,fR s l [true,false] (Qj l))::gamA s l
theorem lg:bp Tryz.prog (yg s l):=aq (eu (by kernel_rfl) (Ti s l)) (FJ s l)
noncomputable def CC:List { x:FuncId×fX // fJ Tryz.prog x.1 x.2 }:=[⟨(31,jZ s l [true] (KH s l)),ij (by kernel_rfl) (Qk s l)⟩]
def qM:iI:=fun aO i ins ns=>match aO with | [.p (.c (.str x))]=>some { c:=True,die:=!aG l i x,e:=11,a:=dn s l i,r:=.bF [],i:=i+1,ins:=ins,ns:=ns }|_=>none
theorem lI:lV 34 s l (qM s l):=by
 intro aO i ins ns p e h hc;unfold qM at e;split at e;rename_i x;cases e;refine iE (dies:=CC s l) (aQ:=[]) (eV:=[]) (fz:=[]) (lg s l) Tryz.func34 (by kernel_rfl) 3 (by kernel_rfl) 100 ?_;apply of_eq (q:=let q1:=Ob.mk 49 [Fd.m D.str (D.int .i64) cx];(bC s l s (aB l) (q1) ns.length ns i/\True/\false=false)/\((!aG l i x)=true->(bC s l s (aB l) (q1) ns.length ns (cJ l i x)/\True)/\(true=true->(!aG l i x)=true/\aV (11:Int) (dn s l (cJ l i x))=aV (11:Int) (dn s l i))/\(true=false->False))/\((!aG l i x)=false->(!aG l i x)=false/\ax []=A.bF []/\[Ob.mk 73 [Fd.c (W.str s),Fd.c (W.rs (4:Nat) (aB l)),fI (cJ l i x),Fd.c (W.mp (1:Nat)),Fd.c (W.bool ins),fS 2 0 ns.length],q1,Ob.mk 9 [Fd.a 0 D.str ns]]=pO s l (i+1) ins ns)) (by kernel_rfl)
 try simp only[sL]
 refine⟨pin h,fun h1=>?_,fun h1=>?_⟩;rw[iM h1,h1];exact⟨pin h,fun _=>⟨rfl,rfl⟩,fun h=>by cases h⟩;rw[iN h1,h1];exact⟨rfl,rfl,rfl⟩;cases e
def gq(i:Int):Bool:=decide (i<l.length)&&decide ((ay l i).kind=1)
def uF:iI:=fun aO i ins ns=>match aO with | []=>some { c:=True,die:=!gq l i,e:=11,a:=dn s l i,r:=sS (ay l i).text,i:=i+1,ins:=ins,ns:=ns }|_=>none
theorem oU:lV 61 s l (uF s l):=by
 intro aO i ins ns p e h hc;unfold uF at e;split at e;cases e;refine iE (dies:=CC s l) (aQ:=[]) (eV:=[]) (fz:=[]) (lg s l) Tryz.func61 (by kernel_rfl) 3 (by kernel_rfl) 100 ?_;apply of_eq (q:=let q0:=IntKind.i64.wrap;let q2:=(q0 (q0 (i+1)-1));let q5:=(aB l);let q3:=decide ((↑(q5.length/4):Int)<=i);let q4:=decide ((q5.getD (i.toNat*4+0) (PV.bool false)).asInt=1);let q1:=q3=false;(q1->q1)/\(q1->q1)/\(q1->q1)/\(q1->q1)/\(q1->q1)/\(q1->q1)/\(q1->q1)/\(q1->q1)/\(q1->(0:Int)<=i/\i.toNat*4<q5.length)/\(q1->q1)/\(q1->q1)/\(q1->i.toNat*4+0<q5.length)/\(q1->(PV.int (0:Int)).like (q5.getD (i.toNat*4+0) (PV.bool false))=true)/\(q1->q1)/\(q1->q1)/\((bif q3 then true else !q4)=true->(bC s l s q5 (Ob.mk 49 [Fd.m D.str (D.int .i64) cx]) ns.length ns i/\True)/\(true=true->(!gq l i)=true/\aV (11:Int) (dn s l i)=aV (11:Int) (dn s l i))/\(true=false->False))/\((bif q3 then true else !q4)=false->((0:Int)<=q0 (q0 (i+1)-1)/\q2.toNat*4<q5.length)/\q2.toNat*4+1<q5.length/\(PV.str (ByteArray.mk #[])).like (q5.getD (q2.toNat*4+1) (PV.bool false))=true/\(!gq l i)=false/\ax [V.c ((PV.str (ByteArray.mk #[])).at (q5.getD (q2.toNat*4+1) (PV.bool false)))]=sS (ay l i).text/\[Ob.mk 73 [Fd.c (W.str s),Fd.c (W.rs (4:Nat) q5),fI (q0 (i+1)),Fd.c (W.mp (1:Nat)),Fd.c (W.bool ins),fS 2 0 ns.length],Ob.mk 49 [Fd.m D.str (D.int .i64) cx],Ob.mk 9 [Fd.a 0 D.str ns]]=pO s l (i+1) ins ns)) (by kernel_rfl)
 try simp only[sL]
 rw[CA];have h0:=h.1;have h2:=h.2;by_cases hi:i<l.length;rw[wrap64 (n:=i+1) (by omega) (by omega),Int.add_sub_cancel,wrap64 (by omega) (by omega),WI h hi,Qg h hi];have g0:=CB h hi 0 (by omega);have g1:=CB h hi 1 (by omega);unfold gq;rw[decide_eq_true hi];refine⟨fun _=>⟨h0,g0⟩,fun _=>g0,fun _=>rfl,fun h1=>⟨pin h,fun _=>?_,fun h=>by cases h⟩,fun h1=>⟨⟨h0,g0⟩,g1,rfl,?_,rfl,rfl⟩⟩;rcases h1 with h1|h1;omega;exact decide_eq_false h1;exact decide_eq_true h1.2;refine⟨fun h=>absurd h hi,fun h=>absurd h hi,fun h=>absurd h hi,fun _=>⟨pin h,fun _=>?_,fun h=>by cases h⟩,fun h1=>absurd h1.1 hi⟩;unfold gq;rw[decide_eq_false hi];rfl;cases e
def dM(x:ByteArray):Int:=dz .str (.int .i64) tE x
theorem Ij(x:ByteArray):dz .str (.int .i64) cx x=dM x:=by rw[Nh];rfl
def cL(i lv:Int):Bool:=decide (i<l.length)&&(aG l i (ay l i).text&&decide (dM (ay l i).text=lv))
noncomputable def gOp:iI:=fun aO i ins ns=>match aO with | [.p (.c (.int .i64 lv))]=>some { c:=True,r:=.bF [.c (.str (if cL l i lv then(ay l i).text else eS)),.c (.bool (cL l i lv))],i:=if cL l i lv then i+1 else i,ins:=ins,ns:=ns }|_=>none
theorem aat:lV 33 s l (gOp l):=by
 intro aO i ins ns p e h hc;unfold gOp at e;split at e;rename_i lv;cases e;refine⟨fun _=>?_,fun h=>by cases h⟩;refine lF (aQ:=[]) (eV:=[]) (fz:=[]) (lg s l) Tryz.func33 (by kernel_rfl) 3 (by kernel_rfl) 100 ?_;apply of_eq (q:=let q5:=Ob.mk 49 [Fd.m D.str (D.int .i64) cx];let q6:=V.c (W.str (if cL l i lv=true then(ay l i).text else eS));let q7:=(aB l);let q8:=(i.toNat*4+1);let q1:=(!aG l i (q7.getD q8 (PV.bool false)).bL)=false;let q2:=[Ob.mk 73 [Fd.c (W.str s),Fd.c (W.rs (4:Nat) q7),fI i,Fd.c (W.mp (1:Nat)),Fd.c (W.bool ins),fS 2 0 ns.length],q5,Ob.mk 9 [Fd.a 0 D.str ns]]=pO s l (if cL l i lv=true then i+1 else i) ins ns;let q3:=ax [V.c (W.str (ByteArray.mk #[])),vB false]=A.bF [q6,vB (cL l i lv)];let q4:=decide (dz D.str (D.int .i64) cx (q7.getD q8 (PV.bool false)).bL=lv);(decide ((↑(q7.length/4):Int)<=i)=true->q3/\q2)/\(decide ((↑(q7.length/4):Int)<=i)=false->((0:Int)<=i/\i.toNat*4<q7.length)/\i.toNat*4+1<q7.length/\(PV.str (ByteArray.mk #[])).like (q7.getD q8 (PV.bool false))=true/\(bC s l s q7 (q5) ns.length ns i/\True/\false=false)/\(q1->q1)/\(q1->q1)/\(q1->q1)/\(q1->q1/\q1/\((!q4)=true->q3/\q2)/\((!q4)=false->ax [V.c ((PV.str (ByteArray.mk #[])).at (q7.getD q8 (PV.bool false))),vB true]=A.bF [q6,vB (cL l i lv)]/\[Ob.mk 73 [Fd.c (W.str s),Fd.c (W.rs (4:Nat) q7),fI (IntKind.i64.wrap (i+1)),Fd.c (W.mp (1:Nat)),Fd.c (W.bool ins),fS 2 0 ns.length],q5,Ob.mk 9 [Fd.a 0 D.str ns]]=pO s l (if cL l i lv=true then i+1 else i) ins ns))/\((!aG l i (q7.getD q8 (PV.bool false)).bL)=!false->q3/\q2))) (by kernel_rfl)
 try simp only[sL]
 rw[CA];have h0:=h.1;have h2:=h.2;have hF:cL l i lv=false->ax [V.c (W.str { data:=#[] }),V.c (W.bool false)]=A.bF [V.c (W.str (if cL l i lv=true then(ay l i).text else eS)),V.c (W.bool (cL l i lv))]/\pO s l i ins ns=pO s l (if cL l i lv=true then i+1 else i) ins ns:=by
  intro hf;rw[hf];exact⟨rfl,rfl⟩
 by_cases hi:i<l.length;rw[wrap64 (n:=i+1) (by omega) (by omega),Qg h hi];refine⟨fun h=>by omega,fun _=>⟨⟨h0,CB h hi 0 (by omega)⟩,CB h hi 1 (by omega),rfl,pin h,?_⟩⟩;have ho:cL l i lv=(aG l i (ay l i).text&&decide (dM (ay l i).text=lv)):=by unfold cL;rw[decide_eq_true hi];rfl
 refine⟨fun h1=>⟨h1,h1,fun h2=>hF ?_,fun h2=>?_⟩,fun h1=>hF ?_⟩;have h1:aG l i (ay l i).text=true:=h1;rw[ho,h1];exact decide_eq_false (fun e=>h2 ((Ij _).trans e));have h1:aG l i (ay l i).text=true:=h1;have h2:dM (ay l i).text=lv:=(Ij _).symm.trans h2;have:cL l i lv=true:=by rw[ho,h1,decide_eq_true h2];rfl
 rw[this];exact⟨rfl,rfl⟩;have h1:(!aG l i (ay l i).text)=true:=h1;rw[Bool.not_eq_true'] at h1;rw[ho,h1];rfl;refine⟨fun _=>hF ?_,fun h=>absurd h hi⟩;unfold cL;rw[decide_eq_false hi];rfl;cases e
end
inductive Ex where
 | mk (k n:Int) (t:ByteArray) (l:List Ex)
def Ex.k:Ex->Int | .mk k _ _ _=>k
def Ex.n:Ex->Int | .mk _ n _ _=>n
def Ex.t:Ex->ByteArray | .mk _ _ t _=>t
def Ex.l:Ex->List Ex | .mk _ _ _ l=>l
mutual
def Ex.nZ:Ex->List PV
 | .mk k n t l=>[.int k,.int n,.str t,.aZ 4 (Ex.ai l)]
def Ex.ai:List Ex->List PV
 | []=>[]
 | e::l=>e.nZ++Ex.ai l
end
theorem Ex.Ay(e:Ex):e.nZ=[.int e.k,.int e.n,.str e.t,.aZ 4 (Ex.ai e.l)]:=by
 cases e;rw[Ex.nZ];rfl
theorem Ex.bZ:Ex.ai []=[]:=by rw[Ex.ai]
theorem Ex.eH(e:Ex)(l:List Ex):Ex.ai (e::l)=.int e.k::.int e.n::.str e.t::.aZ 4 (Ex.ai e.l)::Ex.ai l:=by
 rw[Ex.ai,Ex.Ay];rfl
theorem Ex.sK(l m:List Ex):Ex.ai (l++m)=Ex.ai l++Ex.ai m:=by
 induction l with
 | nil=>rw[Ex.bZ];rfl
 | cons e l ih=>rw[List.cons_append,Ex.eH,Ex.eH,ih];rfl
theorem Ex.dJ(l:List Ex):(Ex.ai l).length=l.length*4:=by
 induction l with
 | nil=>rw[Ex.bZ];rfl
 | cons e l ih=>rw[Ex.eH];simp only[List.length_cons,ih];omega
def exV(e:Ex):V:=.agg [.int .i64 e.k,.int .i64 e.n,.str e.t,.rs 4 (Ex.ai e.l)]
abbrev iS:ByteArray:=⟨#[110,111,116]⟩
abbrev fP:ByteArray:=⟨#[45]⟩
abbrev gM:ByteArray:=⟨#[91]⟩
abbrev gK:ByteArray:=⟨#[93]⟩
abbrev dP:ByteArray:=⟨#[40]⟩
abbrev dU:ByteArray:=⟨#[41]⟩
abbrev kR:ByteArray:=⟨#[44]⟩
abbrev qB:ByteArray:=⟨#[116,114,117,101]⟩
abbrev rV:ByteArray:=⟨#[102,97,108,115,101]⟩
def gT(t:ByteArray)(x y:Ex):Ex:=.mk 9 0 t [x,y]
def lq(t:ByteArray)(x:Ex):Ex:=.mk 8 0 t [x]
def tF(x y:Ex):Ex:=.mk 7 0 eS [x,y]
structure XR(α:Type) where
 die:Bool
 e:Int
 a:Int
 v:α
 i:Int
def jQ:Ex:=.mk 0 0 eS []
section
variable (s:ByteArray) (l:List Tok)
def jJ{α:Type}(v:α)(i:Int):XR α:=⟨true,11,dn s l i,v,i⟩
def eW{α:Type}(v:α)(i:Int):XR α:=⟨false,0,0,v,i⟩
abbrev jm:=Int->Int->XR Ex
noncomputable def kS(ex:jm)(lv:Int):Nat->Ex->Int->XR Ex
 | 0,x,i=>jJ s l x i
 | k+1,x,i=>bif cL l i lv then
  (bif (ex (lv+1) (i+1)).die then ex (lv+1) (i+1) else
   bif decide (lv=4) then eW (gT (ay l i).text x (ex (lv+1) (i+1)).v) (ex (lv+1) (i+1)).i
   else kS ex lv k (gT (ay l i).text x (ex (lv+1) (i+1)).v) (ex (lv+1) (i+1)).i)
   else eW x i
noncomputable def oe(ex:jm):Nat->Ex->Int->XR Ex
 | 0,x,i=>jJ s l x i
 | k+1,x,i=>bif aG l i gM then
  (bif (ex 1 (i+1)).die then ex 1 (i+1) else
   bif aG l (ex 1 (i+1)).i gK then oe ex k (tF x (ex 1 (i+1)).v) ((ex 1 (i+1)).i+1) else jJ s l x (ex 1 (i+1)).i)
   else eW x i
noncomputable def mK(ex:jm)(t:ByteArray):Nat->List Ex->Int->XR (List Ex)
 | 0,acc,i=>jJ s l acc i
 | k+1,acc,i=>bif (ex 1 i).die then ⟨true,(ex 1 i).e,(ex 1 i).a,acc,i⟩ else
  bif aG l (ex 1 i).i t then eW (acc++[(ex 1 i).v]) ((ex 1 i).i+1) else
  bif aG l (ex 1 i).i kR then mK ex t k (acc++[(ex 1 i).v]) ((ex 1 i).i+1) else jJ s l acc (ex 1 i).i
noncomputable def dG(ex:jm)(t:ByteArray)(i:Int):XR (List Ex):=bif aG l i t then eW [] (i+1) else mK s l ex t (l.length+1) [] i
noncomputable def fY(ex:jm)(i:Int):XR Ex :=
 bif aG l i dP then(bif (ex 1 (i+1)).die then ex 1 (i+1) else bif aG l (ex 1 (i+1)).i dU then eW (ex 1 (i+1)).v ((ex 1 (i+1)).i+1) else jJ s l jQ (ex 1 (i+1)).i)
 else bif aG l i gM then ⟨(dG s l ex gK (i+1)).die,(dG s l ex gK (i+1)).e,(dG s l ex gK (i+1)).a,.mk 5 0 eS (dG s l ex gK (i+1)).v,(dG s l ex gK (i+1)).i⟩
 else bif aG l i qB then eW (.mk 3 1 eS []) (i+1)
 else bif aG l i rV then eW (.mk 3 0 eS []) (i+1)
 else bif decide (l.length<=i) then jJ s l jQ i
 else bif decide ((ay l i).kind=3) then eW (.mk 1 (ay l i).n eS []) (i+1)
 else bif decide ((ay l i).kind=4) then eW (.mk 2 0 (ay l i).text []) (i+1)
 else bif gq l i then(bif aG l (i+1) dP then ⟨(dG s l ex dU (i+1+1)).die,(dG s l ex dU (i+1+1)).e,(dG s l ex dU (i+1+1)).a,.mk 6 0 (ay l i).text (dG s l ex dU (i+1+1)).v,(dG s l ex dU (i+1+1)).i⟩
  else eW (.mk 4 0 (ay l i).text []) (i+1))
 else jJ s l jQ i
noncomputable def mL(ex:jm)(t:ByteArray)(lv i:Int):XR Ex :=
 bif aG l i t then(bif (ex lv (i+1)).die then ex lv (i+1) else eW (lq t (ex lv (i+1)).v) (ex lv (i+1)).i) else ex (lv+1) i
noncomputable def vk(ex:jm)(i:Int):XR Ex :=
 bif (ex 9 i).die then ex 9 i else bif cL l (ex 9 i).i 8 then
  (bif (ex 7 ((ex 9 i).i+1)).die then ex 7 ((ex 9 i).i+1) else eW (gT (ay l (ex 9 i).i).text (ex 9 i).v (ex 7 ((ex 9 i).i+1)).v) (ex 7 ((ex 9 i).i+1)).i)
 else eW (ex 9 i).v (ex 9 i).i
noncomputable def su(ex:jm)(lv i:Int):XR Ex :=
 bif decide (lv=3) then mL l ex iS lv i
 else bif decide (lv=7) then mL l ex fP lv i
 else bif decide (lv=8) then vk l ex i
 else bif decide (lv=9) then(bif (ex 10 i).die then ex 10 i else oe s l ex (l.length+1) (ex 10 i).v (ex 10 i).i)
 else bif decide (lv=10) then fY s l ex i
 else(bif (ex (lv+1) i).die then ex (lv+1) i else kS s l ex lv (l.length+1) (ex (lv+1) i).v (ex (lv+1) i).i)
noncomputable def bP:Nat->jm
 | 0=>fun _ i=>jJ s l jQ i
 | n+1=>su s l (bP n)
def vl(ex:jm):Prop:=∀ lv i,(ex lv i).die=false->0<=i->i<(ex lv i).i/\(ex lv i).i<=l.length
variable {s l}
theorem YP{i lv:Int}(h:cL l i lv=true):i<l.length:=by
 unfold cL at h;simp only[Bool.and_eq_true,decide_eq_true_eq] at h;exact h.1
theorem Ik{i:Int}(h:gq l i=true):i<l.length:=by
 unfold gq at h;simp only[Bool.and_eq_true,decide_eq_true_eq] at h;exact h.1
theorem Tj{ex:jm}(h:vl l ex)(lv:Int):∀(k:Nat)(x:Ex)(i:Int),(kS s l ex lv k x i).die=false->0<=i->i<=l.length->i<=(kS s l ex lv k x i).i/\(kS s l ex lv k x i).i<=l.length
 | 0,x,i,hd,_,_=>by cases hd
 | k + 1, x, i, hd, h0, hl => by
   unfold kS at hd ⊢;cases ho:cL l i lv with
   | false=>rw[ho] at hd;exact⟨Int.le_refl _,hl⟩
   | true =>
     rw[ho] at hd;simp only[cond_true] at hd ⊢;cases hx:(ex (lv+1) (i+1)).die with
     | true=>rw[hx] at hd;simp only[cond_true] at hd;rw[hx] at hd;cases hd
     | false =>
       rw[hx] at hd;simp only[cond_false] at hd ⊢;obtain⟨a,b⟩:=h _ _ hx (by omega);cases h4:decide (lv=4) with
       | true=>exact⟨by show i<=(ex (lv+1) (i+1)).i;omega,b⟩
       | false =>
         rw[h4] at hd;simp only[cond_false] at hd ⊢;obtain⟨c,d⟩:=Tj h lv k _ _ hd (by omega) b;exact⟨by omega,d⟩
theorem Tk{ex:jm}(h:vl l ex):∀(k:Nat)(x:Ex)(i:Int),(oe s l ex k x i).die=false->0<=i->i<=l.length->i<=(oe s l ex k x i).i/\(oe s l ex k x i).i<=l.length
 | 0,x,i,hd,_,_=>by cases hd
 | k + 1, x, i, hd, h0, hl => by
   unfold oe at hd ⊢;cases ho:aG l i gM with
   | false=>rw[ho] at hd;exact⟨Int.le_refl _,hl⟩
   | true =>
     rw[ho] at hd;simp only[cond_true] at hd ⊢;cases hx:(ex 1 (i+1)).die with
     | true=>rw[hx] at hd;simp only[cond_true] at hd;rw[hx] at hd;cases hd
     | false =>
       rw[hx] at hd;simp only[cond_false] at hd ⊢;obtain⟨a,b⟩:=h _ _ hx (by omega);cases h4:aG l (ex 1 (i+1)).i gK with
       | false=>rw[h4] at hd;cases hd
       | true =>
         rw[h4] at hd;simp only[cond_true] at hd ⊢;have:=cP h4;obtain⟨c,d⟩:=Tk h k _ _ hd (by omega) (by omega);exact⟨by omega,d⟩
theorem Tl{ex:jm}(h:vl l ex)(t:ByteArray):∀(k:Nat)(acc:List Ex)(i:Int),(mK s l ex t k acc i).die=false->0<=i->i<(mK s l ex t k acc i).i/\(mK s l ex t k acc i).i<=l.length
 | 0,x,i,hd,_=>by cases hd
 | k + 1, acc, i, hd, h0 => by
   unfold mK at hd ⊢;cases hx:(ex 1 i).die with
   | true=>rw[hx] at hd;cases hd
   | false =>
     rw[hx] at hd;simp only[cond_false] at hd ⊢;obtain⟨a,b⟩:=h _ _ hx (by omega);cases h4:aG l (ex 1 i).i t with
     | true =>
       have:=cP h4;exact⟨by show i<(ex 1 i).i+1;omega,by show (ex 1 i).i+1<=_;omega⟩
     | false =>
       rw[h4] at hd;simp only[cond_false] at hd ⊢;cases h5:aG l (ex 1 i).i kR with
       | false=>rw[h5] at hd;cases hd
       | true =>
         rw[h5] at hd;simp only[cond_true] at hd ⊢;have:=cP h5;obtain⟨c,d⟩:=Tl h t k _ _ hd (by omega);exact⟨by omega,d⟩
theorem KI{ex:jm}(h:vl l ex)(t:ByteArray)(i:Int)(hd:(dG s l ex t i).die=false)(h0:0<=i):i<(dG s l ex t i).i/\(dG s l ex t i).i<=l.length:=by
 unfold dG at hd ⊢;cases h4:aG l i t with
 | true =>
   have:=cP h4;exact⟨by show i<i+1;omega,by show i+1<=_;omega⟩
 | false=>rw[h4] at hd;exact Tl h t _ _ _ hd h0
end
section
variable {s:ByteArray} {l:List Tok}
theorem WL{ex:jm}(h:vl l ex)(i:Int)(hd:(fY s l ex i).die=false)(h0:0<=i):i<(fY s l ex i).i/\(fY s l ex i).i<=l.length:=by
 unfold fY at hd ⊢;cases h1:aG l i dP with
 | true =>
   rw[h1] at hd;simp only[cond_true] at hd ⊢;cases hx:(ex 1 (i+1)).die with
   | true=>rw[hx] at hd;simp only[cond_true] at hd;rw[hx] at hd;cases hd
   | false =>
     rw[hx] at hd;simp only[cond_false] at hd ⊢;obtain⟨a,b⟩:=h _ _ hx (by omega);cases h4:aG l (ex 1 (i+1)).i dU with
     | false=>rw[h4] at hd;cases hd
     | true =>
       have:=cP h4;exact⟨by show i<(ex 1 (i+1)).i+1;omega,by show (ex 1 (i+1)).i+1<=_;omega⟩
 | false =>
 rw[h1] at hd;simp only[cond_false] at hd ⊢;cases h2:aG l i gM with
 | true =>
   rw[h2] at hd;simp only[cond_true] at hd ⊢;obtain⟨a,b⟩:=KI h _ _ hd (by omega);exact⟨by omega,b⟩
 | false =>
 rw[h2] at hd;simp only[cond_false] at hd ⊢;have one:∀ v:Ex,i<l.length->i<(eW v (i+1)).i/\(eW v (i+1)).i<=l.length:=fun v hi=>⟨by show i<i+1;omega,by show i+1<=_;omega⟩;cases h3:aG l i qB with
 | true=>exact one _ (cP h3)
 | false =>
 cases h4:aG l i rV with
 | true=>exact one _ (cP h4)
 | false =>
 rw[h3,h4] at hd;simp only[cond_false] at hd ⊢;by_cases hi:(l.length:Int)<=i;rw[decide_eq_true hi] at hd;cases hd;rw[decide_eq_false hi] at hd ⊢;simp only[cond_false] at hd ⊢;have hi:i<l.length:=by omega
 cases h5:decide ((ay l i).kind=3) with
 | true=>exact one _ hi
 | false =>
 cases h6:decide ((ay l i).kind=4) with
 | true=>exact one _ hi
 | false =>
 cases h7:gq l i with
 | false=>rw[h5,h6,h7] at hd;cases hd
 | true =>
 rw[h5,h6,h7] at hd;simp only[cond_false,cond_true] at hd ⊢;cases h8:aG l (i+1) dP with
 | false=>exact one _ hi
 | true =>
   rw[h8] at hd;simp only[cond_true] at hd ⊢;obtain⟨a,b⟩:=KI h _ _ hd (by omega);exact⟨by omega,b⟩
theorem Tm{ex:jm}(h:vl l ex):vl l (su s l ex):=by
 intro lv i hd h0;have un : ∀ t, (mL l ex t lv i).die = false → i < (mL l ex t lv i).i ∧ (mL l ex t lv i).i ≤ l.length := by
  intro t hd;unfold mL at hd ⊢;cases h1:aG l i t with
  | false =>
    rw[h1] at hd;exact h _ _ hd h0
  | true =>
    rw[h1] at hd;simp only[cond_true] at hd ⊢;cases hx:(ex lv (i+1)).die with
    | true=>rw[hx] at hd;simp only[cond_true] at hd;rw[hx] at hd;cases hd
    | false =>
      obtain⟨a,b⟩:=h _ _ hx (by omega);exact⟨by show i<(ex lv (i+1)).i;omega,b⟩
 unfold su at hd ⊢;cases c3:decide (lv=3) with
 | true=>rw[c3] at hd;exact un _ hd
 | false =>
 cases c7:decide (lv=7) with
 | true=>rw[c3,c7] at hd;exact un _ hd
 | false =>
 cases c8:decide (lv=8) with
 | true =>
   rw[c3,c7,c8] at hd;simp only[cond_false,cond_true] at hd ⊢;unfold vk at hd ⊢;cases hx:(ex 9 i).die with
   | true=>rw[hx] at hd;simp only[cond_true] at hd;rw[hx] at hd;cases hd
   | false =>
   obtain⟨a,b⟩:=h _ _ hx h0;rw[hx] at hd;simp only[cond_false] at hd ⊢;cases ho:cL l (ex 9 i).i 8 with
   | false=>exact⟨a,b⟩
   | true =>
   rw[ho] at hd;simp only[cond_true] at hd ⊢;cases hy:(ex 7 ((ex 9 i).i+1)).die with
   | true=>rw[hy] at hd;simp only[cond_true] at hd;rw[hy] at hd;cases hd
   | false =>
     obtain⟨c,d⟩:=h _ _ hy (by omega);exact⟨by show i<(ex 7 ((ex 9 i).i+1)).i;omega,d⟩
 | false =>
 cases c9:decide (lv=9) with
 | true =>
   rw[c3,c7,c8,c9] at hd;simp only[cond_false,cond_true] at hd ⊢;cases hx:(ex 10 i).die with
   | true=>rw[hx] at hd;simp only[cond_true] at hd;rw[hx] at hd;cases hd
   | false =>
   obtain⟨a,b⟩:=h _ _ hx h0;rw[hx] at hd;simp only[cond_false] at hd ⊢;obtain⟨c,d⟩:=Tk h _ _ _ hd (by omega) b;exact⟨by omega,d⟩
 | false =>
 cases c10:decide (lv=10) with
 | true =>
   rw[c3,c7,c8,c9,c10] at hd;exact WL h i hd h0
 | false =>
   rw[c3,c7,c8,c9,c10] at hd;simp only[cond_false] at hd ⊢;cases hx:(ex (lv+1) i).die with
   | true=>rw[hx] at hd;simp only[cond_true] at hd;rw[hx] at hd;cases hd
   | false =>
   obtain⟨a,b⟩:=h _ _ hx h0;rw[hx] at hd;simp only[cond_false] at hd ⊢;obtain⟨c,d⟩:=Tj h _ _ _ _ hd (by omega) b;exact⟨by omega,d⟩
theorem lu:∀ n,vl l (bP s l n)
 | 0=>fun _ _ hd=>by cases hd
 | n+1=>Tm (lu n)
end
section
variable (s:ByteArray) (l:List Tok)
noncomputable abbrev Ql(c:Prop)(q:XR Ex)(ins:Bool)(ns:List ByteArray):Qi:={ c:=c,die:=q.die,e:=q.e,a:=q.a,r:=.p (exV q.v),i:=q.i,ins:=ins,ns:=ns }
def gV(n:Nat)(lv i:Int):Prop:=1<=lv/\lv<=10/\12*((l.length:Int)-i)+11-lv<n
noncomputable def Nj(n:Nat):iI:=fun aO i ins ns=>match aO with | [.p (.c (.int .i64 lv))]=>some (Ql (gV l n lv i) (bP s l n lv i) ins ns)|_=>none
abbrev HX(n:Nat):Prop:=lV 15 s l (Nj s l n)
noncomputable def Qm(n:Nat):cg:=(15,fR s l [true,false] (Nj s l n))::(34,fR s l [true,false] (qM s l))::yg s l
noncomputable def YQ(n:Nat)(h:HX s l n):List { x:FuncId×fX // fJ Tryz.prog x.1 x.2 }:=⟨(15,jZ s l [true,false] (Nj s l n)),ij (by kernel_rfl) h⟩::⟨(34,jZ s l [true,false] (qM s l)),ij (by kernel_rfl) (lI s l)⟩::CC s l
variable {s l}
theorem FK{n:Nat}(h:HX s l n):bp Tryz.prog (Qm s l n):=aq (eu (by kernel_rfl) h) (aq (eu (by kernel_rfl) (lI s l)) (lg s l))
variable (s l)
noncomputable def sLs(n:Nat)(h:HX s l n)(b:Bool)(u:Value):bh:=iQ Tryz.prog (Qm s l n) (YQ s l n h) Tryz.f60 3 [([0,1,1],[0,1,4])] [] [some .pv] b u
abbrev obXs(acc:List Ex):Ob:=⟨25,[.a 0 .pv (Ex.ai acc)]⟩
theorem Nk(n:Nat)(h:HX s l n)(t:ByteArray)(ins:Bool)(ns:List ByteArray)(R:XR (List Ex)):∀(k:Nat)(acc:List Ex)(i:Int),mK s l (bP s l n) t k acc i=R->gJ l i->(l.length:Int)-i<k->12*((l.length:Int)-i)+10<n->(acc.length:Int)<=i->
 aF (sLs s l n h R.die (aV R.e R.a)) (iA R.die (.p (.c (.rs 4 (Ex.ai R.v)))) (pO s l R.i ins ns)) [0,1,1] (fr [(0,pA),(1,sS t),(4,.p (.c (.sl 3 0 acc.length 4)))]) (.ofList [Tf s l i ins ns.length,bw,mJ ns,obXs acc])
 | 0,acc,i,e,hi,hk,hn,hc=>by
   obtain⟨h0,h1,h2⟩:=hi;omega
 | k + 1, acc, i, e, hi, hk, hn, hc => by
   refine cj (FK h) (by kernel_rfl) 100 ?_;apply of_eq (q:=let q1:=(bP s l n (1:Int) i);let q2:=Ob.mk 49 [Fd.m D.str (D.int .i64) cx];let q3:=(List.drop (0:Nat) (Ex.ai acc));let q4:=(cJ l q1.i t);let q5:=(ByteArray.mk #[(44:UInt8)]);(bC s l s (aB l) (q2) ns.length ns i/\gV l n (1:Int) i)/\(q1.die=true->R.die=true/\aV q1.e q1.a=aV R.e R.a)/\(q1.die=false->(bC s l s (aB l) (q2) ns.length ns i/\gV l n (1:Int) i/\q1.die=false)/\((0:Nat)+acc.length*4<=(Ex.ai acc).length/\(acc.length+1)*56<=140737488355328)/\(bC s l s (aB l) (q2) ns.length ns q1.i/\True/\false=false)/\(aG l q1.i t=true->(0:Nat)+(acc.length+1)*4<=(List.take (acc.length*4) q3++[PV.int q1.v.k,PV.int q1.v.n,PV.str q1.v.t,PV.aZ (4:Nat) (Ex.ai q1.v.l)]).length/\R.die=false/\ax [V.c (W.rs (4:Nat) (List.take ((acc.length+1)*4) (List.drop (0:Nat) (List.take (acc.length*4) q3++[PV.int q1.v.k,PV.int q1.v.n,PV.str q1.v.t,PV.aZ (4:Nat) (Ex.ai q1.v.l)]))))]=aP (W.rs (4:Nat) (Ex.ai R.v))/\[Ob.mk 73 [Fd.c (W.str s),Fd.c (W.rs (4:Nat) (aB l)),fI q4,Fd.c (W.mp (1:Nat)),Fd.c (W.bool ins),fS 2 0 ns.length],q2,Ob.mk 9 [Fd.a 0 D.str ns]]=pO s l R.i ins ns)/\(aG l q1.i t=false->(bC s l s (aB l) (q2) ns.length ns q4/\True)/\((!aG l q4 q5)=true->R.die=true/\aV (11:Int) (dn s l q4)=aV R.e R.a)/\((!aG l q4 q5)=false->(bC s l s (aB l) (q2) ns.length ns q4/\True/\(!aG l q4 q5)=false)/\aF (sLs s l n h R.die (aV R.e R.a)) (iA R.die (aP (W.rs (4:Nat) (Ex.ai R.v))) (pO s l R.i ins ns)) [0,1,1] (fr [(0,aR 0 0),(1,aP (W.str t)),(4,aP (W.sl 3 0 (acc.length+1) 4))]) (af.ofList [Ob.mk 73 [Fd.c (W.str s),Fd.c (W.rs (4:Nat) (aB l)),fI (cJ l q1.i t+1),Fd.c (W.mp (1:Nat)),Fd.c (W.bool ins),fS 2 0 ns.length],q2,Ob.mk 9 [Fd.a 0 D.str ns],Ob.mk 25 [Fd.a 0 D.pv (List.take (acc.length*4) q3++[PV.int q1.v.k,PV.int q1.v.n,PV.str q1.v.t,PV.aZ (4:Nat) (Ex.ai q1.v.l)])]]))))) (by kernel_rfl)
   try simp only[sL]
   have ha:=lu (s:=s) (l:=l) n 1 i;have hx:gV l n 1 i:=⟨by omega,by omega,by omega⟩;have el:List.take (acc.length*4) (Ex.ai acc)=Ex.ai acc:=List.take_of_length_le (by rw[Ex.dJ];exact Nat.le_refl _);rw[el];have e2:Ex.ai acc++[PV.int (bP s l n 1 i).v.k,PV.int (bP s l n 1 i).v.n,PV.str (bP s l n 1 i).v.t,PV.aZ 4 (Ex.ai (bP s l n 1 i).v.l)]=Ex.ai (acc++[(bP s l n 1 i).v]):=by
    rw[Ex.sK,Ex.eH,Ex.bZ]
   rw[e2];have el2:List.take ((acc.length+1)*4) (Ex.ai (acc++[(bP s l n 1 i).v]))=Ex.ai (acc++[(bP s l n 1 i).v]):=List.take_of_length_le (by rw[Ex.dJ,List.length_append];exact Nat.le_refl _);rw[el2];unfold mK at e;refine⟨⟨pin hi,hx⟩,fun hd=>?_,fun hd=>?_⟩;rw[hd] at e;subst e;exact⟨rfl,rfl⟩;rw[hd] at e;simp only[cond_false] at e;obtain⟨a1,a2⟩:=ha hd hi.1;have hi2:gJ l (bP s l n 1 i).i:=⟨by have:=hi.1;omega,a2,hi.2.2⟩;refine⟨⟨pin hi,hx,hd⟩,⟨by rw[Ex.dJ];exact Nat.le_refl _,?_⟩,pin hi2,fun h1=>?_,fun h1=>?_⟩;have:=hi.2;omega;rw[h1] at e;simp only[cond_true] at e;subst e;rw[iN h1];exact⟨by rw[Ex.dJ,List.length_append];exact Nat.le_refl _,rfl,rfl,rfl⟩;rw[h1] at e;simp only[cond_false] at e;rw[iM h1];refine⟨pin hi2,fun h2=>?_,fun h2=>?_⟩;rw[h2] at e;subst e;exact⟨rfl,rfl⟩;rw[h2] at e;have h3:=cP h2;have ih:=Nk n h t ins ns R k (acc++[(bP s l n 1 i).v]) ((bP s l n 1 i).i+1) e ⟨by have:=hi2.1;omega,by omega,hi.2.2⟩ (by omega) (by omega) (by simp only[List.length_append,List.length_singleton];omega);rw[List.length_append,List.length_singleton] at ih;exact⟨⟨pin hi2,h2⟩,ih⟩
noncomputable def Il(n:Nat):iI:=fun aO i ins ns=>match aO with
 | [.p (.c (.str t))]=>some { c:=12*((l.length:Int)-i)+10<n,die:=(dG s l (bP s l n) t i).die,e:=(dG s l (bP s l n) t i).e,a:=(dG s l (bP s l n) t i).a,r:=.p (.c (.rs 4 (Ex.ai (dG s l (bP s l n) t i).v))),i:=(dG s l (bP s l n) t i).i,ins:=ins,ns:=ns }
 | _=>none
theorem Hl(n:Nat)(h:HX s l n):lV 60 s l (Il s l n):=by
 intro aO i ins ns p e hi hc;unfold Il at e;split at e;rename_i t;cases e;have hc:12*((l.length:Int)-i)+10<n:=hc;refine iE (dies:=YQ s l n h) (aQ:=[([0,1,1],[0,1,4])]) (eV:=[]) (fz:=[some .pv]) (FK h) Tryz.func60 (by kernel_rfl) 3 (by kernel_rfl) 100 ?_;apply of_eq (q:=let q1:=(dG s l (bP s l n) t i);let q2:=(12:Int)*((l.length:Int)-i)+10<(n:Int);let q3:=(W.rs (4:Nat) (Ex.ai q1.v));let q4:=(Qi.mk (q2) q1.die q1.e q1.a (aP q3) q1.i ins ns);let q5:=Ob.mk 73 [Fd.c (W.str s),Fd.c (W.rs (4:Nat) (aB l)),fI (cJ l i t),Fd.c (W.mp (1:Nat)),Fd.c (W.bool ins),fS 2 0 ns.length];let q6:=Ob.mk 49 [Fd.m D.str (D.int .i64) cx];(bC s l s (aB l) (q6) ns.length ns i/\True/\false=false)/\(aG l i t=true->(0:Nat)+0*4<=0/\q1.die=false/\ax [V.c (W.rs (4:Nat) (List.take ((0:Nat)*4) (List.drop (0:Nat) [])))]=aP q3/\[q5,q6,Ob.mk 9 [Fd.a 0 D.str ns]]=pO s l q1.i ins ns)/\(aG l i t=false->aF (iQ Tryz.prog (Qm s l n) (YQ s l n h) Tryz.f60 (3:Nat) [([0,1,1],[0,1,4])] [] [some D.pv] q4.die (aV q4.e q4.a)) (iA q4.die q4.r (pO s l q4.i q4.ins q4.ns)) [0,1,1] (fr [(0,aR 0 0),(1,aP (W.str t)),(4,aP (W.sl 3 0 0 4))]) (af.ofList [q5,q6,Ob.mk 9 [Fd.a 0 D.str ns],Ob.mk 25 [Fd.a 0 D.pv []]]))) (by kernel_rfl)
 try simp only[sL]
 have hL:∀ b,aG l i t=b->dG s l (bP s l n) t i=bif b then eW [] (i+1) else mK s l (bP s l n) t (l.length+1) [] i:=by rintro b rfl;rfl
 refine⟨pin hi,fun h1=>?_,fun h1=>?_⟩;rw[hL _ h1,iN h1];exact⟨rfl,by simp only[cond_true,eW,Ex.bZ];rfl,rfl⟩;rw[hL _ h1,iM h1];have:=Nk s l n h t ins ns _ (l.length+1) [] i rfl hi (by have:=hi.1;omega) hc (by exact hi.1);unfold obXs at this;rw[Ex.bZ] at this;exact this;cases e
end
section
variable (s:ByteArray) (l:List Tok)
noncomputable def KJ(n:Nat):cg:=(60,fR s l [true,false] (Il s l n))::(61,fR s l [true] (uF s l))::Qm s l n
noncomputable def Tn(n:Nat)(h:HX s l n):List { x:FuncId×fX // fJ Tryz.prog x.1 x.2 }:=⟨(60,jZ s l [true,false] (Il s l n)),ij (by kernel_rfl) (Hl s l n h)⟩::⟨(61,jZ s l [true] (uF s l)),ij (by kernel_rfl) (oU s l)⟩::YQ s l n h
variable {s l}
theorem Nl{n:Nat}(h:HX s l n):bp Tryz.prog (KJ s l n):=aq (eu (by kernel_rfl) (Hl s l n h)) (aq (eu (by kernel_rfl) (oU s l)) (FK h))
variable (s l)
noncomputable def Im(n:Nat):iI:=fun aO i ins ns=>match aO with
 | []=>some (Ql (12*((l.length:Int)-i)<n) (fY s l (bP s l n) i) ins ns)
 | _=>none
theorem Ho(n:Nat)(h:HX s l n):lV 35 s l (Im s l n):=by
 intro aO i ins ns p e hi hc;unfold Im at e;split at e;cases e;have hc:12*((l.length:Int)-i)<n:=hc;refine iE (dies:=Tn s l n h) (aQ:=[]) (eV:=[]) (fz:=[]) (Nl h) Tryz.func35 (by kernel_rfl) 3 (by kernel_rfl) 400 ?_;apply of_eq (q:=let q3:=(fY s l (bP s l n) i);let q7:=Ob.mk 49 [Fd.m D.str (D.int .i64) cx];let bg:=(ByteArray.mk #[(102:UInt8),(97:UInt8),(108:UInt8),(115:UInt8),(101:UInt8)]);let bn:=(aB l);let bS:=(ByteArray.mk #[(40:UInt8)]);let bX:=(ByteArray.mk #[(91:UInt8)]);let cU:=(W.rs (4:Nat) bn);let dL:=(ByteArray.mk #[(116:UInt8),(114:UInt8),(117:UInt8),(101:UInt8)]);let ga:=Ob.mk 9 [Fd.a 0 D.str ns];let j3:=Fd.c (W.mp (1:Nat));let gb:=(R1.pure (Cd.t.and Cd.t) (aP cU));let kf:=(ByteArray.mk #[(41:UInt8)]);let gL:=Fd.c (W.bool ins);let gi:=fS 2 0 ns.length;let jn:=True/\false=false;let gu:=(ByteArray.mk #[]);let jt:=q3.die=false;let fj:=(exV q3.v);let iZ:=Fd.c (W.str s);let q4:=(cJ l i bS);let aJ:=(bP s l n (1:Int) q4);let ja:=(cJ l q4 bX);let nM:=(12:Int)*((l.length:Int)-cJ l q4 bX)+10<(n:Int);let q6:=(cJ l ja dL);let q8:=(dG s l (bP s l n) (ByteArray.mk #[(93:UInt8)]) ja);let Az:=decide ((↑(bn.length/4):Int)<=cJ l q6 bg);let q1:=(cJ l q6 bg);let q2:=(cJ l q6 bg+1);let q9:=(dG s l (bP s l n) kf (cJ l q2 bS));let dX:=[Ob.mk 73 [iZ,Fd.c cU,fI (IntKind.i64.wrap q2),j3,gL,gi],q7,ga]=pO s l q3.i ins ns;let bV:=(PV.str gu).like (bn.getD (q1.toNat*4+1) (PV.bool false))=true;let dR:=(PV.int (0:Int)).like (bn.getD (q1.toNat*4+1+1+1) (PV.bool false))=true;let eI:=(PV.int (0:Int)).like (bn.getD (q1.toNat*4+1+1) (PV.bool false))=true;let dF:=q1.toNat*4+4<=bn.length;let lJ:=(R1.pure (Cd.t.and Cd.t) (nI q1));let gN:=(q1.toNat*4);let wv:=(12:Int)*((l.length:Int)-cJ l q2 bS)+10<(n:Int);let dx:=(A.p (V.agg (mG bn gN (shapes ((iQ Tryz.prog (KJ s l n) (Tn s l n h) Tryz.f35 (3:Nat) [] [] [] q3.die (aV q3.e q3.a)).env (iA q3.die (A.p fj) (pO s l q3.i ins ns))).P (62:Nat))).snd));let bQ:=(PV.int (0:Int)).like (bn.getD gN (PV.bool false))=true;let q5:=(R1.pure (Cd.t.and ((Cd.p (dF)).and (mG bn gN (shapes ((iQ Tryz.prog (KJ s l n) (Tn s l n h) Tryz.f35 (3:Nat) [] [] [] q3.die (aV q3.e q3.a)).env (iA q3.die (A.p fj) (pO s l q3.i ins ns))).P (62:Nat))).fst)) dx).v=(R1.pure (Cd.t.and ((Cd.p (dF)).and (mG bn gN (shapes ((iQ Tryz.prog (KJ s l n) (Tn s l n h) Tryz.f35 (3:Nat) [] [] [] q3.die (aV q3.e q3.a)).env (iA q3.die (A.p fj) (pO s l q3.i ins ns))).P (62:Nat))).fst)) dx).v;(bC s l s bn (q7) ns.length ns i/\jn)/\(aG l i bS=true->(bC s l s bn (q7) ns.length ns q4/\gV l n (1:Int) q4)/\(aJ.die=true->q3.die=true/\aV aJ.e aJ.a=aV q3.e q3.a)/\(aJ.die=false->(bC s l s bn (q7) ns.length ns q4/\gV l n (1:Int) q4/\aJ.die=false)/\(bC s l s bn (q7) ns.length ns aJ.i/\True)/\((!aG l aJ.i kf)=true->q3.die=true/\aV (11:Int) (dn s l aJ.i)=aV q3.e q3.a)/\((!aG l aJ.i kf)=false->(bC s l s bn (q7) ns.length ns aJ.i/\True/\(!aG l aJ.i kf)=false)/\jt/\ax [V.agg [wI aJ.v.k,wI aJ.v.n,W.str aJ.v.t,W.rs (4:Nat) (Ex.ai aJ.v.l)]]=A.p fj/\[Ob.mk 73 [iZ,Fd.c cU,fI (aJ.i+1),j3,gL,gi],q7,ga]=pO s l q3.i ins ns)))/\(aG l i bS=false->(bC s l s bn (q7) ns.length ns q4/\jn)/\(aG l q4 bX=true->(bC s l s bn (q7) ns.length ns ja/\nM)/\(q8.die=true->q3.die=true/\aV q8.e q8.a=aV q3.e q3.a)/\(q8.die=false->(bC s l s bn (q7) ns.length ns ja/\nM/\q8.die=false)/\jt/\ax [V.agg [wI (5),wI (0),W.str gu,W.rs (4:Nat) (Ex.ai q8.v)]]=A.p fj/\[Ob.mk 73 [iZ,Fd.c cU,fI q8.i,j3,gL,gi],q7,ga]=pO s l q3.i ins ns))/\(aG l q4 bX=false->(bC s l s bn (q7) ns.length ns ja/\jn)/\(aG l ja dL=true->jt/\ax [V.agg [wI (3),wI (1),W.str gu,W.rs (4:Nat) []]]=A.p fj/\[Ob.mk 73 [iZ,Fd.c cU,fI q6,j3,gL,gi],q7,ga]=pO s l q3.i ins ns)/\(aG l ja dL=false->(bC s l s bn (q7) ns.length ns q6/\jn)/\(aG l q6 bg=true->jt/\ax [V.agg [wI (3),wI (0),W.str gu,W.rs (4:Nat) []]]=A.p fj/\[Ob.mk 73 [iZ,Fd.c cU,fI q1,j3,gL,gi],q7,ga]=pO s l q3.i ins ns)/\(aG l q6 bg=false->(Az=true->(bC s l s bn (q7) ns.length ns q1/\True)/\(true=true->q3.die=true/\aV (11:Int) (dn s l q1)=aV q3.e q3.a)/\(true=false->False))/\(Az=false->((0:Int)<=cJ l q6 bg/\q1.toNat*4<bn.length)/\dF/\bQ/\bV/\eI/\dR/\gb.v=gb.v/\gb.v=gb.v/\lJ.v=lJ.v/\lJ.v=lJ.v/\dF/\bQ/\bV/\eI/\dR/\q5/\dF/\bQ/\bV/\eI/\dR/\q5/\(decide ((bn.getD gN (PV.bool false)).asInt=3)=true->jt/\ax [V.agg [wI (1),(PV.int (0:Int)).at (bn.getD (q1.toNat*4+1+1) (PV.bool false)),W.str gu,W.rs (4:Nat) []]]=A.p fj/\dX)/\(decide ((bn.getD gN (PV.bool false)).asInt=3)=false->(decide ((bn.getD gN (PV.bool false)).asInt=4)=true->jt/\ax [V.agg [wI (2),wI (0),(PV.str gu).at (bn.getD (q1.toNat*4+1) (PV.bool false)),W.rs (4:Nat) []]]=A.p fj/\dX)/\(decide ((bn.getD gN (PV.bool false)).asInt=4)=false->(bC s l s bn (q7) ns.length ns q1/\True)/\((!gq l q1)=true->q3.die=true/\aV (11:Int) (dn s l q1)=aV q3.e q3.a)/\((!gq l q1)=false->(bC s l s bn (q7) ns.length ns q1/\True/\(!gq l q1)=false)/\(bC s l s bn (q7) ns.length ns q2/\jn)/\(aG l q2 bS=true->(bC s l s bn (q7) ns.length ns (cJ l q2 bS)/\wv)/\(q9.die=true->q3.die=true/\aV q9.e q9.a=aV q3.e q3.a)/\(q9.die=false->(bC s l s bn (q7) ns.length ns (cJ l q2 bS)/\wv/\q9.die=false)/\jt/\ax [V.agg [wI (6),wI (0),W.str (ay l q1).text,W.rs (4:Nat) (Ex.ai q9.v)]]=A.p fj/\[Ob.mk 73 [iZ,Fd.c cU,fI q9.i,j3,gL,gi],q7,ga]=pO s l q3.i ins ns))/\(aG l q2 bS=false->jt/\ax [V.agg [wI (4),wI (0),W.str (ay l q1).text,W.rs (4:Nat) []]]=A.p fj/\[Ob.mk 73 [iZ,Fd.c cU,fI (cJ l q2 bS),j3,gL,gi],q7,ga]=pO s l q3.i ins ns)))))))))) (by kernel_rfl)
 try simp only[sL]
 generalize hR:fY s l (bP s l n) i=R;unfold fY at hR;rw[CA];have h0:=hi.1;have h9:=hi.2.2;have up:∀{j:Int},0<=j->j<l.length->gJ l (j+1):=fun h h'=>⟨by omega,by omega,h9⟩;refine⟨pin hi,fun h1=>?_,fun h1=>?_⟩;have hlt:=cP h1;rw[h1] at hR;simp only[cond_true] at hR;rw[iN h1];have hx:gV l n 1 (i+1):=⟨by omega,by omega,by omega⟩;refine⟨⟨pin (up h0 hlt),hx⟩,fun hd=>?_,fun hd=>?_⟩;rw[hd] at hR;simp only[cond_true] at hR;subst hR;exact⟨hd,rfl⟩;rw[hd] at hR;simp only[cond_false] at hR;obtain⟨a1,a2⟩:=lu (s:=s) (l:=l) n 1 (i+1) hd (by omega);have hi2:gJ l (bP s l n 1 (i+1)).i:=⟨by omega,a2,h9⟩;refine⟨⟨pin (up h0 hlt),hx,hd⟩,pin hi2,fun h2=>?_,fun h2=>?_⟩;rw[h2] at hR;subst hR;exact⟨rfl,rfl⟩;rw[h2] at hR;subst hR;exact⟨⟨pin hi2,h2⟩,rfl,rfl,rfl⟩;rw[h1] at hR;simp only[cond_false] at hR;rw[iM h1];refine⟨pin hi,fun h2=>?_,fun h2=>?_⟩;have hlt:=cP h2;rw[h2] at hR;simp only[cond_true] at hR;rw[iN h2];subst hR;exact⟨⟨pin (up h0 hlt),by omega⟩,fun hd=>⟨hd,rfl⟩,fun hd=>⟨⟨pin (up h0 hlt),by omega,hd⟩,hd,rfl,rfl⟩⟩;rw[h2] at hR;simp only[cond_false] at hR;rw[iM h2];refine⟨pin hi,fun h3=>?_,fun h3=>?_⟩;rw[h3] at hR;rw[iN h3];subst hR;exact⟨rfl,by simp only[cond_true,eW,exV,Ex.l,Ex.bZ];rfl,rfl⟩;rw[h3] at hR;simp only[cond_false] at hR;rw[iM h3];refine⟨pin hi,fun h4=>?_,fun h4=>?_⟩;rw[h4] at hR;rw[iN h4];subst hR;exact⟨rfl,by simp only[cond_true,eW,exV,Ex.l,Ex.bZ];rfl,rfl⟩;rw[h4] at hR;simp only[cond_false] at hR;rw[iM h4];refine⟨fun hl=>⟨pin hi,fun _=>?_,fun h=>(by cases h)⟩,fun hl=>?_⟩;rw[decide_eq_true hl] at hR;subst hR;exact⟨rfl,rfl⟩;have e0:(aB l).getD (i.toNat*4) (.bool false)=.int (ay l i).kind:=WI hi hl;have e2:(aB l).getD (i.toNat*4+1+1) (.bool false)=.int (ay l i).n:=tkg2 hi hl;have e3:(aB l).getD (i.toNat*4+1+1+1) (.bool false)=.int (ay l i).at_:=tkg3 hi hl
 have g0:=CB hi hl 0 (by omega);have g4:i.toNat*4+4<=(aB l).length:=CB hi hl 3 (by omega);rw[e0,e2,e3,Qg hi hl,wrap64 (by omega) (by omega)];rw[decide_eq_false (by omega)] at hR;simp only[cond_false] at hR;refine⟨⟨h0,g0⟩,g4,rfl,rfl,rfl,rfl,g4,rfl,rfl,rfl,rfl,g4,rfl,rfl,rfl,rfl,fun h5=>?_,fun h5=>⟨fun h6=>?_,fun h6=>?_⟩⟩;have h5:(ay l i).kind=3:=h5;rw[decide_eq_true h5] at hR;subst hR;exact⟨rfl,by simp only[cond_true,eW,exV,Ex.l,Ex.bZ];rfl,rfl⟩;have h5:¬(ay l i).kind=3:=h5;have h6:(ay l i).kind=4:=h6;rw[decide_eq_false h5,decide_eq_true h6] at hR;subst hR;exact⟨rfl,by simp only[cond_true,cond_false,eW,exV,Ex.l,Ex.bZ];rfl,rfl⟩;have h5:¬(ay l i).kind=3:=h5;have h6:¬(ay l i).kind=4:=h6;rw[decide_eq_false h5,decide_eq_false h6] at hR;simp only[cond_false] at hR;refine⟨pin hi,fun h7=>?_,fun h7=>?_⟩;rw[h7] at hR;subst hR;exact⟨rfl,rfl⟩;rw[h7] at hR;simp only[cond_true] at hR;refine⟨⟨pin hi,h7⟩,pin (up h0 hl),fun h8=>?_,fun h8=>?_⟩;have hlt:=cP h8;have hc2:12*((l.length:Int)-(i+1+1))+10<n:=by omega
 have u2:=up (j:=i+1) (by omega) hlt;rw[h8] at hR;simp only[cond_true] at hR;rw[iN h8];subst hR;exact⟨⟨pin u2,hc2⟩,fun hd=>⟨hd,rfl⟩,fun hd=>⟨⟨pin u2,hc2,hd⟩,hd,rfl,rfl⟩⟩;rw[h8] at hR;rw[iM h8];subst hR;exact⟨rfl,by simp only[cond_false,eW,exV,Ex.l,Ex.bZ];rfl,rfl⟩;cases e
end
section
variable (s:ByteArray) (l:List Tok)
noncomputable def Qn(n:Nat):cg:=(35,fR s l [true] (Im s l n))::(33,fR s l [true,false] (gOp l))::KJ s l n
noncomputable def YR(n:Nat)(h:HX s l n):List { x:FuncId×fX // fJ Tryz.prog x.1 x.2 }:=⟨(35,jZ s l [true] (Im s l n)),ij (by kernel_rfl) (Ho s l n h)⟩::Tn s l n h
variable {s l}
theorem FL{n:Nat}(h:HX s l n):bp Tryz.prog (Qn s l n):=aq (eu (by kernel_rfl) (Ho s l n h)) (aq (eu (by kernel_rfl) (aat s l)) (Nl h))
variable (s l)
abbrev Qo:List (List Nat×List Nat):=[([0,0,1,0,1,1,1,1,1,0,1,0,1],[0,4,9]),([0,1,1,1],[0,1,4,11])]
noncomputable def YS(n:Nat)(h:HX s l n)(b:Bool)(u:Value):bh:=iQ Tryz.prog (Qn s l n) (YR s l n h) Tryz.f15 3 Qo [] [] b u
abbrev obE(x:Ex):Ob:=⟨25,[.c (.int .i64 x.k),.c (.int .i64 x.n),.c (.str x.t),.c (.rs 4 (Ex.ai x.l))]⟩
abbrev obZ:Ob:=⟨25,[.c (.int .i64 0),.c (.int .i64 0),.c (.str eS),.c (.rs 4 [])]⟩
theorem pvl1(x:Ex):[PV.int x.k,.int x.n,.str x.t,.aZ 4 (Ex.ai x.l)]=Ex.ai [x]:=by rw[Ex.eH,Ex.bZ]
theorem WM(x y:Ex):[PV.int x.k,.int x.n,.str x.t,.aZ 4 (Ex.ai x.l),.int y.k,.int y.n,.str y.t,.aZ 4 (Ex.ai y.l)]=Ex.ai [x,y]:=by rw[Ex.eH,Ex.eH,Ex.bZ]
theorem Nn(n:Nat)(h:HX s l n)(lv:Int)(hlv:1<=lv/\lv<=6)(ins:Bool)(ns:List ByteArray)(R:XR Ex):∀(k:Nat)(x:Ex)(i:Int),kS s l (bP s l n) lv k x i=R->gJ l i->(l.length:Int)-i<k->12*((l.length:Int)-i)<n->
 aF (YS s l n h R.die (aV R.e R.a)) (iA R.die (.p (exV R.v)) (pO s l R.i ins ns)) [0,1,1,1] (fr [(0,pA),(1,.p (.c (.int .i64 lv))),(4,.p (.c (.ptr 3 0))),(11,.p (.c (.ptr 4 0)))]) (.ofList [Tf s l i ins ns.length,bw,mJ ns,obZ,obE x])
 | 0,x,i,e,hi,hk,hn=>by
   obtain⟨h0,h1,h2⟩:=hi;omega
 | k + 1, x, i, e, hi, hk, hn => by
   refine cj (FL h) (by kernel_rfl) 200 ?_;apply of_eq (q:=let q2:=(IntKind.i64.wrap (lv+1));let q3:=Ob.mk 49 [Fd.m D.str (D.int .i64) cx];let q6:=(4:Nat);let q4:=Ob.mk 73 [Fd.c (W.str s),Fd.c (W.rs q6 (aB l)),fI (bP s l n q2 (if cL l i lv=true then i+1 else i)).i,Fd.c (W.mp (1:Nat)),Fd.c (W.bool ins),fS 2 0 ns.length];let q5:=(A.p (V.agg (List.take q6 (List.drop (0:Nat) (obE x).cells))));let q1:=(R1.pure Cd.t q5).v=(R1.pure Cd.t q5).v;(bC s l s (aB l) (q3) ns.length ns i/\True/\false=false)/\((!cL l i lv)=true->R.die=false/\ax [V.agg [wI x.k,wI x.n,W.str x.t,W.rs q6 (Ex.ai x.l)]]=A.p (exV R.v)/\[Ob.mk 73 [Fd.c (W.str s),Fd.c (W.rs q6 (aB l)),fI (if cL l i lv=true then i+1 else i),Fd.c (W.mp (1:Nat)),Fd.c (W.bool ins),fS 2 0 ns.length],q3,Ob.mk 9 [Fd.a 0 D.str ns]]=pO s l R.i ins ns)/\((!cL l i lv)=false->(bC s l s (aB l) (q3) ns.length ns (if cL l i lv=true then i+1 else i)/\gV l n q2 (if cL l i lv=true then i+1 else i))/\(bP s l n q2 (if cL l i lv=true then i+1 else i)).die=true/\(R.die=true/\aV (bP s l n q2 (if cL l i lv=true then i+1 else i)).e (bP s l n q2 (if cL l i lv=true then i+1 else i)).a=aV R.e R.a)/\q1/\q1/\True∨(bC s l s (aB l) (q3) ns.length ns (if cL l i lv=true then i+1 else i)/\gV l n q2 (if cL l i lv=true then i+1 else i)/\(bP s l n q2 (if cL l i lv=true then i+1 else i)).die=false)/\q1/\q1/\(decide (lv=4)=true->R.die=false/\ax [V.agg [wI (9),wI (0),W.str (if cL l i lv=true then(ay l i).text else eS),W.rs q6 [PV.int x.k,PV.int x.n,PV.str x.t,PV.aZ q6 (Ex.ai x.l),PV.int (bP s l n q2 (if cL l i lv=true then i+1 else i)).v.k,PV.int (bP s l n q2 (if cL l i lv=true then i+1 else i)).v.n,PV.str (bP s l n q2 (if cL l i lv=true then i+1 else i)).v.t,PV.aZ q6 (Ex.ai (bP s l n q2 (if cL l i lv=true then i+1 else i)).v.l)]]]=A.p (exV R.v)/\[q4,q3,Ob.mk 9 [Fd.a 0 D.str ns]]=pO s l R.i ins ns)/\(decide (lv=4)=false->aF (YS s l n h R.die (aV R.e R.a)) (iA R.die (A.p (exV R.v)) (pO s l R.i ins ns)) [0,1,1,1] (fr [(0,aR 0 0),(1,nI lv),(4,aR 3 0),(11,aR 4 0)]) (af.ofList [q4,q3,Ob.mk 9 [Fd.a 0 D.str ns],Ob.mk 25 [fI (0),fI (0),Fd.c (W.str eS),Fd.c (W.rs q6 [])],Ob.mk 25 [fI (9),fI (0),Fd.c (W.str (if cL l i lv=true then(ay l i).text else eS)),Fd.c (W.rs q6 [PV.int x.k,PV.int x.n,PV.str x.t,PV.aZ q6 (Ex.ai x.l),PV.int (bP s l n q2 (if cL l i lv=true then i+1 else i)).v.k,PV.int (bP s l n q2 (if cL l i lv=true then i+1 else i)).v.n,PV.str (bP s l n q2 (if cL l i lv=true then i+1 else i)).v.t,PV.aZ q6 (Ex.ai (bP s l n q2 (if cL l i lv=true then i+1 else i)).v.l)])]])))) (by kernel_rfl)
   try simp only[sL]
   rw[WM];have h0:=hi.1;have h9:=hi.2.2;unfold kS at e;refine⟨pin hi,fun h1=>?_,fun h1=>?_⟩;rw[h1] at e ⊢;subst e;exact⟨rfl,rfl,rfl⟩;have hlt:=YP h1;rw[h1] at e;simp only[cond_true] at e;rw[if_pos h1,if_pos h1,wrap64 (by omega) (by omega)];have hi1:gJ l (i+1):=⟨by omega,by omega,h9⟩;have hx:gV l n (lv+1) (i+1):=⟨by omega,by omega,by omega⟩;cases hd:(bP s l n (lv+1) (i+1)).die with
   | true=>rw[hd] at e;simp only[cond_true] at e;subst e;exact .inl ⟨⟨pin hi1,hx⟩,rfl,hd,rfl⟩
   | false =>
   rw[hd] at e;simp only[cond_false] at e;obtain⟨a1,a2⟩:=lu (s:=s) (l:=l) n (lv+1) (i+1) hd (by omega);refine .inr ⟨⟨pin hi1,hx,rfl⟩,fun h4=>?_,fun h4=>?_⟩;rw[decide_eq_true h4] at e;subst e;exact⟨rfl,rfl,rfl⟩;rw[decide_eq_false h4] at e;simp only[cond_false] at e;exact Nn n h lv hlv ins ns R k _ _ e ⟨by omega,a2,h9⟩ (by omega) (by omega)
theorem Np(n:Nat)(h:HX s l n)(ins:Bool)(ns:List ByteArray)(R:XR Ex):∀(k:Nat)(x:Ex)(i:Int),oe s l (bP s l n) k x i=R->gJ l i->(l.length:Int)-i<k->12*((l.length:Int)-i)<n->
 aF (YS s l n h R.die (aV R.e R.a)) (iA R.die (.p (exV R.v)) (pO s l R.i ins ns)) [0,0,1,0,1,1,1,1,1,0,1,0,1] (fr [(0,pA),(4,.p (.c (.ptr 3 0))),(9,.p (.c (.ptr 4 0)))]) (.ofList [Tf s l i ins ns.length,bw,mJ ns,obZ,obE x])
 | 0,x,i,e,hi,hk,hn=>by
   obtain⟨h0,h1,h2⟩:=hi;omega
 | k + 1, x, i, e, hi, hk, hn => by
   refine cj (FL h) (by kernel_rfl) 200 ?_;apply of_eq (q:=let q2:=Ob.mk 49 [Fd.m D.str (D.int .i64) cx];let q3:=(ByteArray.mk #[(91:UInt8)]);let q4:=(ByteArray.mk #[(93:UInt8)]);let q1:=(bP s l n (1:Int) (cJ l i q3));(bC s l s (aB l) (q2) ns.length ns i/\True/\false=false)/\(aG l i q3=true->(bC s l s (aB l) (q2) ns.length ns (cJ l i q3)/\gV l n (1:Int) (cJ l i q3))/\(q1.die=true->R.die=true/\aV q1.e q1.a=aV R.e R.a)/\(q1.die=false->(bC s l s (aB l) (q2) ns.length ns (cJ l i q3)/\gV l n (1:Int) (cJ l i q3)/\q1.die=false)/\(bC s l s (aB l) (q2) ns.length ns q1.i/\True)/\((!aG l q1.i q4)=true->R.die=true/\aV (11:Int) (dn s l q1.i)=aV R.e R.a)/\((!aG l q1.i q4)=false->(bC s l s (aB l) (q2) ns.length ns q1.i/\True/\(!aG l q1.i q4)=false)/\aF (YS s l n h R.die (aV R.e R.a)) (iA R.die (A.p (exV R.v)) (pO s l R.i ins ns)) [0,0,1,0,1,1,1,1,1,0,1,0,1] (fr [(0,aR 0 0),(4,aR 3 0),(9,aR 4 0)]) (af.ofList [Ob.mk 73 [Fd.c (W.str s),Fd.c (W.rs (4:Nat) (aB l)),fI (q1.i+1),Fd.c (W.mp (1:Nat)),Fd.c (W.bool ins),fS 2 0 ns.length],q2,Ob.mk 9 [Fd.a 0 D.str ns],Ob.mk 25 [fI (0),fI (0),Fd.c (W.str eS),Fd.c (W.rs (4:Nat) [])],Ob.mk 25 [fI (7),fI (0),Fd.c (W.str (ByteArray.mk #[])),Fd.c (W.rs (4:Nat) [PV.int x.k,PV.int x.n,PV.str x.t,PV.aZ (4:Nat) (Ex.ai x.l),PV.int q1.v.k,PV.int q1.v.n,PV.str q1.v.t,PV.aZ (4:Nat) (Ex.ai q1.v.l)])]]))))/\(aG l i q3=false->R.die=false/\ax [V.agg [wI x.k,wI x.n,W.str x.t,W.rs (4:Nat) (Ex.ai x.l)]]=A.p (exV R.v)/\[Ob.mk 73 [Fd.c (W.str s),Fd.c (W.rs (4:Nat) (aB l)),fI (cJ l i q3),Fd.c (W.mp (1:Nat)),Fd.c (W.bool ins),fS 2 0 ns.length],q2,Ob.mk 9 [Fd.a 0 D.str ns]]=pO s l R.i ins ns)) (by kernel_rfl)
   try simp only[sL]
   rw[WM];have h0:=hi.1;have h9:=hi.2.2;unfold oe at e;refine⟨pin hi,fun h1=>?_,fun h1=>?_⟩;have hlt:=cP h1;rw[h1] at e;simp only[cond_true] at e;rw[iN h1];have hi1:gJ l (i+1):=⟨by omega,by omega,h9⟩;have hx:gV l n 1 (i+1):=⟨by omega,by omega,by omega⟩;refine⟨⟨pin hi1,hx⟩,fun hd=>?_,fun hd=>?_⟩;rw[hd] at e;simp only[cond_true] at e;subst e;exact⟨hd,rfl⟩;rw[hd] at e;simp only[cond_false] at e;obtain⟨a1,a2⟩:=lu (s:=s) (l:=l) n 1 (i+1) hd (by omega);have hi2:gJ l (bP s l n 1 (i+1)).i:=⟨by omega,a2,h9⟩;refine⟨⟨pin hi1,hx,hd⟩,pin hi2,fun h2=>?_,fun h2=>?_⟩;rw[h2] at e;subst e;exact⟨rfl,rfl⟩;have h3:=cP h2;rw[h2] at e;simp only[cond_true] at e;exact⟨⟨pin hi2,h2⟩,Np n h ins ns R k _ _ e ⟨by omega,by omega,h9⟩ (by omega) (by omega)⟩;rw[h1] at e;rw[iM h1];subst e;exact⟨rfl,rfl,rfl⟩
theorem Tp(n:Nat)(h:HX s l n):HX s l (n+1):=by
 intro aO i ins ns p e hi hc;unfold Nj at e;split at e;rename_i lv;cases e;have hc:gV l (n+1) lv i:=hc;refine iE (dies:=YR s l n h) (aQ:=Qo) (eV:=[]) (fz:=[]) (FL h) Tryz.func15 (by kernel_rfl) 3 (by kernel_rfl) 400 ?_;apply of_eq (q:=let q4:=(ByteArray.mk #[(110:UInt8),(111:UInt8),(116:UInt8)]);let q5:=(bP s l n (9:Int) i);let q6:=Ob.mk 49 [Fd.m D.str (D.int .i64) cx];let q7:=(bP s l (n+1) lv i);let q8:=(ByteArray.mk #[(45:UInt8)]);let q9:=(IntKind.i64.wrap (lv+1));let bg:=(Ql (gV l (n+1) lv i) q7 ins ns);let aJ:=(7:Int);let bn:=(fY s l (bP s l n) i);let bS:=(bP s l n (10:Int) i);let bV:=(3:Int);let cU:=Ob.mk 9 [Fd.a 0 D.str ns];let eI:=(bP s l n q9 i);let dL:=Fd.c (W.mp (1:Nat));let bQ:=(aB l);let dF:=Fd.c (W.bool ins);let j3:=fS 2 0 ns.length;let gb:=(4:Nat);let lJ:=Fd.c (W.str s);let kf:=q7.die=true;let q3:=(A.p (V.agg (List.take gb (List.drop (0:Nat) (Ob.mk 25 (fI q5.v.k::fI q5.v.n::Fd.c (W.str q5.v.t)::Fd.c (W.rs gb (Ex.ai q5.v.l))::sE._f [] PUnit.unit (List.append._f [] PUnit.unit []))).cells))));let bX:=Fd.c (W.rs gb bQ);let dx:=(bP s l n q9 (cJ l i (dz (D.int .i64) D.str (bI (D.int .i64) D.str aJ q8 (bI (D.int .i64) D.str bV q4 [])) lv))).die=false;let dX:=(bP s l n lv (cJ l i (dz (D.int .i64) D.str (bI (D.int .i64) D.str aJ q8 (bI (D.int .i64) D.str bV q4 [])) lv))).die=false;let dR:=(R1.pure Cd.t q3).v=(R1.pure Cd.t q3).v;let ga:=Ob.mk 25 [fI (0),fI (0),Fd.c (W.str (ByteArray.mk #[])),Fd.c (W.rs gb [])];let q1:=((bP s l n q9 (cJ l i (dz (D.int .i64) D.str (bI (D.int .i64) D.str aJ q8 (bI (D.int .i64) D.str bV q4 [])) lv))).die=true->kf/\aV (bP s l n q9 (cJ l i (dz (D.int .i64) D.str (bI (D.int .i64) D.str aJ q8 (bI (D.int .i64) D.str bV q4 [])) lv))).e (bP s l n q9 (cJ l i (dz (D.int .i64) D.str (bI (D.int .i64) D.str aJ q8 (bI (D.int .i64) D.str bV q4 [])) lv))).a=aV q7.e q7.a)/\(dx->(bC s l s bQ (q6) ns.length ns (cJ l i (dz (D.int .i64) D.str (bI (D.int .i64) D.str aJ q8 (bI (D.int .i64) D.str bV q4 [])) lv))/\gV l n q9 (cJ l i (dz (D.int .i64) D.str (bI (D.int .i64) D.str aJ q8 (bI (D.int .i64) D.str bV q4 [])) lv))/\dx)/\q7.die=false/\ax [V.agg [wI (bP s l n q9 (cJ l i (dz (D.int .i64) D.str (bI (D.int .i64) D.str aJ q8 (bI (D.int .i64) D.str bV q4 [])) lv))).v.k,wI (bP s l n q9 (cJ l i (dz (D.int .i64) D.str (bI (D.int .i64) D.str aJ q8 (bI (D.int .i64) D.str bV q4 [])) lv))).v.n,W.str (bP s l n q9 (cJ l i (dz (D.int .i64) D.str (bI (D.int .i64) D.str aJ q8 (bI (D.int .i64) D.str bV q4 [])) lv))).v.t,W.rs gb (Ex.ai (bP s l n q9 (cJ l i (dz (D.int .i64) D.str (bI (D.int .i64) D.str aJ q8 (bI (D.int .i64) D.str bV q4 [])) lv))).v.l)]]=A.p (exV q7.v)/\[Ob.mk 73 [lJ,bX,fI (bP s l n q9 (cJ l i (dz (D.int .i64) D.str (bI (D.int .i64) D.str aJ q8 (bI (D.int .i64) D.str bV q4 [])) lv))).i,dL,dF,j3],q6,cU]=pO s l q7.i ins ns);let q2:=(aG l i (dz (D.int .i64) D.str (bI (D.int .i64) D.str aJ q8 (bI (D.int .i64) D.str bV q4 [])) lv)=true->(bC s l s bQ (q6) ns.length ns (cJ l i (dz (D.int .i64) D.str (bI (D.int .i64) D.str aJ q8 (bI (D.int .i64) D.str bV q4 [])) lv))/\gV l n lv (cJ l i (dz (D.int .i64) D.str (bI (D.int .i64) D.str aJ q8 (bI (D.int .i64) D.str bV q4 [])) lv)))/\((bP s l n lv (cJ l i (dz (D.int .i64) D.str (bI (D.int .i64) D.str aJ q8 (bI (D.int .i64) D.str bV q4 [])) lv))).die=true->kf/\aV (bP s l n lv (cJ l i (dz (D.int .i64) D.str (bI (D.int .i64) D.str aJ q8 (bI (D.int .i64) D.str bV q4 [])) lv))).e (bP s l n lv (cJ l i (dz (D.int .i64) D.str (bI (D.int .i64) D.str aJ q8 (bI (D.int .i64) D.str bV q4 [])) lv))).a=aV q7.e q7.a)/\(dX->(bC s l s bQ (q6) ns.length ns (cJ l i (dz (D.int .i64) D.str (bI (D.int .i64) D.str aJ q8 (bI (D.int .i64) D.str bV q4 [])) lv))/\gV l n lv (cJ l i (dz (D.int .i64) D.str (bI (D.int .i64) D.str aJ q8 (bI (D.int .i64) D.str bV q4 [])) lv))/\dX)/\q7.die=false/\ax [V.agg [wI (8),wI (0),W.str (dz (D.int .i64) D.str (bI (D.int .i64) D.str aJ q8 (bI (D.int .i64) D.str bV q4 [])) lv),W.rs gb [PV.int (bP s l n lv (cJ l i (dz (D.int .i64) D.str (bI (D.int .i64) D.str aJ q8 (bI (D.int .i64) D.str bV q4 [])) lv))).v.k,PV.int (bP s l n lv (cJ l i (dz (D.int .i64) D.str (bI (D.int .i64) D.str aJ q8 (bI (D.int .i64) D.str bV q4 [])) lv))).v.n,PV.str (bP s l n lv (cJ l i (dz (D.int .i64) D.str (bI (D.int .i64) D.str aJ q8 (bI (D.int .i64) D.str bV q4 [])) lv))).v.t,PV.aZ gb (Ex.ai (bP s l n lv (cJ l i (dz (D.int .i64) D.str (bI (D.int .i64) D.str aJ q8 (bI (D.int .i64) D.str bV q4 [])) lv))).v.l)]]]=A.p (exV q7.v)/\[Ob.mk 73 [lJ,bX,fI (bP s l n lv (cJ l i (dz (D.int .i64) D.str (bI (D.int .i64) D.str aJ q8 (bI (D.int .i64) D.str bV q4 [])) lv))).i,dL,dF,j3],q6,cU]=pO s l q7.i ins ns))/\(aG l i (dz (D.int .i64) D.str (bI (D.int .i64) D.str aJ q8 (bI (D.int .i64) D.str bV q4 [])) lv)=false->(bC s l s bQ (q6) ns.length ns (cJ l i (dz (D.int .i64) D.str (bI (D.int .i64) D.str aJ q8 (bI (D.int .i64) D.str bV q4 [])) lv))/\gV l n q9 (cJ l i (dz (D.int .i64) D.str (bI (D.int .i64) D.str aJ q8 (bI (D.int .i64) D.str bV q4 [])) lv)))/\q1);(decide (lv=3)=true->(bC s l s bQ (q6) ns.length ns i/\True/\false=false)/\q2)/\(decide (lv=3)=false->(decide (lv=7)=true->(bC s l s bQ (q6) ns.length ns i/\True/\false=false)/\q2)/\(decide (lv=7)=false->(decide (lv=8)=true->(bC s l s bQ (q6) ns.length ns i/\gV l n (9:Int) i)/\(q5.die=true->kf/\aV q5.e q5.a=aV q7.e q7.a)/\(q5.die=false->(bC s l s bQ (q6) ns.length ns i/\gV l n (9:Int) i/\q5.die=false)/\(bC s l s bQ (q6) ns.length ns q5.i/\True/\false=false)/\(cL l q5.i lv=true->(bC s l s bQ (q6) ns.length ns (if cL l q5.i lv=true then q5.i+1 else q5.i)/\gV l n aJ (if cL l q5.i lv=true then q5.i+1 else q5.i))/\(bP s l n aJ (if cL l q5.i lv=true then q5.i+1 else q5.i)).die=true/\(kf/\aV (bP s l n aJ (if cL l q5.i lv=true then q5.i+1 else q5.i)).e (bP s l n aJ (if cL l q5.i lv=true then q5.i+1 else q5.i)).a=aV q7.e q7.a)/\dR/\dR/\True∨(bC s l s bQ (q6) ns.length ns (if cL l q5.i lv=true then q5.i+1 else q5.i)/\gV l n aJ (if cL l q5.i lv=true then q5.i+1 else q5.i)/\(bP s l n aJ (if cL l q5.i lv=true then q5.i+1 else q5.i)).die=false)/\dR/\dR/\q7.die=false/\ax [V.agg [wI (9),wI (0),W.str (if cL l q5.i lv=true then(ay l q5.i).text else eS),W.rs gb [PV.int q5.v.k,PV.int q5.v.n,PV.str q5.v.t,PV.aZ gb (Ex.ai q5.v.l),PV.int (bP s l n aJ (if cL l q5.i lv=true then q5.i+1 else q5.i)).v.k,PV.int (bP s l n aJ (if cL l q5.i lv=true then q5.i+1 else q5.i)).v.n,PV.str (bP s l n aJ (if cL l q5.i lv=true then q5.i+1 else q5.i)).v.t,PV.aZ gb (Ex.ai (bP s l n aJ (if cL l q5.i lv=true then q5.i+1 else q5.i)).v.l)]]]=A.p (exV q7.v)/\[Ob.mk 73 [lJ,bX,fI (bP s l n aJ (if cL l q5.i lv=true then q5.i+1 else q5.i)).i,dL,dF,j3],q6,cU]=pO s l q7.i ins ns)/\(cL l q5.i lv=false->q7.die=false/\ax [V.agg [wI q5.v.k,wI q5.v.n,W.str q5.v.t,W.rs gb (Ex.ai q5.v.l)]]=A.p (exV q7.v)/\[Ob.mk 73 [lJ,bX,fI (if cL l q5.i lv=true then q5.i+1 else q5.i),dL,dF,j3],q6,cU]=pO s l q7.i ins ns)))/\(decide (lv=8)=false->(decide (lv=9)=true->(bC s l s bQ (q6) ns.length ns i/\gV l n (10:Int) i)/\(bS.die=true->kf/\aV bS.e bS.a=aV q7.e q7.a)/\(bS.die=false->(bC s l s bQ (q6) ns.length ns i/\gV l n (10:Int) i/\bS.die=false)/\aF (iQ Tryz.prog (Qn s l n) (YR s l n h) Tryz.f15 (3:Nat) Qo [] [] bg.die (aV bg.e bg.a)) (iA bg.die bg.r (pO s l bg.i bg.ins bg.ns)) [0,0,1,0,1,1,1,1,1,0,1,0,1] (fr [(0,aR 0 0),(4,aR 3 0),(9,aR 4 0)]) (af.ofList [Ob.mk 73 [lJ,bX,fI bS.i,dL,dF,j3],q6,cU,ga,Ob.mk 25 [fI bS.v.k,fI bS.v.n,Fd.c (W.str bS.v.t),Fd.c (W.rs gb (Ex.ai bS.v.l))]])))/\(decide (lv=9)=false->(decide (lv=10)=true->(bC s l s bQ (q6) ns.length ns i/\(12:Int)*((l.length:Int)-i)<(n:Int))/\(bn.die=true->kf/\aV bn.e bn.a=aV q7.e q7.a)/\(bn.die=false->(bC s l s bQ (q6) ns.length ns i/\(12:Int)*((l.length:Int)-i)<(n:Int)/\bn.die=false)/\q7.die=false/\ax [V.agg [wI bn.v.k,wI bn.v.n,W.str bn.v.t,W.rs gb (Ex.ai bn.v.l)]]=A.p (exV q7.v)/\[Ob.mk 73 [lJ,bX,fI bn.i,dL,dF,j3],q6,cU]=pO s l q7.i ins ns))/\(decide (lv=10)=false->(bC s l s bQ (q6) ns.length ns i/\gV l n q9 i)/\(eI.die=true->kf/\aV eI.e eI.a=aV q7.e q7.a)/\(eI.die=false->(bC s l s bQ (q6) ns.length ns i/\gV l n q9 i/\eI.die=false)/\aF (iQ Tryz.prog (Qn s l n) (YR s l n h) Tryz.f15 (3:Nat) Qo [] [] bg.die (aV bg.e bg.a)) (iA bg.die bg.r (pO s l bg.i bg.ins bg.ns)) [0,1,1,1] (fr [(0,aR 0 0),(1,nI lv),(4,aR 3 0),(11,aR 4 0)]) (af.ofList [Ob.mk 73 [lJ,bX,fI eI.i,dL,dF,j3],q6,cU,ga,Ob.mk 25 [fI eI.v.k,fI eI.v.n,Fd.c (W.str eI.v.t),Fd.c (W.rs gb (Ex.ai eI.v.l))]])))))))) (by kernel_rfl)
 try simp only[sL]
 generalize hR:bP s l (n+1) lv i=R;have hR:su s l (bP s l n) lv i=R:=hR;generalize hT:dz (D.int .i64) D.str (bI (D.int .i64) D.str (7:Int) (⟨#[45]⟩:ByteArray) (bI (D.int .i64) D.str (3:Int) (⟨#[110,111,116]⟩:ByteArray) [])) lv=T;have h0:=hi.1;have h9:=hi.2.2;obtain⟨l1,l2,l3⟩:=hc;have hT3:lv=3->T=iS:=by rintro rfl;rw[<-hT];rfl
 have hT7:lv=7->T=fP:=by rintro rfl;rw[<-hT];rfl
 clear hT;rw[wrap64 (n:=lv+1) (by omega) (by omega),pvl1];have hx1:lv+1<=10->gV l n (lv+1) i:=fun h=>⟨by omega,h,by omega⟩;refine⟨fun h3=>?_,fun h3=>⟨fun h7=>?_,fun h7=>?_⟩⟩;unfold su at hR;rw[decide_eq_true h3] at hR;simp only[cond_true] at hR;rw[<-hT3 h3] at hR;unfold mL at hR;refine⟨pin hi,fun h1=>?_,fun h1=>?_⟩;have hlt:=cP h1;rw[h1] at hR;simp only[cond_true] at hR;rw[iN h1];have hi1:gJ l (i+1):=⟨by omega,by omega,h9⟩;have hx:gV l n lv (i+1):=⟨l1,l2,by omega⟩;refine⟨⟨pin hi1,hx⟩,fun hd=>?_,fun hd=>?_⟩;rw[hd] at hR;simp only[cond_true] at hR;subst hR;exact⟨hd,rfl⟩;rw[hd] at hR;simp only[cond_false] at hR;subst hR;exact⟨⟨pin hi1,hx,hd⟩,rfl,rfl,rfl⟩;rw[h1] at hR;simp only[cond_false] at hR;rw[iM h1];subst hR;exact⟨⟨pin hi,hx1 (by omega)⟩,fun hd=>⟨hd,rfl⟩,fun hd=>⟨⟨pin hi,hx1 (by omega),hd⟩,hd,rfl,rfl⟩⟩;unfold su at hR;rw[decide_eq_false h3,decide_eq_true h7] at hR;simp only[cond_true,cond_false] at hR;rw[<-hT7 h7] at hR;unfold mL at hR;refine⟨pin hi,fun h1=>?_,fun h1=>?_⟩;have hlt:=cP h1;rw[h1] at hR;simp only[cond_true] at hR;rw[iN h1];have hi1:gJ l (i+1):=⟨by omega,by omega,h9⟩;have hx:gV l n lv (i+1):=⟨l1,l2,by omega⟩;refine⟨⟨pin hi1,hx⟩,fun hd=>?_,fun hd=>?_⟩;rw[hd] at hR;simp only[cond_true] at hR;subst hR;exact⟨hd,rfl⟩;rw[hd] at hR;simp only[cond_false] at hR;subst hR;exact⟨⟨pin hi1,hx,hd⟩,rfl,rfl,rfl⟩;rw[h1] at hR;simp only[cond_false] at hR;rw[iM h1];subst hR;exact⟨⟨pin hi,hx1 (by omega)⟩,fun hd=>⟨hd,rfl⟩,fun hd=>⟨⟨pin hi,hx1 (by omega),hd⟩,hd,rfl,rfl⟩⟩;unfold su at hR;rw[decide_eq_false h3,decide_eq_false h7] at hR;simp only[cond_false] at hR;refine⟨fun h8=>?_,fun h8=>⟨fun YT=>?_,fun YT=>⟨fun WN=>?_,fun WN=>?_⟩⟩⟩;rw[decide_eq_true h8] at hR;simp only[cond_true] at hR;unfold vk at hR;have hx:gV l n 9 i:=⟨by omega,by omega,by omega⟩;refine⟨⟨pin hi,hx⟩,fun hd=>?_,fun hd=>?_⟩;rw[hd] at hR;simp only[cond_true] at hR;subst hR;exact⟨hd,rfl⟩;rw[hd] at hR;simp only[cond_false] at hR;obtain⟨a1,a2⟩:=lu (s:=s) (l:=l) n 9 i hd h0;have hi2:gJ l (bP s l n 9 i).i:=⟨by omega,a2,h9⟩;rw[<-h8] at hR;refine⟨⟨pin hi,hx,hd⟩,pin hi2,fun ho=>?_,fun ho=>?_⟩
 . have hlt:=YP ho;rw[ho] at hR;simp only[cond_true] at hR;rw[if_pos ho,if_pos ho,WM];have hi3:gJ l ((bP s l n 9 i).i+1):=⟨by omega,by omega,h9⟩;have hx7:gV l n 7 ((bP s l n 9 i).i+1):=⟨by omega,by omega,by omega⟩;cases hd7:(bP s l n 7 ((bP s l n 9 i).i+1)).die with
   | true=>rw[hd7] at hR;simp only[cond_true] at hR;subst hR;exact .inl ⟨⟨pin hi3,hx7⟩,rfl,hd7,rfl⟩
   | false=>rw[hd7] at hR;simp only[cond_false] at hR;subst hR;exact .inr ⟨⟨pin hi3,hx7,rfl⟩,rfl,rfl,rfl⟩
 rw[ho] at hR;simp only[cond_false] at hR;subst hR;rw[if_neg (by rw[ho];simp)];exact⟨rfl,rfl,rfl⟩;rw[decide_eq_false h8,decide_eq_true YT] at hR;simp only[cond_true,cond_false] at hR;have hx:gV l n 10 i:=⟨by omega,by omega,by omega⟩;refine⟨⟨pin hi,hx⟩,fun hd=>?_,fun hd=>?_⟩;rw[hd] at hR;simp only[cond_true] at hR;subst hR;exact⟨hd,rfl⟩;rw[hd] at hR;simp only[cond_false] at hR;obtain⟨a1,a2⟩:=lu (s:=s) (l:=l) n 10 i hd h0;exact⟨⟨pin hi,hx,hd⟩,Np s l n h ins ns R _ _ _ hR ⟨by omega,a2,h9⟩ (by omega) (by omega)⟩;rw[decide_eq_false h8,decide_eq_false YT,decide_eq_true WN] at hR;simp only[cond_true,cond_false] at hR;have hc:12*((l.length:Int)-i)<n:=by omega
 subst hR;exact⟨⟨pin hi,hc⟩,fun hd=>⟨hd,rfl⟩,fun hd=>⟨⟨pin hi,hc,hd⟩,hd,rfl,rfl⟩⟩;rw[decide_eq_false h8,decide_eq_false YT,decide_eq_false WN] at hR;simp only[cond_false] at hR;have hx:=hx1 (by omega);refine⟨⟨pin hi,hx⟩,fun hd=>?_,fun hd=>?_⟩;rw[hd] at hR;simp only[cond_true] at hR;subst hR;exact⟨hd,rfl⟩;rw[hd] at hR;simp only[cond_false] at hR;obtain⟨a1,a2⟩:=lu (s:=s) (l:=l) n (lv+1) i hd h0;exact⟨⟨pin hi,hx,hd⟩,Nn s l n h lv ⟨l1,by omega⟩ ins ns R _ _ _ hR ⟨by omega,a2,h9⟩ (by omega) (by omega)⟩;cases e
theorem Tq:HX s l 0:=by
 intro aO i ins ns p e hi hc;unfold Nj at e;split at e;rename_i lv;cases e;have hc:gV l 0 lv i:=hc;obtain⟨_,h2,h3⟩:=hc;have:=hi.2.1;omega;cases e
theorem rA:∀ n,HX s l n
 | 0=>Tq s l
 | n+1=>Tp s l n (rA n)
end
inductive St where
 | mk (k line:Int) (name:ByteArray) (params:List ByteArray) (e:Ex) (body els:List St)
def St.k:St->Int | .mk k _ _ _ _ _ _=>k
def St.line:St->Int | .mk _ n _ _ _ _ _=>n
def St.name:St->ByteArray | .mk _ _ t _ _ _ _=>t
def St.params:St->List ByteArray | .mk _ _ _ p _ _ _=>p
def St.e:St->Ex | .mk _ _ _ _ e _ _=>e
def St.body:St->List St | .mk _ _ _ _ _ b _=>b
def St.els:St->List St | .mk _ _ _ _ _ _ c=>c
mutual
def St.nZ:St->List PV
 | .mk k n t p e b c=>[.int k,.int n,.str t,.strs p,.int e.k,.int e.n,.str e.t,.aZ 4 (Ex.ai e.l),.aZ 10 (St.ai b),.aZ 10 (St.ai c)]
def St.ai:List St->List PV
 | []=>[]
 | e::l=>e.nZ++St.ai l
end
theorem St.bZ:St.ai []=[]:=by rw[St.ai]
theorem St.eH(x:St)(l:List St):St.ai (x::l)=[.int x.k,.int x.line,.str x.name,.strs x.params,.int x.e.k,.int x.e.n,.str x.e.t,.aZ 4 (Ex.ai x.e.l),.aZ 10 (St.ai x.body),.aZ 10 (St.ai x.els)]++St.ai l:=by
 cases x;rw[St.ai,St.nZ];rfl
theorem St.sK(l m:List St):St.ai (l++m)=St.ai l++St.ai m:=by
 induction l with
 | nil=>rw[St.bZ];rfl
 | cons e l ih=>rw[List.cons_append,St.eH,St.eH,ih,List.append_assoc]
theorem St.dJ(l:List St):(St.ai l).length=l.length*10:=by
 induction l with
 | nil=>rw[St.bZ];rfl
 | cons e l ih=>rw[St.eH];simp only[List.length_append,List.length_cons,List.length_nil,ih];omega
abbrev WO:ByteArray:=⟨#[112,114,105,110,116]⟩
abbrev tIf:ByteArray:=⟨#[105,102]⟩
abbrev WQ:ByteArray:=⟨#[101,108,115,101]⟩
abbrev WR:ByteArray:=⟨#[119,104,105,108,101]⟩
abbrev WS:ByteArray:=⟨#[102,111,114]⟩
abbrev tIn:ByteArray:=⟨#[105,110]⟩
abbrev WT:ByteArray:=⟨#[114,101,116,117,114,110]⟩
abbrev WU:ByteArray:=⟨#[100,101,102]⟩
abbrev tEq:ByteArray:=⟨#[61]⟩
abbrev FM:ByteArray:=⟨#[59]⟩
abbrev tLc:ByteArray:=⟨#[123]⟩
abbrev tRc:ByteArray:=⟨#[125]⟩
def Ez(x:ByteArray):Int:=(Lib.countByte x.data.toList 10:Nat)
def p7:St:=.mk 0 0 eS [] jQ [] []
def XR.to{α β:Type}(r:XR α)(v:β):XR β:=⟨true,r.e,r.a,v,r.i⟩
section
variable (s:ByteArray) (l:List Tok)
noncomputable def EX:jm:=bP s l (12*l.length+12)
noncomputable def fE(i:Int):XR Ex :=
 bif (EX s l 1 i).die then EX s l 1 i else bif aG l (EX s l 1 i).i FM then eW (EX s l 1 i).v ((EX s l 1 i).i+1) else jJ s l jQ (EX s l 1 i).i
def jK(i:Int):Int:=1+Ez (s.extract 0 (dn s l i).toNat)
abbrev qd:=Int->XR (List St)
noncomputable def wz(k line:Int)(q:XR Ex):XR St:=bif q.die then q.to p7 else eW (.mk k line eS [] q.v [] []) q.i
noncomputable def AA(bl:qd)(line:Int)(r:XR Ex):XR St :=
 bif r.die then r.to p7 else
 bif (bl r.i).die then(bl r.i).to p7 else
 bif aG l (bl r.i).i WQ then
  (bif (bl ((bl r.i).i+1)).die then(bl ((bl r.i).i+1)).to p7 else eW (.mk 3 line eS [] r.v (bl r.i).v (bl ((bl r.i).i+1)).v) (bl ((bl r.i).i+1)).i)
 else eW (.mk 3 line eS [] r.v (bl r.i).v []) (bl r.i).i
noncomputable def wC(bl:qd)(k line:Int)(name:ByteArray)(r:XR Ex):XR St :=
 bif r.die then r.to p7 else
 bif (bl r.i).die then(bl r.i).to p7 else eW (.mk k line name [] r.v (bl r.i).v []) (bl r.i).i
noncomputable def rW(line:Int)(name:ByteArray)(q:XR Ex):XR St:=bif q.die then q.to p7 else eW (.mk 1 line name [] q.v [] []) q.i
noncomputable def oV(bl:qd)(ins:Bool)(i:Int):XR St :=
 bif aG l i WO then wz 2 (jK s l i) (fE s l (i+1))
 else bif aG l i tIf then AA l bl (jK s l i) (EX s l 1 (i+1))
 else bif aG l i WR then wC bl 4 (jK s l i) eS (EX s l 1 (i+1))
 else bif aG l i WS then
  (bif gq l (i+1) then(bif aG l (i+1+1) tIn then wC bl 5 (jK s l i) (ay l (i+1)).text (EX s l 1 (i+1+1+1)) else jJ s l p7 (i+1+1)) else jJ s l p7 (i+1))
 else bif ins&&aG l i WT then wz 6 (jK s l i) (fE s l (i+1))
 else bif gq l i then(bif aG l (i+1) tEq then rW (jK s l i) (ay l i).text (fE s l (i+1+1)) else jJ s l p7 (i+1))
 else jJ s l p7 i
noncomputable def yN(st:Int->XR St):Nat->List St->Int->XR (List St)
 | 0,acc,i=>jJ s l acc i
 | k+1,acc,i=>bif aG l i tRc then eW acc (i+1) else bif (st i).die then(st i).to acc else yN st k (acc++[(st i).v]) (st i).i
noncomputable def KL(st:Int->XR St)(i:Int):XR (List St):=bif aG l i tLc then yN s l st (l.length+1) [] (i+1) else jJ s l [] i
noncomputable def ju(ins:Bool):Nat->qd
 | 0=>fun i=>jJ s l [] i
 | n+1=>KL s l (oV s l (ju ins n) ins)
def vm(bl:qd):Prop:=∀ i,(bl i).die=false->0<=i->i<(bl i).i/\(bl i).i<=l.length
def FN(st:Int->XR St):Prop:=∀ i,(st i).die=false->0<=i->i<(st i).i/\(st i).i<=l.length/\(st i).v.params=[]
variable {s l}
theorem wD:vl l (EX s l):=lu _
theorem yh(i:Int)(hd:(fE s l i).die=false)(h0:0<=i):i<(fE s l i).i/\(fE s l i).i<=l.length:=by
 unfold fE at hd ⊢;cases hx:(EX s l 1 i).die with
 | true=>rw[hx] at hd;simp only[cond_true] at hd;rw[hx] at hd;cases hd
 | false =>
 obtain⟨a,b⟩:=wD (s:=s) _ _ hx h0;rw[hx] at hd;simp only[cond_false] at hd ⊢;cases h1:aG l (EX s l 1 i).i FM with
 | false=>rw[h1] at hd;cases hd
 | true =>
   have:=cP h1;exact⟨by show i<(EX s l 1 i).i+1;omega,by show (EX s l 1 i).i+1<=_;omega⟩
theorem Tr{k line:Int}{q:XR Ex}{j:Int}(hq:q.die=false->j<q.i/\q.i<=l.length)(hd:(wz k line q).die=false):j<(wz k line q).i/\(wz k line q).i<=l.length/\(wz k line q).v.params=[]:=by
 unfold wz at hd ⊢;cases hx:q.die with
 | true=>rw[hx] at hd;cases hd
 | false=>obtain⟨a,b⟩:=hq hx;exact⟨a,b,rfl⟩
theorem aau{line:Int}{t:ByteArray}{q:XR Ex}{j:Int}(hq:q.die=false->j<q.i/\q.i<=l.length)(hd:(rW line t q).die=false):j<(rW line t q).i/\(rW line t q).i<=l.length/\(rW line t q).v.params=[]:=by
 unfold rW at hd ⊢;cases hx:q.die with
 | true=>rw[hx] at hd;cases hd
 | false=>obtain⟨a,b⟩:=hq hx;exact⟨a,b,rfl⟩
theorem Ts{bl:qd}(h:vm l bl){k line:Int}{t:ByteArray}{q:XR Ex}{j:Int}(hj:0<=j)(hq:q.die=false->j<q.i/\q.i<=l.length)(hd:(wC bl k line t q).die=false):j<(wC bl k line t q).i/\(wC bl k line t q).i<=l.length/\(wC bl k line t q).v.params=[]:=by
 unfold wC at hd ⊢;cases hx:q.die with
 | true=>rw[hx] at hd;cases hd
 | false =>
 obtain⟨a,b⟩:=hq hx;rw[hx] at hd;simp only[cond_false] at hd ⊢;cases hy:(bl q.i).die with
 | true=>rw[hy] at hd;cases hd
 | false =>
   obtain⟨c,d⟩:=h _ hy (by omega);exact⟨by show j<(bl q.i).i;omega,d,rfl⟩
theorem if_adv{bl:qd}(h:vm l bl){line:Int}{q:XR Ex}{j:Int}(hj:0<=j)(hq:q.die=false->j<q.i/\q.i<=l.length)(hd:(AA l bl line q).die=false):j<(AA l bl line q).i/\(AA l bl line q).i<=l.length/\(AA l bl line q).v.params=[]:=by
 unfold AA at hd ⊢;cases hx:q.die with
 | true=>rw[hx] at hd;cases hd
 | false =>
 obtain⟨a,b⟩:=hq hx;rw[hx] at hd;simp only[cond_false] at hd ⊢;cases hy:(bl q.i).die with
 | true=>rw[hy] at hd;cases hd
 | false =>
 obtain⟨c,d⟩:=h _ hy (by omega);rw[hy] at hd;simp only[cond_false] at hd ⊢;cases he:aG l (bl q.i).i WQ with
 | false=>exact⟨by show j<(bl q.i).i;omega,d,rfl⟩
 | true =>
 rw[he] at hd;simp only[cond_true] at hd ⊢;cases hz:(bl ((bl q.i).i+1)).die with
 | true=>rw[hz] at hd;cases hd
 | false =>
   obtain⟨c2,d2⟩:=h _ hz (by omega);exact⟨by show j<(bl ((bl q.i).i+1)).i;omega,d2,rfl⟩
theorem wE{bl:qd}(h:vm l bl)(ins:Bool):FN l (oV s l bl ins):=by
 intro i hd h0;have lt:∀{j:Int}{x:XR St},i<=j->(j<x.i/\x.i<=l.length/\x.v.params=[])->i<x.i/\x.i<=l.length/\x.v.params=[]:=fun hj h=>⟨by omega,h.2.1,h.2.2⟩;unfold oV at hd ⊢;cases h1:aG l i WO with
 | true=>rw[h1] at hd;exact lt (j:=i+1) (by omega) (Tr (fun hq=>yh _ hq (by omega)) hd)
 | false =>
 cases h2:aG l i tIf with
 | true=>rw[h1,h2] at hd;exact lt (j:=i+1) (by omega) (if_adv h (by omega) (fun hq=>wD _ _ hq (by omega)) hd)
 | false =>
 cases h3:aG l i WR with
 | true=>rw[h1,h2,h3] at hd;exact lt (j:=i+1) (by omega) (Ts h (by omega) (fun hq=>wD _ _ hq (by omega)) hd)
 | false =>
 cases h4:aG l i WS with
 | true =>
   rw[h1,h2,h3,h4] at hd;simp only[cond_true,cond_false] at hd ⊢;cases h5:gq l (i+1) with
   | false=>rw[h5] at hd;cases hd
   | true =>
   cases h6:aG l (i+1+1) tIn with
   | false=>rw[h5,h6] at hd;cases hd
   | true =>
     rw[h5,h6] at hd;exact lt (j:=i+1+1+1) (by omega) (Ts h (by omega) (fun hq=>wD _ _ hq (by omega)) hd)
 | false =>
 cases h7:ins&&aG l i WT with
 | true=>rw[h1,h2,h3,h4,h7] at hd;exact lt (j:=i+1) (by omega) (Tr (fun hq=>yh _ hq (by omega)) hd)
 | false =>
 rw[h1,h2,h3,h4,h7] at hd;simp only[cond_false] at hd ⊢;cases h5:gq l i with
 | false=>rw[h5] at hd;cases hd
 | true =>
 cases h6:aG l (i+1) tEq with
 | false=>rw[h5,h6] at hd;cases hd
 | true =>
   rw[h5,h6] at hd;exact lt (j:=i+1+1) (by omega) (aau (fun hq=>yh _ hq (by omega)) hd)
theorem Nq{st:Int->XR St}(h:FN l st):∀(k:Nat)(acc:List St)(i:Int),(yN s l st k acc i).die=false->0<=i->i<(yN s l st k acc i).i/\(yN s l st k acc i).i<=l.length
 | 0,acc,i,hd,_=>by cases hd
 | k + 1, acc, i, hd, h0 => by
   unfold yN at hd ⊢;cases h1:aG l i tRc with
   | true=>have:=cP h1;exact⟨by show i<i+1;omega,by show i+1<=_;omega⟩
   | false =>
   rw[h1] at hd;simp only[cond_false] at hd ⊢;cases hx:(st i).die with
   | true=>rw[hx] at hd;cases hd
   | false =>
     obtain⟨a,b,_⟩:=h _ hx h0;rw[hx] at hd;obtain⟨c,d⟩:=Nq h k _ _ hd (by omega);exact⟨by show i<_;simp only[cond_false];omega,d⟩
theorem bl_adv{st:Int->XR St}(h:FN l st):vm l (KL s l st):=by
 intro i hd h0;unfold KL at hd ⊢;cases h1:aG l i tLc with
 | false=>rw[h1] at hd;cases hd
 | true =>
   rw[h1] at hd;obtain⟨c,d⟩:=Nq h _ _ _ hd (by omega);exact⟨by simp only[cond_true];omega,d⟩
theorem lA(ins:Bool):∀ n,vm l (ju s l ins n)
 | 0=>fun _ hd=>by cases hd
 | n+1=>bl_adv (wE (lA ins n) ins)
end
end Go.Proofs.YtcimgfhfpiapaaaGreatDoor
namespace Go.Proofs.YtcimgfhfpiapaaaGreatDoor
open Go.aU Go.RowKit
set_option maxRecDepth 100000
theorem Tt(x:ByteArray):bt Tryz.prog 49 [sS x,sS ⟨#[10]⟩] [] (.p (.c (.int .i64 (Ez x)))) []:=by
 intro base η Z w vs R hvs hK
 match vs,hvs with
 | [u,v],⟨⟨_,h1⟩,⟨_,h2⟩,_⟩ =>
   have h1:u=.string x:=h1;have h2:v=.string ⟨#[10]⟩:=h2;subst h1;subst h2;refine(callsIn_wide.2 (Tryz.strings_Count_one x 10 w)).mono ?_;rintro e w' ⟨rfl,rfl⟩;exact⟨_,η,Z,rfl,⟨fun _ _ _ h=>h,R,Step.refl _ _ _ _⟩,by simp,rfl⟩
def FO:cT:=xY .str .str fun x sep=>(.p (sep=⟨#[10]⟩),.p (.c (.int .i64 (Ez x))),[])
theorem EA:bE Tryz.prog 49 FO:=qx (by kernel_rfl) fun x sep h=>by
 have h:sep=⟨#[10]⟩:=h;subst h;exact Tt x
section
variable (s:ByteArray) (l:List Tok)
noncomputable abbrev gX:iI:=Nj s l (12*l.length+12)
noncomputable def gamI:cg:=(15,fR s l [true,false] (gX s l))::(34,fR s l [true,false] (qM s l))::(61,fR s l [true] (uF s l))::(49,FO)::yg s l
theorem Nr:bp Tryz.prog (gamI s l):=aq (eu (by kernel_rfl) (rA s l _)) (aq (eu (by kernel_rfl) (lI s l)) (aq (eu (by kernel_rfl) (oU s l)) (aq EA (lg s l))))
noncomputable def diI:List { x:FuncId×fX // fJ Tryz.prog x.1 x.2 }:=⟨(15,jZ s l [true,false] (gX s l)),ij (by kernel_rfl) (rA s l _)⟩::⟨(34,jZ s l [true,false] (qM s l)),ij (by kernel_rfl) (lI s l)⟩::⟨(61,jZ s l [true] (uF s l)),ij (by kernel_rfl) (oU s l)⟩::CC s l
variable {s l} in
theorem Dp{i:Int}(h:gJ l i):gV l (12*l.length+12) 1 i:=⟨by omega,by omega,by have:=h.1;omega⟩
noncomputable def Bv:iI:=fun aO i ins ns=>match aO with | []=>some (Ql True (fE s l i) ins ns)|_=>none
theorem CD:lV 77 s l (Bv s l):=by
 intro aO i ins ns p e hi hc;unfold Bv at e;split at e;cases e;refine iE (dies:=diI s l) (aQ:=[]) (eV:=[]) (fz:=[]) (Nr s l) Tryz.func77 (by kernel_rfl) 3 (by kernel_rfl) 200 ?_;apply of_eq (q:=let q1:=(bP s l ((12:Nat)*l.length+12) (1:Int) i);let q2:=Ob.mk 49 [Fd.m D.str (D.int .i64) cx];let q3:=(fE s l i);let q4:=(ByteArray.mk #[(59:UInt8)]);(bC s l s (aB l) (q2) ns.length ns i/\gV l ((12:Nat)*l.length+12) (1:Int) i)/\(q1.die=true->q3.die=true/\aV q1.e q1.a=aV q3.e q3.a)/\(q1.die=false->(bC s l s (aB l) (q2) ns.length ns i/\gV l ((12:Nat)*l.length+12) (1:Int) i/\q1.die=false)/\(bC s l s (aB l) (q2) ns.length ns q1.i/\True)/\((!aG l q1.i q4)=true->q3.die=true/\aV (11:Int) (dn s l q1.i)=aV q3.e q3.a)/\((!aG l q1.i q4)=false->(bC s l s (aB l) (q2) ns.length ns q1.i/\True/\(!aG l q1.i q4)=false)/\q3.die=false/\ax [V.agg [wI q1.v.k,wI q1.v.n,W.str q1.v.t,W.rs (4:Nat) (Ex.ai q1.v.l)]]=A.p (exV q3.v)/\[Ob.mk 73 [Fd.c (W.str s),Fd.c (W.rs (4:Nat) (aB l)),fI (q1.i+1),Fd.c (W.mp (1:Nat)),Fd.c (W.bool ins),fS 2 0 ns.length],q2,Ob.mk 9 [Fd.a 0 D.str ns]]=pO s l q3.i ins ns))) (by kernel_rfl)
 try simp only[sL]
 generalize hR:fE s l i=R;unfold fE at hR;have hE:EX s l 1 i=bP s l (12*l.length+12) 1 i:=rfl;rw[hE] at hR;have h0:=hi.1;refine⟨⟨pin hi,Dp hi⟩,fun hd=>?_,fun hd=>?_⟩;rw[hd] at hR;simp only[cond_true] at hR;subst hR;exact⟨hd,rfl⟩;rw[hd] at hR;simp only[cond_false] at hR;obtain⟨a,b⟩:=lu (s:=s) (l:=l) _ _ _ hd h0;have hi2:gJ l (bP s l (12*l.length+12) 1 i).i:=⟨by omega,b,hi.2.2⟩;refine⟨⟨pin hi,Dp hi,hd⟩,pin hi2,fun h1=>?_,fun h1=>?_⟩;rw[h1] at hR;subst hR;exact⟨rfl,rfl⟩;rw[h1] at hR;subst hR;exact⟨⟨pin hi2,h1⟩,rfl,rfl,rfl⟩;cases e
def iO:Prop:=s.size<=1000000/\∀ t∈l,0<=t.at_/\t.at_<=s.size
variable {s} in
theorem nlC_le(x:ByteArray):0<=Ez x/\Ez x<=x.size:=by
 have:Lib.countByte x.data.toList 10<=x.data.toList.length:=List.count_le_length;have h2:x.data.toList.length=x.size:=rfl;unfold Ez;omega
theorem Hq(h:s.size<=1000000)(i:Int):IntKind.i64.wrap (1+Ez (s.extract 0 (dn s l i).toNat))=jK s l i:=by
 obtain⟨a,b⟩:=nlC_le (s.extract 0 (dn s l i).toNat);have:(s.extract 0 (dn s l i).toNat).size<=s.size:=by rw[ByteArray.size_extract];omega
 rw[wrap64 (by omega) (by omega)];rfl
theorem and3{p:Prop}(h:p):(p/\p)/\p:=⟨⟨h,h⟩,h⟩
variable {s l} in
theorem Tv(h:iO s l){i:Int}(hi:gJ l i):0<=dn s l i/\dn s l i<=s.size:=by
 unfold dn;by_cases hl:i<l.length;rw[if_pos hl];obtain⟨n,hn,_,e⟩:=Tg hi hl;rw[e];exact h.2 _ (List.getElem_mem hn);rw[if_neg hl];omega
def stV(x:St):V:=.agg [.int .i64 x.k,.int .i64 x.line,.str x.name,.nil,.int .i64 x.e.k,.int .i64 x.e.n,.str x.e.t,.rs 4 (Ex.ai x.e.l),.rs 10 (St.ai x.body),.rs 10 (St.ai x.els)]
theorem tG(k line:Int)(t:ByteArray)(e:Ex)(b c:List St):stV (.mk k line t [] e b c)=.agg [.int .i64 k,.int .i64 line,.str t,.nil,.int .i64 e.k,.int .i64 e.n,.str e.t,.rs 4 (Ex.ai e.l),.rs 10 (St.ai b),.rs 10 (St.ai c)]:=rfl
noncomputable def KM(n:Nat):iI:=fun aO i ins ns=>match aO with
 | []=>some { c:=(l.length:Int)-i<n,die:=(ju s l ins n i).die,e:=(ju s l ins n i).e,a:=(ju s l ins n i).a,r:=.p (.c (.rs 10 (St.ai (ju s l ins n i).v))),i:=(ju s l ins n i).i,ins:=ins,ns:=ns }
 | _=>none
noncomputable def Ns(n:Nat):iI:=fun aO i ins ns=>match aO with
 | []=>some { c:=(l.length:Int)-i<=n,die:=(oV s l (ju s l ins n) ins i).die,e:=(oV s l (ju s l ins n) ins i).e,a:=(oV s l (ju s l ins n) ins i).a,r:=.p (stV (oV s l (ju s l ins n) ins i).v),i:=(oV s l (ju s l ins n) ins i).i,ins:=ins,ns:=ns }
 | _=>none
abbrev HB(n:Nat):Prop:=lV 76 s l (KM s l n)
abbrev HS(n:Nat):Prop:=lV 52 s l (Ns s l n)
noncomputable def gamS(n:Nat):cg:=(76,fR s l [true] (KM s l n))::(77,fR s l [true] (Bv s l))::gamI s l
noncomputable def diS(n:Nat)(h:HB s l n):List { x:FuncId×fX // fJ Tryz.prog x.1 x.2 }:=⟨(76,jZ s l [true] (KM s l n)),ij (by kernel_rfl) h⟩::⟨(77,jZ s l [true] (Bv s l)),ij (by kernel_rfl) (CD s l)⟩::diI s l
variable {s l} in
theorem aav{n:Nat}(h:HB s l n):bp Tryz.prog (gamS s l n):=aq (eu (by kernel_rfl) h) (aq (eu (by kernel_rfl) (CD s l)) (Nr s l))
theorem FP(ht:iO s l)(n:Nat)(h:HB s l n):HS s l n:=by
 intro aO i ins ns p e hi hc;unfold Ns at e;split at e;cases e;have hc:(l.length:Int)-i<=n:=hc;refine iE (dies:=diS s l n h) (aQ:=[]) (eV:=[]) (fz:=[]) (aav h) Tryz.func52 (by kernel_rfl) 3 (by kernel_rfl) 900 ?_;apply of_eq (q:=let q3:=(ByteArray.mk #[(102:UInt8),(111:UInt8),(114:UInt8)]);let q4:=(ByteArray.mk #[(114:UInt8),(101:UInt8),(116:UInt8),(117:UInt8),(114:UInt8),(110:UInt8)]);let aJ:=Ob.mk 49 [Fd.m D.str (D.int .i64) cx];let bn:=(oV s l (ju s l ins n) ins i);let bX:=(ByteArray.mk #[(101:UInt8),(108:UInt8),(115:UInt8),(101:UInt8)]);let dX:=(IntKind.i64.wrap ((1:Int)+Ez (s.extract (0:Nat) (dn s l i).toNat)));let bQ:=(aB l);let dF:=((12:Nat)*l.length+12);let j3:=(ByteArray.mk #[(119:UInt8),(104:UInt8),(105:UInt8),(108:UInt8),(101:UInt8)]);let lJ:=(ByteArray.mk #[(112:UInt8),(114:UInt8),(105:UInt8),(110:UInt8),(116:UInt8)]);let kf:=(R1.pure (Cd.t.and Cd.t) (aP (W.str s))).v=(R1.pure (Cd.t.and Cd.t) (aP (W.str s))).v;let gL:=bn.die=true;let gi:=Fd.c (W.rs (4:Nat) bQ);let jn:=Ob.mk 9 [Fd.a 0 D.str ns];let gN:=True/\false=false;let jt:=(ByteArray.mk #[(61:UInt8)]);let ja:=Fd.c (W.mp (1:Nat));let Az:=Fd.c (W.bool ins);let sx:=(10:Nat);let Hr:=(l.length:Int);let q44:=(ByteArray.mk #[(105:UInt8),(110:UInt8)]);let q45:=(ByteArray.mk #[(105:UInt8),(102:UInt8)]);let Ht:=fS 2 0 ns.length;let Hu:=bn.die=false;let Hv:=Fd.c (W.str s);let Tw:=(ByteArray.mk #[]);let Hw:=(stV bn.v);let bg:=(cJ l i lJ);let cU:=(cJ l bg q45);let iZ:=(fE s l bg);let q1:=(cJ l cU j3);let q2:=(bP s l dF (1:Int) cU);let dx:=(bP s l dF (1:Int) q1);let bV:=(cJ l q1 q3);let dR:=(ju s l ins n q2.i);let eI:=(fE s l (cJ l bV q4+1+1));let gb:=(ju s l ins n (cJ l dR.i bX));let gu:=(cJ l q1 q3+1);let fj:=(cJ l q1 q3+1+1);let wv:=(ju s l ins n dx.i);let CF:=(cJ l bV q4);let Nt:=(cJ l bV q4+1);let q5:=(q2.die=true->gL/\aV q2.e q2.a=aV bn.e bn.a)/\(q2.die=false->(bC s l s bQ (aJ) ns.length ns cU/\gV l dF (1:Int) cU/\q2.die=false)/\(bC s l s bQ (aJ) ns.length ns q2.i/\Hr-q2.i<(n:Int))/\(dR.die=true->gL/\aV dR.e dR.a=aV bn.e bn.a)/\(dR.die=false->(bC s l s bQ (aJ) ns.length ns q2.i/\Hr-q2.i<(n:Int)/\dR.die=false)/\(bC s l s bQ (aJ) ns.length ns dR.i/\gN)/\(aG l dR.i bX=true->(bC s l s bQ (aJ) ns.length ns (cJ l dR.i bX)/\Hr-cJ l dR.i bX<(n:Int))/\(gb.die=true->gL/\aV gb.e gb.a=aV bn.e bn.a)/\(gb.die=false->(bC s l s bQ (aJ) ns.length ns (cJ l dR.i bX)/\Hr-cJ l dR.i bX<(n:Int)/\gb.die=false)/\Hu/\ax [V.agg [wI (3),wI dX,W.str Tw,W.nil,wI q2.v.k,wI q2.v.n,W.str q2.v.t,W.rs (4:Nat) (Ex.ai q2.v.l),W.rs sx (St.ai dR.v),W.rs sx (St.ai gb.v)]]=A.p Hw/\[Ob.mk 73 [Hv,gi,fI gb.i,ja,Az,Ht],aJ,jn]=pO s l bn.i ins ns))/\(aG l dR.i bX=false->Hu/\ax [V.agg [wI (3),wI dX,W.str Tw,W.nil,wI q2.v.k,wI q2.v.n,W.str q2.v.t,W.rs (4:Nat) (Ex.ai q2.v.l),W.rs sx (St.ai dR.v),W.rs sx []]]=A.p Hw/\[Ob.mk 73 [Hv,gi,fI (cJ l dR.i bX),ja,Az,Ht],aJ,jn]=pO s l bn.i ins ns)));let bS:=(bP s l dF (1:Int) fj);let dL:=(fE s l fj);let ga:=(fE s l CF);let nM:=(ju s l ins n bS.i);let q6:=(bC s l s bQ (aJ) ns.length ns bV/\gN)/\(aG l bV q4=true->(bC s l s bQ (aJ) ns.length ns CF/\True)/\(ga.die=true->gL/\aV ga.e ga.a=aV bn.e bn.a)/\(ga.die=false->(bC s l s bQ (aJ) ns.length ns CF/\True/\ga.die=false)/\Hu/\ax [V.agg [wI (6),wI dX,W.str Tw,W.nil,wI ga.v.k,wI ga.v.n,W.str ga.v.t,W.rs (4:Nat) (Ex.ai ga.v.l),W.rs sx [],W.rs sx []]]=A.p Hw/\[Ob.mk 73 [Hv,gi,fI ga.i,ja,Az,Ht],aJ,jn]=pO s l bn.i ins ns))/\(aG l bV q4=false->(bC s l s bQ (aJ) ns.length ns CF/\True)/\((!gq l CF)=true->gL/\aV (11:Int) (dn s l CF)=aV bn.e bn.a)/\((!gq l CF)=false->(bC s l s bQ (aJ) ns.length ns CF/\True/\(!gq l CF)=false)/\(bC s l s bQ (aJ) ns.length ns Nt/\True)/\((!aG l Nt jt)=true->gL/\aV (11:Int) (dn s l Nt)=aV bn.e bn.a)/\((!aG l Nt jt)=false->(bC s l s bQ (aJ) ns.length ns Nt/\True/\(!aG l Nt jt)=false)/\(bC s l s bQ (aJ) ns.length ns (cJ l bV q4+1+1)/\True)/\(eI.die=true->gL/\aV eI.e eI.a=aV bn.e bn.a)/\(eI.die=false->(bC s l s bQ (aJ) ns.length ns (cJ l bV q4+1+1)/\True/\eI.die=false)/\Hu/\ax [V.agg [wI (1),wI dX,W.str (ay l CF).text,W.nil,wI eI.v.k,wI eI.v.n,W.str eI.v.t,W.rs (4:Nat) (Ex.ai eI.v.l),W.rs sx [],W.rs sx []]]=A.p Hw/\[Ob.mk 73 [Hv,gi,fI eI.i,ja,Az,Ht],aJ,jn]=pO s l bn.i ins ns))));let q7:=((!gq l bV)=true->gL/\aV (11:Int) (dn s l bV)=aV bn.e bn.a)/\((!gq l bV)=false->(bC s l s bQ (aJ) ns.length ns bV/\True/\(!gq l bV)=false)/\(bC s l s bQ (aJ) ns.length ns gu/\True)/\((!aG l gu q44)=true->gL/\aV (11:Int) (dn s l gu)=aV bn.e bn.a)/\((!aG l gu q44)=false->(bC s l s bQ (aJ) ns.length ns gu/\True/\(!aG l gu q44)=false)/\(bC s l s bQ (aJ) ns.length ns fj/\gV l dF (1:Int) fj)/\(bS.die=true->gL/\aV bS.e bS.a=aV bn.e bn.a)/\(bS.die=false->(bC s l s bQ (aJ) ns.length ns fj/\gV l dF (1:Int) fj/\bS.die=false)/\(bC s l s bQ (aJ) ns.length ns bS.i/\Hr-bS.i<(n:Int))/\(nM.die=true->gL/\aV nM.e nM.a=aV bn.e bn.a)/\(nM.die=false->(bC s l s bQ (aJ) ns.length ns bS.i/\Hr-bS.i<(n:Int)/\nM.die=false)/\Hu/\ax [V.agg [wI (5),wI dX,W.str (ay l bV).text,W.nil,wI bS.v.k,wI bS.v.n,W.str bS.v.t,W.rs (4:Nat) (Ex.ai bS.v.l),W.rs sx (St.ai nM.v),W.rs sx []]]=A.p Hw/\[Ob.mk 73 [Hv,gi,fI nM.i,ja,Az,Ht],aJ,jn]=pO s l bn.i ins ns))));let q8:=(aG l cU j3=true->(bC s l s bQ (aJ) ns.length ns q1/\gV l dF (1:Int) q1)/\(dx.die=true->gL/\aV dx.e dx.a=aV bn.e bn.a)/\(dx.die=false->(bC s l s bQ (aJ) ns.length ns q1/\gV l dF (1:Int) q1/\dx.die=false)/\(bC s l s bQ (aJ) ns.length ns dx.i/\Hr-dx.i<(n:Int))/\(wv.die=true->gL/\aV wv.e wv.a=aV bn.e bn.a)/\(wv.die=false->(bC s l s bQ (aJ) ns.length ns dx.i/\Hr-dx.i<(n:Int)/\wv.die=false)/\Hu/\ax [V.agg [wI (4),wI dX,W.str Tw,W.nil,wI dx.v.k,wI dx.v.n,W.str dx.v.t,W.rs (4:Nat) (Ex.ai dx.v.l),W.rs sx (St.ai wv.v),W.rs sx []]]=A.p Hw/\[Ob.mk 73 [Hv,gi,fI wv.i,ja,Az,Ht],aJ,jn]=pO s l bn.i ins ns)))/\(aG l cU j3=false->(bC s l s bQ (aJ) ns.length ns q1/\gN)/\(aG l q1 q3=true->(bC s l s bQ (aJ) ns.length ns bV/\True)/\q7)/\(aG l q1 q3=false->(ins=true->ins=true/\q6)/\(ins=!true->(bC s l s bQ (aJ) ns.length ns bV/\True)/\((!gq l bV)=true->gL/\aV (11:Int) (dn s l bV)=aV bn.e bn.a)/\((!gq l bV)=false->(bC s l s bQ (aJ) ns.length ns bV/\True/\(!gq l bV)=false)/\(bC s l s bQ (aJ) ns.length ns gu/\True)/\((!aG l gu jt)=true->gL/\aV (11:Int) (dn s l gu)=aV bn.e bn.a)/\((!aG l gu jt)=false->(bC s l s bQ (aJ) ns.length ns gu/\True/\(!aG l gu jt)=false)/\(bC s l s bQ (aJ) ns.length ns fj/\True)/\(dL.die=true->gL/\aV dL.e dL.a=aV bn.e bn.a)/\(dL.die=false->(bC s l s bQ (aJ) ns.length ns fj/\True/\dL.die=false)/\Hu/\ax [V.agg [wI (1),wI dX,W.str (ay l bV).text,W.nil,wI dL.v.k,wI dL.v.n,W.str dL.v.t,W.rs (4:Nat) (Ex.ai dL.v.l),W.rs sx [],W.rs sx []]]=A.p Hw/\[Ob.mk 73 [Hv,gi,fI dL.i,ja,Az,Ht],aJ,jn]=pO s l bn.i ins ns))))));let q9:=((0:Int)<=0/\(0:Int)<=dn s l i/\dn s l i<=(s.size:Int))/\ByteArray.mk #[(10:UInt8)]=ByteArray.mk #[(10:UInt8)]/\kf/\kf/\kf/\(bC s l s bQ (aJ) ns.length ns i/\gN)/\(aG l i lJ=true->(bC s l s bQ (aJ) ns.length ns bg/\True)/\(iZ.die=true->gL/\aV iZ.e iZ.a=aV bn.e bn.a)/\(iZ.die=false->(bC s l s bQ (aJ) ns.length ns bg/\True/\iZ.die=false)/\Hu/\ax [V.agg [wI (2),wI dX,W.str Tw,W.nil,wI iZ.v.k,wI iZ.v.n,W.str iZ.v.t,W.rs (4:Nat) (Ex.ai iZ.v.l),W.rs sx [],W.rs sx []]]=A.p Hw/\[Ob.mk 73 [Hv,gi,fI iZ.i,ja,Az,Ht],aJ,jn]=pO s l bn.i ins ns))/\(aG l i lJ=false->(bC s l s bQ (aJ) ns.length ns bg/\gN)/\(aG l bg q45=true->(bC s l s bQ (aJ) ns.length ns cU/\gV l dF (1:Int) cU)/\q5)/\(aG l bg q45=false->(bC s l s bQ (aJ) ns.length ns cU/\gN)/\q8));(((bC s l s bQ (aJ) ns.length ns i/\gN)/\q9)/\(bC s l s bQ (aJ) ns.length ns i/\gN)/\q9)/\(bC s l s bQ (aJ) ns.length ns i/\gN)/\q9) (by kernel_rfl)
 try simp only[sL]
 generalize hR:oV s l (ju s l ins n) ins i=R;unfold oV at hR;rw[Hq s l ht.1];generalize jK s l i=L at hR ⊢;have h0:=hi.1;have h9:=hi.2.2;have up:∀{j:Int},0<=j->j<l.length->gJ l (j+1):=fun h h'=>⟨by omega,by omega,h9⟩;have bA:=lA (s:=s) (l:=l) ins n;have eA:=lu (s:=s) (l:=l) (12*l.length+12);have hE:∀ j,EX s l 1 j=bP s l (12*l.length+12) 1 j:=fun _=>rfl;simp only[hE] at hR;generalize bP s l (12*l.length+12)=ex at hR eA ⊢;refine and3 ⟨pin hi,Tv ht hi,pin hi,fun h1=>?_,fun h1=>?_⟩;rw[h1] at hR;simp only[cond_true] at hR;unfold wz at hR;have u1:=up h0 (cP h1);rw[iN h1];refine⟨pin u1,fun hd=>?_,fun hd=>?_⟩;rw[hd] at hR;subst hR;exact⟨rfl,rfl⟩;rw[hd] at hR;subst hR;exact⟨⟨pin u1,hd⟩,rfl,by rw[cond_false,eW,tG,St.bZ];rfl,rfl⟩;rw[h1] at hR;simp only[cond_false] at hR;rw[iM h1];refine⟨pin hi,fun h2=>?_,fun h2=>?_⟩;rw[h2] at hR;simp only[cond_true] at hR;have u1:=up h0 (cP h2);rw[iN h2];unfold AA at hR;have hx:=Dp u1;refine⟨⟨pin u1,hx⟩,fun hd=>?_,fun hd=>?_⟩;rw[hd] at hR;subst hR;exact⟨rfl,rfl⟩;rw[hd] at hR;simp only[cond_false] at hR;obtain⟨a,b⟩:=eA 1 (i+1) hd (by omega);have v:gJ l (ex 1 (i+1)).i:=⟨by omega,b,h9⟩;have lt:(l.length:Int)-(ex 1 (i+1)).i<n:=by omega
 refine⟨⟨pin u1,hx,hd⟩,⟨pin v,lt⟩,fun hb=>?_,fun hb=>?_⟩;rw[hb] at hR;subst hR;exact⟨rfl,rfl⟩;rw[hb] at hR;simp only[cond_false] at hR;obtain⟨a2,b2⟩:=bA _ hb v.1;have v2:gJ l (ju s l ins n (ex 1 (i+1)).i).i:=⟨by omega,b2,h9⟩;refine⟨⟨pin v,lt,hb⟩,pin v2,fun he=>?_,fun he=>?_⟩;have hel:=cP he;have v3:=up v2.1 hel;have lt3:(l.length:Int)-((ju s l ins n (ex 1 (i+1)).i).i+1)<n:=by omega
 rw[he] at hR;simp only[cond_true] at hR;rw[iN he];refine⟨⟨pin v3,lt3⟩,fun hc=>?_,fun hc=>?_⟩;rw[hc] at hR;subst hR;exact⟨rfl,rfl⟩;rw[hc] at hR;subst hR;exact⟨⟨pin v3,lt3,hc⟩,rfl,rfl,rfl⟩;rw[he] at hR;rw[iM he];subst hR;exact⟨rfl,by rw[cond_false,eW,tG,St.bZ];rfl,rfl⟩;rw[h2] at hR;simp only[cond_false] at hR;rw[iM h2];refine⟨pin hi,fun h3=>?_,fun h3=>?_⟩;rw[h3] at hR;simp only[cond_true] at hR;have u1:=up h0 (cP h3);rw[iN h3];unfold wC at hR;have hx:=Dp u1;refine⟨⟨pin u1,hx⟩,fun hd=>?_,fun hd=>?_⟩;rw[hd] at hR;subst hR;exact⟨rfl,rfl⟩;rw[hd] at hR;simp only[cond_false] at hR;obtain⟨a,b⟩:=eA 1 (i+1) hd (by omega);have v:gJ l (ex 1 (i+1)).i:=⟨by omega,b,h9⟩;have lt:(l.length:Int)-(ex 1 (i+1)).i<n:=by omega
 refine⟨⟨pin u1,hx,hd⟩,⟨pin v,lt⟩,fun hb=>?_,fun hb=>?_⟩;rw[hb] at hR;subst hR;exact⟨rfl,rfl⟩;rw[hb] at hR;subst hR;exact⟨⟨pin v,lt,hb⟩,rfl,by rw[cond_false,eW,tG,St.bZ];rfl,rfl⟩;rw[h3] at hR;simp only[cond_false] at hR;rw[iM h3];refine⟨pin hi,fun h4=>?_,fun h4=>?_⟩;rw[h4] at hR;simp only[cond_true] at hR;have u1:=up h0 (cP h4);rw[iN h4];refine⟨pin u1,fun hn=>?_,fun hn=>?_⟩;rw[hn] at hR;subst hR;exact⟨rfl,rfl⟩;have u2:=up (by omega) (Ik hn);rw[hn] at hR;simp only[cond_true] at hR;refine⟨⟨pin u1,hn⟩,pin u2,fun hm=>?_,fun hm=>?_⟩;rw[hm] at hR;subst hR;exact⟨rfl,rfl⟩;have u3:=up (by omega) (cP hm);rw[hm] at hR;simp only[cond_true] at hR;refine⟨⟨pin u2,hm⟩,?_⟩;unfold wC at hR;have hx:=Dp u3;refine⟨⟨pin u3,hx⟩,fun hd=>?_,fun hd=>?_⟩;rw[hd] at hR;subst hR;exact⟨rfl,rfl⟩;rw[hd] at hR;simp only[cond_false] at hR;obtain⟨a,b⟩:=eA 1 (i+1+1+1) hd (by omega);have v:gJ l (ex 1 (i+1+1+1)).i:=⟨by omega,b,h9⟩;have lt:(l.length:Int)-(ex 1 (i+1+1+1)).i<n:=by omega
 refine⟨⟨pin u3,hx,hd⟩,⟨pin v,lt⟩,fun hb=>?_,fun hb=>?_⟩;rw[hb] at hR;subst hR;exact⟨rfl,rfl⟩;rw[hb] at hR;subst hR;exact⟨⟨pin v,lt,hb⟩,rfl,by rw[cond_false,eW,tG,St.bZ];rfl,rfl⟩;rw[h4] at hR;simp only[cond_false] at hR;rw[iM h4];refine⟨fun h5=>⟨h5,pin hi,fun h6=>?_,fun h6=>?_⟩,fun h5=>?_⟩;rw[h5,h6] at hR;simp only[Bool.and_self,cond_true] at hR;have u1:=up h0 (cP h6);rw[iN h6];unfold wz at hR;refine⟨pin u1,fun hd=>?_,fun hd=>?_⟩;rw[hd] at hR;subst hR;exact⟨rfl,rfl⟩;rw[hd] at hR;subst hR;exact⟨⟨pin u1,hd⟩,rfl,by rw[cond_false,eW,tG,St.bZ];rfl,rfl⟩;rw[h6,Bool.and_false] at hR;simp only[cond_false] at hR;rw[iM h6];refine⟨pin hi,fun hn=>?_,fun hn=>?_⟩;rw[hn] at hR;subst hR;exact⟨rfl,rfl⟩;have u1:=up h0 (Ik hn);rw[hn] at hR;simp only[cond_true] at hR;refine⟨⟨pin hi,hn⟩,pin u1,fun he=>?_,fun he=>?_⟩;rw[he] at hR;subst hR;exact⟨rfl,rfl⟩;have u2:=up (by omega) (cP he);rw[he] at hR;simp only[cond_true] at hR;unfold rW at hR;refine⟨⟨pin u1,he⟩,pin u2,fun hd=>?_,fun hd=>?_⟩;rw[hd] at hR;subst hR;exact⟨rfl,rfl⟩;rw[hd] at hR;subst hR;exact⟨⟨pin u2,hd⟩,rfl,by rw[cond_false,eW,tG,St.bZ];rfl,rfl⟩;have h5:ins=false:=h5;rw[h5,Bool.false_and] at hR;simp only[cond_false] at hR;refine⟨pin hi,fun hn=>?_,fun hn=>?_⟩;rw[hn] at hR;subst hR;exact⟨rfl,rfl⟩;have u1:=up h0 (Ik hn);rw[hn] at hR;simp only[cond_true] at hR;refine⟨⟨pin hi,hn⟩,pin u1,fun he=>?_,fun he=>?_⟩;rw[he] at hR;subst hR;exact⟨rfl,rfl⟩;have u2:=up (by omega) (cP he);rw[he] at hR;simp only[cond_true] at hR;unfold rW at hR;refine⟨⟨pin u1,he⟩,pin u2,fun hd=>?_,fun hd=>?_⟩;rw[hd] at hR;subst hR;exact⟨rfl,rfl⟩;rw[hd] at hR;subst hR;exact⟨⟨pin u2,hd⟩,rfl,by rw[cond_false,eW,tG,St.bZ];rfl,rfl⟩;cases e
end
section
variable (s:ByteArray) (l:List Tok)
noncomputable def WV(n:Nat):cg:=(52,fR s l [true] (Ns s l n))::(34,fR s l [true,false] (qM s l))::yg s l
noncomputable def diJ(n:Nat)(h:HS s l n):List { x:FuncId×fX // fJ Tryz.prog x.1 x.2 }:=⟨(52,jZ s l [true] (Ns s l n)),ij (by kernel_rfl) h⟩::⟨(34,jZ s l [true,false] (qM s l)),ij (by kernel_rfl) (lI s l)⟩::CC s l
variable {s l} in
theorem Nu{n:Nat}(h:HS s l n):bp Tryz.prog (WV s l n):=aq (eu (by kernel_rfl) h) (aq (eu (by kernel_rfl) (lI s l)) (lg s l))
noncomputable def sBl(n:Nat)(h:HS s l n)(b:Bool)(u:Value):bh:=iQ Tryz.prog (WV s l n) (diJ s l n h) Tryz.f76 3 [([0,0,1,1],[0,2])] [] [some .pv] b u
abbrev Qp(acc:List St):Ob:=⟨56,[.a 0 .pv (St.ai acc)]⟩
theorem KN(acc:List St)(x:St)(h:x.params=[]):St.ai acc++[PV.int x.k,PV.int x.line,PV.str x.name,PV.strs [],PV.int x.e.k,PV.int x.e.n,PV.str x.e.t,PV.aZ 4 (Ex.ai x.e.l),PV.aZ 10 (St.ai x.body),PV.aZ 10 (St.ai x.els)]=St.ai (acc++[x]):=by
 rw[St.sK,St.eH,St.bZ,h,List.append_nil]
theorem Nv(n:Nat)(h:HS s l n)(ins:Bool)(ns:List ByteArray)(R:XR (List St)):∀(k:Nat)(acc:List St)(i:Int),yN s l (oV s l (ju s l ins n) ins) k acc i=R->gJ l i->(l.length:Int)-i<k->(l.length:Int)-i<=n->(acc.length:Int)<=i->
 aF (sBl s l n h R.die (aV R.e R.a)) (iA R.die (.p (.c (.rs 10 (St.ai R.v)))) (pO s l R.i ins ns)) [0,0,1,1] (fr [(0,pA),(2,.p (.c (.sl 3 0 acc.length 10)))]) (.ofList [Tf s l i ins ns.length,bw,mJ ns,Qp acc])
 | 0,acc,i,e,hi,hk,hn,hc=>by
   obtain⟨h0,h1,h2⟩:=hi;omega
 | k + 1, acc, i, e, hi, hk, hn, hc => by
   refine cj (Nu h) (by kernel_rfl) 100 ?_;apply of_eq (q:=let q2:=(ByteArray.mk #[(125:UInt8)]);let q3:=Ob.mk 49 [Fd.m D.str (D.int .i64) cx];let q1:=(oV s l (ju s l ins n) ins (cJ l i q2));(bC s l s (aB l) (q3) ns.length ns i/\True/\false=false)/\((!aG l i q2)=true->(bC s l s (aB l) (q3) ns.length ns (cJ l i q2)/\(l.length:Int)-cJ l i q2<=(n:Int))/\(q1.die=true->R.die=true/\aV q1.e q1.a=aV R.e R.a)/\(q1.die=false->(bC s l s (aB l) (q3) ns.length ns (cJ l i q2)/\(l.length:Int)-cJ l i q2<=(n:Int)/\q1.die=false)/\((0:Nat)+acc.length*10<=(St.ai acc).length/\(acc.length+1)*160<=140737488355328)/\aF (sBl s l n h R.die (aV R.e R.a)) (iA R.die (aP (W.rs (10:Nat) (St.ai R.v))) (pO s l R.i ins ns)) [0,0,1,1] (fr [(0,aR 0 0),(2,aP (W.sl 3 0 (acc.length+1) 10))]) (af.ofList [Ob.mk 73 [Fd.c (W.str s),Fd.c (W.rs (4:Nat) (aB l)),fI q1.i,Fd.c (W.mp (1:Nat)),Fd.c (W.bool ins),fS 2 0 ns.length],q3,Ob.mk 9 [Fd.a 0 D.str ns],Ob.mk 56 [Fd.a 0 D.pv (List.take (acc.length*10) (List.drop (0:Nat) (St.ai acc))++[PV.int q1.v.k,PV.int q1.v.line,PV.str q1.v.name,PV.strs [],PV.int q1.v.e.k,PV.int q1.v.e.n,PV.str q1.v.e.t,PV.aZ (4:Nat) (Ex.ai q1.v.e.l),PV.aZ (10:Nat) (St.ai q1.v.body),PV.aZ (10:Nat) (St.ai q1.v.els)])]])))/\((!aG l i q2)=false->(0:Nat)+acc.length*10<=(St.ai acc).length/\R.die=false/\ax [V.c (W.rs (10:Nat) (List.take (acc.length*10) (List.drop (0:Nat) (St.ai acc))))]=aP (W.rs (10:Nat) (St.ai R.v))/\[Ob.mk 73 [Fd.c (W.str s),Fd.c (W.rs (4:Nat) (aB l)),fI (cJ l i q2),Fd.c (W.mp (1:Nat)),Fd.c (W.bool ins),fS 2 0 ns.length],q3,Ob.mk 9 [Fd.a 0 D.str ns]]=pO s l R.i ins ns)) (by kernel_rfl)
   try simp only[sL]
   generalize hq:oV s l (ju s l ins n) ins=st at e ⊢;have hA:FN l st:=by rw[<-hq];exact wE (lA ins n) ins
   have h0:=hi.1;have h9:=hi.2.2;have el:List.take (acc.length*10) (St.ai acc)=St.ai acc:=List.take_of_length_le (by rw[St.dJ];exact Nat.le_refl _);have hl:acc.length*10<=(St.ai acc).length:=by rw[St.dJ];exact Nat.le_refl _
   rw[el];unfold yN at e;refine⟨pin hi,fun h1=>?_,fun h1=>?_⟩;rw[h1] at e;simp only[cond_false] at e;rw[iM h1];refine⟨⟨pin hi,hn⟩,fun hd=>?_,fun hd=>?_⟩;rw[hd] at e;subst e;exact⟨rfl,rfl⟩;rw[hd] at e;simp only[cond_false] at e;obtain⟨a,b,c⟩:=hA _ hd h0;rw[KN _ _ c];have ih:=Nv n h ins ns R k (acc++[(st i).v]) (st i).i (by rw[hq];exact e) ⟨by omega,b,h9⟩ (by omega) (by omega) (by simp only[List.length_append,List.length_singleton];omega);rw[List.length_append,List.length_singleton] at ih;exact⟨⟨pin hi,hn,hd⟩,⟨hl,by have:=hi.2;omega⟩,ih⟩;rw[h1] at e;rw[iN h1];subst e;exact⟨hl,rfl,rfl,rfl⟩
theorem aaw(n:Nat)(h:HS s l n):HB s l (n+1):=by
 intro aO i ins ns p e hi hc;unfold KM at e;split at e;cases e;have hc:(l.length:Int)-i<(n+1:Nat):=hc;refine iE (dies:=diJ s l n h) (aQ:=[([0,0,1,1],[0,2])]) (eV:=[]) (fz:=[some .pv]) (Nu h) Tryz.func76 (by kernel_rfl) 3 (by kernel_rfl) 100 ?_;apply of_eq (q:=let q1:=(ju s l ins (n+1) i);let q2:=(l.length:Int)-i<(↑(n+1):Int);let q3:=aP (W.rs (10:Nat) (St.ai q1.v));let q4:=(Qi.mk (q2) q1.die q1.e q1.a (q3) q1.i ins ns);let q5:=Ob.mk 49 [Fd.m D.str (D.int .i64) cx];let q6:=(ByteArray.mk #[(123:UInt8)]);(bC s l s (aB l) (q5) ns.length ns i/\True)/\((!aG l i q6)=true->q1.die=true/\aV (11:Int) (dn s l i)=aV q1.e q1.a)/\((!aG l i q6)=false->(bC s l s (aB l) (q5) ns.length ns i/\True/\(!aG l i q6)=false)/\aF (iQ Tryz.prog (WV s l n) (diJ s l n h) Tryz.f76 (3:Nat) [([0,0,1,1],[0,2])] [] [some D.pv] q4.die (aV q4.e q4.a)) (iA q4.die q4.r (pO s l q4.i q4.ins q4.ns)) [0,0,1,1] (fr [(0,aR 0 0),(2,aP (W.sl 3 0 0 10))]) (af.ofList [Ob.mk 73 [Fd.c (W.str s),Fd.c (W.rs (4:Nat) (aB l)),fI (i+1),Fd.c (W.mp (1:Nat)),Fd.c (W.bool ins),fS 2 0 ns.length],q5,Ob.mk 9 [Fd.a 0 D.str ns],Ob.mk 56 [Fd.a 0 D.pv []]]))) (by kernel_rfl)
 try simp only[sL]
 generalize hR:ju s l ins (n+1) i=R;have hR:KL s l (oV s l (ju s l ins n) ins) i=R:=hR;unfold KL at hR;refine⟨pin hi,fun h1=>?_,fun h1=>?_⟩;rw[h1] at hR;subst hR;exact⟨rfl,rfl⟩;have hlt:=cP h1;have h0:=hi.1;rw[h1] at hR;simp only[cond_true] at hR;have:=Nv s l n h ins ns R (l.length+1) [] (i+1) hR ⟨by omega,by omega,hi.2.2⟩ (by omega) (by omega) (by simp only[List.length_nil];omega);unfold Qp at this;rw[St.bZ] at this;exact⟨⟨pin hi,h1⟩,this⟩;cases e
theorem aax:HB s l 0:=by
 intro aO i ins ns p e hi hc;unfold KM at e;split at e;cases e;have hc:(l.length:Int)-i<(0:Nat):=hc;have:=hi.2.1;omega;cases e
theorem wF(ht:iO s l):∀ n,HB s l n
 | 0=>aax s l
 | n+1=>aaw s l n (FP s l ht n (wF ht n))
end
end Go.Proofs.YtcimgfhfpiapaaaGreatDoor
