/- The reference's parser: its object; what reads a token. -/
import Derived.Test.YtaplgnhojknpiaaGreatDoorPars2
namespace Go.Proofs.YtaplgnhojknpiaaGreatDoor
open Go.aU Go.RowKit
set_option maxRecDepth 100000
abbrev PA(s:ByteArray)(l:List Tok)(i e a:Int)(m:Nat):Ob:=⟨51,[.c (.str s),.c (.rs 4 (ar l)),.c (.int .i64 i),.c (.int .i64 e),.c (.int .i64 a),.c (.sl 1 0 m 1)]⟩
abbrev rO(s:ByteArray)(l:List Tok)(i e a:Int)(ns:List ByteArray):List Ob:=[PA s l i e a ns.length,iY ns]
structure cx(s:ByteArray)(l:List Tok)(s':ByteArray)(l':List PV)(n:Nat)(ns:List ByteArray)(i:Int):Prop where
 es:s'=s
 el:l'=ar l
 en:n=ns.length
 ok:dx l i
theorem rin{s:ByteArray}{l:List Tok}{ns:List ByteArray}{i:Int}(h:dx l i):cx s l s (ar l) ns.length ns i:=⟨rfl,rfl,rfl,h⟩
structure iz where
 c:Prop
 r:A
 i:Int
 e:Int
 a:Int
 ns:List ByteArray
abbrev lp:=List A->Int->Int->Int->List ByteArray->Option iz
noncomputable def jd(k:Nat)(s:ByteArray)(l:List Tok)(cE:List Bool)(g:lp):cO:={ cE:=cE,au:=some k,f:=fun args ak=>match args,ak with
 | .p (.c (.ptr m 0))::aN,[⟨t,[.c (.str s'),.c (.rs q l'),.c (.int .i64 i),.c (.int .i64 e),.c (.int .i64 a),.c (.sl x 0 n 1)]⟩,⟨tn,[.a 0 .str ns]⟩] =>
   bif Nat.beq m 0&&(Nat.beq t 51&&(Nat.beq q 4&&(Nat.beq x 1&&Nat.beq tn 9))) then(match g aN i e a ns with
    | some p=>some (.p (cx s l s' l' n ns i/\p.c),p.r,rO s l p.i p.e p.a p.ns)
    | none=>none) else none
 | _,_=>none }
def u6(k f:Nat)(s:ByteArray)(l:List Tok)(g:lp):Prop:=∀ aN i e a ns p,g aN i e a ns=some p->dx l i->p.c->eW Tryz.prog f k (pA::aN) (rO s l i e a ns) p.r (rO s l p.i p.e p.a p.ns)
theorem fM{k f:Nat}{s:ByteArray}{l:List Tok}{cE:List Bool}{g:lp}(he:enters Tryz.prog f=true)(h:u6 k f s l g):bq Tryz.prog f (jd k s l cE g):=by
 refine⟨he,fun args ak c r aX e hc=>?_⟩;simp only[jd] at e;split at e;rename_i m aN t s' q l' i e0 a x n tn ns;obtain⟨hb,e1⟩:=aj.aC e;clear e;simp only[Bool.and_eq_true,Nat.beq_eq] at hb;obtain⟨rfl,rfl,rfl,rfl,rfl⟩:=hb;split at e1;rename_i p hp;cases e1;obtain⟨⟨rfl,rfl,rfl,h2⟩,h3⟩:=hc;exact h aN i e0 a ns p hp h2 h3;cases e1;cases e
section
variable (s:ByteArray) (l:List Tok)
def kq(e c:Int):Int:=if e=0 then c else e
def lP(e a j:Int):Int:=if e=0 then cV s l j else a
def RW:lp:=fun aN i e a ns=>match aN with
 | [.p (.c (.int .i64 c)),.p (.c (.int .i64 j))]=>some { c:=0<=j,r:=.bC [],i:=i,e:=kq e c,a:=lP s l e a j,ns:=ns }
 | _=>none
theorem fail_is:u6 2 29 s l (RW s l):=by
 intro aN i e a ns p h hi hc;unfold RW at h;split at h;rename_i c j;cases h;have hc:0<=j:=hc;refine ew (aK:=[]) (eu:=[]) (fz:=[]) aE Tryz.func29 (by kernel_rfl) 2 (by kernel_rfl) 200 ?_;apply of_eq (q:=let q1:=Fd.c (W.rs (4:Nat) (ar l));((!decide (e=0))=true->aq []=A.bC []/\[Ob.mk 51 [Fd.c (W.str s),q1,fI i,fI e,fI a,fS 1 0 ns.length],Ob.mk 9 [Fd.a 0 D.str ns]]=rO s l i (kq e c) (lP s l e a j) ns)/\((!decide (e=0))=false->(decide (j<(↑((ar l).length/4):Int))=true->((0:Int)<=j/\j.toNat*4<(ar l).length)/\j.toNat*4+3<(ar l).length/\(PV.int (0:Int)).like ((ar l).getD (j.toNat*4+3) (PV.bool false))=true/\aq []=A.bC []/\[Ob.mk 51 [Fd.c (W.str s),q1,fI i,fI c,Fd.c ((PV.int (0:Int)).at ((ar l).getD (j.toNat*4+3) (PV.bool false))),fS 1 0 ns.length],Ob.mk 9 [Fd.a 0 D.str ns]]=rO s l i (kq e c) (lP s l e a j) ns)/\(decide (j<(↑((ar l).length/4):Int))=false->aq []=A.bC []/\[Ob.mk 51 [Fd.c (W.str s),q1,fI i,fI c,fI (s.size:Int),fS 1 0 ns.length],Ob.mk 9 [Fd.a 0 D.str ns]]=rO s l i (kq e c) (lP s l e a j) ns))) (by kernel_rfl)
 try simp only[sL]
 rw[tN];unfold kq lP;refine⟨fun h=>by rw[if_neg h,if_neg h];exact⟨rfl,rfl⟩,fun h=>⟨fun hj=>?_,fun hj=>?_⟩⟩;have hp:dx l j:=⟨hc,by omega,hi.2.2⟩;rw[if_pos h,if_pos h,Ll hp hj];unfold cV;rw[if_pos hj];exact⟨⟨hc,pz hp hj 0 (by omega)⟩,pz hp hj 3 (by omega),rfl,rfl,rfl⟩;rw[if_pos h,if_pos h];unfold cV;rw[if_neg (by omega)];exact⟨rfl,rfl⟩;cases h
def bZ(e i:Int)(x:ByteArray):Bool:=decide (e=0)&&aQ l i x
def bQ(e i:Int)(x:ByteArray):Int:=if bZ l e i x then i+1 else i
def RX:lp:=fun aN i e a ns=>match aN with | [.p (.c (.str x))]=>some { c:=True,r:=bB (bZ l e i x),i:=i,e:=e,a:=a,ns:=ns }|_=>none
theorem next_is:u6 2 48 s l (RX l):=by
 intro aN i e a ns p h hi hc;unfold RX at h;split at h;rename_i x;cases h;refine ew (aK:=[]) (eu:=[]) (fz:=[]) aE Tryz.func48 (by kernel_rfl) 2 (by kernel_rfl) 200 ?_;apply of_eq (q:=let q4:=decide (e=0)=true;let q8:=(ar l);let q9:=decide ((q8.getD (i.toNat*4+0) (PV.bool false)).asInt=2);let q5:=decide ((q8.getD (i.toNat*4+0) (PV.bool false)).asInt=5);let q6:=decide (i<(↑(q8.length/4):Int));let q7:=(PV.int (0:Int)).like (q8.getD (i.toNat*4+0) (PV.bool false))=true;let q1:=(bif bif decide (e=0) then q6 else false then bif q5 then true else q9 else false)=true;let q2:=(bif decide (e=0) then q6 else false)=true;let q3:=q5=false;(q4->q4)/\(q4->q4)/\(q4->q4)/\(q4->q4)/\(q4->q4)/\(q4->q4)/\(q4->q4)/\(q4->q4)/\(q4->q4)/\(q4->q4)/\(q2->q2)/\(q2->q2)/\(q2->q2)/\(q2->q2)/\(q2->q2)/\(q2->q2)/\(q2->q2)/\(q2->q2)/\(q2->(0:Int)<=i/\i.toNat*4<q8.length)/\(q2->q2)/\(q2->q2)/\(q2->i.toNat*4+0<q8.length)/\(q2->q7)/\(q2->q2)/\(q2->q2)/\(q2/\q3->q2/\q3)/\(q2/\q3->q2/\q3)/\(q2/\q3->q2/\q3)/\(q2/\q3->q2/\q3)/\(q2/\q3->q2/\q3)/\(q2/\q3->q2/\q3)/\(q2/\q3->q2/\q3)/\(q2/\q3->q2/\q3)/\(q2/\q3->(0:Int)<=i/\i.toNat*4<q8.length)/\(q2/\q3->q2/\q3)/\(q2/\q3->q2/\q3)/\(q2/\q3->i.toNat*4+0<q8.length)/\(q2/\q3->q7)/\(q2/\q3->q2/\q3)/\(q2->q2)/\(q2->q3->q2/\q3)/\(q2->q2)/\(q1->q1)/\(q1->q1)/\(q1->q1)/\(q1->q1)/\(q1->q1)/\(q1->q1)/\(q1->q1)/\(q1->q1)/\(q1->(0:Int)<=i/\i.toNat*4<q8.length)/\(q1->q1)/\(q1->q1)/\(q1->i.toNat*4+1<q8.length)/\(q1->(PV.str (ByteArray.mk #[])).like (q8.getD (i.toNat*4+1) (PV.bool false))=true)/\(q1->q1)/\(q1->q1)/\(q1->q1)/\aq [vB (bif bif bif decide (e=0) then q6 else false then bif q5 then true else q9 else false then decide ((q8.getD (i.toNat*4+1) (PV.bool false)).bM=x) else false)]=bB (bZ l e i x)/\[Ob.mk 51 [Fd.c (W.str s),Fd.c (W.rs (4:Nat) q8),fI i,fI e,fI a,fS 1 0 ns.length],Ob.mk 9 [Fd.a 0 D.str ns]]=rO s l i e a ns) (by kernel_rfl)
 try simp only[sL]
 rw[tN];by_cases hl:i<l.length;rw[F7 hi hl,Du hi hl];have h0:=pz hi hl 0 (by omega);have h1:=pz hi hl 1 (by omega);refine⟨fun _=>⟨hi.1,h0⟩,fun _=>h0,fun _=>rfl,fun _=>⟨hi.1,h0⟩,fun _=>h0,fun _=>rfl,fun a b=>⟨a,b⟩,fun _=>⟨hi.1,h0⟩,fun _=>h1,fun _=>rfl,?_⟩;unfold bZ aQ;rw[Bool.and_assoc,Bool.and_assoc,Bool.and_comm (decide _||decide _)];rfl;refine⟨fun h=>absurd h.2 hl,fun h=>absurd h.2 hl,fun h=>absurd h.2 hl,fun h=>absurd h.1.2 hl,fun h=>absurd h.1.2 hl,fun h=>absurd h.1.2 hl,fun h=>absurd h.2 hl,fun h=>absurd h.1.2 hl,fun h=>absurd h.1.2 hl,fun h=>absurd h.1.2 hl,?_⟩;unfold bZ aQ;rw[decide_eq_false hl];simp only[Bool.and_false,Bool.false_and];rfl;cases h
variable {l} in
theorem iJ{e i:Int}{x:ByteArray}(h:bZ l e i x=false):bQ l e i x=i:=by unfold bQ;rw[if_neg (by rw[h];simp)]
variable {l} in
theorem je{e i:Int}{x:ByteArray}(h:bZ l e i x=true):bQ l e i x=i+1:=by unfold bQ;rw[if_pos h]
variable {l} in
theorem jf{e i:Int}{x:ByteArray}(h:bZ l e i x=true):e=0/\i<l.length:=by
 unfold bZ at h;simp only[Bool.and_eq_true,decide_eq_true_eq] at h;exact⟨h.1,bW h.2⟩
variable {l} in
theorem t6{e i:Int}(x:ByteArray)(h:dx l i):dx l (bQ l e i x):=by
 have h0:=h.1;have h1:=h.2.1;cases hx:bZ l e i x with
 | false=>rw[iJ hx];exact h
 | true=>rw[je hx];exact⟨by omega,by have:=(jf hx).2;omega,h.2.2⟩
def Mn:lp:=fun aN i e a ns=>match aN with | [.p (.c (.str x))]=>some { c:=True,r:=bB (bZ l e i x),i:=bQ l e i x,e:=e,a:=a,ns:=ns }|_=>none
noncomputable def RY:bX:=[(48,jd 2 s l [true,false] (RX l)),(29,jd 2 s l [true,false,false] (RW s l))]
theorem DK:bg Tryz.prog (RY s l):=ai (fM (by kernel_rfl) (next_is s l)) (ai (fM (by kernel_rfl) (fail_is s l)) aE)
theorem Y1:u6 2 20 s l (Mn l):=by
 intro aN i e a ns p h hi hc;unfold Mn at h;split at h;rename_i x;cases h;refine ew (aK:=[]) (eu:=[]) (fz:=[]) (DK s l) Tryz.func20 (by kernel_rfl) 2 (by kernel_rfl) 200 ?_;apply of_eq (q:=(cx s l s (ar l) ns.length ns i/\True)/\(bZ l e i x=true->aq [vB true]=bB (bZ l e i x)/\[Ob.mk 51 [Fd.c (W.str s),Fd.c (W.rs (4:Nat) (ar l)),fI (IntKind.i64.wrap (i+1)),fI e,fI a,fS 1 0 ns.length],Ob.mk 9 [Fd.a 0 D.str ns]]=rO s l (bQ l e i x) e a ns)/\(bZ l e i x=false->aq [vB false]=bB (bZ l e i x)/\[Ob.mk 51 [Fd.c (W.str s),Fd.c (W.rs (4:Nat) (ar l)),fI i,fI e,fI a,fS 1 0 ns.length],Ob.mk 9 [Fd.a 0 D.str ns]]=rO s l (bQ l e i x) e a ns)) (by kernel_rfl)
 try simp only[sL]
 refine⟨rin hi,fun h1=>?_,fun h1=>?_⟩
 . first
   | (rw[iJ h1,h1];exact⟨rfl,rfl⟩)
   | (have:=(jf h1).2;have h0:=hi.1;have h2:=hi.2;rw[je h1,h1,wrap64 (by omega) (by omega)];exact⟨rfl,rfl⟩)
 . first
   | (rw[iJ h1,h1];exact⟨rfl,rfl⟩)
   | (have:=(jf h1).2;have h0:=hi.1;have h2:=hi.2;rw[je h1,h1,wrap64 (by omega) (by omega)];exact⟨rfl,rfl⟩)
 cases h
noncomputable def yB:bX:=(20,jd 2 s l [true,false] (Mn l))::RY s l
theorem nB:bg Tryz.prog (yB s l):=ai (fM (by kernel_rfl) (Y1 s l)) (DK s l)
def mE(e i:Int)(x:ByteArray):Int:=if bZ l e i x then e else kq e 11
def mA(e a i:Int)(x:ByteArray):Int:=if bZ l e i x then a else lP s l e a i
def wU:lp:=fun aN i e a ns=>match aN with | [.p (.c (.str x))]=>some { c:=True,r:=.bC [],i:=bQ l e i x,e:=mE l e i x,a:=mA s l e a i x,ns:=ns }|_=>none
theorem yC:u6 2 51 s l (wU s l):=by
 intro aN i e a ns p h hi hc;unfold wU at h;split at h;rename_i x;cases h;refine ew (aK:=[]) (eu:=[]) (fz:=[]) (nB s l) Tryz.func51 (by kernel_rfl) 2 (by kernel_rfl) 200 ?_;apply of_eq (q:=(cx s l s (ar l) ns.length ns i/\True)/\((!bZ l e i x)=true->(cx s l s (ar l) ns.length ns (bQ l e i x)/\(0:Int)<=bQ l e i x)/\aq []=A.bC []/\[Ob.mk 51 [Fd.c (W.str s),Fd.c (W.rs (4:Nat) (ar l)),fI (bQ l e i x),fI (kq e (11:Int)),fI (lP s l e a (bQ l e i x)),fS 1 0 ns.length],Ob.mk 9 [Fd.a 0 D.str ns]]=rO s l (bQ l e i x) (mE l e i x) (mA s l e a i x) ns)/\((!bZ l e i x)=false->aq []=A.bC []/\[Ob.mk 51 [Fd.c (W.str s),Fd.c (W.rs (4:Nat) (ar l)),fI (bQ l e i x),fI e,fI a,fS 1 0 ns.length],Ob.mk 9 [Fd.a 0 D.str ns]]=rO s l (bQ l e i x) (mE l e i x) (mA s l e a i x) ns)) (by kernel_rfl)
 try simp only[sL]
 unfold mE mA;refine⟨rin hi,fun h1=>?_,fun h1=>?_⟩;rw[iJ h1,if_neg (by rw[h1];simp),if_neg (by rw[h1];simp)];exact⟨⟨rin hi,hi.1⟩,rfl,rfl⟩;rw[if_pos h1,if_pos h1];exact⟨rfl,rfl⟩;cases h
def t7(e i:Int):Bool:=decide (e=0)&&fk l i
def nT(e i:Int):ByteArray:=if t7 l e i then(aM l i).text else eS
def cA(e i:Int):Int:=if t7 l e i then i+1 else i
def nE(e i:Int):Int:=if t7 l e i then e else kq e 11
def nA(e a i:Int):Int:=if t7 l e i then a else lP s l e a i
def E3:lp:=fun aN i e a ns=>match aN with | []=>some { c:=True,r:=sS (nT l e i),i:=cA l e i,e:=nE l e i,a:=nA s l e a i,ns:=ns }|_=>none
theorem Mp : u6 2 49 s l (E3 s l) := by
 intro aN i e a ns p h hi hc;unfold E3 at h;split at h;cases h;refine ew (aK:=[]) (eu:=[]) (fz:=[]) (nB s l) Tryz.func49 (by kernel_rfl) 2 (by kernel_rfl) 200 ?_;apply of_eq (q:=let q0:=IntKind.i64.wrap;let q2:=(!decide (e=0))=false;let q3:=(q0 (q0 (i+1)-1));let q6:=(ar l);let q4:=decide ((↑(q6.length/4):Int)<=i);let q5:=decide ((q6.getD (i.toNat*4+0) (PV.bool false)).asInt=1);let q1:=(bif !decide (e=0) then true else q4)=false;(q2->q2)/\(q2->q2)/\(q2->q2)/\(q2->q2)/\(q2->q2)/\(q2->q2)/\(q2->q2)/\(q2->q2)/\(q2->q2)/\(q2->q2)/\(q1->q1)/\(q1->q1)/\(q1->q1)/\(q1->q1)/\(q1->q1)/\(q1->q1)/\(q1->q1)/\(q1->q1)/\(q1->(0:Int)<=i/\i.toNat*4<q6.length)/\(q1->q1)/\(q1->q1)/\(q1->i.toNat*4+0<q6.length)/\(q1->(PV.int (0:Int)).like (q6.getD (i.toNat*4+0) (PV.bool false))=true)/\(q1->q1)/\(q1->q1)/\((bif bif !decide (e=0) then true else q4 then true else !q5)=true->(cx s l s q6 ns.length ns i/\(0:Int)<=i)/\aq [V.c (W.str (ByteArray.mk #[]))]=sS (nT l e i)/\[Ob.mk 51 [Fd.c (W.str s),Fd.c (W.rs (4:Nat) q6),fI i,fI (kq e (11:Int)),fI (lP s l e a i),fS 1 0 ns.length],Ob.mk 9 [Fd.a 0 D.str ns]]=rO s l (cA l e i) (nE l e i) (nA s l e a i) ns)/\((bif bif !decide (e=0) then true else q4 then true else !q5)=false->((0:Int)<=q0 (q0 (i+1)-1)/\q3.toNat*4<q6.length)/\q3.toNat*4+1<q6.length/\(PV.str (ByteArray.mk #[])).like (q6.getD (q3.toNat*4+1) (PV.bool false))=true/\aq [V.c ((PV.str (ByteArray.mk #[])).at (q6.getD (q3.toNat*4+1) (PV.bool false)))]=sS (nT l e i)/\[Ob.mk 51 [Fd.c (W.str s),Fd.c (W.rs (4:Nat) q6),fI (q0 (i+1)),fI e,fI a,fS 1 0 ns.length],Ob.mk 9 [Fd.a 0 D.str ns]]=rO s l (cA l e i) (nE l e i) (nA s l e a i) ns)) (by kernel_rfl)
 try simp only[sL]
 rw[tN];have h0:=hi.1;have h2:=hi.2;have hF:t7 l e i=false->aq [V.c (W.str { data:=#[] })]=sS (nT l e i)/\rO s l i (kq e 11) (lP s l e a i) ns=rO s l (cA l e i) (nE l e i) (nA s l e a i) ns:=fun hn=>by
  unfold nT cA nE nA;rw[if_neg (by rw[hn];simp),if_neg (by rw[hn];simp),if_neg (by rw[hn];simp),if_neg (by rw[hn];simp)];exact⟨rfl,rfl⟩
 by_cases hl:i<l.length
 · rw[wrap64 (n := i + 1) (by omega) (by omega), Int.add_sub_cancel, wrap64 (by omega) (by omega), F7 hi hl, Du hi hl]
   have g0:=pz hi hl 0 (by omega);have g1:=pz hi hl 1 (by omega);refine⟨fun _=>⟨h0,g0⟩,fun _=>g0,fun _=>rfl,fun h=>⟨⟨rin hi,h0⟩,hF ?_⟩,fun h=>?_⟩;have h:(¬e=0∨↑l.length<=i)∨¬(aM l i).kind=1:=h;unfold t7 fk;rcases h with (h|h)|h;rw[decide_eq_false h];rfl;omega;rw[decide_eq_false h,Bool.and_false,Bool.and_false];have h:(e=0/\i < ↑l.length)/\(aM l i).kind=1:=h;have hn:t7 l e i=true:=by
    unfold t7 fk;rw[decide_eq_true h.1.1,decide_eq_true h.1.2,decide_eq_true h.2];rfl
   unfold nT cA nE nA;rw[if_pos hn,if_pos hn,if_pos hn,if_pos hn];exact⟨⟨h0,g0⟩,g1,rfl,rfl,rfl⟩
 refine⟨fun h=>absurd h.2 hl,fun h=>absurd h.2 hl,fun h=>absurd h.2 hl,fun _=>⟨⟨rin hi,h0⟩,hF ?_⟩,fun h=>absurd h.1.2 hl⟩;unfold t7 fk;rw[decide_eq_false hl];rw[Bool.false_and,Bool.and_false];cases h
variable {l} in
theorem nmR_lt{e i:Int}(h:t7 l e i=true):e=0/\i<l.length:=by
 unfold t7 at h;simp only[Bool.and_eq_true,decide_eq_true_eq] at h;exact⟨h.1,sU h.2⟩
variable {l} in
theorem E4{e i:Int}(h:dx l i):dx l (cA l e i):=by
 have h0:=h.1;have h1:=h.2.1;unfold cA;split;rename_i hx;exact⟨by omega,by have:=(nmR_lt hx).2;omega,h.2.2⟩;exact h
end
def opsL(lv:Int):List ByteArray :=
 if lv=1 then [⟨#[111,114]⟩] else if lv=2 then [⟨#[97,110,100]⟩] else if lv=4 then [⟨#[61,61]⟩,⟨#[33,61]⟩,⟨#[60]⟩,⟨#[60,61]⟩,⟨#[62]⟩,⟨#[62,61]⟩,⟨#[105,110]⟩]
 else if lv=5 then [⟨#[43]⟩,⟨#[45]⟩] else if lv=6 then [⟨#[42]⟩,⟨#[47]⟩,⟨#[37]⟩] else if lv=8 then [⟨#[94]⟩] else []
theorem Y2(lv:Int):(opsL lv).length<=7:=by
 unfold opsL
 repeat' split
 all_goals decide
theorem ops_sem(lv:Int):bp Tryz.prog 85 [.p (.c (.int .i64 lv))] [] (jA (opsL lv)) []:=by
 refine ew (aK:=[]) (eu:=[]) (fz:=[some (.sl .str)]) aE Tryz.func85 (by kernel_rfl) 0 (by kernel_rfl) 200 ?_;apply of_eq (q:=let q1:=([]:List Ob)=[];let q2:=(0:Nat);(decide (lv=1)=true->q2+1<=1/\aq [V.c (W.rd D.str (List.take (1:Nat) (List.drop q2 [ByteArray.mk #[(111:UInt8),(114:UInt8)]])))]=jA (opsL lv)/\q1)/\(decide (lv=1)=false->(decide (lv=2)=true->q2+1<=1/\aq [V.c (W.rd D.str (List.take (1:Nat) (List.drop q2 [ByteArray.mk #[(97:UInt8),(110:UInt8),(100:UInt8)]])))]=jA (opsL lv)/\q1)/\(decide (lv=2)=false->(decide (lv=4)=true->q2+7<=7/\aq [V.c (W.rd D.str (List.take (7:Nat) (List.drop q2 [ByteArray.mk #[(61:UInt8),(61:UInt8)],ByteArray.mk #[(33:UInt8),(61:UInt8)],ByteArray.mk #[(60:UInt8)],ByteArray.mk #[(60:UInt8),(61:UInt8)],ByteArray.mk #[(62:UInt8)],ByteArray.mk #[(62:UInt8),(61:UInt8)],ByteArray.mk #[(105:UInt8),(110:UInt8)]])))]=jA (opsL lv)/\q1)/\(decide (lv=4)=false->(decide (lv=5)=true->q2+2<=2/\aq [V.c (W.rd D.str (List.take (2:Nat) (List.drop q2 [ByteArray.mk #[(43:UInt8)],ByteArray.mk #[(45:UInt8)]])))]=jA (opsL lv)/\q1)/\(decide (lv=5)=false->(decide (lv=6)=true->q2+3<=3/\aq [V.c (W.rd D.str (List.take (3:Nat) (List.drop q2 [ByteArray.mk #[(42:UInt8)],ByteArray.mk #[(47:UInt8)],ByteArray.mk #[(37:UInt8)]])))]=jA (opsL lv)/\q1)/\(decide (lv=6)=false->(decide (lv=8)=true->q2+1<=1/\aq [V.c (W.rd D.str (List.take (1:Nat) (List.drop q2 [ByteArray.mk #[(94:UInt8)]])))]=jA (opsL lv)/\q1)/\(decide (lv=8)=false->q2<=0/\aq [V.c (W.rd D.str (List.take q2 (List.drop q2 [])))]=jA (opsL lv)/\q1))))))) (by kernel_rfl)
 try simp only[sL]
 refine⟨fun h=>?_,fun h1=>⟨fun h=>?_,fun h2=>⟨fun h=>?_,fun h3=>⟨fun h=>?_,fun h4=>⟨fun h=>?_,fun h5=>⟨fun h=>?_,fun h6=>?_⟩⟩⟩⟩⟩⟩
 all_goals first
  | (subst h;rfl)
  | (unfold opsL;rw[if_neg h1,if_neg h2,if_neg h3,if_neg h4,if_neg h5,if_neg h6];rfl)
noncomputable def c_ops:cO:=iU (.int .i64) fun lv=>(.t,jA (opsL lv),[])
theorem Y3:bq Tryz.prog 85 c_ops:=eB (by kernel_rfl) fun lv _=>by exact ops_sem lv
section
variable (s:ByteArray) (l:List Tok)
noncomputable def RZ:bX:=(85,c_ops)::yB s l
theorem Mq:bg Tryz.prog (RZ s l):=ai Y3 (nB s l)
def Bc(e i:Int):List ByteArray->ByteArray×Int
 | []=>(eS,i)
 | x::r=>if bZ l e i x then(x,i+1) else Bc e i r
def nC(e i lv:Int):Bool:=decide (e=0)&&(dm (opsL lv) (aM l i).text&&aQ l i (aM l i).text)
def oT(e i lv:Int):ByteArray:=if nC l e i lv then(aM l i).text else eS
def oI(e i lv:Int):Int:=if nC l e i lv then i+1 else i
variable {l} in
theorem oU{i:Int}{x:ByteArray}(h:aQ l i x=true):(aM l i).text=x:=by
 unfold aQ at h;simp only[Bool.and_eq_true,decide_eq_true_eq] at h;exact h.2.1
theorem VS(i:Int)(e:Int):∀ xs:List ByteArray,(decide (e=0)&&(dm xs (aM l i).text&&aQ l i (aM l i).text))=false->Bc l e i xs=(eS,i)
 | [],_=>rfl
 | x :: r, h => by
   unfold Bc;cases hx:bZ l e i x with
   | true =>
     unfold bZ at hx;simp only[Bool.and_eq_true,decide_eq_true_eq] at hx;have ht:=oU hx.2;rw[decide_eq_true hx.1,ht,hx.2] at h;have:dm (x::r) x=true:=by unfold dm;simp
     rw[this] at h;cases h
   | false =>
     rw[if_neg (by simp)];refine VS i e r ?_;cases hy:dm r (aM l i).text with
     | false=>simp
     | true =>
       have:dm (x::r) (aM l i).text=true:=by unfold dm at hy ⊢;rw[List.any_cons,hy,Bool.or_true]
       rw[this] at h;exact h
theorem PB(i:Int)(e:Int)(h0:e=0)(hp:aQ l i (aM l i).text=true):∀ xs:List ByteArray,dm xs (aM l i).text=true->Bc l e i xs=((aM l i).text,i+1)
 | [],h=>by cases h
 | x :: r, h => by
   unfold Bc;cases hx:bZ l e i x with
   | true =>
     unfold bZ at hx;simp only[Bool.and_eq_true,decide_eq_true_eq] at hx;rw[oU hx.2,if_pos rfl]
   | false =>
     rw[if_neg (by simp)];refine PB i e h0 hp r ?_;unfold dm at h ⊢;rw[List.any_cons,Bool.or_eq_true] at h;rcases h with h|h;have h:x=(aM l i).text:=by simpa using h
     rw[h] at hx;unfold bZ at hx;rw[hp,decide_eq_true h0] at hx;cases hx;exact h
theorem opF_eq(e i lv:Int):Bc l e i (opsL lv)=(oT l e i lv,oI l e i lv):=by
 unfold oT oI;cases h:nC l e i lv with
 | false=>exact VS l i e _ h
 | true =>
   unfold nC at h;simp only[Bool.and_eq_true,decide_eq_true_eq] at h;exact PB l i e h.1 h.2.2 _ h.2.1
noncomputable def sOp:aZ:=cT Tryz.prog (RZ s l) Tryz.f59 2 [([0,1,0,1,1],[0,5,6])]
theorem PD(xs:List ByteArray)(hxs:xs.length<=1000000)(i e a:Int)(ns:List ByteArray)(hi:dx l i):∀(k j:Nat),k=xs.length-j->j<=xs.length->
 ax (sOp s l) (aG (sS (Bc l e i (xs.drop j)).1) (rO s l (Bc l e i (xs.drop j)).2 e a ns)) [0,1,0,1,1] (fr [(0,pA),(5,jA xs),(6,nI j)]) (.ofList (rO s l i e a ns))
 | k,j,hk,hj=>by
   refine bD (Mq s l) (by kernel_rfl) 200 ?_;apply of_eq (q:=let q2:=(Bc l e i (List.drop j xs));let q3:=(xs.getD j (ByteArray.mk #[]));let q1:=Ob.mk 51 [Fd.c (W.str s),Fd.c (W.rs (4:Nat) (ar l)),fI (bQ l e i q3),fI e,fI a,fS 1 0 ns.length];(decide ((j:Int)<(xs.length:Int))=true->((0:Int)<=(j:Int)/\(j:Int)<(xs.length:Int))/\j<xs.length/\(cx s l s (ar l) ns.length ns i/\True)/\(bZ l e i q3=true->((0:Int)<=(j:Int)/\(j:Int)<(xs.length:Int))/\j<xs.length/\aq [V.c (W.str q3)]=sS q2.fst/\[q1,Ob.mk 9 [Fd.a 0 D.str ns]]=rO s l q2.snd e a ns)/\(bZ l e i q3=false->ax (sOp s l) (aG (sS q2.fst) (rO s l q2.snd e a ns)) [0,1,0,1,1] (fr [(0,aR 0 0),(5,aP (W.rd D.str xs)),(6,nI (IntKind.i64.wrap ((j:Int)+1)))]) (af.ofList [q1,Ob.mk 9 [Fd.a 0 D.str ns]])))/\(decide ((j:Int)<(xs.length:Int))=false->aq [V.c (W.str (ByteArray.mk #[]))]=sS q2.fst/\[Ob.mk 51 [Fd.c (W.str s),Fd.c (W.rs (4:Nat) (ar l)),fI i,fI e,fI a,fS 1 0 ns.length],Ob.mk 9 [Fd.a 0 D.str ns]]=rO s l q2.snd e a ns)) (by kernel_rfl)
   try simp only[sL]
   have hd:∀ h:j<xs.length,Bc l e i (xs.drop j)=if bZ l e i (xs.getD j ⟨#[]⟩) then(xs.getD j ⟨#[]⟩,i+1) else Bc l e i (xs.drop (j+1)):=fun h=>by
    rw[List.drop_eq_getElem_cons h,List.getD_eq_getElem?_getD,List.getElem?_eq_getElem h];rfl
   refine⟨fun h=>⟨⟨by omega,h⟩,by omega,rin hi,fun h1=>⟨⟨by omega,h⟩,by omega,?_⟩,fun h1=>?_⟩,fun h=>?_⟩;rw[hd (by omega),if_pos h1,je h1];exact⟨rfl,rfl⟩
   . rw[hd (by omega),if_neg (by rw[h1];simp),iJ h1,wrap64 (by omega) (by omega)];cases k with
     | zero=>omega
     | succ k=>exact PD xs hxs i e a ns hi k (j+1) (by omega) (by omega)
   rw[List.drop_eq_nil_of_le (by omega)];exact⟨rfl,rfl⟩
noncomputable def Y4:lp:=fun aN i e a ns=>match aN with | [.p (.c (.int .i64 lv))]=>some { c:=True,r:=sS (oT l e i lv),i:=oI l e i lv,e:=e,a:=a,ns:=ns }|_=>none
theorem opR_is:u6 2 59 s l (Y4 l):=by
 intro aN i e a ns p h hi hc;unfold Y4 at h;split at h;rename_i lv;cases h;refine ew (aK:=[([0,1,0,1,1],[0,5,6])]) (eu:=[]) (fz:=[]) (Mq s l) Tryz.func59 (by kernel_rfl) 2 (by kernel_rfl) 200 ?_;apply of_eq (q:=let q1:=(iz.mk True (sS (oT l e i lv)) (oI l e i lv) e a ns);ax (ct Tryz.prog (RZ s l) Tryz.f59 (2:Nat) [([0,1,0,1,1],[0,5,6])] [] []) (aG q1.r (rO s l q1.i q1.e q1.a q1.ns)) [0,1,0,1,1] (fr [(0,aR 0 0),(5,aP (W.rd D.str (opsL lv))),(6,nI (0))]) (af.ofList [Ob.mk 51 [Fd.c (W.str s),Fd.c (W.rs (4:Nat) (ar l)),fI i,fI e,fI a,fS 1 0 ns.length],Ob.mk 9 [Fd.a 0 D.str ns]])) (by kernel_rfl)
 try simp only[]
 have:=PD s l (opsL lv) (by have:=Y2 lv;omega) i e a ns hi _ 0 rfl (by omega);rw[List.drop_zero,opF_eq] at this;exact this;cases h
variable {l} in
theorem E5{e i lv:Int}(h:nC l e i lv=true):e=0/\i<l.length:=by
 unfold nC at h;simp only[Bool.and_eq_true,decide_eq_true_eq] at h;exact⟨h.1,bW h.2.2⟩
variable {l} in
theorem ops_ne{lv:Int}{x:ByteArray}(h:dm (opsL lv) x=true):x≠eS:=by
 rintro rfl;revert h;unfold opsL
 repeat' split
 all_goals decide
variable {l} in
theorem oT_ne{e i lv:Int}(h:nC l e i lv=true):oT l e i lv≠eS:=by
 unfold oT;rw[if_pos h];unfold nC at h;simp only[Bool.and_eq_true,decide_eq_true_eq] at h;exact ops_ne h.2.1
variable {l} in
theorem oT_f{e i lv:Int}(h:nC l e i lv=false):oT l e i lv=eS:=by unfold oT;rw[if_neg (by rw[h];simp)]
end
theorem bin_sem(t:ByteArray)(k n:Int)(u:ByteArray)(c:List PV)(k' n':Int)(u':ByteArray)(c':List PV):bp Tryz.prog 60 [sS t,.p (.agg [.int .i64 k,.int .i64 n,.str u,.rs 4 c]),.p (.agg [.int .i64 k',.int .i64 n',.str u',.rs 4 c'])] [] (.p (.agg [.int .i64 9,.int .i64 0,.str t,.rs 4 [.int k,.int n,.str u,.aH 4 c,.int k',.int n',.str u',.aH 4 c']])) []:=by
 refine bh (aK:=[]) aE Tryz.func60 (by kernel_rfl) (au:=0) rfl (by kernel_rfl) 200 ?_;apply of_eq (q:=aq [V.agg [wI (9),wI (0),W.str t,W.rs (4:Nat) [PV.int k,PV.int n,PV.str u,PV.aH (4:Nat) c,PV.int k',PV.int n',PV.str u',PV.aH (4:Nat) c']]]=A.p (V.agg [wI (9),wI (0),W.str t,W.rs (4:Nat) [PV.int k,PV.int n,PV.str u,PV.aH (4:Nat) c,PV.int k',PV.int n',PV.str u',PV.aH (4:Nat) c']])/\([]:List Ob)=[]) (by kernel_rfl)
 try simp only[sL]
 rfl
def R3:cO:={ cE:=[],f:=fun args ak=>match args,ak with
 | [.p (.c (.str t)),.p (.agg [.int .i64 k,.int .i64 n,.str u,.rs q c]),.p (.agg [.int .i64 k',.int .i64 n',.str u',.rs q' c'])],[]=>bif Nat.beq q 4&&Nat.beq q' 4 then some (.t,.p (.agg [.int .i64 9,.int .i64 0,.str t,.rs 4 [.int k,.int n,.str u,.aH 4 c,.int k',.int n',.str u',.aH 4 c']]),[]) else none
 | _,_=>none }
theorem Y5:bq Tryz.prog 60 R3:=by
 refine⟨by kernel_rfl,fun args ak c r aX e hc=>?_⟩;simp only[R3] at e;split at e;obtain⟨hb,e1⟩:=aj.aC e;clear e;simp only[Bool.and_eq_true,Nat.beq_eq] at hb;obtain⟨rfl,rfl⟩:=hb;cases e1;exact bin_sem _ _ _ _ _ _ _ _ _;cases e
end Go.Proofs.YtaplgnhojknpiaaGreatDoor
namespace Go.Proofs.YtaplgnhojknpiaaGreatDoor
open Go.aU
set_option maxRecDepth 100000
structure RR(α:Type) where
 v:α
 i:Int
 e:Int
 a:Int
abbrev oe:=Int->Int->Int->Int->RR Ex
section
variable (s:ByteArray) (l:List Tok)
def nS{α:Type}(v:α)(i e a:Int):RR α:=⟨v,i,kq e 11,lP s l e a i⟩
def Ir(ex:oe)(lv:Int):Nat->Ex->Int->Int->Int->RR Ex
 | 0,x,i,e,a=>nS s l x i e a
 | k+1,x,i,e,a=>bif nC l e i lv then Ir ex lv k (rm (aM l i).text x (ex (lv+1) (i+1) e a).v) (ex (lv+1) (i+1) e a).i (ex (lv+1) (i+1) e a).e (ex (lv+1) (i+1) e a).a else ⟨x,i,e,a⟩
def VT(ex:oe)(r:RR Ex):RR Ex:=bif nC l r.e r.i 4 then ⟨rm (aM l r.i).text r.v (ex 5 (r.i+1) r.e r.a).v,(ex 5 (r.i+1) r.e r.a).i,(ex 5 (r.i+1) r.e r.a).e,(ex 5 (r.i+1) r.e r.a).a⟩ else r
def VU(ex:oe)(r:RR Ex):RR Ex:=bif bZ l r.e r.i ⟨#[94]⟩ then ⟨rm ⟨#[94]⟩ r.v (ex 7 (r.i+1) r.e r.a).v,(ex 7 (r.i+1) r.e r.a).i,(ex 7 (r.i+1) r.e r.a).e,(ex 7 (r.i+1) r.e r.a).a⟩ else r
def E6(ex:oe):Nat->Ex->Int->Int->Int->RR Ex
 | 0,x,i,e,a=>nS s l x i e a
 | k+1,x,i,e,a=>bif bZ l e i pF then E6 ex k (Ru x (ex 1 (i+1) e a).v) (bQ l (ex 1 (i+1) e a).e (ex 1 (i+1) e a).i mR) (mE l (ex 1 (i+1) e a).e (ex 1 (i+1) e a).i mR) (mA s l (ex 1 (i+1) e a).e (ex 1 (i+1) e a).a (ex 1 (i+1) e a).i mR) else ⟨x,i,e,a⟩
def Iu(ex:oe)(t:ByteArray)(lv i e a:Int):RR Ex :=
 bif bZ l e i t then ⟨Lp t (ex lv (i+1) e a).v,(ex lv (i+1) e a).i,(ex lv (i+1) e a).e,(ex lv (i+1) e a).a⟩ else ex (lv+1) i e a
def Ms(ex:oe)(t:ByteArray):Nat->List Ex->Int->Int->Int->RR (List Ex)
 | 0,acc,i,e,a=>nS s l acc i e a
 | k+1,acc,i,e,a=>bif bZ l (ex 1 i e a).e (ex 1 i e a).i ic then Ms ex t k (acc++[(ex 1 i e a).v]) ((ex 1 i e a).i+1) (ex 1 i e a).e (ex 1 i e a).a
   else ⟨acc++[(ex 1 i e a).v],bQ l (ex 1 i e a).e (ex 1 i e a).i t,mE l (ex 1 i e a).e (ex 1 i e a).i t,mA s l (ex 1 i e a).e (ex 1 i e a).a (ex 1 i e a).i t⟩
def qp(ex:oe)(t:ByteArray)(i e a:Int):RR (List Ex):=bif bZ l e i t then ⟨[],i+1,e,a⟩ else Ms s l ex t (l.length+1) [] i e a
def yV(ex:oe)(i e a:Int):RR Ex :=
 bif decide ((l.length:Int)<=i) then nS s l gI i e a
 else bif decide ((aM l i).kind=3) then ⟨.mk 1 (aM l i).n eS [],i+1,e,a⟩
 else bif decide ((aM l i).kind=4) then ⟨.mk 2 0 (aM l i).text [],i+1,e,a⟩
 else bif decide ((aM l i).kind=2)&&decide ((aM l i).text=AL) then ⟨.mk 3 1 eS [],i+1,e,a⟩
 else bif decide ((aM l i).kind=2)&&decide ((aM l i).text=AO) then ⟨.mk 3 0 eS [],i+1,e,a⟩
 else bif decide ((aM l i).kind=1)&&bZ l e (i+1) eY then ⟨.mk 6 0 (aM l i).text (qp s l ex fj (i+1+1) e a).v,(qp s l ex fj (i+1+1) e a).i,(qp s l ex fj (i+1+1) e a).e,(qp s l ex fj (i+1+1) e a).a⟩
 else bif decide ((aM l i).kind=1) then ⟨.mk 4 0 (aM l i).text [],i+1,e,a⟩
 else bif decide ((aM l i).kind=5)&&decide ((aM l i).text=pF) then ⟨.mk 5 0 eS (qp s l ex mR (i+1) e a).v,(qp s l ex mR (i+1) e a).i,(qp s l ex mR (i+1) e a).e,(qp s l ex mR (i+1) e a).a⟩
 else bif decide ((aM l i).kind=5)&&decide ((aM l i).text=eY) then ⟨(ex 1 (i+1) e a).v,bQ l (ex 1 (i+1) e a).e (ex 1 (i+1) e a).i fj,mE l (ex 1 (i+1) e a).e (ex 1 (i+1) e a).i fj,mA s l (ex 1 (i+1) e a).e (ex 1 (i+1) e a).a (ex 1 (i+1) e a).i fj⟩
 else ⟨gI,i+1,kq e 11,lP s l e a i⟩
def DL(ex:oe)(lv i e a:Int):RR Ex :=
 bif decide (lv=3) then Iu l ex AK lv i e a
 else bif decide (lv=7) then Iu l ex vK lv i e a
 else bif decide (lv=8) then VU l ex (ex 9 i e a)
 else bif decide (lv=9) then E6 s l ex (l.length+1) (ex 10 i e a).v (ex 10 i e a).i (ex 10 i e a).e (ex 10 i e a).a
 else bif decide (lv=10) then yV s l ex i e a
 else bif decide (lv=4) then VT l ex (ex 5 i e a)
 else Ir s l ex lv (l.length+1) (ex (lv+1) i e a).v (ex (lv+1) i e a).i (ex (lv+1) i e a).e (ex (lv+1) i e a).a
def dM:Nat->oe
 | 0=>fun _ i e a=>nS s l gI i e a
 | n+1=>fun lv i e a=>bif decide (e=0) then DL s l (dM n) lv i e a else ⟨gI,i,e,a⟩
end
theorem levL_eq:AG=[(⟨#[111,114]⟩,1),(⟨#[97,110,100]⟩,2),(⟨#[61,61]⟩,4),(⟨#[33,61]⟩,4),(⟨#[60]⟩,4),(⟨#[60,61]⟩,4),(⟨#[62]⟩,4),(⟨#[62,61]⟩,4),(⟨#[105,110]⟩,4),(⟨#[43]⟩,5),(⟨#[45]⟩,5),(⟨#[42]⟩,6),(⟨#[47]⟩,6),(⟨#[37]⟩,6),(⟨#[94]⟩,8)]:=by kernel_rfl
def VW:List (ByteArray×Int)->ByteArray->Int
 | [],_=>0
 | (k,v)::l,x=>if x=k then v else VW l x
theorem VX(x:ByteArray):∀ l:List (ByteArray×Int),eJ .str (.int .i64) l x=VW l x
 | []=>rfl
 | (k,v)::l=>by
   have h1:mO .str (.int .i64) x ((k,v)::l)=(bif D.str.kP x k then some v else mO .str (.int .i64) x l):=by simp only[mO]
   rw[VW,<-VX x l];unfold eJ;rw[h1];cases h:D.str.kP x k with
   | true =>
     have:x=k:=(D.zy rfl).1 h;rw[if_pos this];rfl
   | false =>
     have:¬x=k:=fun e=>by rw[(D.zy (d:=.str) rfl).2 e] at h;cases h
     rw[if_neg this];rfl
theorem Bd(k:ByteArray)(l:List ByteArray)(x:ByteArray):dm (k::l) x=(decide (k=x)||dm l x):=rfl
theorem VY(x:ByteArray)(lv:Int):∀ L:List (ByteArray×Int),x ∉ L.map (·.1)->dm ((L.filter fun p=>decide (p.2=lv)).map (·.1)) x=false
 | [],_=>rfl
 | (k,v)::L,h=>by
   rw[List.map_cons,List.mem_cons,not_or] at h;have ih:=VY x lv L h.2;rw[List.filter_cons];split;rw[List.map_cons,Bd,ih,decide_eq_false (fun e=>h.1 e.symm)];rfl;exact ih
theorem VZ(x:ByteArray)(lv:Int)(h0:lv≠0):∀ L:List (ByteArray×Int),(L.map (·.1)).Nodup->decide (VW L x=lv)=dm ((L.filter fun p=>decide (p.2=lv)).map (·.1)) x
 | [],_=>decide_eq_false (fun e=>h0 e.symm)
 | (k, v) :: L, h => by
   rw[List.map_cons,List.nodup_cons] at h;have ih:=VZ x lv h0 L h.2;rw[VW,List.filter_cons];by_cases hx:x=k;subst hx;rw[if_pos rfl];split;rename_i hv;have hv:v=lv:=by simpa using hv
   rw[List.map_cons,Bd,decide_eq_true hv,decide_eq_true rfl];rfl;rename_i hv;have hv:¬v=lv:=by simpa using hv
   rw[decide_eq_false hv,VY x lv L h.1];rw[if_neg hx,ih];split;rw[List.map_cons,Bd,decide_eq_false (fun e=>hx e.symm)];rfl;rfl
abbrev levC:List (ByteArray×Int):=[(⟨#[111,114]⟩,1),(⟨#[97,110,100]⟩,2),(⟨#[61,61]⟩,4),(⟨#[33,61]⟩,4),(⟨#[60]⟩,4),(⟨#[60,61]⟩,4),(⟨#[62]⟩,4),(⟨#[62,61]⟩,4),(⟨#[105,110]⟩,4),(⟨#[43]⟩,5),(⟨#[45]⟩,5),(⟨#[42]⟩,6),(⟨#[47]⟩,6),(⟨#[37]⟩,6),(⟨#[94]⟩,8)]
theorem lev_nd:(levC.map (·.1)).Nodup:=by decide
theorem lv_tab(x:ByteArray)(lv:Int)(h:lv=1∨lv=2∨lv=4∨lv=5∨lv=6∨lv=8):decide (qN x=lv)=dm (opsL lv) x:=by
 have e:qN x=eJ .str (.int .i64) AG x:=rfl;rw[e,levL_eq,VX,VZ x lv (by omega) levC lev_nd];rcases h with rfl|rfl|rfl|rfl|rfl|rfl<;>rfl
theorem R4(l:List Tok)(i lv:Int)(h:lv=1∨lv=2∨lv=4∨lv=5∨lv=6∨lv=8):eT l i lv=nC l 0 i lv:=by
 unfold eT nC;rw[lv_tab _ _ h,decide_eq_true rfl,Bool.true_and];cases hp:aQ l i (aM l i).text with
 | false=>simp
 | true=>rw[decide_eq_true (bW hp)];simp
theorem op8_eq(l:List Tok)(i:Int):eT l i 8=aQ l i ⟨#[94]⟩:=by
 rw[R4 l i 8 (by omega)];unfold nC;rw[decide_eq_true rfl,Bool.true_and];have:dm (opsL 8) (aM l i).text=decide ((aM l i).text=⟨#[94]⟩):=by
  unfold dm opsL;simp[eq_comm]
 rw[this];by_cases h:(aM l i).text=⟨#[94]⟩;rw[decide_eq_true h,h];rfl;rw[decide_eq_false h,Bool.false_and];cases hp:aQ l i ⟨#[94]⟩ with
 | false=>rfl
 | true=>exact absurd (oU hp) h
structure iK{α:Type}(l:List Tok)(R:XR α)(Q:RR α)(i a:Int):Prop where
 ok:R.die=false->Q=⟨R.v,R.i,0,a⟩
 no:R.die=true->Q.e=R.e/\Q.a=R.a/\Q.e≠0
 lo:i<=Q.i
 hi:Q.i<=l.length
structure CZ(l:List Tok)(ex:jG)(rx:oe):Prop where
 eq:∀ lv i a:Int,1<=lv->lv<=10->0<=i->i<=l.length->iK l (ex lv i) (rx lv i 0 a) i a
 st:∀ lv i e a:Int,e≠0->rx lv i e a=⟨gI,i,e,a⟩
def gA(l:List Tok):Prop:=∀ t∈l,(t.kind=2->t.text≠eY/\t.text≠pF)/\(t.kind=5->t.text≠AL/\t.text≠AO)
section
variable {s:ByteArray} {l:List Tok}
theorem kx(i:Int)(x:ByteArray):bZ l 0 i x=aQ l i x:=by unfold bZ;rw[decide_eq_true rfl,Bool.true_and]
theorem u7{e:Int}(h:e≠0)(i:Int)(x:ByteArray):bZ l e i x=false:=by unfold bZ;rw[decide_eq_false h,Bool.false_and]
theorem opR_e{e:Int}(h:e≠0)(i lv:Int):nC l e i lv=false:=by unfold nC;rw[decide_eq_false h,Bool.false_and]
theorem R5{e:Int}(h:e≠0)(c:Int):kq e c=e:=if_neg h
theorem R6{e:Int}(h:e≠0)(a i:Int):lP s l e a i=a:=if_neg h
theorem Gs{e:Int}(h:e≠0)(i:Int)(x:ByteArray):mE l e i x=e:=by unfold mE;rw[R5 h];split<;>rfl
theorem Mt{e:Int}(h:e≠0)(a i:Int)(x:ByteArray):mA s l e a i x=a:=by unfold mA;rw[R6 h];split<;>rfl
theorem E7{e:Int}(h:e≠0)(i:Int)(x:ByteArray):bQ l e i x=i:=iJ (u7 h i x)
theorem Mu{i:Int}{x:ByteArray}(h:aQ l i x=true):mE l 0 i x=0:=by unfold mE;rw[if_pos (by rw[kx];exact h)]
theorem Mv{a i:Int}{x:ByteArray}(h:aQ l i x=true):mA s l 0 a i x=a:=by unfold mA;rw[if_pos (by rw[kx];exact h)]
theorem Gt{i:Int}{x:ByteArray}(h:aQ l i x=false):mE l 0 i x=11:=by unfold mE;rw[if_neg (by rw[kx,h];simp)];rfl
theorem Mw{a i:Int}{x:ByteArray}(h:aQ l i x=false):mA s l 0 a i x=cV s l i:=by unfold mA;rw[if_neg (by rw[kx,h];simp)];rfl
theorem Gu{i:Int}{x:ByteArray}(h:aQ l i x=true):bQ l 0 i x=i+1:=je (by rw[kx];exact h)
theorem Mx{i:Int}{x:ByteArray}(h:aQ l i x=false):bQ l 0 i x=i:=iJ (by rw[kx];exact h)
theorem qU{α:Type}{e:Int}(h:e≠0)(v:α)(i a:Int):nS s l v i e a=⟨v,i,e,a⟩:=by unfold nS;rw[R5 h,R6 h]
variable {α β:Type}
theorem ju{v:α}{j i a:Int}(h:i<=j)(h2:j<=l.length):iK l (gD v j) ⟨v,j,0,a⟩ i a:=⟨fun _=>rfl,fun h=>(by cases h),h,h2⟩
theorem mU{v w:α}{j j' i a:Int}(h:i<=j')(h2:j'<=l.length):iK l (jB s l v j) ⟨w,j',11,cV s l j⟩ i a:=⟨fun h=>(by cases h),fun _=>⟨rfl,rfl,by show (11:Int)≠0;decide⟩,h,h2⟩
theorem nU{v w:α}{j i a:Int}(h:i<=j)(h2:j<=l.length):iK l (jB s l v j) (nS s l w j 0 a) i a:=mU h h2
theorem iK.mono{R:XR α}{Q:RR α}{i j a:Int}(h:iK l R Q j a)(hi:i<=j):iK l R Q i a:=⟨h.ok,h.no,Int.le_trans hi h.lo,h.hi⟩
theorem iK.dies{R:XR α}{Q:RR α}{i j a:Int}(h:iK l R Q j a)(hd:R.die=true){R':XR β}{Q':RR β}(h1:R'.die=true)(h2:R'.e=R.e)(h3:R'.a=R.a)(h4:Q'.e=Q.e)(h5:Q'.a=Q.a)(h6:i<=Q'.i)(h7:Q'.i<=l.length):iK l R' Q' i a:=by
 obtain⟨a1,a2,a3⟩:=h.no hd;exact⟨fun h=>(by rw[h1] at h;cases h),fun _=>⟨by rw[h4,h2,a1],by rw[h5,h3,a2],by rw[h4];exact a3⟩,h6,h7⟩
theorem lpR_e{rx:oe}{lv:Int}(k:Nat)(x:Ex)(i:Int){e:Int}(h:e≠0)(a:Int):Ir s l rx lv k x i e a=⟨x,i,e,a⟩:=by
 cases k with
 | zero=>exact qU h _ _ _
 | succ k=>unfold Ir;rw[opR_e h];rfl
theorem R7{rx:oe}(k:Nat)(x:Ex)(i:Int){e:Int}(h:e≠0)(a:Int):E6 s l rx k x i e a=⟨x,i,e,a⟩:=by
 cases k with
 | zero=>exact qU h _ _ _
 | succ k=>unfold E6;rw[u7 h];rfl
theorem lp_eq{ex:jG}{rx:oe}(H:CZ l ex rx)(hA:mN l ex)(lv:Int)(hlv:lv=1∨lv=2∨lv=5∨lv=6):∀(k:Nat)(x:Ex)(i a:Int),0<=i->i<=l.length->iK l (sF s l ex lv k x i) (Ir s l rx lv k x i 0 a) i a
 | 0,x,i,a,h0,h1=>nU (Int.le_refl _) h1
 | k + 1, x, i, a, h0, h1 => by
   unfold sF Ir;rw[R4 l i lv (by omega)];cases ho:nC l 0 i lv with
   | false=>exact ju (Int.le_refl _) h1
   | true =>
     have hlt:=(E5 ho).2;have h:=H.eq (lv+1) (i+1) a (by omega) (by omega) (by omega) (by omega);have h4:decide (lv=4)=false:=decide_eq_false (by omega);simp only[cond_true,h4,cond_false];cases hd:(ex (lv+1) (i+1)).die with
     | true =>
       rw[lpR_e _ _ _ (h.no hd).2.2];exact h.dies hd hd rfl rfl rfl rfl (by have:=h.lo;show i<=(rx _ _ _ _).i;omega) h.hi
     | false =>
       obtain⟨b1,b2⟩:=hA _ _ hd (by omega);rw[h.ok hd];exact(lp_eq H hA lv hlv k _ _ a (by omega) b2).mono (by omega)
theorem ix_eq{ex:jG}{rx:oe}(H:CZ l ex rx)(hA:mN l ex):∀(k:Nat)(x:Ex)(i a:Int),0<=i->i<=l.length->iK l (uR s l ex k x i) (E6 s l rx k x i 0 a) i a
 | 0,x,i,a,h0,h1=>nU (Int.le_refl _) h1
 | k + 1, x, i, a, h0, h1 => by
   unfold uR E6;rw[kx];cases ho:aQ l i pF with
   | false=>exact ju (Int.le_refl _) h1
   | true =>
     have hlt:=bW ho;have h:=H.eq 1 (i+1) a (by omega) (by omega) (by omega) (by omega);simp only[cond_true];cases hd:(ex 1 (i+1)).die with
     | true =>
       have h9:=(h.no hd).2.2;rw[Gs h9,Mt h9,E7 h9,R7 _ _ _ h9];exact h.dies hd hd rfl rfl rfl rfl (by have:=h.lo;show i<=(rx _ _ _ _).i;omega) h.hi
     | false =>
       obtain⟨b1,b2⟩:=hA _ _ hd (by omega);rw[h.ok hd];simp only[cond_false];cases hp:aQ l (ex 1 (i+1)).i mR with
       | true =>
         have hq:=bW hp;rw[Mu hp,Mv hp,Gu hp];exact(ix_eq H hA k _ _ a (by omega) (by omega)).mono (by omega)
       | false =>
         rw[Gt hp,Mw hp,Mx hp,R7 _ _ _ (by decide)];exact mU (by omega) b2
theorem ls_eq{ex : jG}{rx : oe}(H : CZ l ex rx)(hA : mN l ex)(t : ByteArray)(ht : t ≠ ic) : ∀(k : Nat)(acc : List Ex)(i a : Int), 0 ≤ i → i ≤ l.length → iK l (sG s l ex t k acc i) (Ms s l rx t k acc i 0 a) i a
 | 0,x,i,a,h0,h1=>nU (Int.le_refl _) h1
 | k + 1, acc, i, a, h0, h1 => by
   unfold sG Ms;have h:=H.eq 1 i a (by omega) (by omega) (by omega) (by omega);cases hd:(ex 1 i).die with
   | true =>
     have h9:=(h.no hd).2.2;rw[u7 h9,Gs h9,Mt h9,E7 h9];exact h.dies hd rfl rfl rfl rfl rfl h.lo h.hi
   | false =>
     obtain⟨b1,b2⟩:=hA _ _ hd (by omega);rw[h.ok hd];simp only[cond_false,kx];cases hp:aQ l (ex 1 i).i t with
     | true =>
       have hq:=bW hp;have hc:aQ l (ex 1 i).i ic=false:=by
        cases hc:aQ l (ex 1 i).i ic with
        | false=>rfl
        | true=>exact absurd ((oU hp).symm.trans (oU hc)) ht
       rw[Mu hp,Mv hp,Gu hp,hc];exact ju (by omega) (by omega)
     | false =>
       rw[Gt hp,Mw hp,Mx hp];cases hc:aQ l (ex 1 i).i ic with
       | false=>exact mU (by omega) b2
       | true =>
         have hq:=bW hc;exact(ls_eq H hA t ht k _ _ a (by omega) (by omega)).mono (by omega)
theorem PE{ex:jG}{rx:oe}(H:CZ l ex rx)(hA:mN l ex)(t:ByteArray)(ht:t≠ic)(i a:Int)(h0:0<=i)(h1:i<=l.length):iK l (gF s l ex t i) (qp s l rx t i 0 a) i a:=by
 unfold gF qp;rw[kx];cases hp:aQ l i t with
 | true =>
   have hq:=bW hp;exact ju (by omega) (by omega)
 | false=>exact ls_eq H hA t ht _ _ _ a h0 h1
theorem un_eq{ex:jG}{rx:oe}(H:CZ l ex rx)(t:ByteArray)(lv:Int)(hlv:1<=lv/\lv<=9)(i a:Int)(h0:0<=i)(h1:i<=l.length):iK l (uS l ex t lv i) (Iu l rx t lv i 0 a) i a:=by
 unfold uS Iu;rw[kx];cases hp:aQ l i t with
 | false=>exact H.eq _ _ a (by omega) (by omega) h0 h1
 | true =>
   have hq:=bW hp;have h:=H.eq lv (i+1) a (by omega) (by omega) (by omega) (by omega);simp only[cond_true];cases hd:(ex lv (i+1)).die with
   | true=>exact h.dies hd hd rfl rfl rfl rfl (by have:=h.lo;show i<=(rx _ _ _ _).i;omega) h.hi
   | false =>
     have h2:=h.lo;have h3:=h.hi;rw[h.ok hd] at h2 h3 ⊢;exact ju (by have h2:i+1<=(ex lv (i+1)).i:=h2;omega) h3
theorem on_eq{ex:jG}{rx:oe}(H:CZ l ex rx)(hA:mN l ex)(i a:Int)(h0:0<=i)(h1:i<=l.length):iK l (bif (ex 5 i).die then ex 5 i else sF s l ex 4 (l.length+1) (ex 5 i).v (ex 5 i).i) (VT l rx (rx 5 i 0 a)) i a:=by
 have h:=H.eq 5 i a (by omega) (by omega) h0 h1;unfold VT;cases hd:(ex 5 i).die with
 | true =>
   rw[opR_e (h.no hd).2.2];exact h
 | false =>
   obtain⟨b1,b2⟩:=hA _ _ hd h0;rw[h.ok hd];unfold sF;rw[R4 l _ 4 (by omega)];simp only[cond_false];cases ho:nC l 0 (ex 5 i).i 4 with
   | false=>exact ju (by omega) b2
   | true =>
     have hlt:=(E5 ho).2;have h2:=H.eq 5 ((ex 5 i).i+1) a (by omega) (by omega) (by omega) (by omega);simp only[cond_true];have e5:(4:Int)+1=5:=rfl;rw[e5];cases hd2:(ex 5 ((ex 5 i).i+1)).die with
     | true=>exact h2.dies hd2 hd2 rfl rfl rfl rfl (by have:=h2.lo;show i<=(rx _ _ _ _).i;omega) h2.hi
     | false =>
       obtain⟨c1,c2⟩:=hA _ _ hd2 (by omega);rw[h2.ok hd2];exact ju (by omega) c2
theorem po_eq{ex:jG}{rx:oe}(H:CZ l ex rx)(hA:mN l ex)(i a:Int)(h0:0<=i)(h1:i<=l.length):iK l (F9 l ex i) (VU l rx (rx 9 i 0 a)) i a:=by
 have h:=H.eq 9 i a (by omega) (by omega) h0 h1;unfold F9 VU;cases hd:(ex 9 i).die with
 | true =>
   rw[u7 (h.no hd).2.2];exact h
 | false =>
   obtain⟨b1,b2⟩:=hA _ _ hd h0;rw[h.ok hd,op8_eq];simp only[cond_false,kx];cases ho:aQ l (ex 9 i).i ⟨#[94]⟩ with
   | false=>exact ju (by omega) b2
   | true =>
     have hlt:=bW ho;have h2:=H.eq 7 ((ex 9 i).i+1) a (by omega) (by omega) (by omega) (by omega);simp only[cond_true];rw[oU ho];cases hd2:(ex 7 ((ex 9 i).i+1)).die with
     | true=>exact h2.dies hd2 hd2 rfl rfl rfl rfl (by have:=h2.lo;show i<=(rx _ _ _ _).i;omega) h2.hi
     | false =>
       obtain⟨c1,c2⟩:=hA _ _ hd2 (by omega);rw[h2.ok hd2];exact ju (by omega) c2
theorem E8{i:Int}{x:ByteArray}(hi:i<l.length)(ht:(aM l i).text=x)(hk:(aM l i).kind=5∨(aM l i).kind=2):aQ l i x=true:=by
 unfold aQ;rw[decide_eq_true hi,decide_eq_true ht];rcases hk with hk|hk;rw[decide_eq_true hk];rfl;rw[decide_eq_true hk,Bool.or_true];rfl
theorem E9{i:Int}{x:ByteArray}(hk:¬((aM l i).kind=5∨(aM l i).kind=2)):aQ l i x=false:=by
 unfold aQ;rw[not_or] at hk;rw[decide_eq_false hk.1,decide_eq_false hk.2,Bool.or_self,Bool.and_false,Bool.and_false]
theorem Be{i:Int}{x:ByteArray}(ht:(aM l i).text≠x):aQ l i x=false:=by
 unfold aQ;rw[decide_eq_false ht,Bool.false_and,Bool.and_false]
theorem qq{i:Int}{x:ByteArray}(h:(l.length:Int)<=i):aQ l i x=false:=by
 unfold aQ;rw[decide_eq_false (by omega),Bool.false_and]
theorem PF{R:XR (List Ex)}{Q:RR (List Ex)}{i j a:Int}(f:List Ex->Ex)(h:iK l R Q j a)(hi:i<=j):iK l ⟨R.die,R.e,R.a,f R.v,R.i⟩ ⟨f Q.v,Q.i,Q.e,Q.a⟩ i a:=by
 refine⟨fun hd=>?_,fun hd=>h.no hd,Int.le_trans hi h.lo,h.hi⟩;rw[h.ok hd]
theorem Mz{i:Int}(h0:0<=i)(h:i<l.length):aM l i∈l:=by
 unfold aM;rw[List.getD_eq_getElem?_getD,List.getElem?_eq_getElem (by omega)];exact List.getElem_mem _
theorem bs_eq{ex:jG}{rx:oe}(hK:gA l)(H:CZ l ex rx)(hA:mN l ex)(i a:Int)(h0:0<=i)(h1:i<=l.length):iK l (kW s l ex i) (yV s l rx i 0 a) i a:=by
 unfold kW yV;by_cases hl:(l.length:Int)<=i;rw[qq hl,qq hl,qq hl,qq hl,decide_eq_true hl];exact nU (Int.le_refl _) h1;rw[decide_eq_false hl];have hlt:i<l.length:=by omega
 have hKt:((aM l i).kind=2->(aM l i).text≠eY/\(aM l i).text≠pF)/\((aM l i).kind=5->(aM l i).text≠AL/\(aM l i).text≠AO):=by
  exact hK _ (Mz h0 hlt)
 have up:∀ v:Ex,iK l (gD v (i+1)) ⟨v,i+1,0,a⟩ i a:=fun v=>ju (by omega) (by omega);have dn:iK l (jB s l gI i) (⟨gI,i+1,kq 0 11,lP s l 0 a i⟩:RR Ex) i a:=mU (by omega) (by omega);by_cases hk:(aM l i).kind=5∨(aM l i).kind=2;have hn1:decide ((aM l i).kind=1)=false:=decide_eq_false (by omega);have hn3:decide ((aM l i).kind=3)=false:=decide_eq_false (by omega);have hn4:decide ((aM l i).kind=4)=false:=decide_eq_false (by omega);have hnm:fk l i=false:=by unfold fk;rw[hn1,Bool.and_false]
 rw[hn1,hn3,hn4,hnm];simp only[cond_false,Bool.false_and];by_cases t1:(aM l i).text=eY
 . have k5:(aM l i).kind=5:=by rcases hk with h|h;exact h;exact absurd t1 (hKt.1 h).1
   have k2:decide ((aM l i).kind=2)=false:=decide_eq_false (by omega);rw[E8 hlt t1 hk,k2,decide_eq_true k5,t1];have h:=H.eq 1 (i+1) a (by omega) (by omega) (by omega) (by omega);have hne:decide (eY=pF)=false:=by decide
   rw[hne];simp only[cond_true,Bool.false_and,cond_false,Bool.and_false,decide_true,Bool.and_self];cases hd:(ex 1 (i+1)).die with
   | true =>
     have h9:=(h.no hd).2.2;rw[Gs h9,Mt h9,E7 h9];exact h.dies hd hd rfl rfl rfl rfl (by have:=h.lo;show i<=(rx _ _ _ _).i;omega) h.hi
   | false =>
     obtain⟨b1,b2⟩:=hA _ _ hd (by omega);rw[h.ok hd];simp only[cond_false];cases hp:aQ l (ex 1 (i+1)).i fj with
     | true =>
       have hq:=bW hp;rw[Mu hp,Mv hp,Gu hp];exact ju (by omega) (by omega)
     | false =>
       rw[Gt hp,Mw hp,Mx hp];exact mU (by omega) b2
 rw[Be t1,decide_eq_false t1];by_cases t2:(aM l i).text=pF;have k5:(aM l i).kind=5:=by rcases hk with h|h;exact h;exact absurd t2 (hKt.1 h).2
 have k2:decide ((aM l i).kind=2)=false:=decide_eq_false (by omega);rw[E8 hlt t2 hk,k2,decide_eq_true k5,decide_eq_true t2];simp only[cond_true,Bool.false_and,cond_false,Bool.and_self];exact PF (fun v=>.mk 5 0 eS v) (PE H hA mR (by decide) (i+1) a (by omega) (by omega)) (by omega);rw[Be t2,decide_eq_false t2];by_cases t3:(aM l i).text=AL;have k2:(aM l i).kind=2:=by rcases hk with h|h;exact absurd t3 (hKt.2 h).1;exact h
 rw[E8 hlt t3 hk,decide_eq_true k2,decide_eq_true t3];exact up _;rw[Be t3,decide_eq_false t3];by_cases t4:(aM l i).text=AO;have k2:(aM l i).kind=2:=by rcases hk with h|h;exact absurd t4 (hKt.2 h).2;exact h
 rw[E8 hlt t4 hk,decide_eq_true k2,decide_eq_true t4];exact up _;rw[Be t4,decide_eq_false t4];simp only[cond_false,Bool.and_false];exact dn;rw[E9 hk,E9 hk,E9 hk,E9 hk];rw[not_or] at hk;rw[decide_eq_false hk.1,decide_eq_false hk.2];simp only[cond_false,Bool.false_and];by_cases k3:(aM l i).kind=3;rw[decide_eq_true k3];exact up _;rw[decide_eq_false k3];by_cases k4:(aM l i).kind=4;rw[decide_eq_true k4];exact up _;rw[decide_eq_false k4];by_cases k1:(aM l i).kind=1
 . have hnm:fk l i=true:=by unfold fk;rw[decide_eq_true k1,decide_eq_true hlt];rfl
   rw[decide_eq_true k1,hnm,kx];simp only[cond_false,cond_true,Bool.true_and];cases hp:aQ l (i+1) eY with
   | true =>
     have hq:=bW hp;exact PF (fun v=>.mk 6 0 (aM l i).text v) (PE H hA fj (by decide) (i+1+1) a (by omega) (by omega)) (by omega)
   | false=>exact up _
 have hnm:fk l i=false:=by unfold fk;rw[decide_eq_false k1,Bool.and_false]
 rw[decide_eq_false k1,hnm];simp only[cond_false,Bool.false_and];exact dn
theorem ex_eq{ex:jG}{rx:oe}(hK:gA l)(H:CZ l ex rx)(hA:mN l ex)(lv i a:Int)(l1:1<=lv)(l2:lv<=10)(h0:0<=i)(h1:i<=l.length):iK l (AP s l ex lv i) (DL s l rx lv i 0 a) i a:=by
 unfold AP DL;by_cases c3:lv=3;rw[decide_eq_true c3];exact un_eq H _ lv (by omega) i a h0 h1;rw[decide_eq_false c3];by_cases c7:lv=7;rw[decide_eq_true c7];exact un_eq H _ lv (by omega) i a h0 h1;rw[decide_eq_false c7];by_cases c8:lv=8;rw[decide_eq_true c8];exact po_eq H hA i a h0 h1;rw[decide_eq_false c8];by_cases c9:lv=9
 . rw[decide_eq_true c9];simp only[cond_true,cond_false];have h:=H.eq 10 i a (by omega) (by omega) h0 h1;cases hd:(ex 10 i).die with
   | true =>
     rw[R7 _ _ _ (h.no hd).2.2];exact h
   | false =>
     obtain⟨b1,b2⟩:=hA _ _ hd h0;rw[h.ok hd];exact(ix_eq H hA _ _ _ a (by omega) b2).mono (by omega)
 rw[decide_eq_false c9];by_cases c10:lv=10;rw[decide_eq_true c10];exact bs_eq hK H hA i a h0 h1;rw[decide_eq_false c10];by_cases c4:lv=4;rw[decide_eq_true c4];subst c4;exact on_eq H hA i a h0 h1;rw[decide_eq_false c4];simp only[cond_false];have h:=H.eq (lv+1) i a (by omega) (by omega) h0 h1;cases hd:(ex (lv+1) i).die with
 | true =>
   rw[lpR_e _ _ _ (h.no hd).2.2];exact h
 | false =>
   obtain⟨b1,b2⟩:=hA _ _ hd h0;rw[h.ok hd];exact(lp_eq H hA lv (by omega) _ _ _ a (by omega) b2).mono (by omega)
theorem Jc(hK:gA l):∀ n,CZ l (cJ s l n) (dM s l n)
 | 0=>⟨fun lv i a _ _ h0 h1=>nU (Int.le_refl _) h1,fun lv i e a h=>qU h _ _ _⟩
 | n+1=>by
   refine⟨fun lv i a l1 l2 h0 h1=>ex_eq hK (Jc hK n) (kX n) lv i a l1 l2 h0 h1,fun lv i e a h=>?_⟩;show (bif decide (e=0) then _ else _)=_;rw[decide_eq_false h];rfl
end
end Go.Proofs.YtaplgnhojknpiaaGreatDoor
namespace Go.Proofs.YtaplgnhojknpiaaGreatDoor
open Go.aU Go.RowKit
set_option maxRecDepth 100000
section
variable (s:ByteArray) (l:List Tok)
noncomputable def V0(n:Nat):lp:=fun aN i e a ns=>match aN with
 | [.p (.c (.int .i64 lv))]=>some { c:=0<n/\1<=lv/\lv<=10/\(e=0->ez l n lv i),r:=.p (exV (dM s l n lv i e a).v),i:=(dM s l n lv i e a).i,e:=(dM s l n lv i e a).e,a:=(dM s l n lv i e a).a,ns:=ns }
 | _=>none
abbrev yX(n:Nat):Prop:=u6 2 28 s l (V0 s l n)
variable {s l} in
theorem qt(hK:gA l)(n:Nat){lv i e:Int}(a:Int)(l1:1<=lv)(l2:lv<=10)(hi:dx l i):i<=(dM s l n lv i e a).i/\dx l (dM s l n lv i e a).i/\((dM s l n lv i e a).e=0->e=0/\i<(dM s l n lv i e a).i):=by
 have H:=Jc (s:=s) hK n;by_cases he:e=0
 . subst he;have h:=H.eq lv i a l1 l2 hi.1 hi.2.1;have h1:=h.lo;have h0:=hi.1;refine⟨h1,⟨by omega,h.hi,hi.2.2⟩,fun h2=>⟨rfl,?_⟩⟩;cases hd:(cJ s l n lv i).die with
   | true=>exact absurd h2 (h.no hd).2.2
   | false =>
     rw[h.ok hd];exact(kX n lv i hd hi.1).1
 rw[H.st _ _ _ _ he];exact⟨Int.le_refl _,hi,fun h=>absurd h he⟩
noncomputable def Jd(n:Nat):bX:=(28,jd 2 s l [true,false] (V0 s l n))::(51,jd 2 s l [true,false] (wU s l))::(59,jd 2 s l [true,false] (Y4 l))::(60,R3)::yB s l
variable {s l} in
theorem DM{n:Nat}(h:yX s l n):bg Tryz.prog (Jd s l n):=ai (fM (by kernel_rfl) h) (ai (fM (by kernel_rfl) (yC s l)) (ai (fM (by kernel_rfl) (opR_is s l)) (ai Y5 (nB s l))))
noncomputable def sSv(n:Nat):aZ:=ct Tryz.prog (Jd s l n) Tryz.f86 2 [([0,1,1,1],[0,1,5])] [] [some .pv]
theorem PG(hK:gA l)(n:Nat)(h:yX s l n)(t:ByteArray)(ns:List ByteArray)(R:RR (List Ex)):∀(k:Nat)(acc:List Ex)(i e a:Int),Ms s l (dM s l n) t k acc i e a=R->e=0->dx l i->(l.length:Int)-i<k->12*((l.length:Int)-i)+10<n->(acc.length:Int)<=i->
 ax (sSv s l n) (aG (.p (.c (.rs 4 (Ex.ah R.v)))) (rO s l R.i R.e R.a ns)) [0,1,1,1] (fr [(0,pA),(1,sS t),(5,.p (.c (.sl 2 0 acc.length 4)))]) (.ofList [PA s l i e a ns.length,iY ns,Ry acc])
 | 0,acc,i,e,a,he,e0,hi,hk,hn,hc=>by
   obtain⟨h0,h1,h2⟩:=hi;omega
 | k + 1, acc, i, e, a, he, e0, hi, hk, hn, hc => by
   refine bD (DM h) (by kernel_rfl) 200 ?_;apply of_eq (q:=let q1:=(dM s l n (1:Int) i e a);let q3:=(List.drop (0:Nat) (Ex.ah acc));let q4:=(ByteArray.mk #[(44:UInt8)]);let q2:=(bQ l q1.e q1.i q4);(cx s l s (ar l) ns.length ns i/\(0:Nat)<n/\(1:Int)<=1/\(1:Int)<=10/\(e=0->ez l n (1:Int) i))/\((0:Nat)+acc.length*4<=(Ex.ah acc).length/\(acc.length+1)*56<=140737488355328)/\(cx s l s (ar l) ns.length ns q1.i/\True)/\((!bZ l q1.e q1.i q4)=true->(cx s l s (ar l) ns.length ns q2/\True)/\(0:Nat)+(acc.length+1)*4<=(List.take (acc.length*4) q3++[PV.int q1.v.k,PV.int q1.v.n,PV.str q1.v.t,PV.aH (4:Nat) (Ex.ah q1.v.l)]).length/\aq [V.c (W.rs (4:Nat) (List.take ((acc.length+1)*4) (List.drop (0:Nat) (List.take (acc.length*4) q3++[PV.int q1.v.k,PV.int q1.v.n,PV.str q1.v.t,PV.aH (4:Nat) (Ex.ah q1.v.l)]))))]=aP (W.rs (4:Nat) (Ex.ah R.v))/\[Ob.mk 51 [Fd.c (W.str s),Fd.c (W.rs (4:Nat) (ar l)),fI (bQ l q1.e q2 t),fI (mE l q1.e q2 t),fI (mA s l q1.e q1.a q2 t),fS 1 0 ns.length],Ob.mk 9 [Fd.a 0 D.str ns]]=rO s l R.i R.e R.a ns)/\((!bZ l q1.e q1.i q4)=false->ax (sSv s l n) (aG (aP (W.rs (4:Nat) (Ex.ah R.v))) (rO s l R.i R.e R.a ns)) [0,1,1,1] (fr [(0,aR 0 0),(1,aP (W.str t)),(5,aP (W.sl 2 0 (acc.length+1) 4))]) (af.ofList [Ob.mk 51 [Fd.c (W.str s),Fd.c (W.rs (4:Nat) (ar l)),fI q2,fI q1.e,fI q1.a,fS 1 0 ns.length],Ob.mk 9 [Fd.a 0 D.str ns],Ob.mk 32 [Fd.a 0 D.pv (List.take (acc.length*4) q3++[PV.int q1.v.k,PV.int q1.v.n,PV.str q1.v.t,PV.aH (4:Nat) (Ex.ah q1.v.l)])]]))) (by kernel_rfl)
   try simp only[sL]
   have el:List.take (acc.length*4) (Ex.ah acc)=Ex.ah acc:=List.take_of_length_le (by rw[Ex.cI];exact Nat.le_refl _);rw[el,RD,<-Ex.qO];have el2:List.take ((acc.length+1)*4) (Ex.ah (acc++[(dM s l n 1 i e a).v]))=Ex.ah (acc++[(dM s l n 1 i e a).v]):=List.take_of_length_le (by rw[Ex.cI,List.length_append];exact Nat.le_refl _);rw[el2];unfold Ms at he;obtain⟨a1,a2,a3⟩:=qt (s:=s) hK n (lv:=1) (e:=e) a (by omega) (by omega) hi;have hb:=hi.2.1;refine⟨⟨rin hi,by omega,by omega,fun _=>⟨by omega,by omega,by omega⟩⟩,⟨by rw[Ex.cI];exact Nat.le_refl _,by have:=hi.2;omega⟩,rin a2,fun h1=>?_,fun h1=>?_⟩;rw[h1] at he;subst he;rw[iJ h1];exact⟨rin a2,by rw[Ex.cI,List.length_append];exact Nat.le_refl _,rfl,rfl⟩;rw[h1] at he;obtain⟨h2,h3⟩:=jf h1;obtain⟨_,h4⟩:=a3 h2;rw[je h1];have ih:=PG hK n h t ns R k (acc++[(dM s l n 1 i e a).v]) ((dM s l n 1 i e a).i+1) (dM s l n 1 i e a).e (dM s l n 1 i e a).a he h2 ⟨by have:=a2.1;omega,by omega,hi.2.2⟩ (by omega) (by omega) (by simp only[List.length_append,List.length_singleton];omega);rw[List.length_append,List.length_singleton] at ih;exact ih
noncomputable def Y6(n:Nat):lp:=fun aN i e a ns=>match aN with
 | [.p (.c (.str t))]=>some { c:=e=0/\12*((l.length:Int)-i)+10<n,r:=.p (.c (.rs 4 (Ex.ah (qp s l (dM s l n) t i e a).v))),i:=(qp s l (dM s l n) t i e a).i,e:=(qp s l (dM s l n) t i e a).e,a:=(qp s l (dM s l n) t i e a).a,ns:=ns }
 | _=>none
theorem svR_is(hK:gA l)(n:Nat)(h:yX s l n):u6 2 86 s l (Y6 s l n):=by
 intro aN i e a ns p hp hi hc;unfold Y6 at hp;split at hp;rename_i t;cases hp;obtain⟨e0,hc⟩:e=0/\12*((l.length:Int)-i)+10<n:=hc;refine ew (aK:=[([0,1,1,1],[0,1,5])]) (eu:=[]) (fz:=[some .pv]) (DM h) Tryz.func86 (by kernel_rfl) 2 (by kernel_rfl) 200 ?_;apply of_eq (q:=let q1:=(qp s l (dM s l n) t i e a);let q2:=(12:Int)*((l.length:Int)-i)+10<(n:Int);let q3:=(W.rs (4:Nat) (Ex.ah q1.v));let q4:=Ob.mk 51 [Fd.c (W.str s),Fd.c (W.rs (4:Nat) (ar l)),fI (bQ l e i t),fI e,fI a,fS 1 0 ns.length];(cx s l s (ar l) ns.length ns i/\True)/\(bZ l e i t=true->(0:Nat)+0*4<=0/\aq [V.c (W.rs (4:Nat) (List.take ((0:Nat)*4) (List.drop (0:Nat) [])))]=aP q3/\[q4,Ob.mk 9 [Fd.a 0 D.str ns]]=rO s l q1.i q1.e q1.a ns)/\(bZ l e i t=false->ax (ct Tryz.prog (Jd s l n) Tryz.f86 (2:Nat) [([0,1,1,1],[0,1,5])] [] [some D.pv]) (aG (iz.mk (e=0/\q2) (aP q3) q1.i q1.e q1.a ns).r (rO s l (iz.mk (e=0/\q2) (aP q3) q1.i q1.e q1.a ns).i (iz.mk (e=0/\q2) (aP q3) q1.i q1.e q1.a ns).e (iz.mk (e=0/\q2) (aP q3) q1.i q1.e q1.a ns).a (iz.mk (e=0/\q2) (aP q3) q1.i q1.e q1.a ns).ns)) [0,1,1,1] (fr [(0,aR 0 0),(1,aP (W.str t)),(5,aP (W.sl 2 0 0 4))]) (af.ofList [q4,Ob.mk 9 [Fd.a 0 D.str ns],Ob.mk 32 [Fd.a 0 D.pv []]]))) (by kernel_rfl)
 try simp only[sL]
 have hL:∀ b,bZ l e i t=b->qp s l (dM s l n) t i e a=bif b then ⟨[],i+1,e,a⟩ else Ms s l (dM s l n) t (l.length+1) [] i e a:=by rintro b rfl;rfl
 refine⟨rin hi,fun h1=>?_,fun h1=>?_⟩;rw[hL _ h1,je h1];exact⟨by simp only[cond_true,Ex.bJ];rfl,rfl⟩;rw[hL _ h1,iJ h1];have:=PG s l hK n h t ns _ (l.length+1) [] i e a rfl e0 hi (by have:=hi.1;omega) hc (by exact hi.1);unfold Ry at this;rw[Ex.bJ] at this;exact this;cases hp
end
theorem ru{p q:Prop}[Decidable p][Decidable q](h:p->¬q):(decide p&&decide q)=false:=by
 by_cases hp:p;rw[decide_eq_false (h hp),Bool.and_false];rw[decide_eq_false hp,Bool.false_and]
theorem Je{p q:Prop}[Decidable p][Decidable q](h:p/\q):(decide p&&decide q)=true:=by
 rw[decide_eq_true h.1,decide_eq_true h.2];rfl
section
variable (s:ByteArray) (l:List Tok)
noncomputable def Fa(n:Nat):bX:=(86,jd 2 s l [true,false] (Y6 s l n))::Jd s l n
variable {s l} in
theorem MA(hK:gA l){n:Nat}(h:yX s l n):bg Tryz.prog (Fa s l n):=ai (fM (by kernel_rfl) (svR_is s l hK n h)) (DM h)
noncomputable def Y7(n:Nat):lp:=fun aN i e a ns=>match aN with
 | []=>some { c:=e=0/\12*((l.length:Int)-i)<n,r:=.p (exV (yV s l (dM s l n) i e a).v),i:=(yV s l (dM s l n) i e a).i,e:=(yV s l (dM s l n) i e a).e,a:=(yV s l (dM s l n) i e a).a,ns:=ns }
 | _=>none
theorem bsR_is(hK:gA l)(n:Nat)(h:yX s l n):u6 2 61 s l (Y7 s l n):=by
 intro aN i e a ns p hp hi hc;unfold Y7 at hp;split at hp
 . cases hp;obtain⟨e0,hc⟩:e=0/\12*((l.length:Int)-i)<n:=hc;refine ew (aK:=[]) (eu:=[]) (fz:=[]) (MA hK h) Tryz.func61 (by kernel_rfl) 2 (by kernel_rfl) 600 ?_;apply of_eq (q:=let q0:=IntKind.i64.wrap;let q6:=(q0 (i+1));let q8:=(ar l);let aT:=(i.toNat*4+1);let aY:=(dM s l n (1:Int) q6 e a);let bt:=(ByteArray.mk #[]);let cu:=(ByteArray.mk #[(41:UInt8)]);let cB:=decide ((q8.getD aT (PV.bool false)).bM=ByteArray.mk #[(91:UInt8)]);let cF:=decide ((q8.getD aT (PV.bool false)).bM=ByteArray.mk #[(40:UInt8)]);let cn:=Ob.mk 9 [Fd.a 0 D.str ns];let cL:=(ByteArray.mk #[(93:UInt8)]);let bF:=(ByteArray.mk #[(40:UInt8)]);let cQ:=(PV.int (0:Int)).like (q8.getD (i.toNat*4+1+1+1) (PV.bool false))=true;let cg:=(PV.int (0:Int)).like (q8.getD (i.toNat*4+1+1) (PV.bool false))=true;let dG:=decide ((q8.getD aT (PV.bool false)).bM=ByteArray.mk #[(102:UInt8),(97:UInt8),(108:UInt8),(115:UInt8),(101:UInt8)]);let d9:=decide ((q8.getD aT (PV.bool false)).bM=ByteArray.mk #[(116:UInt8),(114:UInt8),(117:UInt8),(101:UInt8)]);let eC:=fS 1 0 ns.length;let eO:=i.toNat*4+4<=q8.length;let ep:=(PV.str bt).like (q8.getD aT (PV.bool false))=true;let gT:=(Cd.t.and Cd.t);let dO:=(i.toNat*4);let fX:=Fd.c (W.str s);let gJ:=(dM s l n);let mq:=e=0/\(12:Int)*((l.length:Int)-bQ l e q6 bF)+10<(n:Int);let tR:=(qp s l gJ cL q6 e a);let oC:=(4:Nat);let q1:=(yV s l gJ i e a);let q2:=decide ((q8.getD dO (PV.bool false)).asInt=5);let q3:=(bQ l e q6 bF);let q4:=decide ((q8.getD dO (PV.bool false)).asInt=2);let q9:=decide ((q8.getD dO (PV.bool false)).asInt=1);let aI:=(dM s l n (1:Int) q3 e a);let bw:=(W.rs oC q8);let dD:=(R1.pure gT (aP ((PV.str bt).at (q8.getD aT (PV.bool false))))).v=(R1.pure gT (aP ((PV.str bt).at (q8.getD aT (PV.bool false))))).v;let cN:=(PV.int (0:Int)).like (q8.getD dO (PV.bool false))=true;let dH:=q2=true;let iR:=(exV q1.v);let nZ:=(qp s l gJ cu q3 e a);let kB:=(qp s l gJ cL q3 e a);let sH:=q4=true;let Ia:=(R1.pure gT (aP bw));let q7:=[Ob.mk 51 [fX,Fd.c bw,fI q6,fI e,fI a,eC],cn]=rO s l q1.i q1.e q1.a ns;let cG:=(A.p (V.agg (jD q8 dO (shapes ((ct Tryz.prog (Fa s l n) Tryz.f61 (2:Nat) [] [] []).env (aG (A.p iR) (rO s l q1.i q1.e q1.a ns))).P (78:Nat))).snd));let eH:=aq [V.agg [wI (0),wI (0),W.str bt,W.rs oC []]]=A.p iR;let dN:=aq [V.agg [wI (4),wI (0),(PV.str bt).at (q8.getD aT (PV.bool false)),W.rs oC []]]=A.p iR;let q5:=(R1.pure (Cd.t.and ((Cd.p (eO)).and (jD q8 dO (shapes ((ct Tryz.prog (Fa s l n) Tryz.f61 (2:Nat) [] [] []).env (aG (A.p iR) (rO s l q1.i q1.e q1.a ns))).P (78:Nat))).fst)) cG).v=(R1.pure (Cd.t.and ((Cd.p (eO)).and (jD q8 dO (shapes ((ct Tryz.prog (Fa s l n) Tryz.f61 (2:Nat) [] [] []).env (aG (A.p iR) (rO s l q1.i q1.e q1.a ns))).P (78:Nat))).fst)) cG).v;(decide ((↑(q8.length/4):Int)<=i)=true->(cx s l s q8 ns.length ns i/\(0:Int)<=i)/\eH/\[Ob.mk 51 [fX,Fd.c bw,fI i,fI (kq e (11:Int)),fI (lP s l e a i),eC],cn]=rO s l q1.i q1.e q1.a ns)/\(decide ((↑(q8.length/4):Int)<=i)=false->((0:Int)<=i/\i.toNat*4<q8.length)/\eO/\cN/\ep/\cg/\cQ/\Ia.v=Ia.v/\Ia.v=Ia.v/\(R1.pure gT (nI i)).v=(R1.pure gT (nI i)).v/\(R1.pure gT (nI i)).v=(R1.pure gT (nI i)).v/\eO/\cN/\ep/\cg/\cQ/\q5/\eO/\cN/\ep/\cg/\cQ/\q5/\(decide ((q8.getD dO (PV.bool false)).asInt=3)=true->aq [V.agg [wI (1),(PV.int (0:Int)).at (q8.getD (i.toNat*4+1+1) (PV.bool false)),W.str bt,W.rs oC []]]=A.p iR/\q7)/\(decide ((q8.getD dO (PV.bool false)).asInt=3)=false->(decide ((q8.getD dO (PV.bool false)).asInt=4)=true->aq [V.agg [wI (2),wI (0),(PV.str bt).at (q8.getD aT (PV.bool false)),W.rs oC []]]=A.p iR/\q7)/\(decide ((q8.getD dO (PV.bool false)).asInt=4)=false->(sH->sH)/\(sH->sH)/\(sH->sH)/\((bif q4 then d9 else false)=true->aq [V.agg [wI (3),wI (1),W.str bt,W.rs oC []]]=A.p iR/\q7)/\((bif q4 then d9 else false)=false->(sH->sH)/\(sH->sH)/\(sH->sH)/\((bif q4 then dG else false)=true->aq [V.agg [wI (3),wI (0),W.str bt,W.rs oC []]]=A.p iR/\q7)/\((bif q4 then dG else false)=false->(q9=true->q9=true/\(cx s l s q8 ns.length ns q6/\True)/\(bZ l e q6 bF=true->(cx s l s q8 ns.length ns q3/\mq)/\dD/\dD/\aq [V.agg [wI (6),wI (0),(PV.str bt).at (q8.getD aT (PV.bool false)),W.rs oC (Ex.ah nZ.v)]]=A.p iR/\[Ob.mk 51 [fX,Fd.c bw,fI nZ.i,fI nZ.e,fI nZ.a,eC],cn]=rO s l q1.i q1.e q1.a ns)/\(bZ l e q6 bF=false->(q9=true->dN/\[Ob.mk 51 [fX,Fd.c bw,fI q3,fI e,fI a,eC],cn]=rO s l q1.i q1.e q1.a ns)/\(q9=false->(dH->dH)/\(dH->dH)/\(dH->dH)/\((bif q2 then cB else false)=true->(cx s l s q8 ns.length ns q3/\mq)/\aq [V.agg [wI (5),wI (0),W.str bt,W.rs oC (Ex.ah kB.v)]]=A.p iR/\[Ob.mk 51 [fX,Fd.c bw,fI kB.i,fI kB.e,fI kB.a,eC],cn]=rO s l q1.i q1.e q1.a ns)/\((bif q2 then cB else false)=false->(dH->dH)/\(dH->dH)/\(dH->dH)/\((bif q2 then cF else false)=true->(cx s l s q8 ns.length ns q3/\(0:Nat)<n/\(1:Int)<=1/\(1:Int)<=10/\(e=0->ez l n (1:Int) q3))/\(cx s l s q8 ns.length ns aI.i/\True)/\aq [V.agg [wI aI.v.k,wI aI.v.n,W.str aI.v.t,W.rs oC (Ex.ah aI.v.l)]]=A.p iR/\[Ob.mk 51 [fX,Fd.c bw,fI (bQ l aI.e aI.i cu),fI (mE l aI.e aI.i cu),fI (mA s l aI.e aI.a aI.i cu),eC],cn]=rO s l q1.i q1.e q1.a ns)/\((bif q2 then cF else false)=false->(cx s l s q8 ns.length ns q3/\(0:Int)<=q0 (bQ l e q6 bF-1))/\eH/\[Ob.mk 51 [fX,Fd.c bw,fI q3,fI (kq e (11:Int)),fI (lP s l e a (q0 (bQ l e q6 bF-1))),eC],cn]=rO s l q1.i q1.e q1.a ns)))))/\(q9=!true->(q9=true->dN/\q7)/\(q9=false->(dH->dH)/\(dH->dH)/\(dH->dH)/\((bif q2 then cB else false)=true->(cx s l s q8 ns.length ns q6/\e=0/\(12:Int)*((l.length:Int)-q0 (i+1))+10<(n:Int))/\aq [V.agg [wI (5),wI (0),W.str bt,W.rs oC (Ex.ah tR.v)]]=A.p iR/\[Ob.mk 51 [fX,Fd.c bw,fI tR.i,fI tR.e,fI tR.a,eC],cn]=rO s l q1.i q1.e q1.a ns)/\((bif q2 then cB else false)=false->(dH->dH)/\(dH->dH)/\(dH->dH)/\((bif q2 then cF else false)=true->(cx s l s q8 ns.length ns q6/\(0:Nat)<n/\(1:Int)<=1/\(1:Int)<=10/\(e=0->ez l n (1:Int) q6))/\(cx s l s q8 ns.length ns aY.i/\True)/\aq [V.agg [wI aY.v.k,wI aY.v.n,W.str aY.v.t,W.rs oC (Ex.ah aY.v.l)]]=A.p iR/\[Ob.mk 51 [fX,Fd.c bw,fI (bQ l aY.e aY.i cu),fI (mE l aY.e aY.i cu),fI (mA s l aY.e aY.a aY.i cu),eC],cn]=rO s l q1.i q1.e q1.a ns)/\((bif q2 then cF else false)=false->(cx s l s q8 ns.length ns q6/\(0:Int)<=q0 (q0 (i+1)-1))/\eH/\[Ob.mk 51 [fX,Fd.c bw,fI q6,fI (kq e (11:Int)),fI (lP s l e a (q0 (q0 (i+1)-1))),eC],cn]=rO s l q1.i q1.e q1.a ns)))))))))) (by kernel_rfl)
   try simp only[sL]
   rw[tN];generalize hR:yV s l (dM s l n) i e a=R;unfold yV at hR;have h0:=hi.1;have h9:=hi.2.2;refine⟨fun hl=>?_,fun hl=>?_⟩;rw[decide_eq_true hl] at hR;subst hR;exact⟨⟨rin hi,h0⟩,by rw[cond_true,nS,tU];rfl,rfl⟩;rw[decide_eq_false (by omega)] at hR;simp only[cond_false] at hR;have q0:(ar l).getD (i.toNat*4) (.bool false)=.int (aM l i).kind:=F7 hi hl;have q2:(ar l).getD (i.toNat*4+1+1) (.bool false)=.int (aM l i).n:=tkg2 hi hl;have q3:(ar l).getD (i.toNat*4+1+1+1) (.bool false)=.int (aM l i).at_:=Ll hi hl
   have g0:=pz hi hl 0 (by omega);have g4:i.toNat*4+4<=(ar l).length:=pz hi hl 3 (by omega);have u1:dx l (i+1):=⟨by omega,by omega,h9⟩;rw[q0,q2,q3,Du hi hl,wrap64 (n:=i+1) (by omega) (by omega)];have k0:(PV.int (aM l i).kind).asInt=(aM l i).kind:=rfl;have k1:(PV.str (aM l i).text).bM=(aM l i).text:=rfl;have k2:∀ x,(PV.int x).at (.int (aM l i).n)=.int .i64 (aM l i).n:=fun _=>rfl;have k3:∀ x,(PV.str x).at (.str (aM l i).text)=.str (aM l i).text:=fun _=>rfl;simp only[k0,k1,k2,k3];refine⟨⟨h0,g0⟩,g4,rfl,rfl,rfl,rfl,g4,rfl,rfl,rfl,rfl,g4,rfl,rfl,rfl,rfl,?_⟩;have leaf:∀ v:Ex,v.l=[]->A.p (exV v)=.p (.agg [.int .i64 v.k,.int .i64 v.n,.str v.t,.rs 4 []]):=fun v hv=>by unfold exV;rw[hv,Ex.bJ]
   refine⟨fun k3=>?_,fun k3=>⟨fun k4=>?_,fun k4=>⟨fun kt=>?_,fun kt=>⟨fun kf=>?_,fun kf=>⟨fun c1=>⟨c1,rin u1,fun tp=>?_,fun tp=>⟨fun _=>?_,fun h=>absurd c1 h⟩⟩,fun c1=>⟨fun h=>?_,fun _=>⟨fun kb=>?_,fun kb=>⟨fun kp=>?_,fun kp=>?_⟩⟩⟩⟩⟩⟩⟩⟩;rw[decide_eq_true k3] at hR;subst hR;rw[cond_true,leaf _ rfl];exact⟨rfl,rfl⟩;rw[decide_eq_false k3,decide_eq_true k4] at hR;subst hR;rw[cond_false,cond_true,leaf _ rfl];exact⟨rfl,rfl⟩;rw[decide_eq_false k3,decide_eq_false k4,Je kt] at hR;subst hR;rw[cond_false,cond_false,cond_true,leaf _ rfl];exact⟨rfl,rfl⟩;rw[decide_eq_false k3,decide_eq_false k4,ru kt,Je kf] at hR;subst hR;rw[cond_false,cond_false,cond_false,cond_true,leaf _ rfl];exact⟨rfl,rfl⟩;rw[decide_eq_false k3,decide_eq_false k4,ru kt,ru kf,decide_eq_true c1,tp] at hR;subst hR;obtain⟨_,hlt⟩:=jf tp;rw[je tp];exact⟨⟨rin ⟨by omega,by omega,h9⟩,e0,by omega⟩,rfl,rfl⟩;rw[decide_eq_false k3,decide_eq_false k4,ru kt,ru kf,decide_eq_true c1,tp] at hR;subst hR;rw[iJ tp,Bool.and_false,cond_false,cond_false,cond_false,cond_false,cond_false,cond_true,leaf _ rfl];exact⟨rfl,rfl⟩;rw[decide_eq_true h] at c1;cases c1
   all_goals
    rw[decide_eq_false k3,decide_eq_false k4,ru kt,ru kf,show decide ((aM l i).kind=1)=false from c1,Bool.false_and] at hR;simp only[cond_false] at hR
   rw[Je kb] at hR;subst hR;exact⟨⟨rin u1,e0,by omega⟩,rfl,rfl⟩;rw[ru kb,Je kp] at hR;subst hR;obtain⟨a1,a2,a3⟩:=qt (s:=s) hK n (lv:=1) (e:=e) a (by omega) (by omega) u1;exact⟨⟨rin u1,by omega,by omega,fun _=>⟨by omega,by omega,by omega⟩⟩,rin a2,rfl,rfl⟩;rw[ru kb,ru kp] at hR;subst hR;rw[Int.add_sub_cancel,wrap64 (by omega) (by omega)];exact⟨⟨rin u1,h0⟩,by simp only[cond_false,tU];rfl,rfl⟩
 cases hp
end
section
variable {l:List Tok}
theorem oI_f{e i lv:Int}(h:nC l e i lv=false):oI l e i lv=i:=by unfold oI;rw[if_neg (by rw[h];simp)]
theorem oI_t{e i lv:Int}(h:nC l e i lv=true):oI l e i lv=i+1:=by unfold oI;rw[if_pos h]
theorem Y8{e i lv:Int}(h:nC l e i lv=true):oT l e i lv=(aM l i).text:=by unfold oT;rw[if_pos h]
theorem mE_0{e i:Int}{x:ByteArray}(h:mE l e i x=0):e=0/\aQ l i x=true:=by
 by_cases he:e=0
 . subst he;refine⟨rfl,?_⟩;cases hp:aQ l i x with
   | true=>rfl
   | false=>rw[Gt hp] at h;cases h
 rw[Gs he] at h;exact absurd h he
theorem V1(e i:Int)(x:ByteArray):i<=bQ l e i x:=by unfold bQ;split<;>omega
end
section
variable (s:ByteArray) (l:List Tok)
noncomputable def Jf(n:Nat):bX:=(61,jd 2 s l [true] (Y7 s l n))::Fa s l n
variable {s l} in
theorem DN(hK:gA l){n:Nat}(h:yX s l n):bg Tryz.prog (Jf s l n):=ai (fM (by kernel_rfl) (bsR_is s l hK n h)) (MA hK h)
abbrev lvL:List (List Nat×List Nat):=[([0,1,0,1,0,1,0,1,1],[0,1,4,5]),([0,0,1,0,1,1,1,1,1,1,1,1,1,1,1,0,1,0,1,1],[0,4,13])]
noncomputable def V2(n:Nat):aZ:=ct Tryz.prog (Jf s l n) Tryz.f28 2 lvL [] []
theorem MB(hK:gA l)(n:Nat)(h:yX s l n)(lv:Int)(hlv:lv=1∨lv=2∨lv=5∨lv=6)(ns:List ByteArray)(R:RR Ex):∀(k:Nat)(x:Ex)(i e a:Int),Ir s l (dM s l n) lv k x i e a=R->dx l i->(e=0->(l.length:Int)-i<k/\12*((l.length:Int)-i)<n)->0<k->
 ax (V2 s l n) (aG (.p (exV R.v)) (rO s l R.i R.e R.a ns)) [0,1,0,1,0,1,0,1,1] (fr [(0,pA),(1,.p (.c (.int .i64 lv))),(4,.p (.c (.ptr 2 0))),(5,.p (.c (.ptr 3 0)))]) (.ofList [PA s l i e a ns.length,iY ns,UX,Oz x])
 | 0,x,i,e,a,he,hi,hk,hn=>by omega
 | k + 1, x, i, e, a, he, hi, hk, hn => by
   refine bD (DN hK h) (by kernel_rfl) 300 ?_;apply of_eq (q:=let q0:=IntKind.i64.wrap;let q1:=(dM s l n (q0 (lv+1)) (oI l e i lv) e a);(cx s l s (ar l) ns.length ns i/\True)/\(decide (oT l e i lv=ByteArray.mk #[])=true->aq [V.agg [wI x.k,wI x.n,W.str x.t,W.rs (4:Nat) (Ex.ah x.l)]]=A.p (exV R.v)/\[Ob.mk 51 [Fd.c (W.str s),Fd.c (W.rs (4:Nat) (ar l)),fI (oI l e i lv),fI e,fI a,fS 1 0 ns.length],Ob.mk 9 [Fd.a 0 D.str ns]]=rO s l R.i R.e R.a ns)/\(decide (oT l e i lv=ByteArray.mk #[])=false->(cx s l s (ar l) ns.length ns (oI l e i lv)/\(0:Nat)<n/\(1:Int)<=q0 (lv+1)/\q0 (lv+1)<=10/\(e=0->ez l n (q0 (lv+1)) (oI l e i lv)))/\ax (V2 s l n) (aG (A.p (exV R.v)) (rO s l R.i R.e R.a ns)) [0,1,0,1,0,1,0,1,1] (fr [(0,aR 0 0),(1,nI lv),(4,aR 2 0),(5,aR 3 0)]) (af.ofList [Ob.mk 51 [Fd.c (W.str s),Fd.c (W.rs (4:Nat) (ar l)),fI q1.i,fI q1.e,fI q1.a,fS 1 0 ns.length],Ob.mk 9 [Fd.a 0 D.str ns],Ob.mk 32 [fI (0),fI (0),Fd.c (W.str eS),Fd.c (W.rs (4:Nat) [])],Ob.mk 32 [fI (9),fI (0),Fd.c (W.str (oT l e i lv)),Fd.c (W.rs (4:Nat) [PV.int x.k,PV.int x.n,PV.str x.t,PV.aH (4:Nat) (Ex.ah x.l),PV.int q1.v.k,PV.int q1.v.n,PV.str q1.v.t,PV.aH (4:Nat) (Ex.ah q1.v.l)])]]))) (by kernel_rfl)
   try simp only[sL]
   rw[Dv];unfold Ir at he;have h0:=hi.1;have h9:=hi.2.2;cases ho:nC l e i lv with
   | false =>
     rw[ho] at he;subst he;rw[oI_f ho];exact⟨rin hi,fun _=>⟨rfl,rfl⟩,fun h=>absurd (oT_f ho) h⟩
   | true =>
     rw[ho] at he;obtain⟨e0,hlt⟩:=E5 ho;obtain⟨k1,k2⟩:=hk e0;have u1:dx l (i+1):=⟨by omega,by omega,h9⟩;obtain⟨a1,a2,a3⟩:=qt (s:=s) hK n (lv:=lv+1) (e:=e) a (by omega) (by omega) u1;rw[oI_t ho,Y8 ho,wrap64 (n:=lv+1) (by omega) (by omega)];refine⟨rin hi,fun h=>absurd ((Y8 ho).trans h) (oT_ne ho),fun _=>⟨⟨rin u1,by omega,by omega,by omega,fun _=>⟨by omega,by omega,by omega⟩⟩,?_⟩⟩;exact MB hK n h lv hlv ns R k _ _ _ _ he a2 (fun h=>by have:=(a3 h).2;omega) (by omega)
theorem MC(hK:gA l)(n:Nat)(h:yX s l n)(ns:List ByteArray)(R:RR Ex):∀(k:Nat)(x:Ex)(i e a:Int),E6 s l (dM s l n) k x i e a=R->dx l i->(e=0->(l.length:Int)-i<k/\12*((l.length:Int)-i)<n)->0<k->
 ax (V2 s l n) (aG (.p (exV R.v)) (rO s l R.i R.e R.a ns)) [0,0,1,0,1,1,1,1,1,1,1,1,1,1,1,0,1,0,1,1] (fr [(0,pA),(4,.p (.c (.ptr 2 0))),(13,.p (.c (.ptr 3 0)))]) (.ofList [PA s l i e a ns.length,iY ns,UX,Oz x])
 | 0,x,i,e,a,he,hi,hk,hn=>by omega
 | k + 1, x, i, e, a, he, hi, hk, hn => by
   refine bD (DN hK h) (by kernel_rfl) 300 ?_;apply of_eq (q:=let q2:=(ByteArray.mk #[(91:UInt8)]);let q3:=(ByteArray.mk #[(93:UInt8)]);let q1:=(dM s l n (1:Int) (bQ l e i q2) e a);(cx s l s (ar l) ns.length ns i/\True)/\(bZ l e i q2=true->(cx s l s (ar l) ns.length ns (bQ l e i q2)/\(0:Nat)<n/\(1:Int)<=1/\(1:Int)<=10/\(e=0->ez l n (1:Int) (bQ l e i q2)))/\(cx s l s (ar l) ns.length ns q1.i/\True)/\ax (V2 s l n) (aG (A.p (exV R.v)) (rO s l R.i R.e R.a ns)) [0,0,1,0,1,1,1,1,1,1,1,1,1,1,1,0,1,0,1,1] (fr [(0,aR 0 0),(4,aR 2 0),(13,aR 3 0)]) (af.ofList [Ob.mk 51 [Fd.c (W.str s),Fd.c (W.rs (4:Nat) (ar l)),fI (bQ l q1.e q1.i q3),fI (mE l q1.e q1.i q3),fI (mA s l q1.e q1.a q1.i q3),fS 1 0 ns.length],Ob.mk 9 [Fd.a 0 D.str ns],Ob.mk 32 [fI (0),fI (0),Fd.c (W.str eS),Fd.c (W.rs (4:Nat) [])],Ob.mk 32 [fI (7),fI (0),Fd.c (W.str (ByteArray.mk #[])),Fd.c (W.rs (4:Nat) [PV.int x.k,PV.int x.n,PV.str x.t,PV.aH (4:Nat) (Ex.ah x.l),PV.int q1.v.k,PV.int q1.v.n,PV.str q1.v.t,PV.aH (4:Nat) (Ex.ah q1.v.l)])]]))/\(bZ l e i q2=false->aq [V.agg [wI x.k,wI x.n,W.str x.t,W.rs (4:Nat) (Ex.ah x.l)]]=A.p (exV R.v)/\[Ob.mk 51 [Fd.c (W.str s),Fd.c (W.rs (4:Nat) (ar l)),fI (bQ l e i q2),fI e,fI a,fS 1 0 ns.length],Ob.mk 9 [Fd.a 0 D.str ns]]=rO s l R.i R.e R.a ns)) (by kernel_rfl)
   try simp only[sL]
   rw[Dv];unfold E6 at he;have h0:=hi.1;have h9:=hi.2.2;cases ho:bZ l e i pF with
   | false =>
     rw[ho] at he;subst he;rw[iJ ho];exact⟨rin hi,fun h=>(by cases h),fun _=>⟨rfl,rfl⟩⟩
   | true =>
     rw[ho] at he;obtain⟨e0,hlt⟩:=jf ho;obtain⟨k1,k2⟩:=hk e0;have u1:dx l (i+1):=⟨by omega,by omega,h9⟩;obtain⟨a1,a2,a3⟩:=qt (s:=s) hK n (lv:=1) (e:=e) a (by omega) (by omega) u1;rw[je ho];refine⟨rin hi,fun _=>⟨⟨rin u1,by omega,by omega,fun _=>⟨by omega,by omega,by omega⟩⟩,rin a2,?_⟩,fun h=>(by cases h)⟩;exact MC hK n h ns R k _ _ _ _ he (t6 _ a2) (fun h=>by have h1:=(mE_0 h).1;have:=(a3 h1).2;have:=V1 (l:=l) (dM s l n 1 (i+1) e a).e (dM s l n 1 (i+1) e a).i mR;omega) (by omega)
theorem lv_step(hK:gA l)(n:Nat)(h:yX s l n):yX s l (n+1):=by
 intro aN i e a ns p hp hi hc;unfold V0 at hp;split at hp;rename_i lv;cases hp;obtain⟨_,l1,l2,hc⟩:0<n+1/\1<=lv/\lv<=10/\(e=0->ez l (n+1) lv i):=hc;refine ew (aK:=lvL) (eu:=[]) (fz:=[]) (DN hK h) Tryz.func28 (by kernel_rfl) 2 (by kernel_rfl) 900 ?_;apply of_eq (q:=let q0:=IntKind.i64.wrap;let q2:=(dM s l (n+1) lv i e a);let q4:=(dM s l n (5:Int) i e a);let q5:=(dM s l n (9:Int) i e a);let aY:=(dM s l n (q0 (lv+1)) i e a);let bt:=Ob.mk 9 [Fd.a 0 D.str ns];let cu:=(ByteArray.mk #[(110:UInt8),(111:UInt8),(116:UInt8)]);let cB:=(ByteArray.mk #[(94:UInt8)]);let cG:=(dM s l n (10:Int) i e a);let dD:=(yV s l (dM s l n) i e a);let bF:=fS 1 0 ns.length;let cQ:=(0:Nat)<n+1;let cg:=(exV q2.v);let eH:=Fd.c (W.str s);let cN:=(4:Nat);let dG:=(ar l);let d9:=(0:Nat)<n;let dH:=(ByteArray.mk #[(45:UInt8)]);let dN:=Ob.mk 32 [fI (0),fI (0),Fd.c (W.str (ByteArray.mk #[])),Fd.c (W.rs cN [])];let eC:=(oI l q4.e q4.i (4:Int));let eO:=(bQ l q5.e q5.i cB);let ep:=(1:Int);let q3:=(bQ l e i cu);let q6:=(bQ l e i dH);let q7:=ep<=lv/\lv<=10/\(e=0->ez l (n+1) lv i);let q8:=(dM s l n (7:Int) eO q5.e q5.a);let q9:=d9/\ep<=q0 (lv+1)/\q0 (lv+1)<=10/\(e=0->ez l n (q0 (lv+1)) i);let aT:=(dM s l n (5:Int) eC q4.e q4.a);let aI:=Fd.c (W.rs cN dG);let cF:=(dM s l n (3:Int) q3 e a);let bw:=(dM s l n (4:Int) q3 e a);let cn:=(dM s l n (7:Int) q6 e a);let cL:=(dM s l n (8:Int) q6 e a);let q1:=ax (ct Tryz.prog (Jf s l n) Tryz.f28 (2:Nat) lvL [] []) (aG (iz.mk (cQ/\q7) (A.p cg) q2.i q2.e q2.a ns).r (rO s l (iz.mk (cQ/\q7) (A.p cg) q2.i q2.e q2.a ns).i (iz.mk (cQ/\q7) (A.p cg) q2.i q2.e q2.a ns).e (iz.mk (cQ/\q7) (A.p cg) q2.i q2.e q2.a ns).a (iz.mk (cQ/\q7) (A.p cg) q2.i q2.e q2.a ns).ns)) [0,1,0,1,0,1,0,1,1] (fr [(0,aR 0 0),(1,nI lv),(4,aR 2 0),(5,aR 3 0)]) (af.ofList [Ob.mk 51 [eH,aI,fI aY.i,fI aY.e,fI aY.a,bF],bt,dN,Ob.mk 32 [fI aY.v.k,fI aY.v.n,Fd.c (W.str aY.v.t),Fd.c (W.rs cN (Ex.ah aY.v.l))]]);((!decide (e=0))=true->aq [V.agg [wI (0),wI (0),W.str (ByteArray.mk #[]),W.rs cN []]]=A.p cg/\[Ob.mk 51 [eH,aI,fI i,fI e,fI a,bF],bt]=rO s l q2.i q2.e q2.a ns)/\((!decide (e=0))=false->(decide (lv=1)=true->(cx s l s dG ns.length ns i/\q9)/\q1)/\(decide (lv=1)=false->(decide (lv=2)=true->(cx s l s dG ns.length ns i/\q9)/\q1)/\(decide (lv=2)=false->(decide (lv=5)=true->(cx s l s dG ns.length ns i/\q9)/\q1)/\(decide (lv=5)=false->(decide (lv=6)=true->(cx s l s dG ns.length ns i/\q9)/\q1)/\(decide (lv=6)=false->(decide (lv=3)=true->(cx s l s dG ns.length ns i/\True)/\(bZ l e i cu=true->(cx s l s dG ns.length ns q3/\d9/\ep<=3/\(3:Int)<=10/\(e=0->ez l n (3:Int) q3))/\aq [V.agg [wI (8),wI (0),W.str cu,W.rs cN [PV.int cF.v.k,PV.int cF.v.n,PV.str cF.v.t,PV.aH cN (Ex.ah cF.v.l)]]]=A.p cg/\[Ob.mk 51 [eH,aI,fI cF.i,fI cF.e,fI cF.a,bF],bt]=rO s l q2.i q2.e q2.a ns)/\(bZ l e i cu=false->(cx s l s dG ns.length ns q3/\d9/\ep<=4/\(4:Int)<=10/\(e=0->ez l n (4:Int) q3))/\aq [V.agg [wI bw.v.k,wI bw.v.n,W.str bw.v.t,W.rs cN (Ex.ah bw.v.l)]]=A.p cg/\[Ob.mk 51 [eH,aI,fI bw.i,fI bw.e,fI bw.a,bF],bt]=rO s l q2.i q2.e q2.a ns))/\(decide (lv=3)=false->(decide (lv=4)=true->(cx s l s dG ns.length ns i/\d9/\ep<=5/\(5:Int)<=10/\(e=0->ez l n (5:Int) i))/\(cx s l s dG ns.length ns q4.i/\True)/\(decide (oT l q4.e q4.i (4:Int)=ByteArray.mk #[])=true->aq [V.agg [wI q4.v.k,wI q4.v.n,W.str q4.v.t,W.rs cN (Ex.ah q4.v.l)]]=A.p cg/\[Ob.mk 51 [eH,aI,fI eC,fI q4.e,fI q4.a,bF],bt]=rO s l q2.i q2.e q2.a ns)/\(decide (oT l q4.e q4.i (4:Int)=ByteArray.mk #[])=false->(cx s l s dG ns.length ns eC/\d9/\ep<=5/\(5:Int)<=10/\(q4.e=0->ez l n (5:Int) eC))/\aq [V.agg [wI (9),wI (0),W.str (oT l q4.e q4.i (4:Int)),W.rs cN [PV.int q4.v.k,PV.int q4.v.n,PV.str q4.v.t,PV.aH cN (Ex.ah q4.v.l),PV.int aT.v.k,PV.int aT.v.n,PV.str aT.v.t,PV.aH cN (Ex.ah aT.v.l)]]]=A.p cg/\[Ob.mk 51 [eH,aI,fI aT.i,fI aT.e,fI aT.a,bF],bt]=rO s l q2.i q2.e q2.a ns))/\(decide (lv=4)=false->(decide (lv=7)=true->(cx s l s dG ns.length ns i/\True)/\(bZ l e i dH=true->(cx s l s dG ns.length ns q6/\d9/\ep<=7/\(7:Int)<=10/\(e=0->ez l n (7:Int) q6))/\aq [V.agg [wI (8),wI (0),W.str dH,W.rs cN [PV.int cn.v.k,PV.int cn.v.n,PV.str cn.v.t,PV.aH cN (Ex.ah cn.v.l)]]]=A.p cg/\[Ob.mk 51 [eH,aI,fI cn.i,fI cn.e,fI cn.a,bF],bt]=rO s l q2.i q2.e q2.a ns)/\(bZ l e i dH=false->(cx s l s dG ns.length ns q6/\d9/\ep<=8/\(8:Int)<=10/\(e=0->ez l n (8:Int) q6))/\aq [V.agg [wI cL.v.k,wI cL.v.n,W.str cL.v.t,W.rs cN (Ex.ah cL.v.l)]]=A.p cg/\[Ob.mk 51 [eH,aI,fI cL.i,fI cL.e,fI cL.a,bF],bt]=rO s l q2.i q2.e q2.a ns))/\(decide (lv=7)=false->(decide (lv=8)=true->(cx s l s dG ns.length ns i/\d9/\ep<=9/\(9:Int)<=10/\(e=0->ez l n (9:Int) i))/\(cx s l s dG ns.length ns q5.i/\True)/\((!bZ l q5.e q5.i cB)=true->aq [V.agg [wI q5.v.k,wI q5.v.n,W.str q5.v.t,W.rs cN (Ex.ah q5.v.l)]]=A.p cg/\[Ob.mk 51 [eH,aI,fI eO,fI q5.e,fI q5.a,bF],bt]=rO s l q2.i q2.e q2.a ns)/\((!bZ l q5.e q5.i cB)=false->(cx s l s dG ns.length ns eO/\d9/\ep<=7/\(7:Int)<=10/\(q5.e=0->ez l n (7:Int) eO))/\aq [V.agg [wI (9),wI (0),W.str cB,W.rs cN [PV.int q5.v.k,PV.int q5.v.n,PV.str q5.v.t,PV.aH cN (Ex.ah q5.v.l),PV.int q8.v.k,PV.int q8.v.n,PV.str q8.v.t,PV.aH cN (Ex.ah q8.v.l)]]]=A.p cg/\[Ob.mk 51 [eH,aI,fI q8.i,fI q8.e,fI q8.a,bF],bt]=rO s l q2.i q2.e q2.a ns))/\(decide (lv=8)=false->(decide (lv=9)=true->(cx s l s dG ns.length ns i/\d9/\ep<=10/\(10:Int)<=10/\(e=0->ez l n (10:Int) i))/\ax (ct Tryz.prog (Jf s l n) Tryz.f28 (2:Nat) lvL [] []) (aG (iz.mk (cQ/\q7) (A.p cg) q2.i q2.e q2.a ns).r (rO s l (iz.mk (cQ/\q7) (A.p cg) q2.i q2.e q2.a ns).i (iz.mk (cQ/\q7) (A.p cg) q2.i q2.e q2.a ns).e (iz.mk (cQ/\q7) (A.p cg) q2.i q2.e q2.a ns).a (iz.mk (cQ/\q7) (A.p cg) q2.i q2.e q2.a ns).ns)) [0,0,1,0,1,1,1,1,1,1,1,1,1,1,1,0,1,0,1,1] (fr [(0,aR 0 0),(4,aR 2 0),(13,aR 3 0)]) (af.ofList [Ob.mk 51 [eH,aI,fI cG.i,fI cG.e,fI cG.a,bF],bt,dN,Ob.mk 32 [fI cG.v.k,fI cG.v.n,Fd.c (W.str cG.v.t),Fd.c (W.rs cN (Ex.ah cG.v.l))]]))/\(decide (lv=9)=false->(cx s l s dG ns.length ns i/\e=0/\(12:Int)*((l.length:Int)-i)<(n:Int))/\aq [V.agg [wI dD.v.k,wI dD.v.n,W.str dD.v.t,W.rs cN (Ex.ah dD.v.l)]]=A.p cg/\[Ob.mk 51 [eH,aI,fI dD.i,fI dD.e,fI dD.a,bF],bt]=rO s l q2.i q2.e q2.a ns))))))))))) (by kernel_rfl)
 try simp only[sL]
 generalize hR:dM s l (n+1) lv i e a=R;refine⟨fun he=>?_,fun he=>?_⟩;have hR:(bif decide (e=0) then DL s l (dM s l n) lv i e a else ⟨gI,i,e,a⟩)=R:=hR;rw[decide_eq_false he] at hR;subst hR;exact⟨by rw[cond_false,tU];rfl,rfl⟩;have hR:(bif decide (e=0) then DL s l (dM s l n) lv i e a else ⟨gI,i,e,a⟩)=R:=hR;rw[decide_eq_true he] at hR;have hR:DL s l (dM s l n) lv i e a=R:=hR;unfold DL at hR;obtain⟨_,_,x3⟩:=hc he;have h0:=hi.1;have h9:=hi.2.2;have hb:=hi.2.1;have xk:∀ Fb,lv<Fb->Fb<=10->ez l n Fb i:=fun Fb a b=>⟨by omega,b,by omega⟩;have xn:∀ Fb j,i<j->1<=Fb->Fb<=10->ez l n Fb j:=fun Fb j a b c=>⟨b,c,by omega⟩;have up:∀{j:Int},0<=j->j<l.length->dx l (j+1):=fun h h'=>⟨by omega,by omega,h9⟩
 have V3:lv=1∨lv=2∨lv=5∨lv=6->(cx s l s (ar l) ns.length ns i/\0<n/\1<=IntKind.i64.wrap (lv+1)/\IntKind.i64.wrap (lv+1)<=10/\(e=0->ez l n (IntKind.i64.wrap (lv+1)) i))/\
  ax (V2 s l n) (aG (.p (exV R.v)) (rO s l R.i R.e R.a ns)) [0,1,0,1,0,1,0,1,1] (fr [(0,pA),(1,.p (.c (.int .i64 lv))),(4,.p (.c (.ptr 2 0))),(5,.p (.c (.ptr 3 0)))]) (.ofList [PA s l (dM s l n (IntKind.i64.wrap (lv+1)) i e a).i (dM s l n (IntKind.i64.wrap (lv+1)) i e a).e (dM s l n (IntKind.i64.wrap (lv+1)) i e a).a ns.length,iY ns,UX,Oz (dM s l n (IntKind.i64.wrap (lv+1)) i e a).v]):=by
  intro hv;rw[wrap64 (n:=lv+1) (by omega) (by omega)];obtain⟨a1,a2,a3⟩:=qt (s:=s) hK n (lv:=lv+1) (e:=e) a (by omega) (by omega) hi;rw[decide_eq_false (p:=lv=3) (by omega),decide_eq_false (p:=lv=7) (by omega),decide_eq_false (p:=lv=8) (by omega),decide_eq_false (p:=lv=9) (by omega),decide_eq_false (p:=lv=10) (by omega),decide_eq_false (p:=lv=4) (by omega)] at hR;exact⟨⟨rin hi,by omega,by omega,by omega,fun _=>xk _ (by omega) (by omega)⟩,MB s l hK n h lv hv ns R _ _ _ _ _ hR a2 (fun h=>by have:=(a3 h).2;have:=a2.2.1;omega) (by omega)⟩
 refine⟨fun v=>V3 (.inl v),fun v1=>⟨fun v=>V3 (.inr (.inl v)),fun v2=>⟨fun v=>V3 (.inr (.inr (.inl v))),fun v5=>⟨fun v=>V3 (.inr (.inr (.inr v))),fun v6=>?_⟩⟩⟩⟩;clear V3;refine⟨fun v=>?_,fun v3=>⟨fun v=>?_,fun v4=>⟨fun v=>?_,fun v7=>⟨fun v=>?_,fun v8=>⟨fun v=>?_,fun v9=>?_⟩⟩⟩⟩⟩
 . subst v;have hR:Iu l (dM s l n) AK 3 i e a=R:=hR;unfold Iu at hR;cases ht:bZ l e i AK with
   | true =>
     rw[ht] at hR;subst hR;rw[RD];have u1:=up h0 (jf ht).2;rw[je ht];exact⟨rin hi,fun _=>⟨⟨rin u1,by omega,by omega,by omega,fun _=>xn _ _ (by omega) (by omega) (by omega)⟩,rfl,rfl⟩,fun h=>(by cases h)⟩
   | false =>
     rw[ht] at hR;subst hR;rw[iJ ht];exact⟨rin hi,fun h=>(by cases h),fun _=>⟨⟨rin hi,by omega,by omega,by omega,fun _=>xk _ (by omega) (by omega)⟩,rfl,rfl⟩⟩
 . subst v;have hR:VT l (dM s l n) (dM s l n 5 i e a)=R:=hR;unfold VT at hR;obtain⟨a1,a2,a3⟩:=qt (s:=s) hK n (lv:=5) (e:=e) a (by omega) (by omega) hi;refine⟨⟨rin hi,by omega,by omega,by omega,fun _=>xk _ (by omega) (by omega)⟩,rin a2,?_⟩;cases ho:nC l (dM s l n 5 i e a).e (dM s l n 5 i e a).i 4 with
   | true =>
     rw[ho] at hR;subst hR;obtain⟨e0,hlt⟩:=E5 ho;have:=(a3 e0).2;rw[oI_t ho];refine⟨fun h=>absurd h (oT_ne ho),fun _=>⟨⟨rin (up a2.1 hlt),by omega,by omega,by omega,fun _=>xn _ _ (by omega) (by omega) (by omega)⟩,?_⟩⟩;rw[Dv,Y8 ho];exact⟨rfl,rfl⟩
   | false =>
     rw[ho] at hR;subst hR;rw[oI_f ho];exact⟨fun _=>⟨rfl,rfl⟩,fun h=>absurd (oT_f ho) h⟩
 . subst v;have hR:Iu l (dM s l n) vK 7 i e a=R:=hR;unfold Iu at hR;cases ht:bZ l e i vK with
   | true =>
     rw[ht] at hR;subst hR;rw[RD];have u1:=up h0 (jf ht).2;rw[je ht];exact⟨rin hi,fun _=>⟨⟨rin u1,by omega,by omega,by omega,fun _=>xn _ _ (by omega) (by omega) (by omega)⟩,rfl,rfl⟩,fun h=>(by cases h)⟩
   | false =>
     rw[ht] at hR;subst hR;rw[iJ ht];exact⟨rin hi,fun h=>(by cases h),fun _=>⟨⟨rin hi,by omega,by omega,by omega,fun _=>xk _ (by omega) (by omega)⟩,rfl,rfl⟩⟩
 . subst v;have hR:VU l (dM s l n) (dM s l n 9 i e a)=R:=hR;unfold VU at hR;obtain⟨a1,a2,a3⟩:=qt (s:=s) hK n (lv:=9) (e:=e) a (by omega) (by omega) hi;refine⟨⟨rin hi,by omega,by omega,by omega,fun _=>xk _ (by omega) (by omega)⟩,rin a2,?_⟩;cases ho:bZ l (dM s l n 9 i e a).e (dM s l n 9 i e a).i ⟨#[94]⟩ with
   | true =>
     rw[ho] at hR;subst hR;obtain⟨e0,hlt⟩:=jf ho;have:=(a3 e0).2;rw[je ho];refine⟨fun h=>(by cases h),fun _=>⟨⟨rin (up a2.1 hlt),by omega,by omega,by omega,fun _=>xn _ _ (by omega) (by omega) (by omega)⟩,?_⟩⟩;rw[Dv];exact⟨rfl,rfl⟩
   | false =>
     rw[ho] at hR;subst hR;rw[iJ ho];exact⟨fun _=>⟨rfl,rfl⟩,fun h=>(by cases h)⟩
 subst v;have hR:E6 s l (dM s l n) (l.length+1) (dM s l n 10 i e a).v (dM s l n 10 i e a).i (dM s l n 10 i e a).e (dM s l n 10 i e a).a=R:=hR;obtain⟨a1,a2,a3⟩:=qt (s:=s) hK n (lv:=10) (e:=e) a (by omega) (by omega) hi;refine⟨⟨rin hi,by omega,by omega,fun _=>xk _ (by omega) (by omega)⟩,?_⟩;exact MC s l hK n h ns R _ _ _ _ _ hR a2 (fun h=>by have:=(a3 h).2;have:=a2.2.1;omega) (by omega);have v:lv=10:=by omega
 subst v;have hR:yV s l (dM s l n) i e a=R:=hR;subst hR;exact⟨⟨rin hi,he,by omega⟩,rfl,rfl⟩;cases hp
theorem lv_zero:yX s l 0:=by
 intro aN i e a ns p hp hi hc;unfold V0 at hp;split at hp;cases hp;exact absurd hc.1 (Nat.lt_irrefl 0);cases hp
theorem MD(hK:gA l):∀ n,yX s l n
 | 0=>lv_zero s l
 | n+1=>lv_step s l hK n (MD hK n)
end
end Go.Proofs.YtaplgnhojknpiaaGreatDoor
namespace Go.Proofs.YtaplgnhojknpiaaGreatDoor
open Go.aU
set_option maxRecDepth 100000
abbrev pL:=Int->Int->Int->RR (List St)
section
variable (s:ByteArray) (l:List Tok)
def fY(i e a:Int):RR Ex:=dM s l (12*l.length+12) 1 i e a
def iT(i:Int):Int:=if i<l.length then f9 s l i else 0
def kr{α:Type}(x:ByteArray)(q:RR α):RR α:=⟨q.v,bQ l q.e q.i x,mE l q.e q.i x,mA s l q.e q.a q.i x⟩
def gV(i e a:Int):RR ByteArray:=⟨nT l e i,cA l e i,nE l e i,nA s l e a i⟩
def rU{α:Type}(q:RR α):RR Ex:=fY s l q.i q.e q.a
def Bf(k line:Int)(name:ByteArray)(q:RR Ex):RR St:=⟨.mk k line name [] q.v [] [],q.i,q.e,q.a⟩
def ME(k line:Int)(name:ByteArray)(x:Ex)(b:RR (List St)):RR St:=⟨.mk k line name [] x b.v [],b.i,b.e,b.a⟩
def MF(bl:pL)(line:Int)(x:Ex)(b:RR (List St)):RR St :=
 bif bZ l b.e b.i AR then ⟨.mk 3 line eS [] x b.v (bl (b.i+1) b.e b.a).v,(bl (b.i+1) b.e b.a).i,(bl (b.i+1) b.e b.a).e,(bl (b.i+1) b.e b.a).a⟩
 else ⟨.mk 3 line eS [] x b.v [],b.i,b.e,b.a⟩
def mV{α:Type}(bl:pL)(q:RR α):RR (List St):=bl q.i q.e q.a
def mr(bl:pL)(ins:Bool)(i e a:Int):RR St :=
 bif bZ l e i AQ then Bf 2 (iT s l i) eS (kr s l ou (fY s l (i+1) e a))
 else bif bZ l e i H8 then MF l bl (iT s l i) (fY s l (i+1) e a).v (mV bl (fY s l (i+1) e a))
 else bif bZ l e i AU then ME 4 (iT s l i) eS (fY s l (i+1) e a).v (mV bl (fY s l (i+1) e a))
 else bif bZ l e i AV then ME 5 (iT s l i) (nT l e (i+1)) (rU s l (kr s l CO (gV s l (i+1) e a))).v (mV bl (rU s l (kr s l CO (gV s l (i+1) e a))))
 else bif ins&&bZ l e i yg then Bf 6 (iT s l i) eS (kr s l ou (fY s l (i+1) e a))
 else Bf 1 (iT s l i) (nT l e i) (kr s l ou (rU s l (kr s l pG (gV s l i e a))))
def sw(st:Int->Int->Int->RR St):Nat->List St->Int->Int->Int->RR (List St)
 | 0,acc,i,e,a=>nS s l acc i e a
 | k+1,acc,i,e,a=>bif decide (e=0) then(bif bZ l e i Lu then ⟨acc,i+1,e,a⟩ else sw st k (acc++[(st i e a).v]) (st i e a).i (st i e a).e (st i e a).a) else ⟨acc,i,e,a⟩
def blR(st:Int->Int->Int->RR St):pL:=fun i e a=>sw s l st (l.length+1) [] (bQ l e i AW) (mE l e i AW) (mA s l e a i AW)
def gE(ins:Bool):Nat->pL
 | 0=>fun i e a=>nS s l [] i e a
 | n+1=>blR s l (mr s l (gE ins n) ins)
end
structure MG(l:List Tok)(bl:mS)(br:pL):Prop where
 eq:∀ i a:Int,0<=i->i<=l.length->iK l (bl i) (br i 0 a) i a
 st:∀ i e a:Int,e≠0->br i e a=⟨[],i,e,a⟩
section
variable {s:ByteArray} {l:List Tok}
theorem B0(hK:gA l){i:Int}(a:Int)(h0:0<=i)(h1:i<=l.length):iK l (EX s l 1 i) (fY s l i 0 a) i a:=(Jc hK _).eq 1 i a (by omega) (by omega) h0 h1
theorem Fe(hK:gA l)(i:Int){e:Int}(a:Int)(h:e≠0):fY s l i e a=⟨gI,i,e,a⟩:=(Jc hK _).st 1 i e a h
theorem sW{α:Type}{x:ByteArray}{q:RR α}(h:q.e≠0):kr s l x q=q:=by
 unfold kr;rw[E7 h,Gs h,Mt h]
theorem qu(i:Int):t7 l 0 i=fk l i:=by unfold t7;rw[decide_eq_true rfl,Bool.true_and]
theorem Jg{i a:Int}(h:fk l i=true):gV s l i 0 a=⟨(aM l i).text,i+1,0,a⟩:=by
 unfold gV nT cA nE nA;rw[if_pos (by rw[qu];exact h),if_pos (by rw[qu];exact h),if_pos (by rw[qu];exact h),if_pos (by rw[qu];exact h)]
theorem Jh{i a:Int}(h:fk l i=false):gV s l i 0 a=⟨eS,i,11,cV s l i⟩:=by
 unfold gV nT cA nE nA;rw[if_neg (by rw[qu,h];simp),if_neg (by rw[qu,h];simp),if_neg (by rw[qu,h];simp),if_neg (by rw[qu,h];simp)];rfl
theorem Ff{α:Type}{x:ByteArray}{v:α}{i a:Int}(h:aQ l i x=true):kr s l x ⟨v,i,0,a⟩=⟨v,i+1,0,a⟩:=by
 unfold kr;rw[Gu h,Mu h,Mv h]
theorem Fg{α:Type}{x:ByteArray}{v:α}{i a:Int}(h:aQ l i x=false):kr s l x ⟨v,i,0,a⟩=⟨v,i,11,cV s l i⟩:=by
 unfold kr;rw[Mx h,Gt h,Mw h]
theorem R8(hK:gA l){i:Int}(a:Int)(h0:0<=i)(h1:i<=l.length):iK l (fD s l i) (kr s l ou (fY s l i 0 a)) i a:=by
 have h:=B0 (s:=s) hK a h0 h1;unfold fD;cases hd:(EX s l 1 i).die with
 | true =>
   rw[sW (h.no hd).2.2];exact h
 | false =>
   obtain⟨b1,b2⟩:=tP 1 i hd h0;rw[h.ok hd];simp only[cond_false];cases hp:aQ l (EX s l 1 i).i ou with
   | true =>
     have:=bW hp;rw[Ff hp];exact ju (by omega) (by omega)
   | false=>rw[Fg hp];exact mU (by omega) b2
theorem R9{k line:Int}{name:ByteArray}{R:XR Ex}{Q:RR Ex}{i j a:Int}(h:iK l R Q j a)(hi:i<=j)(q:XR St)(hq:q=bif R.die then R.to pX else gD (.mk k line name [] R.v [] []) R.i):iK l q (Bf k line name Q) i a:=by
 subst hq;cases hd:R.die with
 | true=>exact h.dies hd rfl rfl rfl rfl rfl (by have:=h.lo;show i<=Q.i;omega) h.hi
 | false =>
   have h2:=h.lo;have h3:=h.hi;rw[h.ok hd] at h2 h3 ⊢;exact ju (by have h2:j<=R.i:=h2;omega) h3
theorem wh_eq{bl:mS}{br:pL}(H:MG l bl br){k line:Int}{name:ByteArray}{R:XR Ex}{Q:RR Ex}{i j a:Int}(h:iK l R Q j a)(h0:0<=j)(hi:i<=j):iK l (tO bl k line name R) (ME k line name Q.v (mV br Q)) i a:=by
 have h2:=h.lo;have h3:=h.hi;unfold tO mV;cases hd:R.die with
 | true =>
   rw[H.st _ _ _ (h.no hd).2.2];exact h.dies hd rfl rfl rfl rfl rfl (by show i<=Q.i;omega) h3
 | false =>
   rw[h.ok hd] at h2 h3 ⊢;have h2:j<=R.i:=h2;have h3:R.i<=l.length:=h3;have hb:=H.eq R.i a (by omega) h3;have h4:=hb.lo;simp only[cond_false];cases hd2:(bl R.i).die with
   | true=>exact hb.dies hd2 rfl rfl rfl rfl rfl (by show i<=(br _ _ _).i;omega) hb.hi
   | false =>
     have h5:=hb.hi;rw[hb.ok hd2] at h4 h5 ⊢;exact ju (by have h4:R.i<=(bl R.i).i:=h4;omega) h5
theorem if_eq{bl:mS}{br:pL}(H:MG l bl br){line:Int}{R:XR Ex}{Q:RR Ex}{i j a:Int}(h:iK l R Q j a)(h0:0<=j)(hi:i<=j):iK l (wQ l bl line R) (MF l br line Q.v (mV br Q)) i a:=by
 have h2:=h.lo;have h3:=h.hi;unfold wQ MF mV;cases hd:R.die with
 | true =>
   rw[H.st _ _ _ (h.no hd).2.2];rw[u7 (h.no hd).2.2];exact h.dies hd rfl rfl rfl rfl rfl (by show i<=Q.i;omega) h3
 | false =>
   rw[h.ok hd] at h2 h3 ⊢;have h2:j<=R.i:=h2;have h3:R.i<=l.length:=h3;have hb:=H.eq R.i a (by omega) h3;have h4:=hb.lo;simp only[cond_false];cases hd2:(bl R.i).die with
   | true =>
     rw[u7 (hb.no hd2).2.2];exact hb.dies hd2 rfl rfl rfl rfl rfl (by show i<=(br _ _ _).i;omega) hb.hi
   | false =>
     have h5:=hb.hi;rw[hb.ok hd2] at h4 h5 ⊢;have h4:R.i<=(bl R.i).i:=h4;have h5:(bl R.i).i<=l.length:=h5;simp only[cond_false,kx];cases he:aQ l (bl R.i).i AR with
     | false=>exact ju (by omega) h5
     | true =>
       have hlt:=bW he;have hc:=H.eq ((bl R.i).i+1) a (by omega) (by omega);have h6:=hc.lo;have h7:=hc.hi;simp only[cond_true];cases hd3:(bl ((bl R.i).i+1)).die with
       | true=>exact hc.dies hd3 rfl rfl rfl rfl rfl (by show i<=(br _ _ _).i;omega) h7
       | false =>
         rw[hc.ok hd3] at h6 h7 ⊢;exact ju (by have h6:(bl R.i).i+1<=(bl ((bl R.i).i+1)).i:=h6;omega) h7
theorem Sb(hK:gA l){bl:mS}{br:pL}(H:MG l bl br)(ins:Bool)(i a:Int)(h0:0<=i)(h1:i<=l.length):iK l (nu s l bl ins i) (mr s l br ins i 0 a) i a:=by
 unfold nu mr;simp only[kx];by_cases hl:(l.length:Int)<=i;have hn:fk l i=false:=by unfold fk;rw[decide_eq_false (by omega),Bool.false_and]
 rw[qq hl,qq hl,qq hl,qq hl,qq hl,hn,Bool.and_false,Jh hn];simp only[cond_false];rw[sW (by show (11:Int)≠0;decide)];unfold rU;rw[Fe hK _ _ (by show (11:Int)≠0;decide),sW (by show (11:Int)≠0;decide)];exact mU (Int.le_refl _) h1;have hL:iT s l i=f9 s l i:=if_pos (by omega);rw[hL];cases t1:aQ l i AQ with
 | true=>exact R9 (R8 hK a (by omega) (by have:=bW t1;omega)) (by omega) _ rfl
 | false =>
 cases t2:aQ l i H8 with
 | true=>exact if_eq H (B0 hK a (by omega) (by have:=bW t2;omega)) (by omega) (by omega)
 | false =>
 cases t3:aQ l i AU with
 | true=>exact wh_eq H (B0 hK a (by omega) (by have:=bW t3;omega)) (by omega) (by omega)
 | false =>
 cases t4:aQ l i AV with
 | true =>
   have hlt:=bW t4;simp only[cond_true,cond_false];cases hn:fk l (i+1) with
   | false =>
     rw[Jh hn,sW (by show (11:Int)≠0;decide)];unfold rU;rw[Fe hK _ _ (by show (11:Int)≠0;decide)];unfold mV;rw[H.st _ _ _ (by show (11:Int)≠0;decide)];exact mU (j':=i+1) (by omega) (by omega)
   | true =>
     have hlt2:=sU hn;rw[Jg hn];have ht:nT l 0 (i+1)=(aM l (i+1)).text:=by unfold nT;rw[if_pos (by rw[qu];exact hn)]
     rw[ht];simp only[cond_true];cases hp:aQ l (i+1+1) CO with
     | false =>
       rw[Fg hp];unfold rU;rw[Fe hK _ _ (by show (11:Int)≠0;decide)];unfold mV;rw[H.st _ _ _ (by show (11:Int)≠0;decide)];exact mU (j':=i+1+1) (by omega) (by omega)
     | true =>
       have hlt3:=bW hp;rw[Ff hp];exact wh_eq H (B0 hK a (by omega) (by omega)) (by omega) (by omega)
 | false =>
 cases t5:ins&&aQ l i yg with
 | true =>
   simp only[Bool.and_eq_true] at t5;exact R9 (R8 hK a (by omega) (by have:=bW t5.2;omega)) (by omega) _ rfl
 | false =>
 simp only[cond_false];cases hn:fk l i with
 | false =>
   rw[Jh hn,sW (by show (11:Int)≠0;decide)];unfold rU;rw[Fe hK _ _ (by show (11:Int)≠0;decide),sW (by show (11:Int)≠0;decide)];exact mU (j':=i) (by omega) (by omega)
 | true =>
   have hlt2:=sU hn;rw[Jg hn];have ht:nT l 0 i=(aM l i).text:=by unfold nT;rw[if_pos (by rw[qu];exact hn)]
   rw[ht];simp only[cond_true];cases hp:aQ l (i+1) pG with
   | false =>
     rw[Fg hp];unfold rU;rw[Fe hK _ _ (by show (11:Int)≠0;decide),sW (by show (11:Int)≠0;decide)];exact mU (j':=i+1) (by omega) (by omega)
   | true =>
     have hlt3:=bW hp;rw[Ff hp];exact R9 (R8 hK (i:=i+1+1) a (by omega) (by omega)) (by omega) _ rfl
theorem MH{st:Int->Int->Int->RR St}(k:Nat)(acc:List St)(i:Int){e:Int}(a:Int)(h:e≠0):sw s l st k acc i e a=⟨acc,i,e,a⟩:=by
 cases k with
 | zero=>exact qU h _ _ _
 | succ k=>unfold sw;rw[decide_eq_false h];rfl
theorem V4{st:Int->XR St}{sr:Int->Int->Int->RR St}(H:∀ i a:Int,0<=i->i<=l.length->iK l (st i) (sr i 0 a) i a):∀(k:Nat)(acc:List St)(i a:Int),0<=i->i<=l.length->iK l (uT s l st k acc i) (sw s l sr k acc i 0 a) i a
 | 0,acc,i,a,h0,h1=>nU (Int.le_refl _) h1
 | k + 1, acc, i, a, h0, h1 => by
   unfold uT sw;rw[decide_eq_true rfl,kx];simp only[cond_true];cases hp:aQ l i Lu with
   | true =>
     have:=bW hp;exact ju (by omega) (by omega)
   | false =>
     simp only[cond_false];have h:=H i a h0 h1;have h2:=h.lo;have h3:=h.hi;cases hd:(st i).die with
     | true =>
       rw[MH _ _ _ _ (h.no hd).2.2];exact h.dies hd rfl rfl rfl rfl rfl h2 h3
     | false =>
       rw[h.ok hd] at h2 h3 ⊢;have h2:i<=(st i).i:=h2;exact(V4 H k _ _ a (by omega) h3).mono h2
theorem bl_eq{st:Int->XR St}{sr:Int->Int->Int->RR St}(H:∀ i a:Int,0<=i->i<=l.length->iK l (st i) (sr i 0 a) i a):MG l (EL s l st) (blR s l sr):=by
 refine⟨fun i a h0 h1=>?_,fun i e a h=>?_⟩
 . unfold EL blR;cases hp:aQ l i AW with
   | true =>
     have:=bW hp;rw[Gu hp,Mu hp,Mv hp];exact(V4 H _ _ _ a (by omega) (by omega)).mono (by omega)
   | false =>
     rw[Mx hp,Gt hp,Mw hp,MH _ _ _ _ (by decide)];exact mU (Int.le_refl _) h1
 unfold blR;rw[E7 h,Gs h,Mt h,MH _ _ _ _ h]
theorem B6(hK:gA l)(ins:Bool):∀ n,MG l (jh s l ins n) (gE s l ins n)
 | 0=>⟨fun i a h0 h1=>nU (Int.le_refl _) h1,fun i e a h=>qU h _ _ _⟩
 | n+1=>bl_eq (fun i a h0 h1=>Sb hK (B6 hK ins n) ins i a h0 h1)
end
section
variable (s:ByteArray) (l:List Tok)
def iA(xs:List ByteArray)(q:RR ByteArray):RR ByteArray:=bif decide (q.e=0)&&dm xs q.v then ⟨q.v,q.i,kq q.e 8,lP s l q.e q.a (q.i-1)⟩ else q
def vf:Nat->List ByteArray->Int->Int->Int->RR (List ByteArray)
 | 0,acc,i,e,a=>nS s l acc i e a
 | k+1,acc,i,e,a=>bif decide (e=0) then
  (bif bZ l (iA s l acc (gV s l i e a)).e (iA s l acc (gV s l i e a)).i ic then vf k (acc++[nT l e i]) ((iA s l acc (gV s l i e a)).i+1) (iA s l acc (gV s l i e a)).e (iA s l acc (gV s l i e a)).a
   else kr s l fj ⟨acc++[nT l e i],(iA s l acc (gV s l i e a)).i,(iA s l acc (gV s l i e a)).e,(iA s l acc (gV s l i e a)).a⟩)
   else ⟨acc,i,e,a⟩
def Fh{α:Type}(q:RR α):RR (List ByteArray):=bif bZ l q.e q.i fj then ⟨[],q.i+1,q.e,q.a⟩ else vf s l (l.length+1) [] q.i q.e q.a
def Iv(line:Int)(name:ByteArray)(p:List ByteArray)(b:RR (List St)):RR St:=⟨.mk 7 line name p gI b.v [],b.i,b.e,b.a⟩
def og(br:pL)(ns:List ByteArray)(line i e a:Int):RR St :=
 Iv line (nT l e i) (Fh s l (kr s l eY (iA s l ns (gV s l i e a)))).v (mV br (Fh s l (kr s l eY (iA s l ns (gV s l i e a)))))
def vg(br:pL)(st:Int->Int->Int->RR St):Nat->List St->List ByteArray->Int->Int->Int->RR (List St)
 | 0,acc,_,i,e,a=>nS s l acc i e a
 | k+1,acc,ns,i,e,a=>bif decide (e=0)&&decide (i<l.length) then
  (bif bZ l e i Dw then vg br st k (acc++[(og s l br ns (iT s l i) (i+1) e a).v]) (ns++[nT l e (i+1)]) (og s l br ns (iT s l i) (i+1) e a).i (og s l br ns (iT s l i) (i+1) e a).e (og s l br ns (iT s l i) (i+1) e a).a
   else vg br st k (acc++[(st i e a).v]) ns (st i e a).i (st i e a).e (st i e a).a)
   else ⟨acc,i,e,a⟩
end
section
variable {s:ByteArray} {l:List Tok}
theorem Gv{xs:List ByteArray}{i:Int}(h:ny s l xs i=none)(a:Int):iA s l xs (gV s l i 0 a)=⟨(aM l i).text,i+1,0,a⟩/\nT l 0 i=(aM l i).text/\i<l.length:=by
 cases hn:fk l i with
 | false=>rw[BM hn] at h;cases h
 | true =>
 cases hs:dm xs (aM l i).text with
 | true=>rw[EN hn hs] at h;cases h
 | false =>
   refine⟨?_,by unfold nT;rw[if_pos (by rw[qu];exact hn)],sU hn⟩;rw[Jg hn];unfold iA;rw[decide_eq_true rfl,hs];rfl
theorem PI{xs:List ByteArray}{i x y:Int}(h:ny s l xs i=some (x,y))(h1:i<=l.length)(a:Int):(iA s l xs (gV s l i 0 a)).e≠0/\(iA s l xs (gV s l i 0 a)).e=x/\(iA s l xs (gV s l i 0 a)).a=y/\i<=(iA s l xs (gV s l i 0 a)).i/\(iA s l xs (gV s l i 0 a)).i<=l.length:=by
 cases hn:fk l i with
 | false =>
   rw[BM hn] at h;cases h;rw[Jh hn];unfold iA;rw[decide_eq_false (by show ¬(11:Int)=0;decide)];exact⟨by show (11:Int)≠0;decide,rfl,rfl,Int.le_refl _,h1⟩
 | true =>
 have hlt:=sU hn;cases hs:dm xs (aM l i).text with
 | false=>rw[I6 hn hs] at h;cases h
 | true =>
   rw[EN hn hs] at h;cases h;rw[Jg hn];unfold iA;rw[decide_eq_true rfl,hs];refine⟨by show (8:Int)≠0;decide,rfl,?_,by show i<=i+1;omega,by show i+1<=_;omega⟩;show cV s l (i+1-1)=cV s l i;rw[Int.add_sub_cancel]
theorem Sc(k:Nat)(acc:List ByteArray)(i:Int){e:Int}(a:Int)(h:e≠0):vf s l k acc i e a=⟨acc,i,e,a⟩:=by
 cases k with
 | zero=>exact qU h _ _ _
 | succ k=>unfold vf;rw[decide_eq_false h];rfl
theorem pa_eq:∀(k:Nat)(acc:List ByteArray)(i a:Int),0<=i->i<=l.length->iK l (tS s l k acc i) (vf s l k acc i 0 a) i a
 | 0,acc,i,a,h0,h1=>nU (Int.le_refl _) h1
 | k + 1, acc, i, a, h0, h1 => by
   unfold tS vf;rw[decide_eq_true rfl];simp only[cond_true];cases hf:ny s l acc i with
   | some xy =>
     obtain⟨x,y⟩:=xy;obtain⟨q0,q1,q2,q3,q4⟩:=PI hf h1 a;rw[u7 q0];simp only[cond_false];rw[sW (q:=⟨acc++[nT l 0 i],_,_,_⟩) q0];exact⟨fun h=>(by cases h),fun _=>⟨q1,q2,q0⟩,q3,q4⟩
   | none =>
     obtain⟨q0,q1,hlt⟩:=Gv hf a;rw[q0,q1];simp only[kx];cases hp:aQ l (i+1) fj with
     | true =>
       have h2:=bW hp;have hc:aQ l (i+1) ic=false:=Be (by rw[oU hp];decide);rw[hc];simp only[cond_true,cond_false];rw[Ff hp];exact ju (by omega) (by omega)
     | false =>
       cases hc:aQ l (i+1) ic with
       | true =>
         have h2:=bW hc;exact(pa_eq k _ _ a (by omega) (by omega)).mono (by omega)
       | false =>
         simp only[cond_false];rw[Fg hp];exact mU (by omega) (by omega)
theorem dfB_eq{bl:mS}{br:pL}(H:MG l bl br){line:Int}{name:ByteArray}{R:XR (List ByteArray)}{Q:RR (List ByteArray)}{i j a:Int}(h:iK l R Q j a)(h0:0<=j)(hi:i<=j):iK l (rQ bl line name R) (Iv line name Q.v (mV br Q)) i a:=by
 have h2:=h.lo;have h3:=h.hi;unfold rQ Iv mV;cases hd:R.die with
 | true =>
   rw[H.st _ _ _ (h.no hd).2.2];exact h.dies hd rfl rfl rfl rfl rfl (by show i<=Q.i;omega) h3
 | false =>
   rw[h.ok hd] at h2 h3 ⊢;have h2:j<=R.i:=h2;have h3:R.i<=l.length:=h3;have hb:=H.eq R.i a (by omega) h3;have h4:=hb.lo;simp only[cond_false];cases hd2:(bl R.i).die with
   | true=>exact hb.dies hd2 rfl rfl rfl rfl rfl (by show i<=(br _ _ _).i;omega) hb.hi
   | false =>
     have h5:=hb.hi;rw[hb.ok hd2] at h4 h5 ⊢;exact ju (by have h4:R.i<=(bl R.i).i:=h4;omega) h5
theorem pmR_e{α:Type}{q:RR α}(h:q.e≠0):Fh s l q=⟨[],q.i,q.e,q.a⟩:=by
 unfold Fh;rw[u7 h];exact Sc _ _ _ _ h
theorem df_eq{bl:mS}{br:pL}(H:MG l bl br)(ns:List ByteArray)(line i a:Int)(h0:0<=i)(h1:i<=l.length):iK l (jr s l bl ns line i) (og s l br ns line i 0 a) i a:=by
 unfold jr og;cases hf:ny s l ns i with
 | some xy =>
   obtain⟨x,y⟩:=xy;obtain⟨q0,q1,q2,q3,q4⟩:=PI hf h1 a;rw[sW q0,pmR_e q0];unfold mV;rw[H.st _ _ _ (by exact q0)];exact⟨fun h=>(by cases h),fun _=>⟨q1,q2,q0⟩,q3,q4⟩
 | none =>
   obtain⟨q0,q1,hlt⟩:=Gv hf a;rw[q0,q1];simp only;cases hp:aQ l (i+1) eY with
   | false =>
     rw[Fg hp,pmR_e (by show (11:Int)≠0;decide)];unfold mV;rw[H.st _ _ _ (by show (11:Int)≠0;decide)];exact mU (j':=i+1) (by omega) (by omega)
   | true =>
     have h2:=bW hp;rw[Ff hp];simp only[cond_true];refine dfB_eq H (j:=i+1+1) ?_ (by omega) (by omega);unfold Fh;simp only[kx];cases hq:aQ l (i+1+1) fj with
     | true =>
       have h3:=bW hq;exact ju (by omega) (by omega)
     | false=>exact pa_eq _ _ _ a (by omega) (by omega)
def XR.fst{α β:Type}(R:XR (α×β)):XR α:=⟨R.die,R.e,R.a,R.v.1,R.i⟩
theorem pgR_e{br:pL}{st:Int->Int->Int->RR St}(k:Nat)(acc:List St)(ns:List ByteArray)(i:Int){e:Int}(a:Int)(h:e≠0):vg s l br st k acc ns i e a=⟨acc,i,e,a⟩:=by
 cases k with
 | zero=>exact qU h _ _ _
 | succ k=>unfold vg;rw[decide_eq_false h];rfl
noncomputable def mW(s:ByteArray)(l:List Tok):pL:=gE s l true (l.length+1)
noncomputable def Iw(s:ByteArray)(l:List Tok):Int->Int->Int->RR St:=mr s l (gE s l false (l.length+1)) false
theorem Sd(hK:gA l):∀(k:Nat)(acc:List St)(ns:List ByteArray)(i a:Int),0<=i->i<=l.length->iK l (uU s l k acc ns i).fst (vg s l (mW s l) (Iw s l) k acc ns i 0 a) i a
 | 0,acc,ns,i,a,h0,h1=>nU (Int.le_refl _) h1
 | k + 1, acc, ns, i, a, h0, h1 => by
   unfold uU vg;rw[decide_eq_true rfl,Bool.true_and,kx];by_cases hi:i<l.length
   . rw[decide_eq_true hi];have hL:iT s l i=f9 s l i:=if_pos hi;rw[hL];simp only[cond_true];cases ht:aQ l i Dw with
     | true =>
       have h:=df_eq (s:=s) (B6 (s:=s) hK true (l.length+1)) ns (f9 s l i) (i+1) a (by omega) (by omega);have h2:=h.lo;have h3:=h.hi;simp only[cond_true];unfold mW;cases hd:(jr s l (bT s l) ns (f9 s l i) (i+1)).die with
       | true =>
         rw[pgR_e _ _ _ _ _ (h.no hd).2.2];exact h.dies hd rfl rfl rfl rfl rfl (by show i<=(og s l (gE s l true (l.length+1)) ns (f9 s l i) (i+1) 0 a).i;omega) h3
       | false =>
         have hn:nT l 0 (i+1)=(aM l (i+1)).text:=by
          cases hf:ny s l ns (i+1) with
          | none=>exact(Gv hf a).2.1
          | some xy =>
            unfold jr at hd;rw[hf] at hd;cases hd
         rw[hn];rw[h.ok hd] at h2 h3 ⊢;have h2:i+1<=(jr s l (bT s l) ns (f9 s l i) (i+1)).i:=h2;exact(Sd hK k _ _ _ a (by omega) h3).mono (by omega)
     | false =>
       have h:=Sb (s:=s) hK (B6 (s:=s) hK false (l.length+1)) false i a h0 h1;have h2:=h.lo;have h3:=h.hi;simp only[cond_false];unfold Iw;cases hd:(sT s l i).die with
       | true =>
         rw[pgR_e _ _ _ _ _ (h.no hd).2.2];exact h.dies hd rfl rfl rfl rfl rfl h2 h3
       | false =>
         rw[h.ok hd] at h2 h3 ⊢;have h2:i<=(sT s l i).i:=h2;exact(Sd hK k _ _ _ a (by omega) h3).mono h2
   rw[decide_eq_false hi];exact ju (Int.le_refl _) h1
end
end Go.Proofs.YtaplgnhojknpiaaGreatDoor
namespace Go.Proofs.YtaplgnhojknpiaaGreatDoor
open Go.aU Go.RowKit
set_option maxRecDepth 100000
section
variable (s:ByteArray) (l:List Tok)
variable {s l} in
theorem tk_at(h:fR s l){i:Int}(hi:dx l i)(hl:i<l.length):0<=(aM l i).at_/\(aM l i).at_<=s.size:=h.2 _ (Mz hi.1 hl)
theorem MI(j:Nat)(h:j<s.size):qd (s.extract 0 (j+1))=qd (s.extract 0 j)+if bV s j=10 then 1 else 0:=by
 have hl:j<s.data.toList.length:=h;have e:∀ j:Nat,(s.extract 0 j).data.toList=s.data.toList.take j:=fun j=>by simp
 unfold qd Lib.countByte;rw[e,e,List.take_succ_eq_append_getElem hl,List.count_append];have eb:bV s j=((s.data.toList[j]).toNat:Int):=by
  unfold bV;rw[List.getD_eq_getElem?_getD,List.getElem?_eq_getElem hl];rfl
 rw[eb,List.count_singleton];by_cases hb:s.data.toList[j]=10;rw[hb];simp;have:¬(s.data.toList[j]).toNat=10:=fun h=>hb (UInt8.toNat_inj.1 h);rw[if_neg (by simpa using hb),if_neg (by omega)];simp
noncomputable def sLn:aZ:=ct Tryz.prog [] Tryz.f19 2 [([0,1,0,1,1,1],[0,3,4])] [] []
theorem Gw(ht:fR s l)(i e_ a:Int)(ns:List ByteArray)(hi:dx l i)(hl:i<l.length):∀(k j:Nat),(k:Int)=(aM l i).at_-j->(j:Int)<=(aM l i).at_->
 ax (sLn) (aG (.p (.c (.int .i64 (f9 s l i)))) (rO s l i e_ a ns)) [0,1,0,1,1,1] (fr [(0,pA),(3,.p (.c (.int .i64 (1+qd (s.extract 0 j))))),(4,nI j)]) (.ofList (rO s l i e_ a ns))
 | k,j,hk,hj=>by
   refine bD aE (by kernel_rfl) 300 ?_;apply of_eq (q:=let q1:=Ob.mk 51 [Fd.c (W.str s),Fd.c (W.rs (4:Nat) (ar l)),fI i,fI e_,fI a,fS 1 0 ns.length];let q2:=decide ((j:Int)<((ar l).getD (i.toNat*4+3) (PV.bool false)).asInt);((0:Int)<=i/\i.toNat*4<(ar l).length)/\i.toNat*4+3<(ar l).length/\(PV.int (0:Int)).like ((ar l).getD (i.toNat*4+3) (PV.bool false))=true/\(q2=true->((0:Int)<=(j:Int)/\(j:Int)<(s.size:Int))/\(decide (bV s j=10)=true->ax sLn (aG (nI (f9 s l i)) (rO s l i e_ a ns)) [0,1,0,1,1,1] (fr [(0,aR 0 0),(3,nI (IntKind.i64.wrap ((1:Int)+qd (s.extract (0:Nat) j)+1))),(4,nI (IntKind.i64.wrap ((j:Int)+1)))]) (af.ofList [q1,Ob.mk 9 [Fd.a 0 D.str ns]]))/\(decide (bV s j=10)=false->ax sLn (aG (nI (f9 s l i)) (rO s l i e_ a ns)) [0,1,0,1,1,1] (fr [(0,aR 0 0),(3,nI ((1:Int)+qd (s.extract (0:Nat) j))),(4,nI (IntKind.i64.wrap ((j:Int)+1)))]) (af.ofList [q1,Ob.mk 9 [Fd.a 0 D.str ns]])))/\(q2=false->aq [vI ((1:Int)+qd (s.extract (0:Nat) j))]=nI (f9 s l i)/\[q1,Ob.mk 9 [Fd.a 0 D.str ns]]=rO s l i e_ a ns)) (by kernel_rfl)
   try simp only[sL]
   rw[Ll hi hl];have h0:=hi.1;have k0:(PV.int (aM l i).at_).asInt=(aM l i).at_:=rfl
   have hat:=tk_at ht hi hl;have hsz:=ht.1;rw[k0];obtain⟨b1,b2⟩:=Lv (s.extract 0 j);have hb:(s.extract 0 j).size<=s.size:=by rw[ByteArray.size_extract];omega
   refine⟨⟨h0,pz hi hl 0 (by omega)⟩,pz hi hl 3 (by omega),rfl,fun h=>⟨by omega,fun h1=>?_,fun h1=>?_⟩,fun h=>?_⟩
   . have hn:=MI s j (by omega);rw[if_pos h1] at hn;have e:(1:Int)+qd (s.extract 0 j)+1=1+qd (s.extract 0 (j+1)):=by omega
     rw[wrap64 (by omega) (by omega),wrap64 (n:=(j:Int)+1) (by omega) (by omega),e];cases k with
     | zero=>omega
     | succ k=>exact Gw ht i e_ a ns hi hl k (j+1) (by omega) (by omega)
   . have hn:=MI s j (by omega);rw[if_neg h1,Int.add_zero] at hn;rw[wrap64 (n:=(j:Int)+1) (by omega) (by omega),<-hn];cases k with
     | zero=>omega
     | succ k=>exact Gw ht i e_ a ns hi hl k (j+1) (by omega) (by omega)
   unfold f9 cV;rw[if_pos hl];have e:(aM l i).at_.toNat=j:=by omega
   rw[e];rfl
noncomputable def Ji:lp:=fun aN i e a ns=>match aN with | []=>some { c:=True,r:=.p (.c (.int .i64 (iT s l i))),i:=i,e:=e,a:=a,ns:=ns }|_=>none
theorem PJ(ht:fR s l):u6 2 19 s l (Ji s l):=by
 intro aN i e a ns p hp hi hc;unfold Ji at hp;split at hp;cases hp;refine ew (aK:=[([0,1,0,1,1,1],[0,3,4])]) (eu:=[]) (fz:=[]) aE Tryz.func19 (by kernel_rfl) 2 (by kernel_rfl) 200 ?_;apply of_eq (q:=let q1:=(iz.mk True (nI (iT s l i)) i e a ns);let q2:=Ob.mk 51 [Fd.c (W.str s),Fd.c (W.rs (4:Nat) (ar l)),fI i,fI e,fI a,fS 1 0 ns.length];(decide ((↑((ar l).length/4):Int)<=i)=true->aq [vI (0)]=nI (iT s l i)/\[q2,Ob.mk 9 [Fd.a 0 D.str ns]]=rO s l i e a ns)/\(decide ((↑((ar l).length/4):Int)<=i)=false->ax (ct Tryz.prog [] Tryz.f19 (2:Nat) [([0,1,0,1,1,1],[0,3,4])] [] []) (aG q1.r (rO s l q1.i q1.e q1.a q1.ns)) [0,1,0,1,1,1] (fr [(0,aR 0 0),(3,nI (1)),(4,nI (0))]) (af.ofList [q2,Ob.mk 9 [Fd.a 0 D.str ns]]))) (by kernel_rfl)
 try simp only[sL]
 rw[tN];refine⟨fun h=>?_,fun h=>?_⟩;unfold iT;rw[if_neg (by omega)];rfl;have hL:iT s l i=f9 s l i:=if_pos h;rw[hL];have hat:=(tk_at ht hi h).1;have:=Gw s l ht i e a ns hi h (aM l i).at_.toNat 0 (by omega) (by exact hat)
 have e0:(1:Int)+qd (s.extract 0 0)=1:=by
  have:=(Lv (s.extract 0 0));rw[ByteArray.size_extract] at this;omega
 rw[e0] at this;exact this;cases hp
end
section
variable {s:ByteArray} {l:List Tok}
theorem qV(hK:gA l){i e:Int}(a:Int)(hi:dx l i):i<=(fY s l i e a).i/\dx l (fY s l i e a).i/\((fY s l i e a).e=0->e=0/\i<(fY s l i e a).i):=qt hK _ a (by omega) (by omega) hi
theorem bmR_adv(hK:gA l)(ins:Bool)(n:Nat){i e:Int}(a:Int)(hi:dx l i):i<=(gE s l ins n i e a).i/\dx l (gE s l ins n i e a).i/\((gE s l ins n i e a).e=0->e=0/\i<(gE s l ins n i e a).i):=by
 have H:=B6 (s:=s) hK ins n;have h0:=hi.1;by_cases he:e=0
 . subst he;have h:=H.eq i a hi.1 hi.2.1;have h1:=h.lo;refine⟨h1,⟨by omega,h.hi,hi.2.2⟩,fun h2=>⟨rfl,?_⟩⟩;cases hd:(jh s l ins n i).die with
   | true=>exact absurd h2 (h.no hd).2.2
   | false =>
     rw[h.ok hd];exact(jO ins n _ hd hi.1).1
 rw[H.st _ _ _ he];exact⟨Int.le_refl _,hi,fun h=>absurd h he⟩
theorem PK(hK:gA l)(ins:Bool)(n:Nat){i:Int}(a:Int)(hi:dx l i):i<=(mr s l (gE s l ins n) ins i 0 a).i/\dx l (mr s l (gE s l ins n) ins i 0 a).i/\((mr s l (gE s l ins n) ins i 0 a).e=0->i<(mr s l (gE s l ins n) ins i 0 a).i):=by
 have h:=Sb (s:=s) hK (B6 (s:=s) hK ins n) ins i a hi.1 hi.2.1;have h0:=hi.1;have h1:=h.lo;refine⟨h1,⟨by omega,h.hi,hi.2.2⟩,fun h2=>?_⟩;cases hd:(nu s l (jh s l ins n) ins i).die with
 | true=>exact absurd h2 (h.no hd).2.2
 | false =>
   rw[h.ok hd];exact(tQ (jO ins n) ins _ hd hi.1).1
theorem blt{c n x y:Int}(h:y<x)(g:c-y<=n):c-x<n:=by omega
theorem Jj(e i:Int):i<=cA l e i:=by unfold cA;split<;>omega
theorem PL(br:pL)(ins:Bool)(i e a:Int):(mr s l br ins i e a).v.params=[]:=by
 unfold mr;cases bZ l e i AQ with
 | true=>rfl
 | false =>
 cases bZ l e i H8 with
 | true =>
   simp only[cond_true,cond_false];unfold MF;cases bZ l (mV br (fY s l (i+1) e a)).e (mV br (fY s l (i+1) e a)).i AR with
   | true=>rfl
   | false=>rfl
 | false =>
 cases bZ l e i AU with
 | true=>rfl
 | false =>
 cases bZ l e i AV with
 | true=>rfl
 | false =>
 cases ins&&bZ l e i yg with
 | true=>rfl
 | false=>rfl
end
section
variable (s:ByteArray) (l:List Tok)
noncomputable def gamRI:bX:=(28,jd 2 s l [true,false] (V0 s l (12*l.length+12)))::(51,jd 2 s l [true,false] (wU s l))::(49,jd 2 s l [true] (E3 s l))::(19,jd 2 s l [true] (Ji s l))::yB s l
variable {s l} in
theorem Y9(ht:fR s l)(hK:gA l):bg Tryz.prog (gamRI s l):=ai (fM (by kernel_rfl) (MD s l hK _)) (ai (fM (by kernel_rfl) (yC s l)) (ai (fM (by kernel_rfl) (Mp s l)) (ai (fM (by kernel_rfl) (PJ s l ht)) (nB s l))))
noncomputable def MJ(n:Nat):lp:=fun aN i e a ns=>match aN with
 | [.p (.c (.bool ins))]=>some { c:=0<n/\(e=0->(l.length:Int)-i<n),r:=.p (.c (.rs 10 (St.ah (gE s l ins n i e a).v))),i:=(gE s l ins n i e a).i,e:=(gE s l ins n i e a).e,a:=(gE s l ins n i e a).a,ns:=ns }
 | _=>none
noncomputable def Sg(n:Nat):lp:=fun aN i e a ns=>match aN with
 | [.p (.c (.bool ins))]=>some { c:=e=0/\(l.length:Int)-i<=n,r:=.p (OE (mr s l (gE s l ins n) ins i e a).v),i:=(mr s l (gE s l ins n) ins i e a).i,e:=(mr s l (gE s l ins n) ins i e a).e,a:=(mr s l (gE s l ins n) ins i e a).a,ns:=ns }
 | _=>none
abbrev V5(n:Nat):Prop:=u6 2 52 s l (MJ s l n)
abbrev HSR(n:Nat):Prop:=u6 2 22 s l (Sg s l n)
noncomputable def gamRS(n:Nat):bX:=(52,jd 2 s l [true,false] (MJ s l n))::gamRI s l
variable {s l} in
theorem Za(ht:fR s l)(hK:gA l){n:Nat}(h:V5 s l n):bg Tryz.prog (gamRS s l n):=ai (fM (by kernel_rfl) h) (Y9 ht hK)
theorem V6(ht:fR s l)(hK:gA l)(n:Nat)(h:V5 s l n):HSR s l n:=by
 intro aN i e a ns p hp hi hc;unfold Sg at hp;split at hp;rename_i ins;cases hp;obtain⟨e0,hc⟩:e=0/\(l.length:Int)-i<=n:=hc;refine ew (aK:=[]) (eu:=[]) (fz:=[]) (Za ht hK h) Tryz.func22 (by kernel_rfl) 2 (by kernel_rfl) 900 ?_;apply of_eq (q:=let q9:=((12:Nat)*l.length+12);let aT:=(mr s l (gE s l ins n) ins i e a);let aY:=(ByteArray.mk #[(101:UInt8),(108:UInt8),(115:UInt8),(101:UInt8)]);let cu:=(ByteArray.mk #[(105:UInt8),(102:UInt8)]);let cB:=(ByteArray.mk #[(61:UInt8)]);let cF:=(ByteArray.mk #[(59:UInt8)]);let cL:=(ByteArray.mk #[(105:UInt8),(110:UInt8)]);let cG:=(ByteArray.mk #[(114:UInt8),(101:UInt8),(116:UInt8),(117:UInt8),(114:UInt8),(110:UInt8)]);let bF:=(ByteArray.mk #[(119:UInt8),(104:UInt8),(105:UInt8),(108:UInt8),(101:UInt8)]);let cQ:=(ByteArray.mk #[(112:UInt8),(114:UInt8),(105:UInt8),(110:UInt8),(116:UInt8)]);let cg:=(0:Nat)<12*l.length+12;let eH:=Ob.mk 9 [Fd.a 0 D.str ns];let dG:=(ar l);let d9:=(1:Int);let dH:=(ByteArray.mk #[(102:UInt8),(111:UInt8),(114:UInt8)]);let eC:=(10:Nat);let ep:=fS 1 0 ns.length;let gJ:=Fd.c (W.str s);let mq:=(iT s l i);let nZ:=(ByteArray.mk #[]);let kB:=(OE aT.v);let q8:=(bQ l e i cQ);let bw:=(dM s l q9 d9 q8 e a);let dD:=Fd.c (W.rs (4:Nat) dG);let fX:=(bQ l e q8 cu);let q2:=(dM s l q9 d9 fX e a);let q4:=(bQ l e fX bF);let aI:=(gE s l ins n q2.i q2.e q2.a);let bt:=(dM s l q9 d9 q4 e a);let cN:=(gE s l ins n (bQ l aI.e aI.i aY) aI.e aI.a);let eO:=(gE s l ins n bt.i bt.e bt.a);let q1:=(bQ l e q4 dH);let q3:=(bQ l e q1 cG);let cn:=(dM s l q9 d9 q3 e a);let dN:=(cA l e q1);let dO:=(nE l e q1);let iR:=(bQ l (nE l e q3) (cA l e q3) cB);let q5:=(dM s l q9 d9 (bQ l dO dN cL) (mE l dO dN cL) (mA s l dO (nA s l e a q1) dN cL));let q6:=(dM s l q9 d9 iR (mE l (nE l e q3) (cA l e q3) cB) (mA s l (nE l e q3) (nA s l e a q3) (cA l e q3) cB));let q7:=(dM s l q9 d9 (bQ l dO dN cB) (mE l dO dN cB) (mA s l dO (nA s l e a q1) dN cB));let gT:=(gE s l ins n q5.i q5.e q5.a);(cx s l s dG ns.length ns i/\True)/\(cx s l s dG ns.length ns i/\True)/\(bZ l e i cQ=true->(cx s l s dG ns.length ns q8/\cg/\d9<=1/\d9<=10/\(e=0->ez l q9 d9 q8))/\(cx s l s dG ns.length ns bw.i/\True)/\aq [V.agg [wI (2),wI mq,W.str nZ,W.nil,wI bw.v.k,wI bw.v.n,W.str bw.v.t,W.rs (4:Nat) (Ex.ah bw.v.l),W.rs eC [],W.rs eC []]]=A.p kB/\[Ob.mk 51 [gJ,dD,fI (bQ l bw.e bw.i cF),fI (mE l bw.e bw.i cF),fI (mA s l bw.e bw.a bw.i cF),ep],eH]=rO s l aT.i aT.e aT.a ns)/\(bZ l e i cQ=false->(cx s l s dG ns.length ns q8/\True)/\(bZ l e q8 cu=true->(cx s l s dG ns.length ns fX/\cg/\d9<=1/\d9<=10/\(e=0->ez l q9 d9 fX))/\(cx s l s dG ns.length ns q2.i/\(0:Nat)<n/\(q2.e=0->(l.length:Int)-q2.i<(n:Int)))/\(cx s l s dG ns.length ns aI.i/\True)/\(bZ l aI.e aI.i aY=true->(cx s l s dG ns.length ns (bQ l aI.e aI.i aY)/\(0:Nat)<n/\(aI.e=0->(l.length:Int)-bQ l aI.e aI.i aY<(n:Int)))/\aq [V.agg [wI (3),wI mq,W.str nZ,W.nil,wI q2.v.k,wI q2.v.n,W.str q2.v.t,W.rs (4:Nat) (Ex.ah q2.v.l),W.rs eC (St.ah aI.v),W.rs eC (St.ah cN.v)]]=A.p kB/\[Ob.mk 51 [gJ,dD,fI cN.i,fI cN.e,fI cN.a,ep],eH]=rO s l aT.i aT.e aT.a ns)/\(bZ l aI.e aI.i aY=false->aq [V.agg [wI (3),wI mq,W.str nZ,W.nil,wI q2.v.k,wI q2.v.n,W.str q2.v.t,W.rs (4:Nat) (Ex.ah q2.v.l),W.rs eC (St.ah aI.v),W.rs eC []]]=A.p kB/\[Ob.mk 51 [gJ,dD,fI (bQ l aI.e aI.i aY),fI aI.e,fI aI.a,ep],eH]=rO s l aT.i aT.e aT.a ns))/\(bZ l e q8 cu=false->(cx s l s dG ns.length ns fX/\True)/\(bZ l e fX bF=true->(cx s l s dG ns.length ns q4/\cg/\d9<=1/\d9<=10/\(e=0->ez l q9 d9 q4))/\(cx s l s dG ns.length ns bt.i/\(0:Nat)<n/\(bt.e=0->(l.length:Int)-bt.i<(n:Int)))/\aq [V.agg [wI (4),wI mq,W.str nZ,W.nil,wI bt.v.k,wI bt.v.n,W.str bt.v.t,W.rs (4:Nat) (Ex.ah bt.v.l),W.rs eC (St.ah eO.v),W.rs eC []]]=A.p kB/\[Ob.mk 51 [gJ,dD,fI eO.i,fI eO.e,fI eO.a,ep],eH]=rO s l aT.i aT.e aT.a ns)/\(bZ l e fX bF=false->(cx s l s dG ns.length ns q4/\True)/\(bZ l e q4 dH=true->(cx s l s dG ns.length ns q1/\True)/\(cx s l s dG ns.length ns dN/\True)/\(cx s l s dG ns.length ns (bQ l dO dN cL)/\cg/\d9<=1/\d9<=10/\(mE l dO dN cL=0->ez l q9 d9 (bQ l dO dN cL)))/\(cx s l s dG ns.length ns q5.i/\(0:Nat)<n/\(q5.e=0->(l.length:Int)-q5.i<(n:Int)))/\aq [V.agg [wI (5),wI mq,W.str (nT l e q1),W.nil,wI q5.v.k,wI q5.v.n,W.str q5.v.t,W.rs (4:Nat) (Ex.ah q5.v.l),W.rs eC (St.ah gT.v),W.rs eC []]]=A.p kB/\[Ob.mk 51 [gJ,dD,fI gT.i,fI gT.e,fI gT.a,ep],eH]=rO s l aT.i aT.e aT.a ns)/\(bZ l e q4 dH=false->(ins=true->ins=true/\(cx s l s dG ns.length ns q1/\True)/\(bZ l e q1 cG=true->(cx s l s dG ns.length ns q3/\cg/\d9<=1/\d9<=10/\(e=0->ez l q9 d9 q3))/\(cx s l s dG ns.length ns cn.i/\True)/\aq [V.agg [wI (6),wI mq,W.str nZ,W.nil,wI cn.v.k,wI cn.v.n,W.str cn.v.t,W.rs (4:Nat) (Ex.ah cn.v.l),W.rs eC [],W.rs eC []]]=A.p kB/\[Ob.mk 51 [gJ,dD,fI (bQ l cn.e cn.i cF),fI (mE l cn.e cn.i cF),fI (mA s l cn.e cn.a cn.i cF),ep],eH]=rO s l aT.i aT.e aT.a ns)/\(bZ l e q1 cG=false->(cx s l s dG ns.length ns q3/\True)/\(cx s l s dG ns.length ns (cA l e q3)/\True)/\(cx s l s dG ns.length ns iR/\cg/\d9<=1/\d9<=10/\(mE l (nE l e q3) (cA l e q3) cB=0->ez l q9 d9 iR))/\(cx s l s dG ns.length ns q6.i/\True)/\aq [V.agg [wI (1),wI mq,W.str (nT l e q3),W.nil,wI q6.v.k,wI q6.v.n,W.str q6.v.t,W.rs (4:Nat) (Ex.ah q6.v.l),W.rs eC [],W.rs eC []]]=A.p kB/\[Ob.mk 51 [gJ,dD,fI (bQ l q6.e q6.i cF),fI (mE l q6.e q6.i cF),fI (mA s l q6.e q6.a q6.i cF),ep],eH]=rO s l aT.i aT.e aT.a ns))/\(ins=!true->(cx s l s dG ns.length ns q1/\True)/\(cx s l s dG ns.length ns dN/\True)/\(cx s l s dG ns.length ns (bQ l dO dN cB)/\cg/\d9<=1/\d9<=10/\(mE l dO dN cB=0->ez l q9 d9 (bQ l dO dN cB)))/\(cx s l s dG ns.length ns q7.i/\True)/\aq [V.agg [wI (1),wI mq,W.str (nT l e q1),W.nil,wI q7.v.k,wI q7.v.n,W.str q7.v.t,W.rs (4:Nat) (Ex.ah q7.v.l),W.rs eC [],W.rs eC []]]=A.p kB/\[Ob.mk 51 [gJ,dD,fI (bQ l q7.e q7.i cF),fI (mE l q7.e q7.i cF),fI (mA s l q7.e q7.a q7.i cF),ep],eH]=rO s l aT.i aT.e aT.a ns)))))) (by kernel_rfl)
 try simp only[sL]
 have hE:∀ i e a,dM s l (12*l.length+12) 1 i e a=fY s l i e a:=fun _ _ _=>rfl;simp only[hE];generalize hR:mr s l (gE s l ins n) ins i e a=R;unfold mr at hR;have h0:=hi.1;have h9:=hi.2.2;have up:∀{j:Int},0<=j->j<l.length->dx l (j+1):=fun h h'=>⟨by omega,by omega,h9⟩;refine⟨rin hi,rin hi,fun t1=>?_,fun t1=>?_⟩;rw[t1] at hR;subst hR;rw[je t1];have u1:=up h0 (jf t1).2;obtain⟨a1,a2,a3⟩:=qV (s:=s) hK (e:=e) a u1;exact⟨⟨rin u1,by omega,by omega,fun _=>qe u1⟩,rin a2,by rw[cond_true,Bf,lG,St.bJ];rfl,rfl⟩;rw[t1] at hR;simp only[cond_false] at hR;rw[iJ t1];refine⟨rin hi,fun t2=>?_,fun t2=>?_⟩;rw[t2] at hR;simp only[cond_true] at hR;rw[je t2];have hlt:=(jf t2).2;have u1:=up h0 hlt;obtain⟨a1,a2,a3⟩:=qV (s:=s) hK (e:=e) a u1;obtain⟨b1,b2,b3⟩:=bmR_adv (s:=s) hK ins n (e:=(fY s l (i+1) e a).e) (fY s l (i+1) e a).a a2;unfold MF mV at hR;generalize fY s l (i+1) e a=r at hR a1 a2 a3 b1 b2 b3 ⊢;refine⟨⟨rin u1,by omega,by omega,fun _=>qe u1⟩,⟨rin a2,by omega,fun h=>by have:=a3 h;omega⟩,rin b2,fun t3=>?_,fun t3=>?_⟩;rw[t3] at hR;subst hR;rw[je t3];obtain⟨q1,q2⟩:=jf t3;have:=b3 q1;exact⟨⟨rin (up b2.1 q2),by omega,fun h=>by omega⟩,rfl,rfl⟩;rw[t3] at hR;subst hR;rw[iJ t3];exact⟨by rw[cond_false,lG,St.bJ];rfl,rfl⟩;rw[t2] at hR;simp only[cond_false] at hR;rw[iJ t2];refine⟨rin hi,fun t3=>?_,fun t3=>?_⟩;rw[t3] at hR;simp only[cond_true] at hR;rw[je t3];have hlt:=(jf t3).2;have u1:=up h0 hlt;obtain⟨a1,a2,a3⟩:=qV (s:=s) hK (e:=e) a u1;subst hR;exact⟨⟨rin u1,by omega,by omega,fun _=>qe u1⟩,⟨rin a2,by omega,fun h=>by have:=a3 h;omega⟩,by rw[ME,lG,St.bJ];rfl,rfl⟩;rw[t3] at hR;simp only[cond_false] at hR;rw[iJ t3];refine⟨rin hi,fun t4=>?_,fun t4=>?_⟩;rw[t4] at hR;simp only[cond_true] at hR;rw[je t4];have hlt:=(jf t4).2;have u1:=up h0 hlt;have u2:dx l (cA l e (i+1)):=E4 u1;have u3:=t6 (e:=nE l e (i+1)) CO u2;obtain⟨a1,a2,a3⟩:=qV (s:=s) hK (e:=mE l (nE l e (i+1)) (cA l e (i+1)) CO) (mA s l (nE l e (i+1)) (nA s l e a (i+1)) (cA l e (i+1)) CO) u3;have g1:=Jj (l:=l) e (i+1);have g2:=V1 (l:=l) (nE l e (i+1)) (cA l e (i+1)) CO;subst hR;exact⟨rin u1,rin u2,⟨rin u3,by omega,by omega,fun _=>qe u3⟩,⟨rin a2,by omega,fun h=>blt (a3 h).2 (by omega)⟩,by rw[ME,lG,St.bJ];rfl,rfl⟩;rw[t4] at hR;simp only[cond_false] at hR;rw[iJ t4]
 have hset:(bif false&&bZ l e i yg then Bf 6 (iT s l i) eS (kr s l ou (fY s l (i+1) e a)) else Bf 1 (iT s l i) (nT l e i) (kr s l ou (rU s l (kr s l pG (gV s l i e a)))))=R->
  cx s l s (ar l) ns.length ns i/\cx s l s (ar l) ns.length ns (cA l e i)/\
  (cx s l s (ar l) ns.length ns (bQ l (nE l e i) (cA l e i) pG)/\0<12*l.length+12/\(1:Int)<=10/\(mE l (nE l e i) (cA l e i) pG=0->ez l (12*l.length+12) 1 (bQ l (nE l e i) (cA l e i) pG)))/\
  cx s l s (ar l) ns.length ns (rU s l (kr s l pG (gV s l i e a))).i/\
  (aq [V.agg [.int .i64 1,.int .i64 (iT s l i),.str (nT l e i),.nil,.int .i64 (rU s l (kr s l pG (gV s l i e a))).v.k,.int .i64 (rU s l (kr s l pG (gV s l i e a))).v.n,.str (rU s l (kr s l pG (gV s l i e a))).v.t,.rs 4 (Ex.ah (rU s l (kr s l pG (gV s l i e a))).v.l),.rs 10 [],.rs 10 []]]=A.p (OE R.v))/\
  rO s l (kr s l ou (rU s l (kr s l pG (gV s l i e a)))).i (kr s l ou (rU s l (kr s l pG (gV s l i e a)))).e (kr s l ou (rU s l (kr s l pG (gV s l i e a)))).a ns=rO s l R.i R.e R.a ns:=by
  intro hR;have u2:dx l (cA l e i):=E4 hi;have u3:=t6 (e:=nE l e i) pG u2;obtain⟨a1,a2,a3⟩:=qV (s:=s) hK (e:=mE l (nE l e i) (cA l e i) pG) (mA s l (nE l e i) (nA s l e a i) (cA l e i) pG) u3;subst hR;exact⟨rin hi,rin u2,⟨rin u3,by omega,by omega,fun _=>qe u3⟩,rin a2,by rw[Bool.false_and,cond_false,Bf,lG,St.bJ];rfl,rfl⟩
 refine⟨fun ti=>⟨ti,rin hi,fun t5=>?_,fun t5=>?_⟩,fun ti=>?_⟩;rw[ti,t5] at hR;subst hR;rw[je t5];have u1:=up h0 (jf t5).2;obtain⟨a1,a2,a3⟩:=qV (s:=s) hK (e:=e) a u1;exact⟨⟨rin u1,by omega,by omega,fun _=>qe u1⟩,rin a2,by rw[Bool.and_self,cond_true,Bf,lG,St.bJ];rfl,rfl⟩;rw[t5,Bool.and_false] at hR;rw[iJ t5];exact hset (by rw[Bool.false_and];exact hR);have ti:ins=false:=ti;rw[ti,Bool.false_and] at hR;exact hset (by rw[Bool.false_and];exact hR);cases hp
noncomputable def Sh(n:Nat):bX:=(22,jd 2 s l [true,false] (Sg s l n))::(51,jd 2 s l [true,false] (wU s l))::yB s l
variable {s l} in
theorem MK{n:Nat}(h:HSR s l n):bg Tryz.prog (Sh s l n):=ai (fM (by kernel_rfl) h) (ai (fM (by kernel_rfl) (yC s l)) (nB s l))
noncomputable def sBlR(n:Nat):aZ:=ct Tryz.prog (Sh s l n) Tryz.f52 2 [([0,0,1,1,1],[0,1,5])] [] [some .pv]
theorem ML(hK:gA l)(n:Nat)(h:HSR s l n)(ins:Bool)(ns:List ByteArray)(R:RR (List St)):∀(k:Nat)(acc:List St)(i e a:Int),sw s l (mr s l (gE s l ins n) ins) k acc i e a=R->dx l i->(e=0->(l.length:Int)-i+1<k/\(l.length:Int)-i<=n/\(acc.length:Int)<=i)->0<k->
 ax (sBlR s l n) (aG (.p (.c (.rs 10 (St.ah R.v)))) (rO s l R.i R.e R.a ns)) [0,0,1,1,1] (fr [(0,pA),(1,bB ins),(5,.p (.c (.sl 2 0 acc.length 10)))]) (.ofList [PA s l i e a ns.length,iY ns,qP acc])
 | 0,acc,i,e,a,he,hi,hn,hk=>by omega
 | k + 1, acc, i, e, a, he, hi, hn, hk => by
   refine bD (MK h) (by kernel_rfl) 200 ?_;apply of_eq (q:=let q2:=(ByteArray.mk #[(125:UInt8)]);let q3:=aq [V.c (W.rs (10:Nat) (List.take (acc.length*10) (List.drop (0:Nat) (St.ah acc))))]=aP (W.rs (10:Nat) (St.ah R.v));let q4:=(0:Nat)+acc.length*10<=(St.ah acc).length;let q5:=Fd.c (W.rs (4:Nat) (ar l));let q1:=(mr s l (gE s l ins n) ins (bQ l e i q2) e a);(decide (e=0)=true->decide (e=0)=true/\(cx s l s (ar l) ns.length ns i/\True)/\((!bZ l e i q2)=true->(cx s l s (ar l) ns.length ns (bQ l e i q2)/\e=0/\(l.length:Int)-bQ l e i q2<=(n:Int))/\(q4/\(acc.length+1)*160<=140737488355328)/\ax (sBlR s l n) (aG (aP (W.rs (10:Nat) (St.ah R.v))) (rO s l R.i R.e R.a ns)) [0,0,1,1,1] (fr [(0,aR 0 0),(1,bB ins),(5,aP (W.sl 2 0 (acc.length+1) 10))]) (af.ofList [Ob.mk 51 [Fd.c (W.str s),q5,fI q1.i,fI q1.e,fI q1.a,fS 1 0 ns.length],Ob.mk 9 [Fd.a 0 D.str ns],Ob.mk 54 [Fd.a 0 D.pv (List.take (acc.length*10) (List.drop (0:Nat) (St.ah acc))++[PV.int q1.v.k,PV.int q1.v.line,PV.str q1.v.name,PV.strs [],PV.int q1.v.e.k,PV.int q1.v.e.n,PV.str q1.v.e.t,PV.aH (4:Nat) (Ex.ah q1.v.e.l),PV.aH (10:Nat) (St.ah q1.v.body),PV.aH (10:Nat) (St.ah q1.v.els)])]]))/\((!bZ l e i q2)=false->q4/\q3/\[Ob.mk 51 [Fd.c (W.str s),q5,fI (bQ l e i q2),fI e,fI a,fS 1 0 ns.length],Ob.mk 9 [Fd.a 0 D.str ns]]=rO s l R.i R.e R.a ns))/\(decide (e=0)=!true->q4/\q3/\[Ob.mk 51 [Fd.c (W.str s),q5,fI i,fI e,fI a,fS 1 0 ns.length],Ob.mk 9 [Fd.a 0 D.str ns]]=rO s l R.i R.e R.a ns)) (by kernel_rfl)
   try simp only[sL]
   have el:List.take (acc.length*10) (St.ah acc)=St.ah acc:=List.take_of_length_le (by rw[St.cI];exact Nat.le_refl _);have hl:acc.length*10<=(St.ah acc).length:=by rw[St.cI];exact Nat.le_refl _
   rw[el];unfold sw at he;have h0:=hi.1;have h9:=hi.2;refine⟨fun e0=>⟨e0,rin hi,fun h1=>?_,fun h1=>?_⟩,fun e1=>?_⟩;obtain⟨n1,n2,n3⟩:=hn e0;rw[decide_eq_true e0,h1] at he;rw[iJ h1,yj _ _ (PL _ _ _ _ _)];have ad:=PK (s:=s) hK ins n a hi;subst e0;simp only[cond_true,cond_false] at he;generalize mr s l (gE s l ins n) ins i 0 a=q at he ad ⊢;obtain⟨a1,a2,a3⟩:=ad;have ih:=ML hK n h ins ns R k (acc++[q.v]) q.i q.e q.a he a2 (fun h=>by have:=a3 h;simp only[List.length_append,List.length_singleton];omega) (by omega);rw[List.length_append,List.length_singleton] at ih;exact⟨⟨rin hi,rfl,n2⟩,⟨hl,by omega⟩,ih⟩;rw[decide_eq_true e0,h1] at he;subst he;rw[je h1];exact⟨hl,rfl,rfl⟩;have e1:decide (e=0)=false:=e1;rw[e1] at he;subst he;exact⟨hl,rfl,rfl⟩
theorem Zb(hK:gA l)(n:Nat)(h:HSR s l n):V5 s l (n+1):=by
 intro aN i e a ns p hp hi hc;unfold MJ at hp;split at hp;rename_i ins;cases hp;obtain⟨_,hc⟩:0<n+1/\(e=0->(l.length:Int)-i<(n+1:Nat)):=hc;refine ew (aK:=[([0,0,1,1,1],[0,1,5])]) (eu:=[]) (fz:=[some .pv]) (MK h) Tryz.func52 (by kernel_rfl) 2 (by kernel_rfl) 200 ?_;apply of_eq (q:=let q1:=(gE s l ins (n+1) i e a);let q2:=(l.length:Int)-i<(↑(n+1):Int);let q3:=aP (W.rs (10:Nat) (St.ah q1.v));let q4:=(ByteArray.mk #[(123:UInt8)]);let q5:=(0:Nat)<n+1;(cx s l s (ar l) ns.length ns i/\True)/\ax (ct Tryz.prog (Sh s l n) Tryz.f52 (2:Nat) [([0,0,1,1,1],[0,1,5])] [] [some D.pv]) (aG (iz.mk (q5/\(e=0->q2)) (q3) q1.i q1.e q1.a ns).r (rO s l (iz.mk (q5/\(e=0->q2)) (q3) q1.i q1.e q1.a ns).i (iz.mk (q5/\(e=0->q2)) (q3) q1.i q1.e q1.a ns).e (iz.mk (q5/\(e=0->q2)) (q3) q1.i q1.e q1.a ns).a (iz.mk (q5/\(e=0->q2)) (q3) q1.i q1.e q1.a ns).ns)) [0,0,1,1,1] (fr [(0,aR 0 0),(1,bB ins),(5,aP (W.sl 2 0 0 10))]) (af.ofList [Ob.mk 51 [Fd.c (W.str s),Fd.c (W.rs (4:Nat) (ar l)),fI (bQ l e i q4),fI (mE l e i q4),fI (mA s l e a i q4),fS 1 0 ns.length],Ob.mk 9 [Fd.a 0 D.str ns],Ob.mk 54 [Fd.a 0 D.pv []]])) (by kernel_rfl)
 try simp only[sL]
 have u:=t6 (e:=e) AW hi;have h0:=hi.1;have hb:=hi.2.1;have:=ML s l hK n h ins ns (gE s l ins (n+1) i e a) (l.length+1) [] (bQ l e i AW) (mE l e i AW) (mA s l e a i AW) rfl u (fun h=>by
  obtain⟨e0,hp⟩:=mE_0 h;subst e0;have hlt:=bW hp;have:=hc rfl;rw[Gu hp];simp only[List.length_nil];omega) (by omega)
 unfold qP at this;rw[St.bJ] at this;exact⟨rin hi,this⟩;cases hp
theorem Zc:V5 s l 0:=by
 intro aN i e a ns p hp hi hc;unfold MJ at hp;split at hp;cases hp;exact absurd hc.1 (Nat.lt_irrefl 0);cases hp
theorem Gx(ht:fR s l)(hK:gA l):∀ n,V5 s l n
 | 0=>Zc s l
 | n+1=>Zb s l hK n (V6 s l ht hK n (Gx ht hK n))
end
theorem MN(line:Int)(name:ByteArray)(p:List ByteArray)(b:RR (List St)):aq [V.agg [.int .i64 7,.int .i64 line,.str name,.rd .str p,.int .i64 0,.int .i64 0,.str eS,.rs 4 [],.rs 10 (St.ah b.v),.rs 10 []]]=A.p (jn (Iv line name p b).v):=by
 simp only[jn,Iv,St.k,St.line,St.name,St.params,St.e,St.body,St.els,gI,Ex.k,Ex.n,Ex.t,Ex.l,Ex.bJ,St.bJ];rfl
theorem Zd{l:List Tok}{e i:Int}(h:nE l e i=0):t7 l e i=true:=by
 cases hm:t7 l e i with
 | true=>rfl
 | false =>
   unfold nE kq at h;rw[hm,if_neg (by simp)] at h;split at h;cases h;exact absurd h (by assumption)
section
variable (s:ByteArray) (l:List Tok)
noncomputable def Jk:bX:=(52,jd 2 s l [true,false] (MJ s l (l.length+1)))::(51,jd 2 s l [true,false] (wU s l))::(49,jd 2 s l [true] (E3 s l))::(50,Ri)::yB s l
variable {s l} in
theorem DP(ht:fR s l)(hK:gA l):bg Tryz.prog (Jk s l):=ai (fM (by kernel_rfl) (Gx s l ht hK _)) (ai (fM (by kernel_rfl) (yC s l)) (ai (fM (by kernel_rfl) (Mp s l)) (ai K4 (nB s l))))
noncomputable def Bg:aZ:=ct Tryz.prog (Jk s l) Tryz.f21 1 [([0,0,1,0,1,1,1,1,1],[0,4,5])] [] [some (.sl .str)]
abbrev Si(i e a:Int)(m:Nat):Ob:=⟨51,[.c (.str s),.c (.rs 4 (ar l)),.c (.int .i64 i),.c (.int .i64 e),.c (.int .i64 a),.c (.sl 3 0 m 1)]⟩
theorem MO(ht:fR s l)(hK:gA l)(ns:List ByteArray)(line:Int)(name:ByteArray)(R:RR St):∀(k:Nat)(acc:List ByteArray)(i e a:Int),Iv line name (vf s l k acc i e a).v (mV (mW s l) (vf s l k acc i e a))=R->dx l i->(e=0->(l.length:Int)-i<k/\(acc.length:Int)<=i)->0<k->
 ax (Bg s l) (aG (.p (jn R.v)) (rO s l R.i R.e R.a ns)) [0,0,1,0,1,1,1,1,1] (fr [(0,pA),(4,.p (.c (.ptr 1 0))),(5,.p (.c (.ptr 2 0)))]) (.ofList [Si s l i e a ns.length,Gj,OL line name (.sl 4 0 acc.length 1),iY ns,iY acc])
 | 0,acc,i,e,a,he,hi,hn,hk=>by omega
 | k + 1, acc, i, e, a, he, hi, hn, hk => by
   refine bD (DP ht hK) (by kernel_rfl) 400 ?_;apply of_eq (q:=let q6:=(ByteArray.mk #[(41:UInt8)]);let q7:=decide (nE l e i=0)=true;let aY:=(ByteArray.mk #[(44:UInt8)]);let bt:=Fd.c (W.rs (4:Nat) (ar l));let cF:=Ob.mk 9 [Fd.a 0 D.str ns];let bw:=(nE l e i);let cn:=(acc.length+1);let cL:=Fd.c (W.rs (10:Nat) []);let cG:=(0:Nat);let dD:=(lP s l bw (nA s l e a i) (IntKind.i64.wrap (cA l e i-1)));let bF:=(cA l e i);let cQ:=(l.length+1);let q4:=(List.take acc.length (List.drop cG acc)++List.take (1:Nat) (List.drop cG [nT l e i]));let q5:=(bQ l bw bF aY);let q8:=(kq bw (8:Int));let q9:=Ob.mk 54 [fI (7),fI line,Fd.c (W.str name),fS 4 0 cn,fI (0),fI (0),Fd.c (W.str eS),Fd.c (W.rs (4:Nat) []),cL,cL];let aT:=Ob.mk 54 [fI (0),fI (0),Fd.c (W.str eS),Fd.c W.nil,fI (0),fI (0),Fd.c (W.str eS),Fd.c (W.rs (4:Nat) []),cL,cL];let aI:=(List.take acc.length (List.drop cG acc));let cu:=cG+acc.length<=acc.length;let cB:=(gE s l true cQ i e a);let q2:=(gE s l true cQ (bQ l bw q5 q6) (mE l bw q5 q6) (mA s l bw (nA s l e a i) q5 q6));let q3:=(bQ l q8 bF aY);let q1:=(gE s l true cQ (bQ l q8 q3 q6) (mE l q8 q3 q6) (mA s l q8 dD q3 q6));(decide (e=0)=true->(cx s l s (ar l) ns.length ns i/\True)/\(q7->q7)/\(q7->q7)/\(q7->q7)/\(q7->cu)/\(q7->aI.length<=1000000)/\(q7->q7)/\((bif decide (nE l e i=0) then dm aI (nT l e i) else false)=true->(cx s l s (ar l) ns.length ns bF/\(0:Int)<=IntKind.i64.wrap (cA l e i-1))/\cG+1<=1/\(cu/\cn*16<=140737488355328)/\(cx s l s (ar l) ns.length ns bF/\True)/\((!bZ l q8 bF aY)=true->(cx s l s (ar l) ns.length ns q3/\True)/\(cx s l s (ar l) ns.length ns (bQ l q8 q3 q6)/\cG<l.length+1/\(mE l q8 q3 q6=0->(l.length:Int)-bQ l q8 q3 q6<(↑cQ:Int)))/\cG+cn<=q4.length/\aq [V.agg [wI (7),wI line,W.str name,W.rd D.str (List.take cn (List.drop cG q4)),wI (0),wI (0),W.str eS,W.rs (4:Nat) [],W.rs (10:Nat) (St.ah q1.v),W.rs (10:Nat) []]]=A.p (jn R.v)/\[Ob.mk 51 [Fd.c (W.str s),bt,fI q1.i,fI q1.e,fI q1.a,fS 1 0 ns.length],cF]=rO s l R.i R.e R.a ns)/\((!bZ l q8 bF aY)=false->ax (Bg s l) (aG (A.p (jn R.v)) (rO s l R.i R.e R.a ns)) [0,0,1,0,1,1,1,1,1] (fr [(0,aR 0 0),(4,aR 1 0),(5,aR 2 0)]) (af.ofList [Ob.mk 51 [Fd.c (W.str s),bt,fI q3,fI q8,fI dD,fS 3 0 ns.length],aT,q9,cF,Ob.mk 9 [Fd.a 0 D.str q4]])))/\((bif decide (nE l e i=0) then dm aI (nT l e i) else false)=false->cG+1<=1/\(cu/\cn*16<=140737488355328)/\(cx s l s (ar l) ns.length ns bF/\True)/\((!bZ l bw bF aY)=true->(cx s l s (ar l) ns.length ns q5/\True)/\(cx s l s (ar l) ns.length ns (bQ l bw q5 q6)/\cG<l.length+1/\(mE l bw q5 q6=0->(l.length:Int)-bQ l bw q5 q6<(↑cQ:Int)))/\cG+cn<=q4.length/\aq [V.agg [wI (7),wI line,W.str name,W.rd D.str (List.take cn (List.drop cG q4)),wI (0),wI (0),W.str eS,W.rs (4:Nat) [],W.rs (10:Nat) (St.ah q2.v),W.rs (10:Nat) []]]=A.p (jn R.v)/\[Ob.mk 51 [Fd.c (W.str s),bt,fI q2.i,fI q2.e,fI q2.a,fS 1 0 ns.length],cF]=rO s l R.i R.e R.a ns)/\((!bZ l bw bF aY)=false->ax (Bg s l) (aG (A.p (jn R.v)) (rO s l R.i R.e R.a ns)) [0,0,1,0,1,1,1,1,1] (fr [(0,aR 0 0),(4,aR 1 0),(5,aR 2 0)]) (af.ofList [Ob.mk 51 [Fd.c (W.str s),bt,fI q5,fI bw,fI (nA s l e a i),fS 3 0 ns.length],aT,q9,cF,Ob.mk 9 [Fd.a 0 D.str q4]]))))/\(decide (e=0)=false->(cx s l s (ar l) ns.length ns i/\cG<l.length+1/\(e=0->(l.length:Int)-i<(↑cQ:Int)))/\cu/\aq [V.agg [wI (7),wI line,W.str name,W.rd D.str aI,wI (0),wI (0),W.str eS,W.rs (4:Nat) [],W.rs (10:Nat) (St.ah cB.v),W.rs (10:Nat) []]]=A.p (jn R.v)/\[Ob.mk 51 [Fd.c (W.str s),bt,fI cB.i,fI cB.e,fI cB.a,fS 1 0 ns.length],cF]=rO s l R.i R.e R.a ns)) (by kernel_rfl)
   try simp only[sL]
   have h0:=hi.1;have h9:=hi.2;have u2:dx l (cA l e i):=E4 hi;have g1:=Jj (l:=l) e i;have b1:l.length+1>0:=by omega
   have key:∀ e' a':Int,e=0->iA s l acc (gV s l i e a)=⟨nT l e i,cA l e i,e',a'⟩->
    (bZ l e' (cA l e i) ic=false->cx s l s (ar l) ns.length ns (bQ l e' (cA l e i) ic)/\
     (cx s l s (ar l) ns.length ns (bQ l e' (bQ l e' (cA l e i) ic) fj)/\0<l.length+1/\(mE l e' (bQ l e' (cA l e i) ic) fj=0->(l.length:Int)-bQ l e' (bQ l e' (cA l e i) ic) fj<(l.length+1:Nat)))/\
     acc.length+1<=(acc++[nT l e i]).length/\
     aq [V.agg [.int .i64 7,.int .i64 line,.str name,.rd .str (List.take (acc.length+1) (acc++[nT l e i])),.int .i64 0,.int .i64 0,.str eS,.rs 4 [],.rs 10 (St.ah (gE s l true (l.length+1) (bQ l e' (bQ l e' (cA l e i) ic) fj) (mE l e' (bQ l e' (cA l e i) ic) fj) (mA s l e' a' (bQ l e' (cA l e i) ic) fj)).v),.rs 10 []]]=A.p (jn R.v)/\
     rO s l (gE s l true (l.length+1) (bQ l e' (bQ l e' (cA l e i) ic) fj) (mE l e' (bQ l e' (cA l e i) ic) fj) (mA s l e' a' (bQ l e' (cA l e i) ic) fj)).i (gE s l true (l.length+1) (bQ l e' (bQ l e' (cA l e i) ic) fj) (mE l e' (bQ l e' (cA l e i) ic) fj) (mA s l e' a' (bQ l e' (cA l e i) ic) fj)).e (gE s l true (l.length+1) (bQ l e' (bQ l e' (cA l e i) ic) fj) (mE l e' (bQ l e' (cA l e i) ic) fj) (mA s l e' a' (bQ l e' (cA l e i) ic) fj)).a ns=rO s l R.i R.e R.a ns)/\
    (bZ l e' (cA l e i) ic=true->ax (Bg s l) (aG (.p (jn R.v)) (rO s l R.i R.e R.a ns)) [0,0,1,0,1,1,1,1,1] (fr [(0,pA),(4,.p (.c (.ptr 1 0))),(5,.p (.c (.ptr 2 0)))]) (.ofList [Si s l (bQ l e' (cA l e i) ic) e' a' ns.length,Gj,OL line name (.sl 4 0 (acc.length+1) 1),iY ns,iY (acc++[nT l e i])])):=by
    intro e' a' e0 hd;obtain⟨n1,n2⟩:=hn e0;unfold vf at he;rw[hd,decide_eq_true e0] at he;simp only[cond_true] at he;refine⟨fun h1=>?_,fun h1=>?_⟩;rw[h1] at he;simp only[cond_false] at he;rw[iJ h1];have u3:=t6 (e:=e') fj u2;have u4:=u3.1;subst he;have el:List.take (acc.length+1) (acc++[nT l e i])=acc++[nT l e i]:=List.take_of_length_le (by rw[List.length_append];exact Nat.le_refl _);rw[el];exact⟨rin u2,⟨rin u3,b1,fun _=>by omega⟩,by rw[List.length_append];exact Nat.le_refl _,MN _ _ _ _,rfl⟩;rw[h1] at he;have hlt:=(jf h1).2;rw[je h1];have ih:=MO ht hK ns line name R k (acc++[nT l e i]) (cA l e i+1) e' a' he ⟨by omega,by omega,hi.2.2⟩ (fun _=>by simp only[List.length_append,List.length_singleton];omega) (by omega);rw[List.length_append,List.length_singleton] at ih;exact ih
   refine⟨fun e0=>⟨rin hi,fun _=>trivial,fun _=>by have:=(hn e0).2;omega,fun hd=>?_,fun hd=>?_⟩,fun e1=>?_⟩;have hm:=Zd hd.1;have hj:cA l e i=i+1:=by unfold cA;rw[if_pos hm]
   have hw:IntKind.i64.wrap (cA l e i-1)=cA l e i-1:=wrap64 (by omega) (by omega);rw[hw];have n2:=(hn e0).2;obtain⟨k1,k2⟩:=key (kq (nE l e i) 8) (lP s l (nE l e i) (nA s l e a i) (cA l e i-1)) e0 (by
    unfold iA gV;simp only[hd.1,hd.2,decide_true,Bool.and_self,cond_true])
   exact⟨⟨rin u2,by omega⟩,by omega,rin u2,k1,k2⟩;have n2:=(hn e0).2;obtain⟨k1,k2⟩:=key (nE l e i) (nA s l e a i) e0 (by
    unfold iA gV;by_cases hz:nE l e i=0;simp only[hd hz,Bool.and_false,cond_false];simp only[decide_eq_false hz,Bool.false_and,cond_false])
   exact⟨by omega,rin u2,k1,k2⟩;rw[Sc _ _ _ _ e1] at he;subst he;exact⟨⟨rin hi,b1,fun h=>absurd h e1⟩,MN _ _ _ _,rfl⟩
end
theorem pok_lt{l:List Tok}{j:Int}(h:dx l j):(l.length:Int)-j<(l.length+1:Nat):=by have:=h.1;omega
section
variable (s:ByteArray) (l:List Tok)
theorem V7(ht:fR s l)(hK:gA l)(ns:List ByteArray)(line:Int)(name:ByteArray)(R:RR St)(i e a:Int)(he:Iv line name (vf s l (l.length+1) [] i e a).v (mV (mW s l) (vf s l (l.length+1) [] i e a))=R)(hi:dx l i) :
 ax (Bg s l) (aG (.p (jn R.v)) (rO s l R.i R.e R.a ns)) [0,0,1,0,1,1,1,1,1] (fr [(0,pA),(4,.p (.c (.ptr 1 0))),(5,.p (.c (.ptr 2 0)))]) (.ofList [Si s l i e a ns.length,Gj,OL line name .nil,iY ns]):=by
 refine bD (DP ht hK) (by kernel_rfl) 400 ?_;apply of_eq (q:=let q5:=(ByteArray.mk #[(41:UInt8)]);let q7:=decide (nE l e i=0)=true;let aI:=(ByteArray.mk #[(44:UInt8)]);let aY:=Fd.c (W.rs (4:Nat) (ar l));let cu:=Ob.mk 9 [Fd.a 0 D.str ns];let cB:=(nE l e i);let cF:=Fd.c (W.rs (10:Nat) []);let bw:=(lP s l cB (nA s l e a i) (IntKind.i64.wrap (cA l e i-1)));let cn:=(cA l e i);let cL:=(l.length+1);let cG:=(0:Nat);let q4:=(bQ l cB cn aI);let q6:=(kq cB (8:Int));let q8:=Ob.mk 54 [fI (7),fI line,Fd.c (W.str name),fS 4 0 1,fI (0),fI (0),Fd.c (W.str eS),Fd.c (W.rs (4:Nat) []),cF,cF];let q9:=Ob.mk 54 [fI (0),fI (0),Fd.c (W.str eS),Fd.c W.nil,fI (0),fI (0),Fd.c (W.str eS),Fd.c (W.rs (4:Nat) []),cF,cF];let aT:=(List.take (1:Nat) (List.drop cG [nT l e i]));let bt:=(gE s l true cL i e a);let q2:=(gE s l true cL (bQ l cB q4 q5) (mE l cB q4 q5) (mA s l cB (nA s l e a i) q4 q5));let q3:=(bQ l q6 cn aI);let q1:=(gE s l true cL (bQ l q6 q3 q5) (mE l q6 q3 q5) (mA s l q6 bw q3 q5));(decide (e=0)=true->(cx s l s (ar l) ns.length ns i/\True)/\(q7->q7)/\(q7->q7)/\(q7->q7)/\(q7->cG<=1000000)/\(q7->q7)/\((bif decide (nE l e i=0) then dm [] (nT l e i) else false)=true->(cx s l s (ar l) ns.length ns cn/\(0:Int)<=IntKind.i64.wrap (cA l e i-1))/\cG+1<=1/\(1:Nat)*16<=140737488355328/\(cx s l s (ar l) ns.length ns cn/\True)/\((!bZ l q6 cn aI)=true->(cx s l s (ar l) ns.length ns q3/\True)/\(cx s l s (ar l) ns.length ns (bQ l q6 q3 q5)/\cG<l.length+1/\(mE l q6 q3 q5=0->(l.length:Int)-bQ l q6 q3 q5<(↑cL:Int)))/\cG+1<=1/\aq [V.agg [wI (7),wI line,W.str name,W.rd D.str (List.take (1:Nat) (List.drop cG aT)),wI (0),wI (0),W.str eS,W.rs (4:Nat) [],W.rs (10:Nat) (St.ah q1.v),W.rs (10:Nat) []]]=A.p (jn R.v)/\[Ob.mk 51 [Fd.c (W.str s),aY,fI q1.i,fI q1.e,fI q1.a,fS 1 0 ns.length],cu]=rO s l R.i R.e R.a ns)/\((!bZ l q6 cn aI)=false->ax (Bg s l) (aG (A.p (jn R.v)) (rO s l R.i R.e R.a ns)) [0,0,1,0,1,1,1,1,1] (fr [(0,aR 0 0),(4,aR 1 0),(5,aR 2 0)]) (af.ofList [Ob.mk 51 [Fd.c (W.str s),aY,fI q3,fI q6,fI bw,fS 3 0 ns.length],q9,q8,cu,Ob.mk 9 [Fd.a 0 D.str aT]])))/\((bif decide (nE l e i=0) then dm [] (nT l e i) else false)=false->cG+1<=1/\(1:Nat)*16<=140737488355328/\(cx s l s (ar l) ns.length ns cn/\True)/\((!bZ l cB cn aI)=true->(cx s l s (ar l) ns.length ns q4/\True)/\(cx s l s (ar l) ns.length ns (bQ l cB q4 q5)/\cG<l.length+1/\(mE l cB q4 q5=0->(l.length:Int)-bQ l cB q4 q5<(↑cL:Int)))/\cG+1<=1/\aq [V.agg [wI (7),wI line,W.str name,W.rd D.str (List.take (1:Nat) (List.drop cG aT)),wI (0),wI (0),W.str eS,W.rs (4:Nat) [],W.rs (10:Nat) (St.ah q2.v),W.rs (10:Nat) []]]=A.p (jn R.v)/\[Ob.mk 51 [Fd.c (W.str s),aY,fI q2.i,fI q2.e,fI q2.a,fS 1 0 ns.length],cu]=rO s l R.i R.e R.a ns)/\((!bZ l cB cn aI)=false->ax (Bg s l) (aG (A.p (jn R.v)) (rO s l R.i R.e R.a ns)) [0,0,1,0,1,1,1,1,1] (fr [(0,aR 0 0),(4,aR 1 0),(5,aR 2 0)]) (af.ofList [Ob.mk 51 [Fd.c (W.str s),aY,fI q4,fI cB,fI (nA s l e a i),fS 3 0 ns.length],q9,q8,cu,Ob.mk 9 [Fd.a 0 D.str aT]]))))/\(decide (e=0)=false->(cx s l s (ar l) ns.length ns i/\cG<l.length+1/\(e=0->(l.length:Int)-i<(↑cL:Int)))/\aq [V.agg [wI (7),wI line,W.str name,W.rd D.str [],wI (0),wI (0),W.str eS,W.rs (4:Nat) [],W.rs (10:Nat) (St.ah bt.v),W.rs (10:Nat) []]]=A.p (jn R.v)/\[Ob.mk 51 [Fd.c (W.str s),aY,fI bt.i,fI bt.e,fI bt.a,fS 1 0 ns.length],cu]=rO s l R.i R.e R.a ns)) (by kernel_rfl)
 try simp only[sL]
 have h0:=hi.1;have h9:=hi.2;have u2:dx l (cA l e i):=E4 hi;have g1:=Jj (l:=l) e i;have b1:l.length+1>0:=by omega
 refine⟨fun e0=>⟨rin hi,fun _=>by omega,fun hd=>(by cases hd.2),fun _=>⟨by omega,rin u2,?_⟩⟩,fun e1=>?_⟩;have hd:iA s l [] (gV s l i e a)=⟨nT l e i,cA l e i,nE l e i,nA s l e a i⟩:=by
  unfold iA gV;have:dm [] (nT l e i)=false:=rfl;simp only[this,Bool.and_false,cond_false]
 unfold vf at he;rw[hd,decide_eq_true e0] at he;simp only[cond_true,List.nil_append] at he;refine⟨fun h1=>?_,fun h1=>?_⟩;rw[h1] at he;simp only[cond_false] at he;rw[iJ h1];have u3:=t6 (e:=nE l e i) fj u2;have u4:=u3.1;subst he;exact⟨rin u2,⟨rin u3,b1,fun _=>pok_lt u3⟩,MN _ _ _ _,rfl⟩;rw[h1] at he;have hlt:=(jf h1).2;rw[je h1];exact MO s l ht hK ns line name R l.length [nT l e i] (cA l e i+1) (nE l e i) (nA s l e a i) he ⟨by omega,by omega,hi.2.2⟩ (fun _=>by
  have:=Zd (jf h1).1;have hj:cA l e i=i+1:=by unfold cA;rw[if_pos this]
  simp only[List.length_singleton];omega) (by omega)
 rw[Sc _ _ _ _ e1] at he;subst he;exact⟨⟨rin hi,b1,fun h=>absurd h e1⟩,MN _ _ _ _,rfl⟩
noncomputable def Ze:lp:=fun aN i e a ns=>match aN with
 | [.p (.c (.int .i64 line))]=>some { c:=e=0/\ns.length<=20000,r:=.p (jn (og s l (mW s l) ns line i e a).v),i:=(og s l (mW s l) ns line i e a).i,e:=(og s l (mW s l) ns line i e a).e,a:=(og s l (mW s l) ns line i e a).a,ns:=ns++[nT l e i] }
 | _=>none
theorem dfR_is(ht:fR s l)(hK:gA l):u6 1 21 s l (Ze s l):=by
 intro aN i e a ns p hp hi hc;unfold Ze at hp;split at hp;rename_i line;cases hp;obtain⟨e0,hc⟩:e=0/\ns.length<=20000:=hc;refine ew (aK:=[([0,0,1,0,1,1,1,1,1],[0,4,5])]) (eu:=[]) (fz:=[some (.sl .str)]) (DP ht hK) Tryz.func21 (by kernel_rfl) 1 (by kernel_rfl) 400 ?_;apply of_eq (q:=let q1:=(List.take ns.length (List.drop (0:Nat) ns)++List.take (1:Nat) (List.drop (0:Nat) [nT l e i]));let q2:=(ByteArray.mk #[(40:UInt8)]);let q3:=(og s l (mW s l) ns line i e a);let q6:=(kq (nE l e i) (8:Int));let q7:=decide (nE l e i=0)=true;let q8:=(ByteArray.mk #[(41:UInt8)]);let q9:=(R1.pure (Cd.t.and Cd.t) (aS 1 0 ns.length));let aT:=(cA l e i);let bt:=(ns++[nT l e i]);let cu:=(mE l (nE l e i) aT q2);let cB:=ns.length<=20000;let cF:=(bQ l (nE l e i) aT q2);let bw:=(A.p (jn q3.v));let cn:=(mA s l q6 (lP s l (nE l e i) (nA s l e a i) (IntKind.i64.wrap (cA l e i-1))) aT q2);let cL:=(mE l q6 aT q2);let cG:=(List.take ns.length (List.drop (0:Nat) ns));let dD:=Fd.c (W.rs (4:Nat) (ar l));let bF:=(bQ l q6 aT q2);let cQ:=Fd.c (W.rs (10:Nat) []);let cg:=Ob.mk 9 [Fd.a 0 D.str q1];let eH:=(0:Nat)+ns.length<=ns.length;let cN:=(ByteArray.mk #[]);let q4:=(gE s l true (l.length+1) (bQ l cL bF q8) cL cn);let q5:=(gE s l true (l.length+1) (bQ l cu cF q8) cu (mA s l (nE l e i) (nA s l e a i) aT q2));let aI:=Ob.mk 54 [fI (0),fI (0),Fd.c (W.str cN),Fd.c W.nil,fI (0),fI (0),Fd.c (W.str cN),Fd.c (W.rs (4:Nat) []),cQ,cQ];let aY:=Ob.mk 54 [fI (7),fI line,Fd.c (W.str (nT l e i)),Fd.c W.nil,fI (0),fI (0),Fd.c (W.str cN),Fd.c (W.rs (4:Nat) []),cQ,cQ];(cx s l s (ar l) ns.length ns i/\True)/\(q7->q7)/\(q7->q7)/\(q7->q7)/\(q7->q7)/\(q7->q7)/\(q7->q7)/\(q7->eH)/\(q7->cG.length<=1000000)/\(q7->q7)/\((bif decide (nE l e i=0) then dm cG (nT l e i) else false)=true->(cx s l s (ar l) ns.length ns aT/\(0:Int)<=IntKind.i64.wrap (cA l e i-1))/\(0:Nat)+1<=1/\(eH/\(ns.length+1)*16<=140737488355328)/\q9.v=q9.v/\q9.v=q9.v/\(cx s l s (ar l) (ns.length+1) q1 aT/\True)/\(cx s l s (ar l) q1.length q1 bF/\True)/\((!bZ l cL bF q8)=true->ax (ct Tryz.prog (Jk s l) Tryz.f21 (1:Nat) [([0,0,1,0,1,1,1,1,1],[0,4,5])] [] [some D.str.sl]) (aG (iz.mk (e=0/\cB) bw q3.i q3.e q3.a bt).r (rO s l (iz.mk (e=0/\cB) bw q3.i q3.e q3.a bt).i (iz.mk (e=0/\cB) bw q3.i q3.e q3.a bt).e (iz.mk (e=0/\cB) bw q3.i q3.e q3.a bt).a (iz.mk (e=0/\cB) bw q3.i q3.e q3.a bt).ns)) [0,0,1,0,1,1,1,1,1] (fr [(0,aR 0 0),(4,aR 1 0),(5,aR 2 0)]) (af.ofList [Ob.mk 51 [Fd.c (W.str s),dD,fI (bQ l cL bF q8),fI cL,fI cn,fS 3 0 q1.length],aI,aY,cg]))/\((!bZ l cL bF q8)=false->(cx s l s (ar l) q1.length q1 (bQ l cL bF q8)/\(0:Nat)<l.length+1/\(mE l q6 aT q2=0->(l.length:Int)-bQ l cL bF q8<(↑(l.length+1):Int)))/\aq [V.agg [wI (7),wI line,W.str (nT l e i),W.rd D.str [],wI (0),wI (0),W.str cN,W.rs (4:Nat) [],W.rs (10:Nat) (St.ah q4.v),W.rs (10:Nat) []]]=A.p (jn q3.v)/\[Ob.mk 51 [Fd.c (W.str s),dD,fI q4.i,fI q4.e,fI q4.a,fS 1 0 q1.length],cg]=rO s l q3.i q3.e q3.a bt))/\((bif decide (nE l e i=0) then dm cG (nT l e i) else false)=false->(0:Nat)+1<=1/\(eH/\(ns.length+1)*16<=140737488355328)/\q9.v=q9.v/\q9.v=q9.v/\(cx s l s (ar l) (ns.length+1) q1 aT/\True)/\(cx s l s (ar l) q1.length q1 cF/\True)/\((!bZ l cu cF q8)=true->ax (ct Tryz.prog (Jk s l) Tryz.f21 (1:Nat) [([0,0,1,0,1,1,1,1,1],[0,4,5])] [] [some D.str.sl]) (aG (iz.mk (e=0/\cB) bw q3.i q3.e q3.a bt).r (rO s l (iz.mk (e=0/\cB) bw q3.i q3.e q3.a bt).i (iz.mk (e=0/\cB) bw q3.i q3.e q3.a bt).e (iz.mk (e=0/\cB) bw q3.i q3.e q3.a bt).a (iz.mk (e=0/\cB) bw q3.i q3.e q3.a bt).ns)) [0,0,1,0,1,1,1,1,1] (fr [(0,aR 0 0),(4,aR 1 0),(5,aR 2 0)]) (af.ofList [Ob.mk 51 [Fd.c (W.str s),dD,fI (bQ l cu cF q8),fI cu,fI (mA s l (nE l e i) (nA s l e a i) aT q2),fS 3 0 q1.length],aI,aY,cg]))/\((!bZ l cu cF q8)=false->(cx s l s (ar l) q1.length q1 (bQ l cu cF q8)/\(0:Nat)<l.length+1/\(mE l (nE l e i) aT q2=0->(l.length:Int)-bQ l cu cF q8<(↑(l.length+1):Int)))/\aq [V.agg [wI (7),wI line,W.str (nT l e i),W.rd D.str [],wI (0),wI (0),W.str cN,W.rs (4:Nat) [],W.rs (10:Nat) (St.ah q5.v),W.rs (10:Nat) []]]=A.p (jn q3.v)/\[Ob.mk 51 [Fd.c (W.str s),dD,fI q5.i,fI q5.e,fI q5.a,fS 1 0 q1.length],cg]=rO s l q3.i q3.e q3.a bt))) (by kernel_rfl)
 try simp only[sL]
 have h0:=hi.1;have h9:=hi.2;have u2:dx l (cA l e i):=E4 hi;have g1:=Jj (l:=l) e i;have b1:l.length+1>0:=by omega
 generalize hR:og s l (mW s l) ns line i e a=R;have hm:ns.length+1=(ns++[nT l e i]).length:=by rw[List.length_append];rfl
 have key:∀ e' a':Int,iA s l ns (gV s l i e a)=⟨nT l e i,cA l e i,e',a'⟩->
  cx s l s (ar l) (ns.length+1) (ns++[nT l e i]) (cA l e i)/\cx s l s (ar l) (ns++[nT l e i]).length (ns++[nT l e i]) (bQ l e' (cA l e i) eY)/\
  (bZ l (mE l e' (cA l e i) eY) (bQ l e' (cA l e i) eY) fj=false->ax (Bg s l) (aG (.p (jn R.v)) (rO s l R.i R.e R.a (ns++[nT l e i]))) [0,0,1,0,1,1,1,1,1] (fr [(0,pA),(4,.p (.c (.ptr 1 0))),(5,.p (.c (.ptr 2 0)))])
   (.ofList [Si s l (bQ l (mE l e' (cA l e i) eY) (bQ l e' (cA l e i) eY) fj) (mE l e' (cA l e i) eY) (mA s l e' a' (cA l e i) eY) (ns++[nT l e i]).length,Gj,OL line (nT l e i) .nil,iY (ns++[nT l e i])]))/\
  (bZ l (mE l e' (cA l e i) eY) (bQ l e' (cA l e i) eY) fj=true->(cx s l s (ar l) (ns++[nT l e i]).length (ns++[nT l e i]) (bQ l (mE l e' (cA l e i) eY) (bQ l e' (cA l e i) eY) fj)/\0<l.length+1/\(mE l e' (cA l e i) eY=0->(l.length:Int)-bQ l (mE l e' (cA l e i) eY) (bQ l e' (cA l e i) eY) fj<(l.length+1:Nat)))/\
   aq [V.agg [.int .i64 7,.int .i64 line,.str (nT l e i),.rd .str [],.int .i64 0,.int .i64 0,.str eS,.rs 4 [],.rs 10 (St.ah (gE s l true (l.length+1) (bQ l (mE l e' (cA l e i) eY) (bQ l e' (cA l e i) eY) fj) (mE l e' (cA l e i) eY) (mA s l e' a' (cA l e i) eY)).v),.rs 10 []]]=A.p (jn R.v)/\
   rO s l (gE s l true (l.length+1) (bQ l (mE l e' (cA l e i) eY) (bQ l e' (cA l e i) eY) fj) (mE l e' (cA l e i) eY) (mA s l e' a' (cA l e i) eY)).i (gE s l true (l.length+1) (bQ l (mE l e' (cA l e i) eY) (bQ l e' (cA l e i) eY) fj) (mE l e' (cA l e i) eY) (mA s l e' a' (cA l e i) eY)).e (gE s l true (l.length+1) (bQ l (mE l e' (cA l e i) eY) (bQ l e' (cA l e i) eY) fj) (mE l e' (cA l e i) eY) (mA s l e' a' (cA l e i) eY)).a (ns++[nT l e i])=rO s l R.i R.e R.a (ns++[nT l e i])):=by
  intro e' a' hd;unfold og at hR;rw[hd] at hR;have u3:=t6 (e:=e') eY u2;have u4:=u3.1;have hR:Iv line (nT l e i) (Fh s l ⟨nT l e i,bQ l e' (cA l e i) eY,mE l e' (cA l e i) eY,mA s l e' a' (cA l e i) eY⟩).v (mV (mW s l) (Fh s l ⟨nT l e i,bQ l e' (cA l e i) eY,mE l e' (cA l e i) eY,mA s l e' a' (cA l e i) eY⟩))=R:=hR;unfold Fh at hR;refine⟨?_,rin u3,fun h1=>?_,fun h1=>?_⟩;rw[hm];exact rin u2;rw[iJ h1];simp only[h1,cond_false] at hR;exact V7 s l ht hK (ns++[nT l e i]) line (nT l e i) R _ _ _ hR u3;have hlt:=(jf h1).2;rw[je h1];simp only[h1,cond_true] at hR;subst hR;exact⟨⟨rin ⟨by omega,by omega,hi.2.2⟩,b1,fun _=>by omega⟩,MN _ _ _ _,rfl⟩
 refine⟨rin hi,fun _=>trivial,fun _=>by omega,fun hd=>?_,fun hd=>?_⟩;have hm':=Zd hd.1;have hj:cA l e i=i+1:=by unfold cA;rw[if_pos hm']
 have hw:IntKind.i64.wrap (cA l e i-1)=cA l e i-1:=wrap64 (by omega) (by omega);rw[hw];obtain⟨k1,k2,k3,k4⟩:=key (kq (nE l e i) 8) (lP s l (nE l e i) (nA s l e a i) (cA l e i-1)) (by
  unfold iA gV;simp only[hd.1,hd.2,decide_true,Bool.and_self,cond_true])
 exact⟨⟨rin u2,by omega⟩,by omega,k1,k2,k3,k4⟩;obtain⟨k1,k2,k3,k4⟩:=key (nE l e i) (nA s l e a i) (by
  unfold iA gV;by_cases hz:nE l e i=0;simp only[hd hz,Bool.and_false,cond_false];simp only[decide_eq_false hz,Bool.false_and,cond_false])
 exact⟨by omega,k1,k2,k3,k4⟩;cases hp
end
end Go.Proofs.YtaplgnhojknpiaaGreatDoor
