/- Names, and which expressions are valid. -/
import Derived.Test.YtnbjjocbncblaaaGreatDoorPars2
import Derived.Test.YtnbjjocbncblaaaGreatDoorShelf1
import Derived.Lib.ItoaLen
namespace Go.Proofs.YtnbjjocbncblaaaGreatDoor
open Go.aN Go.RowKit
set_option maxRecDepth 100000
theorem nm1_sem(c:Int):br Tryz.prog 71 [LY c] [] (bB (cB c)) []:=by
 refine bn (aK:=[]) UM Tryz.func71 (by kernel_rfl) (aj:=0) rfl (by kernel_rfl) 100 ?_;apply of_eq (q:=let q1:=(bif gu c then true else cx c)=false;(gu c=false->gu c=false)/\(gu c=false->gu c=false)/\(q1->q1)/\(q1->q1)/\ax [vB (bif bif gu c then true else cx c then true else decide (c=95))]=bB (cB c)/\([]:List Ob)=[]) (by kernel_rfl)
 try simp only[sL]
 first|rfl|exact⟨by omega,rfl⟩|exact ?a
def c_nm1:cV:=kE (.int .u8) fun c=>(.t,bB (cB c),[])
theorem YJ:bt Tryz.prog 71 c_nm1:=fJ (by kernel_rfl) fun c _=>nm1_sem c
theorem fi2_sem(c:Int):br Tryz.prog 75 [LY c] [] (bB (cJ c)) []:=by
 refine bn (aK:=[]) aD Tryz.func75 (by kernel_rfl) (aj:=0) rfl (by kernel_rfl) 100 ?_;apply of_eq (q:=let q2:=decide ((32:Int)<=c);let q1:=(bif q2 then decide (c<=126) else false)=true;(q2=true->q2=true)/\(q2=true->q2=true)/\(q1->q1)/\(q1->q1)/\ax [vB (bif bif q2 then decide (c<=126) else false then !decide (c=34) else false)]=bB (cJ c)/\([]:List Ob)=[]) (by kernel_rfl)
 try simp only[sL]
 first|rfl|exact⟨by omega,rfl⟩|exact ?a
def c_fi2:cV:=kE (.int .u8) fun c=>(.t,bB (cJ c),[])
theorem YK:bt Tryz.prog 75 c_fi2:=fJ (by kernel_rfl) fun c _=>fi2_sem c
noncomputable def MR:bX:=[(71,c_nm1)]
theorem JD:bh Tryz.prog MR:=aq YJ aD
noncomputable def VJ:bg:=dK Tryz.prog MR Tryz.f70 0 [([0,0,1],[0,1,2])]
theorem Am(s:ByteArray)(hs:s.size<=1000000):∀(k i:Nat),k=s.size-i->i<=s.size->aJ VJ (aW (nI (aO cB s i)) []) [0,0,1] (fr [(0,sS s),(1,nI i),(2,rB 71)]) (.ofList [])
 | k,i,hk,hi=>by
   refine ct JD (by kernel_rfl) 100 ?_;apply of_eq (q:=let q2:=decide ((i:Int)<(s.size:Int));let q1:=q2=true;(q1->q1)/\(q1->q1)/\(q1->(0:Int)<=(i:Int)/\(i:Int)<(s.size:Int))/\(q1->q1)/\(q1->q1)/\(q1->q1)/\((bif q2 then cB (aY s i) else false)=true->aJ VJ (aW (nI (↑(aO cB s i):Int)) []) [0,0,1] (fr [(0,aP (W.str s)),(1,nI (IntKind.i64.wrap ((i:Int)+1))),(2,aP (W.func 71 []))]) (af.ofList []))/\((bif q2 then cB (aY s i) else false)=false->ax [vI (i:Int)]=nI (↑(aO cB s i):Int)/\([]:List Ob)=[])) (by kernel_rfl)
   try simp only[sL]
   refine⟨fun h=>by omega,fun h=>?_,fun h=>?_⟩
   . have hi1:i<s.size:=by omega
     rw[wrap64 (by omega) (by omega),gA ⟨hi1,h.2⟩];cases k with
     | zero=>omega
     | succ k=>exact Am s hs k (i+1) (by omega) (by omega)
   rw[kP (by rintro⟨h1,h2⟩;rw[h (by omega)] at h2;cases h2)];rfl
theorem YL(s:ByteArray)(i:Int)(h:s.size<=1000000/\0<=i/\i<=s.size):br Tryz.prog 70 [sS s,nI i,rB 71] [] (nI (aO cB s i.toNat)) []:=by
 obtain⟨hs,h0,h1⟩:=h;obtain⟨n,rfl⟩:∃ n:Nat,i=n:=⟨i.toNat,by omega⟩;rw[Int.toNat_natCast];refine bn (aK:=[([0,0,1],[0,1,2])]) JD Tryz.func70 (by kernel_rfl) (aj:=0) rfl (by kernel_rfl) 100 ?_;apply of_eq (q:=aJ (dK Tryz.prog MR Tryz.f70 (0:Nat) [([0,0,1],[0,1,2])]) (aW (nI (↑(aO cB s n):Int)) []) [0,0,1] (fr [(0,aP (W.str s)),(1,nI (n:Int)),(2,aP (W.func 71 []))]) (af.ofList [])) (by kernel_rfl)
 try simp only[sL,Int.reduceEq,Int.reduceNe,Nat.reduceAdd]
 exact Am s hs _ n rfl (by omega)
noncomputable def MS:bX:=[(75,c_fi2)]
theorem JE:bh Tryz.prog MS:=aq YK aD
noncomputable def VK:bg:=dK Tryz.prog MS Tryz.f70 0 [([0,0,1],[0,1,2])]
theorem Ao(s:ByteArray)(hs:s.size<=1000000):∀(k i:Nat),k=s.size-i->i<=s.size->aJ VK (aW (nI (aO cJ s i)) []) [0,0,1] (fr [(0,sS s),(1,nI i),(2,rB 75)]) (.ofList [])
 | k,i,hk,hi=>by
   refine ct JE (by kernel_rfl) 100 ?_;apply of_eq (q:=let q2:=decide ((i:Int)<(s.size:Int));let q1:=q2=true;(q1->q1)/\(q1->q1)/\(q1->(0:Int)<=(i:Int)/\(i:Int)<(s.size:Int))/\(q1->q1)/\(q1->q1)/\(q1->q1)/\((bif q2 then cJ (aY s i) else false)=true->aJ VK (aW (nI (↑(aO cJ s i):Int)) []) [0,0,1] (fr [(0,aP (W.str s)),(1,nI (IntKind.i64.wrap ((i:Int)+1))),(2,aP (W.func 75 []))]) (af.ofList []))/\((bif q2 then cJ (aY s i) else false)=false->ax [vI (i:Int)]=nI (↑(aO cJ s i):Int)/\([]:List Ob)=[])) (by kernel_rfl)
   try simp only[sL]
   refine⟨fun h=>by omega,fun h=>?_,fun h=>?_⟩
   . have hi1:i<s.size:=by omega
     rw[wrap64 (by omega) (by omega),gA ⟨hi1,h.2⟩];cases k with
     | zero=>omega
     | succ k=>exact Ao s hs k (i+1) (by omega) (by omega)
   rw[kP (by rintro⟨h1,h2⟩;rw[h (by omega)] at h2;cases h2)];rfl
theorem YM(s:ByteArray)(i:Int)(h:s.size<=1000000/\0<=i/\i<=s.size):br Tryz.prog 70 [sS s,nI i,rB 75] [] (nI (aO cJ s i.toNat)) []:=by
 obtain⟨hs,h0,h1⟩:=h;obtain⟨n,rfl⟩:∃ n:Nat,i=n:=⟨i.toNat,by omega⟩;rw[Int.toNat_natCast];refine bn (aK:=[([0,0,1],[0,1,2])]) JE Tryz.func70 (by kernel_rfl) (aj:=0) rfl (by kernel_rfl) 100 ?_;apply of_eq (q:=aJ (dK Tryz.prog MS Tryz.f70 (0:Nat) [([0,0,1],[0,1,2])]) (aW (nI (↑(aO cJ s n):Int)) []) [0,0,1] (fr [(0,aP (W.str s)),(1,nI (n:Int)),(2,aP (W.func 75 []))]) (af.ofList [])) (by kernel_rfl)
 try simp only[sL,Int.reduceEq,Int.reduceNe,Nat.reduceAdd]
 exact Ao s hs _ n rfl (by omega)
def FI:cV:={ cC:=[],f:=fun args ai=>match args,ai with
 | [x,y,.p (.c (.func f []))],[]=>match xY .str x,xY (.int .i64) y with
   | some s,some i =>
     bif Nat.beq f 71 then some (.p (ByteArray.size s<=1000000/\0<=(i:Int)/\(i:Int)<=ByteArray.size s),nI (aO cB s (Int.toNat i)),[]) else
     bif Nat.beq f 75 then some (.p (ByteArray.size s<=1000000/\0<=(i:Int)/\(i:Int)<=ByteArray.size s),nI (aO cJ s (Int.toNat i)),[]) else none
   | _,_=>none
 | _,_=>none }
theorem JF:bt Tryz.prog 70 FI:=by
 refine⟨by kernel_rfl,fun args ai c r aV e hc=>?_⟩;simp only[FI] at e;split at e;rename_i x y f;split at e
 . rename_i s i hx hy
   have key:∀(g:Nat)(p:Int->Bool),(∀(s:ByteArray)(i:Int),(s.size<=1000000/\0<=i/\i<=s.size)->br Tryz.prog 70 [sS s,nI i,rB g] [] (nI (aO p s i.toNat)) [])->f=g->
    some ((Cd.p (ByteArray.size s<=1000000/\0<=(i:Int)/\(i:Int)<=ByteArray.size s)),nI (aO p s (Int.toNat i)),([]:List Ob))=some (c,r,aV)->br Tryz.prog 70 [x,y,rB f] [] r aV:=by
    rintro g p hg rfl e;cases e;exact br.args (hg s i hc) fun η Z vs hv=>match vs,hv with | [_,_,_],⟨a,b,d⟩=>⟨lQ hx a,lQ hy b,d⟩
   cases h1:Nat.beq f 71 with
   | true=>rw[h1] at e;exact key _ _ YL (Nat.eq_of_beq_eq_true h1) e
   | false =>
   rw[h1] at e;cases h2:Nat.beq f 75 with
   | true=>rw[h2] at e;exact key _ _ YM (Nat.eq_of_beq_eq_true h2) e
   | false=>rw[h2] at e;cases e
 cases e;cases e
def bR(s:ByteArray):Bool:=!decide (s=eS)&&decide ((s.size:Int)<=20)&&gu (aY s 0)&&!eF rC s&&decide ((aO cB s 0:Int)=s.size)
noncomputable def gNm:bX:=[(67,zD),(69,RG),(68,Fw),(70,FI)]
theorem gNm_ok:bh Tryz.prog gNm:=aq wX (aq L7 (aq BR (aq JF aD)))
theorem YN(s:ByteArray):br Tryz.prog 36 [sS s] [] (bB (bR s)) []:=by
 refine bn (aK:=[]) gNm_ok Tryz.func36 (by kernel_rfl) (aj:=0) rfl (by kernel_rfl) 200 ?_;apply of_eq (q:=let q3:=decide (s=ByteArray.mk #[]);let q4:=decide ((20:Int)<(s.size:Int));let q1:=(bif bif q3 then true else q4 then true else !gu (aY s (0:Nat)))=false;let q2:=(bif q3 then true else q4)=false;(q3=false->q3=false)/\(q3=false->q3=false)/\(q3=false->q3=false)/\(q2->q2)/\(q2->(0:Int)<=0/\(0:Int)<(s.size:Int))/\(q2->q2)/\(q2->q2)/\(q2->q2)/\(q1->q1)/\(q1->q1)/\(q1->(13:Nat)<=1000000)/\(q1->q1)/\((bif bif bif q3 then true else q4 then true else !gu (aY s (0:Nat)) then true else eF rC s)=true->ax [vB false]=bB (bR s)/\([]:List Ob)=[])/\((bif bif bif q3 then true else q4 then true else !gu (aY s (0:Nat)) then true else eF rC s)=false->(s.size<=1000000/\(0:Int)<=0/\(0:Int)<=(s.size:Int))/\ax [vB (decide ((↑(aO cB s (0:Nat)):Int)=(s.size:Int)))]=bB (bR s)/\([]:List Ob)=[])) (by kernel_rfl)
 try simp only[sL]
 refine⟨fun h=>?_,fun _=>by omega,fun h=>?_,fun h=>?_⟩;have:s.size≠0:=by
  intro h0;apply h.1;obtain⟨d⟩:=s;have:d=#[]:=Array.eq_empty_of_size_eq_zero h0;rw[this]
 omega;unfold bR;rcases h with ((h|h)|h)|h;rw[decide_eq_true h];rfl;rw[decide_eq_false (p:=(s.size:Int)<=20) (by omega),Bool.and_false];rfl;rw[h,Bool.and_false];rfl;rw[h,Bool.not_true,Bool.and_false];rfl;refine⟨⟨by omega,by omega⟩,?_⟩;unfold bR;rw[decide_eq_false h.1.1.1,decide_eq_true h.1.1.2,h.1.2,h.2];rfl
def FJ:cV:=kE .str fun s=>(.t,bB (bR s),[])
theorem B6:bt Tryz.prog 36 FJ:=fJ (by kernel_rfl) fun s _=>YN s
mutual
def Ex.lI:Ex->Ex->Bool
 | .mk k n t l,.mk k' n' t' l'=>decide (k=k')&&decide (n=n')&&decide (t=t')&&Ex.gN l l'
def Ex.gN:List Ex->List Ex->Bool
 | [],[]=>true
 | a::l,b::m=>a.lI b&&Ex.gN l m
 | _,_=>false
end
theorem Ex.yj:Ex.gN [] []=true:=by rw[Ex.gN]
theorem Ex.ql(a b:Ex)(l m:List Ex):Ex.gN (a::l) (b::m)=(a.lI b&&Ex.gN l m):=by rw[Ex.gN]
theorem Ex.yp:∀(l m:List Ex),l.length≠m.length->Ex.gN l m=false
 | [],[],h=>absurd rfl h
 | [],b::m,_=>by rw[Ex.gN]<;>simp
 | a::l,[],_=>by rw[Ex.gN]<;>simp
 | a::l,b::m,h=>by
   rw[Ex.ql,Ex.yp l m (fun e=>h (by simp[e])),Bool.and_false]
mutual
theorem Ex.uw:∀(a b:Ex),a.lI b=true↔a=b
 | .mk k n t l,.mk k' n' t' l'=>by
   rw[Ex.lI,Bool.and_eq_true,Bool.and_eq_true,Bool.and_eq_true,Ex.sy l l',decide_eq_true_eq,decide_eq_true_eq,decide_eq_true_eq,Ex.mk.injEq,and_assoc,and_assoc]
theorem Ex.sy:∀(l m:List Ex),Ex.gN l m=true↔l=m
 | [],[]=>by simp[Ex.yj]
 | [],b::m=>by rw[Ex.gN]<;>simp
 | a::l,[]=>by rw[Ex.gN]<;>simp
 | a::l,b::m=>by rw[Ex.ql,Bool.and_eq_true,Ex.uw a b,Ex.sy l m,List.cons.injEq]
end
theorem Ex.eta(e:Ex):Ex.mk e.k e.n e.t e.l=e:=by cases e;rfl
theorem Ex.xg(e:Ex):Ex.mk (PV.asInt (.int e.k)) (PV.asInt (.int e.n)) (PV.bN (.str e.t)) (bZ (PV.aG (.aZ 4 (Ex.ak e.l))))=e:=by
 have:bZ (PV.aG (.aZ 4 (Ex.ak e.l)))=e.l:=dG _;rw[this];exact e.eta
abbrev MT(k m:Int)(t:ByteArray)(l:List PV):A:=.p (.agg [.int .i64 k,.int .i64 m,.str t,.rs 4 l])
abbrev rsX(L:List Ex):A:=.p (.c (.rs 4 (Ex.ak L)))
def DR(l m:List PV)(n:Nat):Prop:=(∃ L,l=Ex.ak L)/\(∃ M,m=Ex.ak M)/\Ex.aH (bZ l)<n/\Ex.aH (bZ l)<=1000000/\Ex.aH (bZ m)<=1000000
theorem FK{L M:List Ex}{n:Nat}(h1:Ex.aH L<n)(h2:Ex.aH L<=1000000)(h3:Ex.aH M<=1000000):DR (Ex.ak L) (Ex.ak M) n:=by
 unfold DR;rw[dG,dG];exact⟨⟨_,rfl⟩,⟨_,rfl⟩,h1,h2,h3⟩
noncomputable def cXe(n:Nat):cV:={ cC:=[],f:=fun args ai=>match args,ai with
 | [.p (.agg [.int .i64 k,.int .i64 m,.str t,.rs q l]),.p (.agg [.int .i64 k',.int .i64 m',.str t',.rs q' l'])],[]=>bif Nat.beq q 4&&Nat.beq q' 4 then some (.p (DR l l' n),bB ((Ex.mk k m t (bZ l)).lI (.mk k' m' t' (bZ l'))),[]) else none
 | _,_=>none }
def MU(n:Nat):Prop:=∀(k m:Int)(t:ByteArray)(L:List Ex)(k' m':Int)(t':ByteArray)(M:List Ex),Ex.aH L<n->Ex.aH L<=1000000->Ex.aH M<=1000000->br Tryz.prog 45 [MT k m t (Ex.ak L),MT k' m' t' (Ex.ak M)] [] (bB ((Ex.mk k m t L).lI (.mk k' m' t' M))) []
theorem VL{n:Nat}(h:MU n):bt Tryz.prog 45 (cXe n):=by
 refine⟨by kernel_rfl,fun args ai c r aV e hc=>?_⟩;simp only[cXe] at e;split at e;obtain⟨hb,e1⟩:=ah.ay e;clear e;simp only[Bool.and_eq_true,Nat.beq_eq] at hb;obtain⟨rfl,rfl⟩:=hb;cases e1;obtain⟨⟨L,rfl⟩,⟨M,rfl⟩,h2,h3,h4⟩:=hc;rw[dG] at h2 h3 h4;rw[dG,dG];exact h _ _ _ _ _ _ _ _ h2 h3 h4;cases e
noncomputable def gXe(n:Nat):bX:=[(45,cXe n)]
theorem MV{n:Nat}(h:MU n):bh Tryz.prog (gXe n):=aq (VL h) aD
abbrev fnXe:A:=.p (.c (.func 45 []))
noncomputable def sXe(n:Nat):bg:=eG Tryz.prog (gXe n) Tryz.f80 0 [([0,1,0,1,1],[1,2,15,16,17])] [] []
theorem PA(n:Nat)(h:MU n)(L M:List Ex)(he:L.length=M.length)(hL:Ex.aH L<=n)(hl:Ex.aH L<=1000000)(hm:Ex.aH M<=1000000):∀(j i:Nat),j=L.length-i->i<=L.length->
 aJ (sXe n) (aW (bB (Ex.gN (L.drop i) (M.drop i))) []) [0,1,0,1,1] (fr [(1,rsX M),(2,fnXe),(15,rsX L),(16,nI L.length),(17,nI i)]) (.ofList [])
 | j,i,hj,hi=>by
   refine ct (MV h) (by kernel_rfl) 200 ?_;apply of_eq (q:=let q1:=(i*4+1+1+1);let q2:=(Ex.ak L);let q3:=(Ex.ak M);let q4:=(Ex.gN (List.drop i L) (List.drop i M));let q5:=(i*4+1+1);(decide ((i:Int)<(L.length:Int))=true->((0:Int)<=(i:Int)/\i*4<q2.length)/\i*4+4<=q2.length/\(PV.int (0:Int)).like (q2.getD (i*4) (PV.bool false))=true/\(PV.int (0:Int)).like (q2.getD (i*4+1) (PV.bool false))=true/\(PV.str (ByteArray.mk #[])).like (q2.getD q5 (PV.bool false))=true/\(PV.aZ (4:Nat) []).like (q2.getD q1 (PV.bool false))=true/\((0:Int)<=(i:Int)/\i*4<q3.length)/\i*4+4<=q3.length/\(PV.int (0:Int)).like (q3.getD (i*4) (PV.bool false))=true/\(PV.int (0:Int)).like (q3.getD (i*4+1) (PV.bool false))=true/\(PV.str (ByteArray.mk #[])).like (q3.getD q5 (PV.bool false))=true/\(PV.aZ (4:Nat) []).like (q3.getD q1 (PV.bool false))=true/\DR (q2.getD q1 (PV.bool false)).aG (q3.getD q1 (PV.bool false)).aG n/\((!(Ex.mk (q2.getD (i*4) (PV.bool false)).asInt (q2.getD (i*4+1) (PV.bool false)).asInt (q2.getD q5 (PV.bool false)).bN (bZ (q2.getD q1 (PV.bool false)).aG)).lI (Ex.mk (q3.getD (i*4) (PV.bool false)).asInt (q3.getD (i*4+1) (PV.bool false)).asInt (q3.getD q5 (PV.bool false)).bN (bZ (q3.getD q1 (PV.bool false)).aG)))=true->ax [vB false]=bB q4/\([]:List Ob)=[])/\((!(Ex.mk (q2.getD (i*4) (PV.bool false)).asInt (q2.getD (i*4+1) (PV.bool false)).asInt (q2.getD q5 (PV.bool false)).bN (bZ (q2.getD q1 (PV.bool false)).aG)).lI (Ex.mk (q3.getD (i*4) (PV.bool false)).asInt (q3.getD (i*4+1) (PV.bool false)).asInt (q3.getD q5 (PV.bool false)).bN (bZ (q3.getD q1 (PV.bool false)).aG)))=false->aJ (sXe n) (aW (bB q4) []) [0,1,0,1,1] (fr [(1,aP (W.rs (4:Nat) q3)),(2,aP (W.func 45 [])),(15,aP (W.rs (4:Nat) q2)),(16,nI (L.length:Int)),(17,nI (IntKind.i64.wrap ((i:Int)+1)))]) (af.ofList [])))/\(decide ((i:Int)<(L.length:Int))=false->ax [vB true]=bB q4/\([]:List Ob)=[])) (by kernel_rfl)
   try simp only[sL]
   have bE:=Ex.jM L;refine⟨fun h1=>?_,fun h1=>?_⟩;have h1:i<L.length:=by omega
   have h2:i<M.length:=by omega
   rw[DN h1,w9 h1,DP h1,DQ h1,DN h2,w9 h2,DP h2,DQ h2,Ex.xg,Ex.xg,wrap64 (n:=(i:Int)+1) (by omega) (by omega),List.drop_eq_getElem_cons h1,List.drop_eq_getElem_cons h2,Ex.ql];have m1:=Ex.jN (List.getElem_mem h1);have m2:=Ex.jN (List.getElem_mem h2);rw[Ex.fE] at m1 m2;have g1:i*4+4<=(Ex.ak L).length:=by rw[Ex.dQ];omega
   have g2:i*4+4<=(Ex.ak M).length:=by rw[Ex.dQ];omega
   have hX:DR (PV.aZ 4 (Ex.ak L[i].l)).aG (PV.aZ 4 (Ex.ak M[i].l)).aG n:=FK (by omega) (by omega) (by omega);refine⟨⟨by omega,by omega⟩,g1,rfl,rfl,rfl,rfl,⟨by omega,by omega⟩,g2,rfl,rfl,rfl,rfl,hX,fun hf=>?_,fun ht=>?_⟩;rw[hf];rfl
   . rw[ht,Bool.true_and];cases j with
     | zero=>omega
     | succ j=>exact PA n h L M he hL hl hm j (i+1) (by omega) (by omega)
   rw[List.drop_eq_nil_of_le (by omega),List.drop_eq_nil_of_le (by omega),Ex.yj];rfl
noncomputable def cEqf(n:Nat):cV:={ cC:=[],f:=fun args ai=>match args,ai with
 | [.p (.c (.rs q l)),.p (.c (.rs q' l')),.p (.c (.func f []))],[]=>bif Nat.beq q 4&&Nat.beq q' 4&&Nat.beq f 45 then some (.p (DR l l' (n+1)),bB (Ex.gN (bZ l) (bZ l')),[]) else none
 | _,_=>none }
theorem cEqf_ok{n:Nat}(h:MU n):bt Tryz.prog 80 (cEqf n):=by
 refine⟨by kernel_rfl,fun args ai c r aV e hc=>?_⟩;simp only[cEqf] at e;split at e;obtain⟨hb,e1⟩:=ah.ay e;clear e;simp only[Bool.and_eq_true,Nat.beq_eq] at hb;obtain⟨⟨rfl,rfl⟩,rfl⟩:=hb;cases e1;obtain⟨⟨L,rfl⟩,⟨M,rfl⟩,h2,h3,h4⟩:=hc;rw[dG] at h2 h3 h4;rw[dG,dG];refine bn (aK:=[([0,1,0,1,1],[1,2,15,16,17])]) (MV h) Tryz.func80 (by kernel_rfl) (aj:=0) rfl (by kernel_rfl) 200 ?_;apply of_eq (q:=let q1:=decide ((↑((Ex.ak L).length/4):Int)=(↑((Ex.ak M).length/4):Int));((!q1)=true->ax [vB false]=bB (Ex.gN L M)/\([]:List Ob)=[])/\((!q1)=false->aJ (dK Tryz.prog (gXe n) Tryz.f80 (0:Nat) [([0,1,0,1,1],[1,2,15,16,17])]) (aW (bB (Ex.gN L M)) []) [0,1,0,1,1] (fr [(1,aP (W.rs (4:Nat) (Ex.ak M))),(2,aP (W.func 45 [])),(15,aP (W.rs (4:Nat) (Ex.ak L))),(16,nI (↑((Ex.ak L).length/4):Int)),(17,nI (0))]) (af.ofList []))) (by kernel_rfl)
 try simp only[sL]
 rw[Pp,Pp];refine⟨fun hn=>?_,fun hn=>?_⟩;rw[Ex.yp _ _ (by omega)];rfl;exact PA n h L M (by omega) (by omega) h3 h4 (L.length-0) 0 rfl (by omega);cases e
theorem xe_step(n:Nat)(h:MU n):MU (n+1):=by
 intro k m t L k' m' t' M hL hl hm;refine bn (aK:=[]) (aq (cEqf_ok h) aD) Tryz.func45 (by kernel_rfl) (aj:=0) rfl (by kernel_rfl) 200 ?_;apply of_eq (q:=let q1:=(bif bif decide (k=k') then decide (m=m') else false then decide (t=t') else false)=true;let q2:=(bif decide (k=k') then decide (m=m') else false)=true;let q3:=decide (k=k')=true;(q3->q3)/\(q3->q3)/\(q3->q3)/\(q3->q3)/\(q3->q3)/\(q2->q2)/\(q2->q2)/\(q2->q2)/\(q2->q2)/\(q2->q2)/\(q1->q1)/\(q1->q1)/\(q1->q1)/\(q1->q1)/\(q1->DR (Ex.ak L) (Ex.ak M) (n+1))/\(q1->q1)/\ax [vB (bif bif bif decide (k=k') then decide (m=m') else false then decide (t=t') else false then Ex.gN (bZ (Ex.ak L)) (bZ (Ex.ak M)) else false)]=bB ((Ex.mk k m t L).lI (Ex.mk k' m' t' M))/\([]:List Ob)=[]) (by kernel_rfl)
 try simp only[sL]
 rw[dG,dG];exact⟨fun _=>FK hL hl hm,rfl⟩
theorem MW:∀ n,MU n
 | 0=>fun k m t L _ _ _ _ h=>by omega
 | n+1=>xe_step n (MW n)
def oo(e:Ex):Bool:=e.lI (.mk 0 0 eS [])
theorem YO(k m:Int)(t:ByteArray)(L:List Ex)(hl:Ex.aH L<=1000000):br Tryz.prog 38 [MT k m t (Ex.ak L)] [] (bB (oo (.mk k m t L))) []:=by
 refine bn (aK:=[]) (MV (MW 1000001)) Tryz.func38 (by kernel_rfl) (aj:=0) rfl (by kernel_rfl) 200 ?_;apply of_eq (q:=DR (Ex.ak L) [] (1000001:Nat)/\ax [vB ((Ex.mk k m t (bZ (Ex.ak L))).lI (Ex.mk (0:Int) (0:Int) (ByteArray.mk #[]) (bZ [])))]=bB (oo (Ex.mk k m t L))/\([]:List Ob)=[]) (by kernel_rfl)
 try simp only[sL]
 have h:=FK (L:=L) (M:=[]) (n:=1000001) (by omega) hl (by rw[Ex.dX];omega);rw[Ex.cg] at h;have e0:bZ []=[]:=by have:=dG [];rwa [Ex.cg] at this
 rw[dG,e0];exact⟨h,rfl⟩
noncomputable def Si:cV:={ cC:=[],f:=fun args ai=>match args,ai with
 | [.p (.agg [.int .i64 k,.int .i64 m,.str t,.rs q l])],[]=>bif Nat.beq q 4 then some (.p ((∃ L,l=Ex.ak L)/\Ex.aH (bZ l)<=1000000),bB (oo (Ex.mk k m t (bZ l))),[]) else none
 | _,_=>none }
theorem YP:bt Tryz.prog 38 Si:=by
 refine⟨by kernel_rfl,fun args ai c r aV e hc=>?_⟩;simp only[Si] at e;split at e;obtain⟨hb,e1⟩:=ah.ay e;clear e;cases Nat.eq_of_beq_eq_true hb;cases e1;obtain⟨⟨L,rfl⟩,h2⟩:=hc;rw[dG] at h2 ⊢;exact YO _ _ _ _ h2;cases e
abbrev DS:Ob:=⟨42,[.c (.mp 1)]⟩
def tQ(k n:Int)(t:ByteArray)(len:Nat):Bool :=
 bif decide (k=1) then decide (0<=n)&&decide (n<=1000000000000000)&&decide ((len:Int)=0)&&decide (t=eS) else
 bif decide (k=2) then decide ((t.size:Int)<=200)&&decide ((aO cJ t 0:Int)=t.size)&&decide ((len:Int)=0)&&decide (n=0) else
 bif decide (k=3) then(decide (n=0)||decide (n=1))&&decide ((len:Int)=0)&&decide (t=eS) else
 bif decide (k=4) then bR t&&decide ((len:Int)=0)&&decide (n=0) else
 bif decide (k=5) then decide (n=0)&&decide (t=eS) else
 bif decide (k=6) then bR t&&decide (n=0) else
 bif decide (k=7) then decide ((len:Int)=2)&&decide (n=0)&&decide (t=eS) else
 bif decide (k=8) then(decide (t=gJ)||decide (t=jK))&&decide ((len:Int)=1)&&decide (n=0) else
 bif decide (k=9) then decide (0<dU t)&&decide ((len:Int)=2)&&decide (n=0) else false
mutual
def Ex.fin:Ex->Bool
 | .mk k n t l=>Ex.iT l&&tQ k n t l.length
def Ex.iT:List Ex->Bool
 | []=>true
 | e::l=>e.fin&&Ex.iT l
end
theorem Ex.fin_eq(e:Ex):e.fin=(Ex.iT e.l&&tQ e.k e.n e.t e.l.length):=by cases e;rw[Ex.fin];rfl
theorem Ex.iL:Ex.iT []=true:=by rw[Ex.iT]
theorem Ex.l7(e:Ex)(l:List Ex):Ex.iT (e::l)=(e.fin&&Ex.iT l):=by rw[Ex.iT]
def Ex.bad:List Ex->Int->Int
 | [],_=>-1
 | e::l,i=>bif e.fin then Ex.bad l (i+1) else i
theorem Ex.PB:∀(l:List Ex)(i:Int),0<=i->decide (0<=Ex.bad l i)=!Ex.iT l
 | [],i,_=>by rw[Ex.iL];rfl
 | e::l,i,h=>by
   rw[Ex.l7,Ex.bad];cases e.fin with
   | true=>rw[cond_true,Bool.true_and];exact Ex.PB l (i+1) (by omega)
   | false=>rw[cond_false,decide_eq_true h];rfl
def wo(l:List PV)(n:Nat):Prop:=(∃ L,l=Ex.ak L)/\Ex.aH (bZ l)<n/\Ex.aH (bZ l)<=1000000
theorem Ca{L:List Ex}{n:Nat}(h1:Ex.aH L<n)(h2:Ex.aH L<=1000000):wo (Ex.ak L) n:=by
 unfold wo;rw[dG];exact⟨⟨_,rfl⟩,h1,h2⟩
noncomputable def Sj(n:Nat):cV:={ cC:=[false,true],f:=fun args ai=>match args,ai with
 | [.p (.agg [.int .i64 k,.int .i64 m,.str t,.rs q l]),.p (.c (.mp 0))],[o]=>bif Nat.beq q 4 then some (.p (o=bC/\wo l n),bB (Ex.mk k m t (bZ l)).fin,[o]) else none
 | _,_=>none }
abbrev tv:A:=.p (.c (.mp 0))
def xh(n:Nat):Prop:=∀(k m:Int)(t:ByteArray)(L:List Ex),Ex.aH L<n->Ex.aH L<=1000000->br Tryz.prog 37 [MT k m t (Ex.ak L),tv] [bC] (bB (Ex.mk k m t L).fin) [bC]
theorem Hu{n:Nat}(h:xh n):bt Tryz.prog 37 (Sj n):=by
 refine⟨by kernel_rfl,fun args ai c r aV e hc=>?_⟩;simp only[Sj] at e;split at e;obtain⟨hb,e1⟩:=ah.ay e;clear e;cases Nat.eq_of_beq_eq_true hb;cases e1;obtain⟨rfl,⟨L,rfl⟩,h2,h3⟩:=hc;rw[dG] at h2 h3 ⊢;exact h _ _ _ _ h2 h3;cases e
abbrev fnF1:A:=.p (.c (.func 74 [(0,0)]))
noncomputable def cF1(n:Nat):cV:={ cC:=[false,true],f:=fun args ai=>match args,ai with
 | [.p (.agg [.int .i64 k,.int .i64 m,.str t,.rs q l]),.p (.c (.ptr 0 0))],[⟨ty,[.c (.mp 1)]⟩,o]=>bif Nat.beq q 4&&Nat.beq ty 42 then some (.p (o=bC/\wo l n),bB (!(Ex.mk k m t (bZ l)).fin),[DS,o]) else none
 | _,_=>none }
theorem cF1_ok{n:Nat}(h:xh n):bt Tryz.prog 74 (cF1 n):=by
 refine⟨by kernel_rfl,fun args ai c r aV e hc=>?_⟩;simp only[cF1] at e;split at e;rename_i k m t q l ty o;obtain⟨hb,e1⟩:=ah.ay e;clear e;simp only[Bool.and_eq_true,Nat.beq_eq] at hb;obtain⟨rfl,rfl⟩:=hb;cases e1;obtain⟨rfl,⟨L,rfl⟩,h2,h3⟩:=hc;rw[dG] at h2 h3 ⊢;refine bn (aK:=[]) (aq (Hu h) aD) Tryz.func74 (by kernel_rfl) (aj:=2) rfl (by kernel_rfl) 200 ?_;apply of_eq (q:=(Ob.mk 42 [Fd.m D.str (D.int .i64) cF]=bC/\wo (Ex.ak L) n)/\ax [V.c (W.bool !(Ex.mk k m t (bZ (Ex.ak L))).fin)]=bB !(Ex.mk k m t L).fin/\[Ob.mk 42 [Fd.c (W.mp (1:Nat))],Ob.mk 42 [Fd.m D.str (D.int .i64) cF]]=[DS,bC]) (by kernel_rfl)
 try simp only[sL]
 rw[dG];exact⟨Ca h2 h3,rfl⟩;cases e
noncomputable def gF1(n:Nat):bX:=[(74,cF1 n)]
theorem VN{n:Nat}(h:xh n):bh Tryz.prog (gF1 n):=aq (cF1_ok h) aD
noncomputable def sIxE(n:Nat):bg:=eG Tryz.prog (gF1 n) Tryz.f92 2 [([0,1,0,1],[0,1,7,8])] [] []
theorem MX(n:Nat)(h:xh n)(L:List Ex)(hL:Ex.aH L<=n)(hl:Ex.aH L<=1000000):∀(j i:Nat),j=L.length-i->i<=L.length->
 aJ (sIxE n) (aW (nI (Ex.bad (L.drop i) i)) [DS,bC]) [0,1,0,1] (fr [(0,rsX L),(1,fnF1),(7,nI L.length),(8,nI i)]) (.ofList [DS,bC])
 | j,i,hj,hi=>by
   refine ct (VN h) (by kernel_rfl) 200 ?_;apply of_eq (q:=let q1:=[Ob.mk 42 [Fd.c (W.mp (1:Nat))],Ob.mk 42 [Fd.m D.str (D.int .i64) cF]]=[DS,bC];let q2:=(Ex.ak L);let q3:=(Ex.bad (List.drop i L) (i:Int));(decide ((i:Int)<(L.length:Int))=true->((0:Int)<=(i:Int)/\i*4<q2.length)/\i*4+4<=q2.length/\(PV.int (0:Int)).like (q2.getD (i*4) (PV.bool false))=true/\(PV.int (0:Int)).like (q2.getD (i*4+1) (PV.bool false))=true/\(PV.str (ByteArray.mk #[])).like (q2.getD (i*4+1+1) (PV.bool false))=true/\(PV.aZ (4:Nat) []).like (q2.getD (i*4+1+1+1) (PV.bool false))=true/\(Ob.mk 42 [Fd.m D.str (D.int .i64) cF]=bC/\wo (q2.getD (i*4+1+1+1) (PV.bool false)).aG n)/\((!(Ex.mk (q2.getD (i*4) (PV.bool false)).asInt (q2.getD (i*4+1) (PV.bool false)).asInt (q2.getD (i*4+1+1) (PV.bool false)).bN (bZ (q2.getD (i*4+1+1+1) (PV.bool false)).aG)).fin)=true->ax [vI (i:Int)]=nI q3/\q1)/\((!(Ex.mk (q2.getD (i*4) (PV.bool false)).asInt (q2.getD (i*4+1) (PV.bool false)).asInt (q2.getD (i*4+1+1) (PV.bool false)).bN (bZ (q2.getD (i*4+1+1+1) (PV.bool false)).aG)).fin)=false->aJ (sIxE n) (aW (nI q3) [DS,bC]) [0,1,0,1] (fr [(0,aP (W.rs (4:Nat) q2)),(1,aP (W.func 74 [(0,(0:Nat))])),(7,nI (L.length:Int)),(8,nI (IntKind.i64.wrap ((i:Int)+1)))]) (af.ofList [Ob.mk 42 [Fd.c (W.mp (1:Nat))],Ob.mk 42 [Fd.m D.str (D.int .i64) cF]])))/\(decide ((i:Int)<(L.length:Int))=false->ax [vI (-1)]=nI q3/\q1)) (by kernel_rfl)
   try simp only[sL]
   have bE:=Ex.jM L;refine⟨fun h1=>?_,fun h1=>?_⟩;have h1:i<L.length:=by omega
   rw[DN h1,w9 h1,DP h1,DQ h1,Ex.xg,wrap64 (n:=(i:Int)+1) (by omega) (by omega),List.drop_eq_getElem_cons h1,Ex.bad];have m1:=Ex.jN (List.getElem_mem h1);rw[Ex.fE] at m1;have g1:i*4+4<=(Ex.ak L).length:=by rw[Ex.dQ];omega
   have hX:wo (PV.aZ 4 (Ex.ak L[i].l)).aG n:=Ca (by omega) (by omega);refine⟨⟨by omega,by omega⟩,g1,rfl,rfl,rfl,rfl,hX,fun hf=>?_,fun ht=>?_⟩;rw[hf];rfl
   . rw[ht,cond_true];cases j with
     | zero=>omega
     | succ j=>exact MX n h L hL hl j (i+1) (by omega) (by omega)
   rw[List.drop_eq_nil_of_le (by omega)];rfl
noncomputable def cIxE(n:Nat):cV:={ cC:=[false,true],f:=fun args ai=>match args,ai with
 | [.p (.c (.rs q l)),.p (.c (.func f [(0,0)]))],[⟨ty,[.c (.mp 1)]⟩,o]=>bif Nat.beq q 4&&Nat.beq f 74&&Nat.beq ty 42 then some (.p (o=bC/\wo l (n+1)),nI (Ex.bad (bZ l) 0),[DS,o]) else none
 | _,_=>none }
theorem cIxE_ok{n:Nat}(h:xh n):bt Tryz.prog 92 (cIxE n):=by
 refine⟨by kernel_rfl,fun args ai c r aV e hc=>?_⟩;simp only[cIxE] at e;split at e;obtain⟨hb,e1⟩:=ah.ay e;clear e;simp only[Bool.and_eq_true,Nat.beq_eq] at hb;obtain⟨⟨rfl,rfl⟩,rfl⟩:=hb;cases e1;obtain⟨rfl,⟨L,rfl⟩,h2,h3⟩:=hc;rw[dG] at h2 h3 ⊢;refine bn (aK:=[([0,1,0,1],[0,1,7,8])]) (VN h) Tryz.func92 (by kernel_rfl) (aj:=2) rfl (by kernel_rfl) 200 ?_;apply of_eq (q:=aJ (dK Tryz.prog (gF1 n) Tryz.f92 (2:Nat) [([0,1,0,1],[0,1,7,8])]) (aW (nI (Ex.bad L (0:Int))) [DS,bC]) [0,1,0,1] (fr [(0,aP (W.rs (4:Nat) (Ex.ak L))),(1,aP (W.func 74 [(0,(0:Nat))])),(7,nI (↑((Ex.ak L).length/4):Int)),(8,nI (0))]) (af.ofList [Ob.mk 42 [Fd.c (W.mp (1:Nat))],Ob.mk 42 [Fd.m D.str (D.int .i64) cF]])) (by kernel_rfl)
 try simp only[sL,Int.reduceEq,Int.reduceNe,Nat.reduceAdd]
 rw[Pp];exact MX n h L (by omega) h3 (L.length-0) 0 rfl (by omega);cases e
noncomputable def YQ(n:Nat):cV:={ cC:=[false,true],f:=fun args ai=>match args,ai with
 | [.p (.c (.rs q l)),.p (.c (.func f [(0,0)]))],[⟨ty,[.c (.mp 1)]⟩,o]=>bif Nat.beq q 4&&Nat.beq f 74&&Nat.beq ty 42 then some (.p (o=bC/\wo l (n+1)),bB (!Ex.iT (bZ l)),[DS,o]) else none
 | _,_=>none }
theorem cCfE_ok{n:Nat}(h:xh n):bt Tryz.prog 73 (YQ n):=by
 refine⟨by kernel_rfl,fun args ai c r aV e hc=>?_⟩;simp only[YQ] at e;split at e;rename_i q l f ty o;obtain⟨hb,e1⟩:=ah.ay e;clear e;simp only[Bool.and_eq_true,Nat.beq_eq] at hb;obtain⟨⟨rfl,rfl⟩,rfl⟩:=hb;cases e1;obtain⟨rfl,hX⟩:=hc;refine bn (aK:=[]) (aq (cIxE_ok h) aD) Tryz.func73 (by kernel_rfl) (aj:=2) rfl (by kernel_rfl) 200 ?_;apply of_eq (q:=(Ob.mk 42 [Fd.m D.str (D.int .i64) cF]=bC/\wo l (n+1))/\ax [vB (decide ((0:Int)<=Ex.bad (bZ l) (0:Int)))]=bB !Ex.iT (bZ l)/\[Ob.mk 42 [Fd.c (W.mp (1:Nat))],Ob.mk 42 [Fd.m D.str (D.int .i64) cF]]=[DS,bC]) (by kernel_rfl)
 try simp only[sL]
 rw[<-Ex.PB _ 0 (by omega)];exact⟨hX,rfl⟩;cases e
noncomputable def gFi(n:Nat):bX:=[(73,YQ n),(70,FI),(36,FJ)]
theorem gFi_ok{n:Nat}(h:xh n):bh Tryz.prog (gFi n):=aq (cCfE_ok h) (aq JF (aq B6 aD))
theorem YR(n:Nat)(h:xh n):xh (n+1):=by
 intro k m t L hL hl;refine bn (aK:=[]) (gFi_ok h) Tryz.func37 (by kernel_rfl) (aj:=1) rfl (by kernel_rfl) 400 ?_;apply of_eq (q:=let q1:=(↑((Ex.ak L).length/4):Int);let q2:=decide (t=ByteArray.mk #[(110:UInt8),(111:UInt8),(116:UInt8)]);let q4:=decide ((0:Int)<dH D.str (D.int .i64) cF t);let q7:=decide (t=ByteArray.mk #[(45:UInt8)]);let q9:=decide ((t.size:Int)<=200);let aQ:=decide (m=0);let bp:=(bif bif bif q7 then true else q2 then decide (q1=1) else false then aQ else false)=true;let bW:=(R1.pure (Cd.t.and Cd.t) (aP (W.str t))).v=(R1.pure (Cd.t.and Cd.t) (aP (W.str t))).v;let eC:=[Ob.mk 42 [Fd.m D.str (D.int .i64) cF]]=[bC];let gH:=(bif bif q7 then true else q2 then decide (q1=1) else false)=true;let fZ:=decide ((↑(aO cJ t (0:Nat)):Int)=(t.size:Int));let mT:=(bif aQ then true else decide (m=1))=true;let lG:=decide ((0:Int)<=m);let iz:=(bif q9 then fZ else false)=true;let gL:=(bif q7 then true else q2)=true;let jZ:=decide (q1=q1);let iB:=decide (q1=2);let gQ:=decide (q1=0);let j7:=(Ex.mk k m t L);let fC:=q9=true;let jP:=bR t=true;let jO:=decide (m<=1000000000000000);let pz:=decide (t=ByteArray.mk #[]);let yc:=A.cond (fC) (V.c (W.str t))=A.cond (fC) (V.c (W.str t));let q3:=(bif bif bif q9 then fZ else false then gQ else false then aQ else false)=true;let q5:=(bif bif q9 then fZ else false then gQ else false)=true;let q6:=(bif bif bif lG then jO else false then gQ else false then decide (m=m) else false)=true;let q8:=(bif bif bif aQ then true else decide (m=1) then gQ else false then decide (m=m) else false)=true;let bM:=(bif bif lG then jO else false then gQ else false)=true;let dO:=(bif bif aQ then true else decide (m=1) then gQ else false)=true;let fM:=(bif bif bR t then jZ else false then aQ else false)=true;let bY:=(bif bif bR t then gQ else false then aQ else false)=true;let fe:=(bif bif q4 then iB else false then aQ else false)=true;let gP:=(bif lG then jO else false)=true;let cu:=(bif bR t then jZ else false)=true;let gI:=(bif bR t then gQ else false)=true;let dL:=(bif jZ then aQ else false)=true;let kW:=(bif iB then aQ else false)=true;let gK:=(bif q4 then iB else false)=true;(Ob.mk 42 [Fd.m D.str (D.int .i64) cF]=bC/\wo (Ex.ak L) (n+1))/\((!Ex.iT (bZ (Ex.ak L)))=true->ax [vB false]=bB j7.fin/\eC)/\((!Ex.iT (bZ (Ex.ak L)))=false->(decide (k=1)=true->(lG=true->lG=true)/\(lG=true->lG=true)/\(lG=true->lG=true)/\(gP->gP)/\(gP->gP)/\(gP->gP)/\(bM->bM)/\(bM->bM)/\(bM->bM)/\(bM->bM)/\(q6->q6)/\(q6->q6)/\(q6->q6)/\(q6->q6)/\ax [vB (bif bif bif bif lG then jO else false then gQ else false then decide (m=m) else false then pz else false)]=bB j7.fin/\eC)/\(decide (k=1)=false->(decide (k=2)=true->(fC->fC)/\(fC->fC)/\(fC->t.size<=1000000/\(0:Int)<=0/\(0:Int)<=(t.size:Int))/\(fC->fC)/\(fC->fC)/\(fC->fC)/\(fC->fC)/\(fC->fC)/\(fC->fC)/\yc/\(fC->fC)/\yc/\bW/\bW/\(iz->iz)/\(iz->iz)/\(iz->iz)/\(q5->q5)/\(q5->q5)/\(q5->q5)/\(q5->q5)/\(q3->q3)/\(q3->q3)/\(q3->q3)/\(q3->q3)/\ax [vB (bif bif bif bif q9 then fZ else false then gQ else false then aQ else false then decide (t=t) else false)]=bB j7.fin/\eC)/\(decide (k=2)=false->(decide (k=3)=true->(aQ=false->aQ=false)/\(aQ=false->aQ=false)/\(aQ=false->aQ=false)/\(mT->mT)/\(mT->mT)/\(mT->mT)/\(dO->dO)/\(dO->dO)/\(dO->dO)/\(dO->dO)/\(q8->q8)/\(q8->q8)/\(q8->q8)/\(q8->q8)/\ax [vB (bif bif bif bif aQ then true else decide (m=1) then gQ else false then decide (m=m) else false then pz else false)]=bB j7.fin/\eC)/\(decide (k=3)=false->(decide (k=4)=true->bW/\bW/\(jP->jP)/\(jP->jP)/\(jP->jP)/\(gI->gI)/\(gI->gI)/\(gI->gI)/\(gI->gI)/\(bY->bY)/\(bY->bY)/\(bY->bY)/\(bY->bY)/\ax [vB (bif bif bif bR t then gQ else false then aQ else false then decide (t=t) else false)]=bB j7.fin/\eC)/\(decide (k=4)=false->(decide (k=5)=true->(jZ=true->jZ=true)/\(jZ=true->jZ=true)/\(jZ=true->jZ=true)/\(jZ=true->jZ=true)/\(dL->dL)/\(dL->dL)/\(dL->dL)/\(dL->dL)/\ax [vB (bif bif jZ then aQ else false then pz else false)]=bB j7.fin/\eC)/\(decide (k=5)=false->(decide (k=6)=true->bW/\bW/\(jP->jP)/\(jP->jP)/\(jP->jP)/\(cu->cu)/\(cu->cu)/\(cu->cu)/\(cu->cu)/\(fM->fM)/\(fM->fM)/\(fM->fM)/\(fM->fM)/\ax [vB (bif bif bif bR t then jZ else false then aQ else false then decide (t=t) else false)]=bB j7.fin/\eC)/\(decide (k=6)=false->(decide (k=7)=true->(iB=true->iB=true)/\(iB=true->iB=true)/\(iB=true->iB=true)/\(iB=true->iB=true)/\(kW->kW)/\(kW->kW)/\(kW->kW)/\(kW->kW)/\ax [vB (bif bif iB then aQ else false then pz else false)]=bB j7.fin/\eC)/\(decide (k=7)=false->(decide (k=8)=true->(q7=false->q7=false)/\(q7=false->q7=false)/\(q7=false->q7=false)/\(gL->gL)/\(gL->gL)/\(gL->gL)/\(gH->gH)/\(gH->gH)/\(gH->gH)/\(gH->gH)/\(bp->bp)/\(bp->bp)/\(bp->bp)/\(bp->bp)/\ax [vB (bif bif bif bif q7 then true else q2 then decide (q1=1) else false then aQ else false then decide (t=t) else false)]=bB j7.fin/\eC)/\(decide (k=8)=false->(decide (k=9)=true->bW/\bW/\(q4=true->q4=true)/\(q4=true->q4=true)/\(q4=true->q4=true)/\(gK->gK)/\(gK->gK)/\(gK->gK)/\(gK->gK)/\(fe->fe)/\(fe->fe)/\(fe->fe)/\(fe->fe)/\ax [vB (bif bif bif q4 then iB else false then aQ else false then decide (t=t) else false)]=bB j7.fin/\eC)/\(decide (k=9)=false->ax [vB false]=bB j7.fin/\eC))))))))))) (by kernel_rfl)
 try simp only[sL]
 rw[dG,Pp,J2,Ex.fin_eq];simp only[decide_true,Bool.and_true,Bool.true_and];refine⟨Ca (by omega) hl,fun hf=>by show _=bB (Ex.iT L&&_);rw[hf];rfl,fun ht=>?_⟩;show _/\_;have hE:(Ex.iT (Ex.mk k m t L).l&&tQ (Ex.mk k m t L).k (Ex.mk k m t L).n (Ex.mk k m t L).t (Ex.mk k m t L).l.length)=tQ k m t L.length:=by
  show (Ex.iT L&&_)=_;rw[ht];rfl
 rw[hE];refine⟨fun h=>by subst h;rfl,fun h1=>⟨fun h=>by subst h;exact⟨fun h=>⟨by omega,by omega⟩,rfl⟩,fun h2=>⟨fun h=>by subst h;rfl,fun h3=>⟨fun h=>by subst h;rfl,fun h4=>⟨fun h=>by subst h;rfl,fun h5=>⟨fun h=>by subst h;rfl,fun h6=>⟨fun h=>by subst h;rfl,fun h7=>⟨fun h=>by subst h;rfl,fun h8=>⟨fun h=>by subst h;rfl,fun h9=>?_⟩⟩⟩⟩⟩⟩⟩⟩⟩;unfold tQ;rw[decide_eq_false h1,decide_eq_false h2,decide_eq_false h3,decide_eq_false h4,decide_eq_false h5,decide_eq_false h6,decide_eq_false h7,decide_eq_false h8,decide_eq_false h9];rfl
theorem Hv:∀ n,xh n
 | 0=>fun k m t L h=>by omega
 | n+1=>YR n (Hv n)
def cn(xs:List ByteArray)(sep:ByteArray):ByteArray:=⟨(Lib.join (xs.map (·.data.toList)) sep.data.toList).toArray⟩
theorem MY{P:Program}{f:FuncId}{args:List A}{d:D}{y:d.ty}(h:∀(base:Nat) (η:Eta) (Z:ar) (w:World) vs,Go.aN.St base η Z (.ofList []) w->aI (cE η Z) args vs->Calls P f vs.toArray w fun e w'=>∃ u,e=.returned u/\(∀ Z:ar,cG Z d y u)/\Below w.heap.size w w'):br P f args [] (dat d y) [] :=
 BH fun base η Z w vs R hvs _=>h base η Z w vs R hvs
theorem YS(xs : List ByteArray)(sep : ByteArray)(h : xs.length ≤ 1000000 ∧ (cn xs sep).size ≤ 10000000000000) : br Tryz.prog 15 [pq xs, sS sep] [] (sS (cn xs sep)) [] :=
 MY (d := .str) (y := cn xs sep) fun base η Z w vs R hvs => by
  match vs,hvs with
  | [v, s], ⟨⟨_, h1⟩, ⟨_, h2⟩, _⟩ =>
    have h2:s=.string sep:=h2;subst h2;obtain⟨a,len,c,rfl,hl,hc,hx⟩:=au.rd h1;subst hl;by_cases h0:xs=[];subst h0;exact(Tryz.strings_Join_none a c sep w).mono fun e w' ⟨he,hw⟩=>⟨_,he,fun _=>rfl,hw▸Below.refl _ _⟩;rcases hx with hx|⟨b,off,cells,rfl,hb,hd⟩;exact absurd hx h0;obtain⟨ty,fz,hw⟩:=R.zs b cells hb;refine(Tryz.strings_Join b off c xs sep w (fun j x hj=>?_) (cM hw) (by omega) hc ?_).mono fun e w' ⟨he,hB⟩=>⟨_,he,fun _=>rfl,hB⟩;obtain⟨u,e1,e2⟩:=hd j x hj;have e2:u=.string x:=e2;subst e2;simp[World.cell?,hw,e1];have:=h.2;have e:(cn xs sep).size=(Lib.join (xs.map (·.data.toList)) sep.data.toList).length:=by simp[cn,ByteArray.size]
    omega
def Ka:cV:=zy dS .str fun xs sep=>(.p (List.length (α:=ByteArray) xs<=1000000/\(cn xs sep).size<=10000000000000),sS (cn xs sep),[])
theorem Ey:bt Tryz.prog 15 Ka:=r9 (by kernel_rfl) fun xs s h=>YS xs s h
def Cb(n:Int):ByteArray:=⟨(Lib.itoa n).toArray⟩
theorem YT {Z:ar} (hK:gj Tryz.prog Z) {base:Nat} {η:Eta} {S:af} {w:World} (R:Go.aN.St base η Z S w):Lib.TabIs Tryz.prog w "internal/strconv.uint64pow10" .u64 Lib.pow10Tab:=by
 obtain⟨g,hg⟩:∃ g,Tryz.prog.globalNamed "internal/strconv.uint64pow10" = some g:=⟨1,by kernel_rfl⟩;have h:=hK.1 ("internal/strconv.uint64pow10",.u64,Q6) (by simp[Q7]) g hg;obtain⟨ty,fz,e⟩:=R.zs _ _ h;unfold Lib.TabIs World.var?;rw[hg];simp only[Option.bind_some,e];rfl
theorem itB_sem(n:Int)(h:-9223372036854775808<=n/\n<=9223372036854775807):br Tryz.prog 63 [nI n] [] (sS (Cb n)) [] :=
 BH (d := .str) (y := Cb n) fun base η Z w vs R hvs hK => by
  match vs,hvs with
  | [v],⟨⟨_,h1⟩,_⟩ =>
    have h1:v=.int .i64 n:=h1;subst h1;refine(Tryz.strconv_Itoa n h.1 h.2 w (YT hK R)).mono ?_;rintro e w' ⟨rfl,k,os,rfl⟩;exact⟨_,rfl,fun _=>rfl,⟨rfl,rfl,rfl,by simp[Sort.grow,World.drewN],fun b hb=>by simp only[Sort.grow,World.drewN];rw[Array.getElem?_append_left hb]⟩⟩
def cItB:cV:=kE (.int .i64) fun n=>(.p (-9223372036854775808<=(show Int from n)/\(show Int from n)<=9223372036854775807),sS (Cb n),[])
theorem cItB_ok:bt Tryz.prog 63 cItB:=fJ (by kernel_rfl) fun n h=>itB_sem n h
theorem YU(n:Int)(h:-9223372036854775808<=n/\n<=9223372036854775807):(Cb n).size<=21:=Lib.itoa_length_le n h.1 h.2
def tR(b:Bool):ByteArray:=bif b then su else tO
theorem foB_sem(b:Bool):br Tryz.prog 64 [bB b] [] (sS (tR b)) [] :=
 MY (d := .str) (y := tR b) fun base η Z w vs R hvs => by
  match vs,hvs with
  | [v],⟨⟨_,h1⟩,_⟩ =>
    have h1:v=.bool b:=h1;subst h1;refine(Tryz.strconv_FormatBool b w).mono ?_;rintro e w' ⟨rfl,rfl⟩;exact⟨_,rfl,fun _=>(by cases b<;>rfl),Below.refl _ _⟩
def cFoB:cV:=kE .bool fun b=>(.t,sS (tR b),[])
theorem cFoB_ok:bt Tryz.prog 64 cFoB:=fJ (by kernel_rfl) fun b _=>foB_sem b
def dz(k:Int)(t:ByteArray):Int:=bif decide (k=9) then dU t else bif decide (k=8) then(bif decide (t=jK) then 3 else 7) else bif decide (k=7) then 9 else 10
theorem VO(k m:Int)(t:ByteArray)(l:List PV):br Tryz.prog 61 [MT k m t l,tv] [bC] (nI (dz k t)) [bC]:=by
 refine bn (aK:=[]) aD Tryz.func61 (by kernel_rfl) (aj:=1) rfl (by kernel_rfl) 200 ?_;apply of_eq (q:=let q1:=[Ob.mk 42 [Fd.m D.str (D.int .i64) cF]]=[bC];let q2:=decide (t=ByteArray.mk #[(110:UInt8),(111:UInt8),(116:UInt8)]);(decide (k=9)=true->ax [vI (dH D.str (D.int .i64) cF t)]=nI (dz k t)/\q1)/\(decide (k=9)=false->(decide (k=8)=true->(q2=true->ax [vI (3)]=nI (dz k t)/\q1)/\(q2=false->ax [vI (7)]=nI (dz k t)/\q1))/\(decide (k=8)=false->(decide (k=7)=true->ax [vI (9)]=nI (dz k t)/\q1)/\(decide (k=7)=false->ax [vI (10)]=nI (dz k t)/\q1)))) (by kernel_rfl)
 try simp only[sL]
 rw[J2];refine⟨fun h=>by subst h;rfl,fun h9=>⟨fun h=>by subst h;exact⟨fun h=>by subst h;rfl,fun h=>by unfold dz;rw[decide_eq_false h];rfl⟩,fun h8=>⟨fun h=>by subst h;rfl,fun h7=>?_⟩⟩⟩;unfold dz;rw[decide_eq_false h9,decide_eq_false h8,decide_eq_false h7];rfl
noncomputable def MZ:cV:={ cC:=[false,true],f:=fun args ai=>match args,ai with
 | [.p (.agg [.int .i64 k,.int .i64 m,.str t,.rs q l]),.p (.c (.mp 0))],[o]=>bif Nat.beq q 4 then some (.p (o=bC),nI (dz k t),[o]) else none
 | _,_=>none }
theorem VP:bt Tryz.prog 61 MZ:=by
 refine⟨by kernel_rfl,fun args ai c r aV e hc=>?_⟩;simp only[MZ] at e;split at e;obtain⟨hb,e1⟩:=ah.ay e;clear e;cases Nat.eq_of_beq_eq_true hb;cases e1;cases hc;exact VO _ _ _ _;cases e
def jB(p:Int×ByteArray)(pl:Int):ByteArray:=bif decide (p.1<pl) then eH++p.2++dx else p.2
abbrev jo:ByteArray:=⟨#[44,32]⟩
abbrev mL:ByteArray:=⟨#[32]⟩
abbrev mw:ByteArray:=⟨#[34]⟩
abbrev vz:ByteArray:=⟨#[94]⟩
abbrev Hw:ByteArray:=⟨#[110,111,116,32]⟩
def mM(ps:List (Int×ByteArray))(i:Nat):Int×ByteArray:=ps.getD i (0,eS)
def DT(lv:Int)(t:ByteArray)(a b:Int×ByteArray):ByteArray :=
 bif decide (lv=8) then jB a 9++vz++jB b 7 else
 bif decide (lv=4) then jB a (lv+1)++mL++t++mL++jB b (lv+1) else
 jB a lv++mL++t++mL++jB b (lv+1)
def DU(k n:Int)(t:ByteArray)(ps:List (Int×ByteArray)):ByteArray :=
 bif decide (k=1) then Cb n else
 bif decide (k=2) then mw++t++mw else
 bif decide (k=3) then tR (decide (n=1)) else
 bif decide (k=5) then jh++cn (ps.map (jB · 1)) jo++ji else
 bif decide (k=6) then t++eH++cn (ps.map (jB · 1)) jo++dx else
 bif decide (k=7) then jB (mM ps 0) 9++jh++jB (mM ps 1) 1++ji else
 bif decide (k=8) then(bif decide (dz k t=3) then Hw++jB (mM ps 0) (dz k t) else gJ++jB (mM ps 0) (dz k t)) else
 bif decide (k=9) then DT (dz k t) t (mM ps 0) (mM ps 1) else t
mutual
def Ex.pr:Ex->Int×ByteArray
 | .mk k n t l=>(dz k t,DU k n t (Ex.l8 l))
def Ex.l8:List Ex->List (Int×ByteArray)
 | []=>[]
 | e::m=>e.pr::Ex.l8 m
end
def Ex.kM(e:Ex):ByteArray:=e.pr.2
theorem Ex.l9(k n:Int)(t:ByteArray)(l:List Ex):(Ex.mk k n t l).kM=DU k n t (Ex.l8 l):=by rw[Ex.kM,Ex.pr]
theorem Ex.PD:Ex.l8 []=[]:=by rw[Ex.l8]
theorem Ex.kZ(e:Ex)(l:List Ex):Ex.l8 (e::l)=(dz e.k e.t,e.kM)::Ex.l8 l:=by cases e;rw[Ex.l8,Ex.kM,Ex.pr];rfl
def Ex.wr(e:Ex)(pl:Int):ByteArray:=jB (dz e.k e.t,e.kM) pl
theorem Ex.tw{l:List Ex}{i:Nat}(h:i<l.length)(pl:Int):jB (mM (Ex.l8 l) i) pl=l[i].wr pl:=by
 have:∀(l:List Ex)(i:Nat)(h:i<l.length),(Ex.l8 l).getD i (0,eS)=(dz l[i].k l[i].t,l[i].kM):=by
  intro l
  induction l with
  | nil=>intro i h;cases h
  | cons e l ih =>
    intro i h;rw[Ex.kZ];cases i with
    | zero=>rfl
    | succ i=>exact ih i (by simpa using h)
 unfold mM;rw[this l i h];rfl
theorem Ex.yq(l:List Ex)(pl:Int):(Ex.l8 l).map (jB · pl)=l.map fun e=>e.wr pl:=by
 induction l with
 | nil=>rw[Ex.PD];rfl
 | cons e l ih=>rw[Ex.kZ,List.map_cons,List.map_cons,ih];rfl
theorem aX(a b:ByteArray):(a++b).size=a.size+b.size:=ByteArray.size_append
theorem YV{t : ByteArray}(h : 0 < dU t) : t.size ≤ 3 := by
 by_cases h3:t.size<=3;exact h3;exfalso;have : dU t = 0 := by
  have key:∀ l:List (ByteArray×Int),(∀ p∈l,p.1.size<=3)->dH .str (.int .i64) l t=0:=by
   intro l
   induction l with
   | nil=>intro _;rfl
   | cons p l ih =>
     intro h;have hb:D.lU .str t p.1=false:=by
      cases hb:D.lU .str t p.1 with
      | true =>
        have e:t=p.1:=(D.Iy rfl).1 hb;have:=h p (List.mem_cons_self ..);rw[<-e] at this;exact absurd this h3
      | false=>rfl
     have:=ih fun q hq=>h q (List.mem_cons_of_mem _ hq);obtain⟨a,b⟩:=p;unfold dH nX at this ⊢;unfold nX;rw[hb];exact this
  exact key vf (by decide)
 omega
theorem Cc(sep:ByteArray):cn [] sep=eS:=rfl
theorem wq(x sep:ByteArray):cn [x] sep=x:=by
 unfold cn;rw[List.map_cons,List.map_nil,Lib.join_one]
theorem zN(x y:ByteArray)(l:List ByteArray)(sep:ByteArray):cn (x::y::l) sep=x++(sep++cn (y::l) sep):=by
 unfold cn;have:Lib.join (x.data.toList::y.data.toList::l.map (·.data.toList)) sep.data.toList=x.data.toList++(sep.data.toList++Lib.join (y.data.toList::l.map (·.data.toList)) sep.data.toList):=by
  rw[Lib.join_cons,Lib.join_cons,Lib.joinTail,Lib.joinTail];simp
 rw[List.map_cons,List.map_cons,this];apply ByteArray.ext;simp
theorem wu(sep:ByteArray):∀ l:List ByteArray,(cn l sep).size<=(l.map fun x=>x.size+sep.size).sum
 | []=>by rw[Cc];exact Nat.zero_le _
 | [x]=>by rw[wq];simp
 | x::y::l=>by
   have:=wu sep (y::l);rw[zN,aX,aX,List.map_cons,List.sum_cons];omega
theorem ld(p:Int×ByteArray)(pl:Int):(jB p pl).size<=p.2.size+2:=by
 unfold jB;cases decide (p.1<pl) with
 | true=>rw[cond_true,aX,aX];exact by show 1+_+1<=_;omega
 | false=>rw[cond_false];omega
theorem C0{t:ByteArray}(h:bR t=true):t.size<=20:=by
 unfold bR at h;simp only[Bool.and_eq_true,decide_eq_true_eq] at h;omega
theorem kJ{k n:Int}{t:ByteArray}{c:Nat}(h:tQ k n t c=true) :
 (k=1/\0<=n/\n<=1000000000000000/\c=0/\t=eS)∨(k=2/\t.size<=200/\aO cJ t 0=t.size/\c=0/\n=0)∨(k=3/\(n=0∨n=1)/\c=0/\t=eS)∨(k=4/\bR t=true/\c=0/\n=0)∨(k=5/\n=0/\t=eS)∨
 (k=6/\bR t=true/\n=0)∨(k=7/\c=2/\n=0/\t=eS)∨(k=8/\(t=gJ∨t=jK)/\c=1/\n=0)∨(k=9/\0<dU t/\c=2/\n=0):=by
 unfold tQ at h;simp only[cond_eq_ite,decide_eq_true_eq] at h
 (repeat' split at h)<;>simp only[Bool.and_eq_true,Bool.or_eq_true,decide_eq_true_eq,Bool.false_eq_true] at h<;>grind
theorem fin_t{k n:Int}{t:ByteArray}{c:Nat}(h:tQ k n t c=true):t.size<=200:=by
 have e0:t=eS->t.size<=200:=by rintro rfl;exact Nat.zero_le _
 rcases kJ h with h|h|h|h|h|h|h|h|h;exact e0 h.2.2.2.2;omega;exact e0 h.2.2.2;have:=C0 h.2.1;omega;exact e0 h.2.2;have:=C0 h.2.1;omega;exact e0 h.2.2.2;rcases h.2.1 with rfl|rfl<;>decide;have:=YV h.2.1;omega
theorem fin_n{k n:Int}{t:ByteArray}{c:Nat}(h:tQ k n t c=true):-9223372036854775808<=n/\n<=9223372036854775807:=by
 rcases kJ h with h|h|h|h|h|h|h|h|h<;>omega
def Ez(ps:List (Int×ByteArray)):Nat:=(ps.map fun p=>p.2.size+4).sum
theorem tA(p:Int×ByteArray)(ps:List (Int×ByteArray)):Ez (p::ps)=p.2.size+4+Ez ps:=by unfold Ez;rw[List.map_cons,List.sum_cons]
theorem sumP_2(ps:List (Int×ByteArray)):(mM ps 0).2.size+(mM ps 1).2.size<=Ez ps:=by
 match ps with
 | []=>exact Nat.zero_le _
 | [p]=>rw[tA];exact by show p.2.size+0<=_;omega
 | p::q::ps=>rw[tA,tA];exact by show p.2.size+q.2.size<=_;omega
theorem zO(ps:List (Int×ByteArray))(pl:Int):(cn (ps.map (jB · pl)) jo).size<=Ez ps:=by
 refine Nat.le_trans (wu _ _) ?_
 induction ps with
 | nil=>exact Nat.le_refl _
 | cons p ps ih =>
   have:=ld p pl;rw[tA,List.map_cons,List.map_cons,List.sum_cons];have:jo.size=2:=rfl;omega
theorem YW(lv:Int)(t:ByteArray)(a b:Int×ByteArray):(DT lv t a b).size<=a.2.size+b.2.size+t.size+6:=by
 have z6:vz.size=1:=rfl;have z7:mL.size=1:=rfl;unfold DT;cases decide (lv=8) with
 | true =>
   have h1:=ld a 9;have h2:=ld b 7;rw[cond_true,aX,aX];omega
 | false =>
   rw[cond_false];cases decide (lv=4) with
   | true =>
     have h1:=ld a (lv+1);have h2:=ld b (lv+1);rw[cond_true,aX,aX,aX,aX];omega
   | false =>
     have h1:=ld a lv;have h2:=ld b (lv+1);rw[cond_false,aX,aX,aX,aX];omega
theorem YX{k n:Int}{t:ByteArray}{c:Nat}(h:tQ k n t c=true)(ps:List (Int×ByteArray)):(DU k n t ps).size+4<=Ez ps+250:=by
 have h1:=fin_t h;have h3:=sumP_2 ps;rcases kJ h with h|h|h|h|h|h|h|h|h<;>obtain⟨rfl,h⟩:=h;have h2:=YU n ⟨by omega,by omega⟩;show (Cb n).size+4<=_;omega;show (mw++t++mw).size+4<=_;rw[aX,aX];show 1+_+1+4<=_;omega;show (tR (decide (n=1))).size+4<=_;have hb:(tR (decide (n=1))).size<=5:=by cases decide (n=1)<;>decide
 omega;show t.size+4<=_;omega;show (jh++cn (ps.map (jB · 1)) jo++ji).size+4<=_;have h4:=zO ps 1;rw[aX,aX];show 1+_+1+4<=_;omega;show (t++eH++cn (ps.map (jB · 1)) jo++dx).size+4<=_;have h4:=zO ps 1;rw[aX,aX,aX];show t.size+1+_+1+4<=_;omega;show (jB (mM ps 0) 9++jh++jB (mM ps 1) 1++ji).size+4<=_;have h5:=ld (mM ps 0) 9;have h6:=ld (mM ps 1) 1;rw[aX,aX,aX];show _+1+_+1+4<=_;omega
 . show (bif decide (dz 8 t=3) then Hw++jB (mM ps 0) (dz 8 t) else gJ++jB (mM ps 0) (dz 8 t)).size+4<=_;have h5:=ld (mM ps 0) (dz 8 t);cases decide (dz 8 t=3) with
   | true=>rw[cond_true,aX];exact by show 4+_+4<=_;omega
   | false=>rw[cond_false,aX];exact by show 1+_+4<=_;omega
 show (DT (dz 9 t) t (mM ps 0) (mM ps 1)).size+4<=_;have:=YW (dz 9 t) t (mM ps 0) (mM ps 1);omega
mutual
theorem Ex.M4:∀ e:Ex,e.fin=true->e.kM.size+4<=250*e.cr
 | .mk k n t l,h=>by
   rw[Ex.fin,Bool.and_eq_true] at h;have h1:=YX h.2 (Ex.l8 l);have h2:=Ex.EA l h.1;rw[Ex.l9,Ex.cr];omega
theorem Ex.EA:∀ l:List Ex,Ex.iT l=true->Ez (Ex.l8 l)<=250*Ex.aH l
 | [],_=>by rw[Ex.PD];exact Nat.zero_le _
 | e::l,h=>by
   rw[Ex.l7,Bool.and_eq_true] at h;have h1:=Ex.M4 e h.1;have h2:=Ex.EA l h.2;rw[Ex.kZ,Ex.ef,tA];show e.kM.size+4+_<=_;omega
end
def rF(k n:Int)(t:ByteArray)(l:List PV)(pl:Int)(m:Nat):Prop :=
 (∃ L,l=Ex.ak L)/\(Ex.mk k n t (bZ l)).fin=true/\2*Ex.aH (bZ l)+(bif decide (dz k t<pl) then 1 else 0)<m/\Ex.aH (bZ l)<=1000000
theorem FL{k n:Int}{t:ByteArray}{L:List Ex}{pl:Int}{m:Nat}(h1:(Ex.mk k n t L).fin=true)(h2:2*Ex.aH L+(bif decide (dz k t<pl) then 1 else 0)<m)(h3:Ex.aH L<=1000000):rF k n t (Ex.ak L) pl m:=by
 unfold rF;rw[dG];exact⟨⟨_,rfl⟩,h1,h2,h3⟩
def FM(m:Nat):Prop:=∀(k n:Int)(t:ByteArray)(L:List Ex)(pl:Int),(Ex.mk k n t L).fin=true->2*Ex.aH L+(bif decide (dz k t<pl) then 1 else 0)<m->Ex.aH L<=1000000->br Tryz.prog 32 [MT k n t (Ex.ak L),nI pl,tv] [bC] (sS ((Ex.mk k n t L).wr pl)) [bC]
noncomputable def PE(m:Nat):cV:={ cC:=[false,false,true],f:=fun args ai=>match args,ai with
 | [.p (.agg [.int .i64 k,.int .i64 n,.str t,.rs q l]),.p (.c (.int .i64 pl)),.p (.c (.mp 0))],[o]=>bif Nat.beq q 4 then some (.p (o=bC/\rF k n t l pl m),sS ((Ex.mk k n t (bZ l)).wr pl),[o]) else none
 | _,_=>none }
theorem FN{m:Nat}(h:FM m):bt Tryz.prog 32 (PE m):=by
 refine⟨by kernel_rfl,fun args ai c r aV e hc=>?_⟩;simp only[PE] at e;split at e;obtain⟨hb,e1⟩:=ah.ay e;clear e;cases Nat.eq_of_beq_eq_true hb;cases e1;obtain⟨rfl,⟨L,rfl⟩,h1,h2,h3⟩:=hc;rw[dG] at h1 h2 h3 ⊢;exact h _ _ _ _ _ h1 h2 h3;cases e
abbrev Ce:Ob:=⟨42,[.c (.mp 2)]⟩
noncomputable def gP1(m:Nat):bX:=[(32,PE m),(15,Ka)]
theorem VQ{m:Nat}(h:FM m):bh Tryz.prog (gP1 m):=aq (FN h) (aq Ey aD)
noncomputable def sP1(m:Nat):bg:=eG Tryz.prog (gP1 m) Tryz.f62 3 [([0,1,0,1,1],[1,3,7,8,9])] [] []
def rG(L:List Ex):List ByteArray:=L.map fun e=>e.wr 1
theorem PF(L:List Ex):(rG L).length=L.length:=by unfold rG;rw[List.length_map]
theorem M5{L:List Ex}(hf:Ex.iT L=true):(cn (rG L) jo).size<=250*Ex.aH L:=by
 have h1:=zO (Ex.l8 L) 1;rw[Ex.yq] at h1;exact Nat.le_trans h1 (Ex.EA L hf)
theorem yt{e:Ex}:∀{l:List Ex},Ex.iT l=true->e∈l->e.fin=true
 | x::l,h,hm=>by
   rw[Ex.l7,Bool.and_eq_true] at h;rcases List.mem_cons.1 hm with rfl|hm;exact h.1;exact yt h.2 hm
theorem VR{L:List Ex}{i:Nat}(h:i<L.length)(hf:Ex.iT L=true){m:Nat}(h2:2*Ex.aH L<=m)(h3:Ex.aH L<=1000000)(pl:Int):rF (PV.asInt (.int L[i].k)) (PV.asInt (.int L[i].n)) (PV.bN (.str L[i].t)) (PV.aG (.aZ 4 (Ex.ak L[i].l))) pl m:=by
 have m1:=Ex.jN (List.getElem_mem h);rw[Ex.fE] at m1;refine FL (L:=L[i].l) ?_ ?_ (by omega);have:=yt hf (List.getElem_mem h)
 rwa [<-Ex.eta L[i]] at this
 have:(bif decide (dz (PV.asInt (.int L[i].k)) (PV.bN (.str L[i].t))<pl) then 1 else 0)<=1:=by cases decide (dz (PV.asInt (.int L[i].k)) (PV.bN (.str L[i].t))<pl)<;>decide
 omega
theorem PG{m:Nat}(h:FM m)(k n:Int)(t:ByteArray)(L:List Ex)(hf:Ex.iT L=true)(h2:2*Ex.aH L<=m)(h3:Ex.aH L<=1000000):∀(j i:Nat),j=L.length-i->i<=L.length->
 aJ (sP1 m) (aW (sS (cn (rG L) jo)) [uc k n t (Ex.ak L),Ce,bC]) [0,1,0,1,1] (fr [(1,.p (.c (.ptr 1 0))),(3,.p (.c (.sl 3 0 i 1))),(7,rsX L),(8,nI L.length),(9,nI i)]) (.ofList [uc k n t (Ex.ak L),Ce,bC,⟨9,[.a 0 .str (rG (L.take i))]⟩])
 | j,i,hj,hi=>by
   refine ct (VQ h) (by kernel_rfl) 200 ?_;apply of_eq (q:=let q1:=(List.drop (0:Nat) (rG (List.take i L)));let q2:=(Ex.ak L);let q3:=(cn (List.take i q1) (ByteArray.mk #[(44:UInt8),(32:UInt8)]));let q4:=Ob.mk 48 [fI k,fI n,Fd.c (W.str t),Fd.c (W.rs (4:Nat) q2)];(decide ((i:Int)<(L.length:Int))=true->((0:Int)<=(i:Int)/\i*4<q2.length)/\i*4+4<=q2.length/\(PV.int (0:Int)).like (q2.getD (i*4) (PV.bool false))=true/\(PV.int (0:Int)).like (q2.getD (i*4+1) (PV.bool false))=true/\(PV.str (ByteArray.mk #[])).like (q2.getD (i*4+1+1) (PV.bool false))=true/\(PV.aZ (4:Nat) []).like (q2.getD (i*4+1+1+1) (PV.bool false))=true/\(Ob.mk 42 [Fd.m D.str (D.int .i64) cF]=bC/\rF (q2.getD (i*4) (PV.bool false)).asInt (q2.getD (i*4+1) (PV.bool false)).asInt (q2.getD (i*4+1+1) (PV.bool false)).bN (q2.getD (i*4+1+1+1) (PV.bool false)).aG (1:Int) m)/\(0:Nat)+1<=1/\((0:Nat)+i<=(rG (List.take i L)).length/\(i+1)*16<=140737488355328)/\aJ (sP1 m) (aW (sS (cn (rG L) jo)) [uc k n t q2,Ce,bC]) [0,1,0,1,1] (fr [(1,aR 1 0),(3,aS 3 0 (i+1)),(7,aP (W.rs (4:Nat) q2)),(8,nI (L.length:Int)),(9,nI (IntKind.i64.wrap ((i:Int)+1)))]) (af.ofList [q4,Ob.mk 42 [Fd.c (W.mp (2:Nat))],Ob.mk 42 [Fd.m D.str (D.int .i64) cF],Ob.mk 9 [Fd.a 0 D.str (List.take i q1++List.take (1:Nat) (List.drop (0:Nat) [(Ex.mk (q2.getD (i*4) (PV.bool false)).asInt (q2.getD (i*4+1) (PV.bool false)).asInt (q2.getD (i*4+1+1) (PV.bool false)).bN (bZ (q2.getD (i*4+1+1+1) (PV.bool false)).aG)).wr (1:Int)]))]]))/\(decide ((i:Int)<(L.length:Int))=false->(0:Nat)+i<=(rG (List.take i L)).length/\((List.take i q1).length<=1000000/\q3.size<=10000000000000)/\ax [V.c (W.str q3)]=sS (cn (rG L) jo)/\[q4,Ob.mk 42 [Fd.c (W.mp (2:Nat))],Ob.mk 42 [Fd.m D.str (D.int .i64) cF]]=[uc k n t q2,Ce,bC])) (by kernel_rfl)
   try simp only[sL]
   have bE:=Ex.jM L;have hwl:(rG (L.take i)).length=i:=by rw[PF,List.length_take];omega
   rw[List.take_of_length_le (Nat.le_of_eq hwl)];refine⟨fun h1=>?_,fun h1=>?_⟩
   . have h1:i<L.length:=by omega
     have hC:=VR h1 hf h2 h3 1;have g1:i*4+4<=(Ex.ak L).length:=by rw[Ex.dQ];omega
     rw[DN h1,w9 h1,DP h1,DQ h1,Ex.xg,wrap64 (n:=(i:Int)+1) (by omega) (by omega)];refine⟨⟨by omega,by omega⟩,g1,rfl,rfl,rfl,rfl,hC,⟨by omega,by omega⟩,?_⟩;cases j with
     | zero=>omega
     | succ j =>
       have ih:=PG h k n t L hf h2 h3 j (i+1) (by omega) (by omega);have e:rG (L.take (i+1))=rG (L.take i)++[L[i].wr 1]:=by unfold rG;rw[List.take_succ_eq_append_getElem h1,List.map_append];rfl
       rw[e] at ih;exact ih
   have e:L.take i=L:=List.take_of_length_le (by omega);have:(cn (rG L) ⟨#[44,32]⟩).size<=250*Ex.aH L:=M5 hf;rw[e,PF];exact⟨by omega,⟨by omega,by omega⟩,rfl⟩
theorem p1_sem{m:Nat}(h:FM m)(k n:Int)(t:ByteArray)(L:List Ex)(hf:Ex.iT L=true)(h2:2*Ex.aH L<=m)(h3:Ex.aH L<=1000000) :
 br Tryz.prog 62 [.p (.c (.ptr 0 0)),.p (.c (.ptr 1 0))] [uc k n t (Ex.ak L),Ce,bC] (sS (cn (rG L) jo)) [uc k n t (Ex.ak L),Ce,bC]:=by
 refine bn (aK:=[([0,1,0,1,1],[1,3,7,8,9])]) (VQ h) Tryz.func62 (by kernel_rfl) (aj:=3) rfl (by kernel_rfl) 200 ?_;apply of_eq (q:=aJ (dK Tryz.prog (gP1 m) Tryz.f62 (3:Nat) [([0,1,0,1,1],[1,3,7,8,9])]) (aW (sS (cn (rG L) jo)) [uc k n t (Ex.ak L),Ce,bC]) [0,1,0,1,1] (fr [(1,aR 1 0),(3,aS 3 0 0),(7,aP (W.rs (4:Nat) (Ex.ak L))),(8,nI (↑((Ex.ak L).length/4):Int)),(9,nI (0))]) (af.ofList [Ob.mk 48 [fI k,fI n,Fd.c (W.str t),Fd.c (W.rs (4:Nat) (Ex.ak L))],Ob.mk 42 [Fd.c (W.mp (2:Nat))],Ob.mk 42 [Fd.m D.str (D.int .i64) cF],Ob.mk 9 [Fd.a 0 D.str []]])) (by kernel_rfl)
 try simp only[sL,Int.reduceEq,Int.reduceNe,Nat.reduceAdd]
 rw[Pp];exact PG h k n t L hf h2 h3 (L.length-0) 0 rfl (by omega)
noncomputable def cPt(m:Nat):cV:={ cC:=[true,true],f:=fun args ai=>match args,ai with
 | [.p (.c (.ptr 0 0)),.p (.c (.ptr 1 0))],[⟨ty,[.c (.int .i64 k),.c (.int .i64 n),.c (.str t),.c (.rs q l)]⟩,⟨ty2,[.c (.mp 2)]⟩,o]=>bif Nat.beq q 4&&Nat.beq ty 48&&Nat.beq ty2 42 then some (.p (o=bC/\(∃ L,l=Ex.ak L)/\Ex.iT (bZ l)=true/\2*Ex.aH (bZ l)<=m/\Ex.aH (bZ l)<=1000000),sS (cn (rG (bZ l)) jo),[uc k n t l,Ce,o]) else none
 | _,_=>none }
theorem cPt_ok{m:Nat}(h:FM m):bt Tryz.prog 62 (cPt m):=by
 refine⟨by kernel_rfl,fun args ai c r aV e hc=>?_⟩;simp only[cPt] at e;split at e;obtain⟨hb,e1⟩:=ah.ay e;clear e;simp only[Bool.and_eq_true,Nat.beq_eq] at hb;obtain⟨⟨rfl,rfl⟩,rfl⟩:=hb;cases e1;obtain⟨rfl,⟨L,rfl⟩,h1,h2,h3⟩:=hc;rw[dG] at h1 h2 h3 ⊢;exact p1_sem h _ _ _ _ h1 h2 h3;cases e
noncomputable def gWt(m:Nat):bX:=[(32,PE m),(61,MZ),(62,cPt m),(63,cItB),(64,cFoB)]
theorem gWt_ok{m:Nat}(h:FM m):bh Tryz.prog (gWt m):=aq (FN h) (aq VP (aq (cPt_ok h) (aq cItB_ok (aq cFoB_ok aD))))
theorem lv_le(t:ByteArray):dU t<=8:=by
 have key:∀ l:List (ByteArray×Int),(∀ p∈l,p.2<=8)->dH .str (.int .i64) l t<=8:=by
  intro l
  induction l with
  | nil=>intro _;exact by show (0:Int)<=8;omega
  | cons p l ih =>
    intro h;have i1:=h p (List.mem_cons_self ..);have i2:=ih fun q hq=>h q (List.mem_cons_of_mem _ hq);obtain⟨a,b⟩:=p;unfold dH nX at i2 ⊢;unfold nX;cases D.lU .str t a with
    | true=>exact i1
    | false=>exact i2
 exact key vf (by decide)
theorem wr_ge{k n:Int}{t:ByteArray}{L:List Ex}{pl:Int}(h:pl<=dz k t):(Ex.mk k n t L).wr pl=DU k n t (Ex.l8 L):=by
 have e:(Ex.mk k n t L).wr pl=bif decide (dz k t<pl) then eH++(Ex.mk k n t L).kM++dx else(Ex.mk k n t L).kM:=rfl;rw[e,decide_eq_false (by omega),cond_false,Ex.l9]
theorem wr_lt{k n:Int}{t:ByteArray}{L:List Ex}{pl:Int}(h:dz k t<pl):(Ex.mk k n t L).wr pl=eH++DU k n t (Ex.l8 L)++dx:=by
 have e:(Ex.mk k n t L).wr pl=bif decide (dz k t<pl) then eH++(Ex.mk k n t L).kM++dx else(Ex.mk k n t L).kM:=rfl;rw[e,decide_eq_true h,cond_true,Ex.l9]
theorem C3(e:Ex)(h:e.fin=true)(pl:Int):(e.wr pl).size<=250*e.cr:=by
 have h1:=Ex.M4 e h;have h2:(e.wr pl).size<=e.kM.size+2:=ld _ pl;omega
theorem lvE_pos{k n:Int}{t:ByteArray}{c:Nat}(h:tQ k n t c=true):1<=dz k t:=by
 rcases kJ h with g|g|g|g|g|g|g|g|g<;>obtain⟨rfl,g⟩:=g
 all_goals first
  | (show (1:Int)<=10;omega)
  | (show (1:Int)<=9;omega)
  | exact g.1
  | (rcases g.1 with rfl|rfl<;>decide)
theorem rR(c:UInt8):(ByteArray.mk #[c]).size=1:=rfl
theorem DV(a b c d:UInt8):(ByteArray.mk #[a,b,c,d]).size=4:=rfl
theorem wr_step(m:Nat)(h:FM m):FM (m+1):=by
 intro k n t L pl hf hm hl;refine bn (aK:=[]) (gWt_ok h) Tryz.func32 (by kernel_rfl) (aj:=1) rfl (by kernel_rfl) 400 ?_;apply of_eq (q:=let q2:=(Ex.ak L);let q5:=(0:Nat);let q9:=Ob.mk 42 [Fd.m D.str (D.int .i64) cF]=bC;let bM:=[Ob.mk 42 [Fd.m D.str (D.int .i64) cF]]=[bC];let bW:=(q5*4+1+1+1);let dO:=(1:Nat);let bY:=(q5*4+1+1);let fe:=(IntKind.i64.wrap (dz k t+1));let fZ:=((Ex.mk k n t L).wr pl);let gP:=(PV.aZ (4:Nat) []).like (q2.getD bW (PV.bool false))=true;let cu:=dO*4+4<=q2.length;let gI:=(dO*4+1+1+1);let dL:=(q5*4+1);let gK:=(dO*4+1+1);let lG:=(∃ tu,Ex.ak L=Ex.ak tu)/\Ex.iT (bZ q2)=true/\(2:Nat)*Ex.aH (bZ q2)<=m/\Ex.aH (bZ q2)<=1000000;let iz:=(dO*4+1);let gL:=(q5*4);let jZ:=q5*4+4<=q2.length;let iB:=(32:UInt8);let gQ:=(dO*4);let j7:=q5*4<q2.length;let fC:=(0:Int);let jP:=(Cd.t.and Cd.t);let jO:=(dz k t);let pz:=(rG (bZ q2));let q3:=(PV.str (ByteArray.mk #[])).like (q2.getD gK (PV.bool false))=true;let q4:=(PV.aZ (4:Nat) []).like (q2.getD gI (PV.bool false))=true;let q6:=(PV.int fC).like (q2.getD iz (PV.bool false))=true;let q7:=(PV.int fC).like (q2.getD gQ (PV.bool false))=true;let q8:=(R1.pure jP (aP (W.rs (4:Nat) q2))).v=(R1.pure jP (aP (W.rs (4:Nat) q2))).v;let aQ:=(R1.pure jP (aP (W.str t))).v=(R1.pure jP (aP (W.str t))).v;let bp:=(R1.pure jP (aP (W.mp q5))).v=(R1.pure jP (aP (W.mp q5))).v;let eC:=(PV.str (ByteArray.mk #[])).like (q2.getD bY (PV.bool false))=true;let fM:=(PV.int fC).like (q2.getD dL (PV.bool false))=true;let gH:=(PV.int fC).like (q2.getD gL (PV.bool false))=true;let kW:=((Ex.mk (q2.getD gL (PV.bool false)).asInt (q2.getD dL (PV.bool false)).asInt (q2.getD bY (PV.bool false)).bN (bZ (q2.getD bW (PV.bool false)).aG)).wr (9:Int)).size+1<=9223372036854775807;let mT:=(A.p (V.agg (nW q2 gQ (shapes ((dK Tryz.prog (gWt m) Tryz.f32 dO []).env (aW (sS fZ) [bC])).P (48:Nat))).snd));let q1:=(R1.pure (Cd.t.and ((Cd.p (cu)).and (nW q2 gQ (shapes ((dK Tryz.prog (gWt m) Tryz.f32 dO []).env (aW (sS fZ) [bC])).P (48:Nat))).fst)) mT).v=(R1.pure (Cd.t.and ((Cd.p (cu)).and (nW q2 gQ (shapes ((dK Tryz.prog (gWt m) Tryz.f32 dO []).env (aW (sS fZ) [bC])).P (48:Nat))).fst)) mT).v;q9/\(decide (dz k t<pl)=true->(q9/\rF k n t q2 (1:Int) m)/\dO+((Ex.mk k n t (bZ q2)).wr (1:Int)).size<=9223372036854775807/\(ByteArray.mk #[(40:UInt8)]++(Ex.mk k n t (bZ q2)).wr (1:Int)).size+1<=9223372036854775807/\ax [V.c (W.str (ByteArray.mk #[(40:UInt8)]++(Ex.mk k n t (bZ q2)).wr (1:Int)++ByteArray.mk #[(41:UInt8)]))]=sS fZ/\bM)/\(decide (dz k t<pl)=false->(decide (k=1)=true->((-9223372036854775808:Int)<=n/\n<=9223372036854775807)/\ax [V.c (W.str (Cb n))]=sS fZ/\bM)/\(decide (k=1)=false->(decide (k=2)=true->dO+t.size<=9223372036854775807/\(ByteArray.mk #[(34:UInt8)]++t).size+1<=9223372036854775807/\ax [V.c (W.str (ByteArray.mk #[(34:UInt8)]++t++ByteArray.mk #[(34:UInt8)]))]=sS fZ/\bM)/\(decide (k=2)=false->(decide (k=3)=true->ax [V.c (W.str (tR (decide (n=1))))]=sS fZ/\bM)/\(decide (k=3)=false->(decide (k=5)=true->(q9/\lG)/\dO+(cn pz jo).size<=9223372036854775807/\(ByteArray.mk #[(91:UInt8)]++cn pz jo).size+1<=9223372036854775807/\ax [V.c (W.str (ByteArray.mk #[(91:UInt8)]++cn pz jo++ByteArray.mk #[(93:UInt8)]))]=sS fZ/\bM)/\(decide (k=5)=false->(decide (k=6)=true->t.size+1<=9223372036854775807/\(q9/\lG)/\(t++ByteArray.mk #[(40:UInt8)]).size+(cn pz jo).size<=9223372036854775807/\(t++ByteArray.mk #[(40:UInt8)]++cn pz jo).size+1<=9223372036854775807/\aQ/\aQ/\ax [V.c (W.str (t++ByteArray.mk #[(40:UInt8)]++cn pz jo++ByteArray.mk #[(41:UInt8)]))]=sS fZ/\bM)/\(decide (k=6)=false->(decide (k=7)=true->(fC<=0/\j7)/\jZ/\gH/\fM/\eC/\gP/\(q9/\rF (q2.getD gL (PV.bool false)).asInt (q2.getD dL (PV.bool false)).asInt (q2.getD bY (PV.bool false)).bN (q2.getD bW (PV.bool false)).aG (9:Int) m)/\kW/\(fC<=1/\dO*4<q2.length)/\cu/\q7/\q6/\q3/\q4/\(q9/\rF (q2.getD gQ (PV.bool false)).asInt (q2.getD iz (PV.bool false)).asInt (q2.getD gK (PV.bool false)).bN (q2.getD gI (PV.bool false)).aG (1:Int) m)/\((Ex.mk (q2.getD gL (PV.bool false)).asInt (q2.getD dL (PV.bool false)).asInt (q2.getD bY (PV.bool false)).bN (bZ (q2.getD bW (PV.bool false)).aG)).wr (9:Int)++ByteArray.mk #[(91:UInt8)]).size+((Ex.mk (q2.getD gQ (PV.bool false)).asInt (q2.getD iz (PV.bool false)).asInt (q2.getD gK (PV.bool false)).bN (bZ (q2.getD gI (PV.bool false)).aG)).wr (1:Int)).size<=9223372036854775807/\((Ex.mk (q2.getD gL (PV.bool false)).asInt (q2.getD dL (PV.bool false)).asInt (q2.getD bY (PV.bool false)).bN (bZ (q2.getD bW (PV.bool false)).aG)).wr (9:Int)++ByteArray.mk #[(91:UInt8)]++(Ex.mk (q2.getD gQ (PV.bool false)).asInt (q2.getD iz (PV.bool false)).asInt (q2.getD gK (PV.bool false)).bN (bZ (q2.getD gI (PV.bool false)).aG)).wr (1:Int)).size+1<=9223372036854775807/\q8/\q8/\cu/\q7/\q6/\q3/\q4/\q1/\cu/\q7/\q6/\q3/\q4/\q1/\bp/\bp/\ax [V.c (W.str ((Ex.mk (q2.getD gL (PV.bool false)).asInt (q2.getD dL (PV.bool false)).asInt (q2.getD bY (PV.bool false)).bN (bZ (q2.getD bW (PV.bool false)).aG)).wr (9:Int)++ByteArray.mk #[(91:UInt8)]++(Ex.mk (q2.getD gQ (PV.bool false)).asInt (q2.getD iz (PV.bool false)).asInt (q2.getD gK (PV.bool false)).bN (bZ (q2.getD gI (PV.bool false)).aG)).wr (1:Int)++ByteArray.mk #[(93:UInt8)]))]=sS fZ/\bM)/\(decide (k=7)=false->(decide (k=8)=true->(decide (dz k t=3)=true->(fC<=0/\j7)/\jZ/\gH/\fM/\eC/\gP/\(q9/\rF (q2.getD gL (PV.bool false)).asInt (q2.getD dL (PV.bool false)).asInt (q2.getD bY (PV.bool false)).bN (q2.getD bW (PV.bool false)).aG jO m)/\(4:Nat)+((Ex.mk (q2.getD gL (PV.bool false)).asInt (q2.getD dL (PV.bool false)).asInt (q2.getD bY (PV.bool false)).bN (bZ (q2.getD bW (PV.bool false)).aG)).wr jO).size<=9223372036854775807/\ax [V.c (W.str (ByteArray.mk #[(110:UInt8),(111:UInt8),(116:UInt8),iB]++(Ex.mk (q2.getD gL (PV.bool false)).asInt (q2.getD dL (PV.bool false)).asInt (q2.getD bY (PV.bool false)).bN (bZ (q2.getD bW (PV.bool false)).aG)).wr jO))]=sS fZ/\bM)/\(decide (dz k t=3)=false->(fC<=0/\j7)/\jZ/\gH/\fM/\eC/\gP/\(q9/\rF (q2.getD gL (PV.bool false)).asInt (q2.getD dL (PV.bool false)).asInt (q2.getD bY (PV.bool false)).bN (q2.getD bW (PV.bool false)).aG jO m)/\dO+((Ex.mk (q2.getD gL (PV.bool false)).asInt (q2.getD dL (PV.bool false)).asInt (q2.getD bY (PV.bool false)).bN (bZ (q2.getD bW (PV.bool false)).aG)).wr jO).size<=9223372036854775807/\ax [V.c (W.str (ByteArray.mk #[(45:UInt8)]++(Ex.mk (q2.getD gL (PV.bool false)).asInt (q2.getD dL (PV.bool false)).asInt (q2.getD bY (PV.bool false)).bN (bZ (q2.getD bW (PV.bool false)).aG)).wr jO))]=sS fZ/\bM))/\(decide (k=8)=false->(decide (k=9)=true->(decide (dz k t=8)=true->(fC<=0/\j7)/\jZ/\gH/\fM/\eC/\gP/\(q9/\rF (q2.getD gL (PV.bool false)).asInt (q2.getD dL (PV.bool false)).asInt (q2.getD bY (PV.bool false)).bN (q2.getD bW (PV.bool false)).aG (9:Int) m)/\kW/\(fC<=1/\dO*4<q2.length)/\cu/\q7/\q6/\q3/\q4/\(q9/\rF (q2.getD gQ (PV.bool false)).asInt (q2.getD iz (PV.bool false)).asInt (q2.getD gK (PV.bool false)).bN (q2.getD gI (PV.bool false)).aG (7:Int) m)/\((Ex.mk (q2.getD gL (PV.bool false)).asInt (q2.getD dL (PV.bool false)).asInt (q2.getD bY (PV.bool false)).bN (bZ (q2.getD bW (PV.bool false)).aG)).wr (9:Int)++ByteArray.mk #[(94:UInt8)]).size+((Ex.mk (q2.getD gQ (PV.bool false)).asInt (q2.getD iz (PV.bool false)).asInt (q2.getD gK (PV.bool false)).bN (bZ (q2.getD gI (PV.bool false)).aG)).wr (7:Int)).size<=9223372036854775807/\q8/\q8/\cu/\q7/\q6/\q3/\q4/\q1/\cu/\q7/\q6/\q3/\q4/\q1/\bp/\bp/\ax [V.c (W.str ((Ex.mk (q2.getD gL (PV.bool false)).asInt (q2.getD dL (PV.bool false)).asInt (q2.getD bY (PV.bool false)).bN (bZ (q2.getD bW (PV.bool false)).aG)).wr (9:Int)++ByteArray.mk #[(94:UInt8)]++(Ex.mk (q2.getD gQ (PV.bool false)).asInt (q2.getD iz (PV.bool false)).asInt (q2.getD gK (PV.bool false)).bN (bZ (q2.getD gI (PV.bool false)).aG)).wr (7:Int)))]=sS fZ/\bM)/\(decide (dz k t=8)=false->(decide (dz k t=4)=true->(fC<=0/\j7)/\jZ/\gH/\fM/\eC/\gP/\(q9/\rF (q2.getD gL (PV.bool false)).asInt (q2.getD dL (PV.bool false)).asInt (q2.getD bY (PV.bool false)).bN (q2.getD bW (PV.bool false)).aG fe m)/\((Ex.mk (q2.getD gL (PV.bool false)).asInt (q2.getD dL (PV.bool false)).asInt (q2.getD bY (PV.bool false)).bN (bZ (q2.getD bW (PV.bool false)).aG)).wr fe).size+1<=9223372036854775807/\((Ex.mk (q2.getD gL (PV.bool false)).asInt (q2.getD dL (PV.bool false)).asInt (q2.getD bY (PV.bool false)).bN (bZ (q2.getD bW (PV.bool false)).aG)).wr fe++ByteArray.mk #[iB]).size+t.size<=9223372036854775807/\((Ex.mk (q2.getD gL (PV.bool false)).asInt (q2.getD dL (PV.bool false)).asInt (q2.getD bY (PV.bool false)).bN (bZ (q2.getD bW (PV.bool false)).aG)).wr fe++ByteArray.mk #[iB]++t).size+1<=9223372036854775807/\(fC<=1/\dO*4<q2.length)/\cu/\q7/\q6/\q3/\q4/\(q9/\rF (q2.getD gQ (PV.bool false)).asInt (q2.getD iz (PV.bool false)).asInt (q2.getD gK (PV.bool false)).bN (q2.getD gI (PV.bool false)).aG fe m)/\((Ex.mk (q2.getD gL (PV.bool false)).asInt (q2.getD dL (PV.bool false)).asInt (q2.getD bY (PV.bool false)).bN (bZ (q2.getD bW (PV.bool false)).aG)).wr fe++ByteArray.mk #[iB]++t++ByteArray.mk #[iB]).size+((Ex.mk (q2.getD gQ (PV.bool false)).asInt (q2.getD iz (PV.bool false)).asInt (q2.getD gK (PV.bool false)).bN (bZ (q2.getD gI (PV.bool false)).aG)).wr fe).size<=9223372036854775807/\aQ/\aQ/\aQ/\q8/\q8/\cu/\q7/\q6/\q3/\q4/\q1/\cu/\q7/\q6/\q3/\q4/\q1/\bp/\bp/\ax [V.c (W.str ((Ex.mk (q2.getD gL (PV.bool false)).asInt (q2.getD dL (PV.bool false)).asInt (q2.getD bY (PV.bool false)).bN (bZ (q2.getD bW (PV.bool false)).aG)).wr fe++ByteArray.mk #[iB]++t++ByteArray.mk #[iB]++(Ex.mk (q2.getD gQ (PV.bool false)).asInt (q2.getD iz (PV.bool false)).asInt (q2.getD gK (PV.bool false)).bN (bZ (q2.getD gI (PV.bool false)).aG)).wr fe))]=sS fZ/\bM)/\(decide (dz k t=4)=false->(fC<=0/\j7)/\jZ/\gH/\fM/\eC/\gP/\(q9/\rF (q2.getD gL (PV.bool false)).asInt (q2.getD dL (PV.bool false)).asInt (q2.getD bY (PV.bool false)).bN (q2.getD bW (PV.bool false)).aG jO m)/\((Ex.mk (q2.getD gL (PV.bool false)).asInt (q2.getD dL (PV.bool false)).asInt (q2.getD bY (PV.bool false)).bN (bZ (q2.getD bW (PV.bool false)).aG)).wr jO).size+1<=9223372036854775807/\((Ex.mk (q2.getD gL (PV.bool false)).asInt (q2.getD dL (PV.bool false)).asInt (q2.getD bY (PV.bool false)).bN (bZ (q2.getD bW (PV.bool false)).aG)).wr jO++ByteArray.mk #[iB]).size+t.size<=9223372036854775807/\((Ex.mk (q2.getD gL (PV.bool false)).asInt (q2.getD dL (PV.bool false)).asInt (q2.getD bY (PV.bool false)).bN (bZ (q2.getD bW (PV.bool false)).aG)).wr jO++ByteArray.mk #[iB]++t).size+1<=9223372036854775807/\(fC<=1/\dO*4<q2.length)/\cu/\q7/\q6/\q3/\q4/\(q9/\rF (q2.getD gQ (PV.bool false)).asInt (q2.getD iz (PV.bool false)).asInt (q2.getD gK (PV.bool false)).bN (q2.getD gI (PV.bool false)).aG fe m)/\((Ex.mk (q2.getD gL (PV.bool false)).asInt (q2.getD dL (PV.bool false)).asInt (q2.getD bY (PV.bool false)).bN (bZ (q2.getD bW (PV.bool false)).aG)).wr jO++ByteArray.mk #[iB]++t++ByteArray.mk #[iB]).size+((Ex.mk (q2.getD gQ (PV.bool false)).asInt (q2.getD iz (PV.bool false)).asInt (q2.getD gK (PV.bool false)).bN (bZ (q2.getD gI (PV.bool false)).aG)).wr fe).size<=9223372036854775807/\aQ/\aQ/\aQ/\q8/\q8/\cu/\q7/\q6/\q3/\q4/\q1/\cu/\q7/\q6/\q3/\q4/\q1/\bp/\bp/\ax [V.c (W.str ((Ex.mk (q2.getD gL (PV.bool false)).asInt (q2.getD dL (PV.bool false)).asInt (q2.getD bY (PV.bool false)).bN (bZ (q2.getD bW (PV.bool false)).aG)).wr jO++ByteArray.mk #[iB]++t++ByteArray.mk #[iB]++(Ex.mk (q2.getD gQ (PV.bool false)).asInt (q2.getD iz (PV.bool false)).asInt (q2.getD gK (PV.bool false)).bN (bZ (q2.getD gI (PV.bool false)).aG)).wr fe))]=sS fZ/\bM)))/\(decide (k=9)=false->ax [V.c (W.str t)]=sS fZ/\bM)))))))))) (by kernel_rfl)
 try simp only[sL]
 rw[Ex.fin,Bool.and_eq_true] at hf;obtain⟨hF,h1⟩:=hf;rw[dG];have hl0:=lvE_pos h1;have hs:∀(i:Nat)(h:i<L.length)(pl:Int),(L[i].wr pl).size<=250000000:=by
  intro i h pl;have a:=C3 L[i] (yt hF (List.getElem_mem h)) pl;have b:=Ex.jN (List.getElem_mem h);omega
 have hJ:=M5 hF;have ht:=fin_t h1;refine⟨fun hp=>?_,fun hp=>?_⟩;rw[decide_eq_true hp,cond_true] at hm;have hC:rF k n t (Ex.ak L) 1 m:=FL (by rw[Ex.fin,hF,h1];rfl) (by rw[decide_eq_false (by omega),cond_false];omega) hl;have hz:=C3 (Ex.mk k n t L) (by rw[Ex.fin,hF,h1];rfl) 1;rw[Ex.cr] at hz;rw[wr_lt hp];rw[wr_ge hl0] at hz ⊢;refine⟨hC,by omega,by rw[aX,rR];omega,rfl⟩;rw[decide_eq_false (by omega),cond_false] at hm;rw[wr_ge hp];have hC:=fun(i:Nat) (h:i<L.length) pl=>VR h hF (m:=m) (by omega) hl pl;refine⟨fun h=>?_,fun n1=>⟨fun h=>?_,fun n2=>⟨fun h=>?_,fun n3=>⟨fun h=>?_,fun n5=>⟨fun h=>?_,fun n6=>⟨fun h=>?_,fun n7=>⟨fun h=>?_,fun n8=>⟨fun h=>?_,fun n9=>?_⟩⟩⟩⟩⟩⟩⟩⟩;subst h;exact⟨fin_n h1,rfl⟩;subst h;exact⟨by omega,by rw[aX,rR];omega,rfl⟩;subst h;rfl;subst h;refine⟨⟨⟨_,rfl⟩,hF,by omega,hl⟩,by omega,by rw[aX,rR];omega,?_⟩;have:DU 5 n t (Ex.l8 L)=jh++cn ((Ex.l8 L).map (jB · 1)) jo++ji:=rfl;rw[this,Ex.yq];rfl;subst h;refine⟨by omega,⟨⟨_,rfl⟩,hF,by omega,hl⟩,by rw[aX,rR];omega,by rw[aX,aX,rR];omega,?_⟩;have:DU 6 n t (Ex.l8 L)=t++eH++cn ((Ex.l8 L).map (jB · 1)) jo++dx:=rfl;rw[this,Ex.yq];rfl
 . subst h;have hc:L.length=2:=by rcases kJ h1 with g|g|g|g|g|g|g|g|g<;>omega
   have l0:0<L.length:=by omega
   have l1:1<L.length:=by omega
   have q0:=hs 0 l0 9;have q1:=hs 1 l1 1;rw[DN l0,w9 l0,DP l0,DQ l0,DN l1,w9 l1,DP l1,DQ l1,Ex.xg,Ex.xg];have hE:DU 7 n t (Ex.l8 L)=jB (mM (Ex.l8 L) 0) 9++jh++jB (mM (Ex.l8 L) 1) 1++ji:=rfl;rw[hE,Ex.tw l0,Ex.tw l1];have hp:=Ex.dQ L
   (repeat' first|exact hC 0 l0 9|exact hC 1 l1 1|apply And.intro)<;>first|rfl|omega|(simp only[aX,rR];omega)
 subst h;have hc:L.length=1:=by rcases kJ h1 with g|g|g|g|g|g|g|g|g<;>omega
 have l0:0<L.length:=by omega
 have q0:=hs 0 l0 (dz 8 t);rw[DN l0,w9 l0,DP l0,DQ l0,Ex.xg];have hE:DU 8 n t (Ex.l8 L)=bif decide (dz 8 t=3) then Hw++jB (mM (Ex.l8 L) 0) (dz 8 t) else gJ++jB (mM (Ex.l8 L) 0) (dz 8 t):=rfl;rw[hE,Ex.tw l0];have hp:=Ex.dQ L;refine⟨fun h=>?_,fun h=>?_⟩
 . rw[decide_eq_true h,cond_true];rw[h] at q0 ⊢
   (repeat' first|exact hC 0 l0 3|apply And.intro)<;>first|rfl|omega|(simp only[aX,rR,DV];omega)
 . rw[decide_eq_false h,cond_false]
   (repeat' first|exact hC 0 l0 (dz 8 t)|apply And.intro)<;>first|rfl|omega|(simp only[aX,rR,DV];omega)
 subst h;have hc:L.length=2:=by rcases kJ h1 with g|g|g|g|g|g|g|g|g<;>omega
 have hv:dz 9 t=dU t:=rfl;have hvb:dz 9 t<=8:=lv_le t;have l0:0<L.length:=by omega
 have l1:1<L.length:=by omega
 have hp:=Ex.dQ L;rw[DN l0,w9 l0,DP l0,DQ l0,DN l1,w9 l1,DP l1,DQ l1,Ex.xg,Ex.xg,wrap64 (n:=dz 9 t+1) (by omega) (by omega)];have hE:DU 9 n t (Ex.l8 L)=DT (dz 9 t) t (mM (Ex.l8 L) 0) (mM (Ex.l8 L) 1):=rfl;rw[hE];unfold DT;rw[Ex.tw l0,Ex.tw l0,Ex.tw l0,Ex.tw l1,Ex.tw l1];refine⟨fun h=>?_,fun h8=>⟨fun h=>?_,fun h=>?_⟩⟩
 . rw[decide_eq_true h,cond_true];have q0:=hs 0 l0 9;have q1:=hs 1 l1 7
   (repeat' first|exact hC 0 l0 9|exact hC 1 l1 7|apply And.intro)<;>first|rfl|omega|(simp only[aX,rR];omega)
 . rw[decide_eq_false h8,cond_false,decide_eq_true h,cond_true];have q0:=hs 0 l0 (dz 9 t+1);have q1:=hs 1 l1 (dz 9 t+1)
   (repeat' first|exact hC 0 l0 _|exact hC 1 l1 _|apply And.intro)<;>first|rfl|omega|(simp only[aX,rR];omega)
 . rw[decide_eq_false h8,cond_false,decide_eq_false h,cond_false];have q0:=hs 0 l0 (dz 9 t);have q1:=hs 1 l1 (dz 9 t+1)
   (repeat' first|exact hC 0 l0 _|exact hC 1 l1 _|apply And.intro)<;>first|rfl|omega|(simp only[aX,rR];omega)
 rcases kJ h1 with g|g|g|g|g|g|g|g|g<;>first|omega|(obtain⟨rfl,g⟩:=g;rfl)
theorem M6:∀ m,FM m
 | 0=>fun k n t L pl _ h=>by omega
 | m+1=>wr_step m (M6 m)
end Go.Proofs.YtnbjjocbncblaaaGreatDoor
