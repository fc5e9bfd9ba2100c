/- Names, and which expressions are valid. -/
import Derived.Test.YtcimgfhfpiapaaaGreatDoorPars2
import Derived.Test.YtcimgfhfpiapaaaGreatDoorShelf1
import Derived.Lib.ItoaLen
namespace Go.Proofs.YtcimgfhfpiapaaaGreatDoor
open Go.aU Go.RowKit
set_option maxRecDepth 100000
theorem aaG(c:Int):bt Tryz.prog 66 [Kq c] [] (bB (cu c)) []:=by
 refine bq (aQ:=[]) SQ Tryz.func66 (by kernel_rfl) (ak:=0) rfl (by kernel_rfl) 100 ?_;apply of_eq (q:=let q1:=(bif fu c then true else ck c)=false;(fu c=false->fu c=false)/\(fu c=false->fu c=false)/\(q1->q1)/\(q1->q1)/\ax [vB (bif bif fu c then true else ck c then true else decide (c=95))]=bB (cu c)/\([]:List Ob)=[]) (by kernel_rfl)
 try simp only[sL]
 first|rfl|exact⟨by omega,rfl⟩|exact ?a
def Y0:cT:=jk (.int .u8) fun c=>(.t,bB (cu c),[])
theorem Xf:bE Tryz.prog 66 Y0:=eZ (by kernel_rfl) fun c _=>aaG c
theorem aaH(c:Int):bt Tryz.prog 39 [Kq c] [] (bB (cD c)) []:=by
 refine bq (aQ:=[]) aK Tryz.func39 (by kernel_rfl) (ak:=0) rfl (by kernel_rfl) 100 ?_;apply of_eq (q:=let q2:=decide ((32:Int)<=c);let q1:=(bif q2 then decide (c<=126) else false)=true;(q2=true->q2=true)/\(q2=true->q2=true)/\(q1->q1)/\(q1->q1)/\ax [vB (bif bif q2 then decide (c<=126) else false then !decide (c=34) else false)]=bB (cD c)/\([]:List Ob)=[]) (by kernel_rfl)
 try simp only[sL]
 first|rfl|exact⟨by omega,rfl⟩|exact ?a
def Y1:cT:=jk (.int .u8) fun c=>(.t,bB (cD c),[])
theorem Xg:bE Tryz.prog 39 Y1:=eZ (by kernel_rfl) fun c _=>aaH c
noncomputable def Lb:cg:=[(66,Y0)]
theorem Hy:bp Tryz.prog Lb:=aq Xf aK
noncomputable def TV:bh:=dD Tryz.prog Lb Tryz.f38 0 [([0,0,1],[0,1,2])]
theorem yP(s:ByteArray)(hs:s.size<=1000000):∀(k i:Nat),k=s.size-i->i<=s.size->aF TV (aX (nI (aN cu s i)) []) [0,0,1] (fr [(0,sS s),(1,nI i),(2,pL 66)]) (.ofList [])
 | k,i,hk,hi=>by
   refine cj Hy (by kernel_rfl) 100 ?_;apply of_eq (q:=let q2:=decide ((i:Int)<(s.size:Int));let q1:=q2=true;(q1->q1)/\(q1->q1)/\(q1->(0:Int)<=(i:Int)/\(i:Int)<(s.size:Int))/\(q1->q1)/\(q1->q1)/\(q1->q1)/\((bif q2 then cu (aT s i) else false)=true->aF TV (aX (nI (↑(aN cu s i):Int)) []) [0,0,1] (fr [(0,aP (W.str s)),(1,nI (IntKind.i64.wrap ((i:Int)+1))),(2,aP (W.func 66 []))]) (af.ofList []))/\((bif q2 then cu (aT s i) else false)=false->ax [vI (i:Int)]=nI (↑(aN cu s i):Int)/\([]:List Ob)=[])) (by kernel_rfl)
   try simp only[sL]
   refine⟨fun h=>by omega,fun h=>?_,fun h=>?_⟩
   . have hi1:i<s.size:=by omega
     rw[wrap64 (by omega) (by omega),fD ⟨hi1,h.2⟩];cases k with
     | zero=>omega
     | succ k=>exact yP s hs k (i+1) (by omega) (by omega)
   rw[js (by rintro⟨h1,h2⟩;rw[h (by omega)] at h2;cases h2)];rfl
theorem Xh(s:ByteArray)(i:Int)(h:s.size<=1000000/\0<=i/\i<=s.size):bt Tryz.prog 38 [sS s,nI i,pL 66] [] (nI (aN cu s i.toNat)) []:=by
 obtain⟨hs,h0,h1⟩:=h;obtain⟨n,rfl⟩:∃ n:Nat,i=n:=⟨i.toNat,by omega⟩;rw[Int.toNat_natCast];refine bq (aQ:=[([0,0,1],[0,1,2])]) Hy Tryz.func38 (by kernel_rfl) (ak:=0) rfl (by kernel_rfl) 100 ?_;apply of_eq (q:=aF (dD Tryz.prog Lb Tryz.f38 (0:Nat) [([0,0,1],[0,1,2])]) (aX (nI (↑(aN cu s n):Int)) []) [0,0,1] (fr [(0,aP (W.str s)),(1,nI (n:Int)),(2,aP (W.func 66 []))]) (af.ofList [])) (by kernel_rfl)
 try simp only[sL,Int.reduceEq,Int.reduceNe,Nat.reduceAdd]
 exact yP s hs _ n rfl (by omega)
noncomputable def Lc:cg:=[(39,Y1)]
theorem Hz:bp Tryz.prog Lc:=aq Xg aK
noncomputable def TW:bh:=dD Tryz.prog Lc Tryz.f38 0 [([0,0,1],[0,1,2])]
theorem yQ(s:ByteArray)(hs:s.size<=1000000):∀(k i:Nat),k=s.size-i->i<=s.size->aF TW (aX (nI (aN cD s i)) []) [0,0,1] (fr [(0,sS s),(1,nI i),(2,pL 39)]) (.ofList [])
 | k,i,hk,hi=>by
   refine cj Hz (by kernel_rfl) 100 ?_;apply of_eq (q:=let q2:=decide ((i:Int)<(s.size:Int));let q1:=q2=true;(q1->q1)/\(q1->q1)/\(q1->(0:Int)<=(i:Int)/\(i:Int)<(s.size:Int))/\(q1->q1)/\(q1->q1)/\(q1->q1)/\((bif q2 then cD (aT s i) else false)=true->aF TW (aX (nI (↑(aN cD s i):Int)) []) [0,0,1] (fr [(0,aP (W.str s)),(1,nI (IntKind.i64.wrap ((i:Int)+1))),(2,aP (W.func 39 []))]) (af.ofList []))/\((bif q2 then cD (aT s i) else false)=false->ax [vI (i:Int)]=nI (↑(aN cD s i):Int)/\([]:List Ob)=[])) (by kernel_rfl)
   try simp only[sL]
   refine⟨fun h=>by omega,fun h=>?_,fun h=>?_⟩
   . have hi1:i<s.size:=by omega
     rw[wrap64 (by omega) (by omega),fD ⟨hi1,h.2⟩];cases k with
     | zero=>omega
     | succ k=>exact yQ s hs k (i+1) (by omega) (by omega)
   rw[js (by rintro⟨h1,h2⟩;rw[h (by omega)] at h2;cases h2)];rfl
theorem Xi(s:ByteArray)(i:Int)(h:s.size<=1000000/\0<=i/\i<=s.size):bt Tryz.prog 38 [sS s,nI i,pL 39] [] (nI (aN cD s i.toNat)) []:=by
 obtain⟨hs,h0,h1⟩:=h;obtain⟨n,rfl⟩:∃ n:Nat,i=n:=⟨i.toNat,by omega⟩;rw[Int.toNat_natCast];refine bq (aQ:=[([0,0,1],[0,1,2])]) Hz Tryz.func38 (by kernel_rfl) (ak:=0) rfl (by kernel_rfl) 100 ?_;apply of_eq (q:=aF (dD Tryz.prog Lc Tryz.f38 (0:Nat) [([0,0,1],[0,1,2])]) (aX (nI (↑(aN cD s n):Int)) []) [0,0,1] (fr [(0,aP (W.str s)),(1,nI (n:Int)),(2,aP (W.func 39 []))]) (af.ofList [])) (by kernel_rfl)
 try simp only[sL,Int.reduceEq,Int.reduceNe,Nat.reduceAdd]
 exact yQ s hs _ n rfl (by omega)
def EG:cT:={ cB:=[],f:=fun args aj=>match args,aj with
 | [x,y,.p (.c (.func f []))],[]=>match wh .str x,wh (.int .i64) y with
   | some s,some i =>
     bif Nat.beq f 66 then some (.p (ByteArray.size s<=1000000/\0<=(i:Int)/\(i:Int)<=ByteArray.size s),nI (aN cu s (Int.toNat i)),[]) else
     bif Nat.beq f 39 then some (.p (ByteArray.size s<=1000000/\0<=(i:Int)/\(i:Int)<=ByteArray.size s),nI (aN cD s (Int.toNat i)),[]) else none
   | _,_=>none
 | _,_=>none }
theorem HE:bE Tryz.prog 38 EG:=by
 refine⟨by kernel_rfl,fun args aj c r aY e hc=>?_⟩;simp only[EG] at e;split at e;rename_i x y f;split at e
 . rename_i s i hx hy
   have key:∀(g:Nat)(p:Int->Bool),(∀(s:ByteArray)(i:Int),(s.size<=1000000/\0<=i/\i<=s.size)->bt Tryz.prog 38 [sS s,nI i,pL g] [] (nI (aN p s i.toNat)) [])->f=g->
    some ((Cd.p (ByteArray.size s<=1000000/\0<=(i:Int)/\(i:Int)<=ByteArray.size s)),nI (aN p s (Int.toNat i)),([]:List Ob))=some (c,r,aY)->bt Tryz.prog 38 [x,y,pL f] [] r aY:=by
    rintro g p hg rfl e;cases e;exact bt.args (hg s i hc) fun η Z vs hv=>match vs,hv with | [_,_,_],⟨a,b,d⟩=>⟨kA hx a,kA hy b,d⟩
   cases h1:Nat.beq f 66 with
   | true=>rw[h1] at e;exact key _ _ Xh (Nat.eq_of_beq_eq_true h1) e
   | false =>
   rw[h1] at e;cases h2:Nat.beq f 39 with
   | true=>rw[h2] at e;exact key _ _ Xi (Nat.eq_of_beq_eq_true h2) e
   | false=>rw[h2] at e;cases e
 cases e;cases e
def cH(s:ByteArray):Bool:=!decide (s=eS)&&decide ((s.size:Int)<=20)&&fu (aT s 0)&&!eB pN s&&decide ((aN cu s 0:Int)=s.size)
noncomputable def gNm:cg:=[(63,x7),(65,Qa),(64,Et),(38,EG)]
theorem gNm_ok:bp Tryz.prog gNm:=aq vf (aq Ku (aq Av (aq HE aK)))
theorem Xj(s:ByteArray):bt Tryz.prog 40 [sS s] [] (bB (cH s)) []:=by
 refine bq (aQ:=[]) gNm_ok Tryz.func40 (by kernel_rfl) (ak:=0) rfl (by kernel_rfl) 200 ?_;apply of_eq (q:=let q3:=decide (s=ByteArray.mk #[]);let q4:=decide ((20:Int)<(s.size:Int));let q1:=(bif bif q3 then true else q4 then true else !fu (aT s (0:Nat)))=false;let q2:=(bif q3 then true else q4)=false;(q3=false->q3=false)/\(q3=false->q3=false)/\(q3=false->q3=false)/\(q2->q2)/\(q2->(0:Int)<=0/\(0:Int)<(s.size:Int))/\(q2->q2)/\(q2->q2)/\(q2->q2)/\(q1->q1)/\(q1->q1)/\(q1->(13:Nat)<=1000000)/\(q1->q1)/\((bif bif bif q3 then true else q4 then true else !fu (aT s (0:Nat)) then true else eB pN s)=true->ax [vB false]=bB (cH s)/\([]:List Ob)=[])/\((bif bif bif q3 then true else q4 then true else !fu (aT s (0:Nat)) then true else eB pN s)=false->(s.size<=1000000/\(0:Int)<=0/\(0:Int)<=(s.size:Int))/\ax [vB (decide ((↑(aN cu s (0:Nat)):Int)=(s.size:Int)))]=bB (cH s)/\([]:List Ob)=[])) (by kernel_rfl)
 try simp only[sL]
 refine⟨fun h=>?_,fun _=>by omega,fun h=>?_,fun h=>?_⟩;have:s.size≠0:=by
  intro h0;apply h.1;obtain⟨d⟩:=s;have:d=#[]:=Array.eq_empty_of_size_eq_zero h0;rw[this]
 omega;unfold cH;rcases h with ((h|h)|h)|h;rw[decide_eq_true h];rfl;rw[decide_eq_false (p:=(s.size:Int)<=20) (by omega),Bool.and_false];rfl;rw[h,Bool.and_false];rfl;rw[h,Bool.not_true,Bool.and_false];rfl;refine⟨⟨by omega,by omega⟩,?_⟩;unfold cH;rw[decide_eq_false h.1.1.1,decide_eq_true h.1.1.2,h.1.2,h.2];rfl
def EH:cT:=jk .str fun s=>(.t,bB (cH s),[])
theorem AG:bE Tryz.prog 40 EH:=eZ (by kernel_rfl) fun s _=>Xj s
mutual
def Ex.jb:Ex->Ex->Bool
 | .mk k n t l,.mk k' n' t' l'=>decide (k=k')&&decide (n=n')&&decide (t=t')&&Ex.fM l l'
def Ex.fM:List Ex->List Ex->Bool
 | [],[]=>true
 | a::l,b::m=>a.jb b&&Ex.fM l m
 | _,_=>false
end
theorem Ex.wH:Ex.fM [] []=true:=by rw[Ex.fM]
theorem Ex.oF(a b:Ex)(l m:List Ex):Ex.fM (a::l) (b::m)=(a.jb b&&Ex.fM l m):=by rw[Ex.fM]
theorem Ex.wJ:∀(l m:List Ex),l.length≠m.length->Ex.fM l m=false
 | [],[],h=>absurd rfl h
 | [],b::m,_=>by rw[Ex.fM]<;>simp
 | a::l,[],_=>by rw[Ex.fM]<;>simp
 | a::l,b::m,h=>by
   rw[Ex.oF,Ex.wJ l m (fun e=>h (by simp[e])),Bool.and_false]
mutual
theorem Ex.nF:∀(a b:Ex),a.jb b=true↔a=b
 | .mk k n t l,.mk k' n' t' l'=>by
   rw[Ex.jb,Bool.and_eq_true,Bool.and_eq_true,Bool.and_eq_true,Ex.qD l l',decide_eq_true_eq,decide_eq_true_eq,decide_eq_true_eq,Ex.mk.injEq,and_assoc,and_assoc]
theorem Ex.qD:∀(l m:List Ex),Ex.fM l m=true↔l=m
 | [],[]=>by simp[Ex.wH]
 | [],b::m=>by rw[Ex.fM]<;>simp
 | a::l,[]=>by rw[Ex.fM]<;>simp
 | a::l,b::m=>by rw[Ex.oF,Bool.and_eq_true,Ex.nF a b,Ex.qD l m,List.cons.injEq]
end
theorem Ex.eta(e:Ex):Ex.mk e.k e.n e.t e.l=e:=by cases e;rfl
theorem Ex.vr(e:Ex):Ex.mk (PV.asInt (.int e.k)) (PV.asInt (.int e.n)) (PV.bL (.str e.t)) (bW (PV.aI (.aZ 4 (Ex.ai e.l))))=e:=by
 have:bW (PV.aI (.aZ 4 (Ex.ai e.l)))=e.l:=cN _;rw[this];exact e.eta
abbrev HF(k m:Int)(t:ByteArray)(l:List PV):A:=.p (.agg [.int .i64 k,.int .i64 m,.str t,.rs 4 l])
abbrev Y2(L:List Ex):A:=.p (.c (.rs 4 (Ex.ai L)))
def CJ(l m:List PV)(n:Nat):Prop:=(∃ L,l=Ex.ai L)/\(∃ M,m=Ex.ai M)/\Ex.aM (bW l)<n/\Ex.aM (bW l)<=1000000/\Ex.aM (bW m)<=1000000
theorem EI{L M:List Ex}{n:Nat}(h1:Ex.aM L<n)(h2:Ex.aM L<=1000000)(h3:Ex.aM M<=1000000):CJ (Ex.ai L) (Ex.ai M) n:=by
 unfold CJ;rw[cN,cN];exact⟨⟨_,rfl⟩,⟨_,rfl⟩,h1,h2,h3⟩
noncomputable def Y3(n:Nat):cT:={ cB:=[],f:=fun args aj=>match args,aj with
 | [.p (.agg [.int .i64 k,.int .i64 m,.str t,.rs q l]),.p (.agg [.int .i64 k',.int .i64 m',.str t',.rs q' l'])],[]=>bif Nat.beq q 4&&Nat.beq q' 4 then some (.p (CJ l l' n),bB ((Ex.mk k m t (bW l)).jb (.mk k' m' t' (bW l'))),[]) else none
 | _,_=>none }
def Ld(n:Nat):Prop:=∀(k m:Int)(t:ByteArray)(L:List Ex)(k' m':Int)(t':ByteArray)(M:List Ex),Ex.aM L<n->Ex.aM L<=1000000->Ex.aM M<=1000000->bt Tryz.prog 46 [HF k m t (Ex.ai L),HF k' m' t' (Ex.ai M)] [] (bB ((Ex.mk k m t L).jb (.mk k' m' t' M))) []
theorem TX{n:Nat}(h:Ld n):bE Tryz.prog 46 (Y3 n):=by
 refine⟨by kernel_rfl,fun args aj c r aY e hc=>?_⟩;simp only[Y3] at e;split at e;obtain⟨hb,e1⟩:=ah.aA e;clear e;simp only[Bool.and_eq_true,Nat.beq_eq] at hb;obtain⟨rfl,rfl⟩:=hb;cases e1;obtain⟨⟨L,rfl⟩,⟨M,rfl⟩,h2,h3,h4⟩:=hc;rw[cN] at h2 h3 h4;rw[cN,cN];exact h _ _ _ _ _ _ _ _ h2 h3 h4;cases e
noncomputable def gXe(n:Nat):cg:=[(46,Y3 n)]
theorem Le{n:Nat}(h:Ld n):bp Tryz.prog (gXe n):=aq (TX h) aK
abbrev fnXe:A:=.p (.c (.func 46 []))
noncomputable def sXe(n:Nat):bh:=ez Tryz.prog (gXe n) Tryz.f70 0 [([0,1,0,1,1],[1,2,15,16,17])] [] []
theorem NT(n:Nat)(h:Ld n)(L M:List Ex)(he:L.length=M.length)(hL:Ex.aM L<=n)(hl:Ex.aM L<=1000000)(hm:Ex.aM M<=1000000):∀(j i:Nat),j=L.length-i->i<=L.length->
 aF (sXe n) (aX (bB (Ex.fM (L.drop i) (M.drop i))) []) [0,1,0,1,1] (fr [(1,Y2 M),(2,fnXe),(15,Y2 L),(16,nI L.length),(17,nI i)]) (.ofList [])
 | j,i,hj,hi=>by
   refine cj (Le h) (by kernel_rfl) 200 ?_;apply of_eq (q:=let q1:=(i*4+1+1+1);let q2:=(Ex.ai L);let q3:=(Ex.ai M);let q4:=(Ex.fM (List.drop i L) (List.drop i M));let q5:=(i*4+1+1);(decide ((i:Int)<(L.length:Int))=true->((0:Int)<=(i:Int)/\i*4<q2.length)/\i*4+4<=q2.length/\(PV.int (0:Int)).like (q2.getD (i*4) (PV.bool false))=true/\(PV.int (0:Int)).like (q2.getD (i*4+1) (PV.bool false))=true/\(PV.str (ByteArray.mk #[])).like (q2.getD q5 (PV.bool false))=true/\(PV.aZ (4:Nat) []).like (q2.getD q1 (PV.bool false))=true/\((0:Int)<=(i:Int)/\i*4<q3.length)/\i*4+4<=q3.length/\(PV.int (0:Int)).like (q3.getD (i*4) (PV.bool false))=true/\(PV.int (0:Int)).like (q3.getD (i*4+1) (PV.bool false))=true/\(PV.str (ByteArray.mk #[])).like (q3.getD q5 (PV.bool false))=true/\(PV.aZ (4:Nat) []).like (q3.getD q1 (PV.bool false))=true/\CJ (q2.getD q1 (PV.bool false)).aI (q3.getD q1 (PV.bool false)).aI n/\((!(Ex.mk (q2.getD (i*4) (PV.bool false)).asInt (q2.getD (i*4+1) (PV.bool false)).asInt (q2.getD q5 (PV.bool false)).bL (bW (q2.getD q1 (PV.bool false)).aI)).jb (Ex.mk (q3.getD (i*4) (PV.bool false)).asInt (q3.getD (i*4+1) (PV.bool false)).asInt (q3.getD q5 (PV.bool false)).bL (bW (q3.getD q1 (PV.bool false)).aI)))=true->ax [vB false]=bB q4/\([]:List Ob)=[])/\((!(Ex.mk (q2.getD (i*4) (PV.bool false)).asInt (q2.getD (i*4+1) (PV.bool false)).asInt (q2.getD q5 (PV.bool false)).bL (bW (q2.getD q1 (PV.bool false)).aI)).jb (Ex.mk (q3.getD (i*4) (PV.bool false)).asInt (q3.getD (i*4+1) (PV.bool false)).asInt (q3.getD q5 (PV.bool false)).bL (bW (q3.getD q1 (PV.bool false)).aI)))=false->aF (sXe n) (aX (bB q4) []) [0,1,0,1,1] (fr [(1,aP (W.rs (4:Nat) q3)),(2,aP (W.func 46 [])),(15,aP (W.rs (4:Nat) q2)),(16,nI (L.length:Int)),(17,nI (IntKind.i64.wrap ((i:Int)+1)))]) (af.ofList [])))/\(decide ((i:Int)<(L.length:Int))=false->ax [vB true]=bB q4/\([]:List Ob)=[])) (by kernel_rfl)
   try simp only[sL]
   have bO:=Ex.jv L;refine⟨fun h1=>?_,fun h1=>?_⟩;have h1:i<L.length:=by omega
   have h2:i<M.length:=by omega
   rw[CG h1,vo h1,CH h1,CI h1,CG h2,vo h2,CH h2,CI h2,Ex.vr,Ex.vr,wrap64 (n:=(i:Int)+1) (by omega) (by omega),List.drop_eq_getElem_cons h1,List.drop_eq_getElem_cons h2,Ex.oF];have m1:=Ex.iY (List.getElem_mem h1);have m2:=Ex.iY (List.getElem_mem h2);rw[Ex.eT] at m1 m2;have g1:i*4+4<=(Ex.ai L).length:=by rw[Ex.dJ];omega
   have g2:i*4+4<=(Ex.ai M).length:=by rw[Ex.dJ];omega
   have hX:CJ (PV.aZ 4 (Ex.ai L[i].l)).aI (PV.aZ 4 (Ex.ai M[i].l)).aI n:=EI (by omega) (by omega) (by omega);refine⟨⟨by omega,by omega⟩,g1,rfl,rfl,rfl,rfl,⟨by omega,by omega⟩,g2,rfl,rfl,rfl,rfl,hX,fun hf=>?_,fun ht=>?_⟩;rw[hf];rfl
   . rw[ht,Bool.true_and];cases j with
     | zero=>omega
     | succ j=>exact NT n h L M he hL hl hm j (i+1) (by omega) (by omega)
   rw[List.drop_eq_nil_of_le (by omega),List.drop_eq_nil_of_le (by omega),Ex.wH];rfl
noncomputable def cEqf(n:Nat):cT:={ cB:=[],f:=fun args aj=>match args,aj with
 | [.p (.c (.rs q l)),.p (.c (.rs q' l')),.p (.c (.func f []))],[]=>bif Nat.beq q 4&&Nat.beq q' 4&&Nat.beq f 46 then some (.p (CJ l l' (n+1)),bB (Ex.fM (bW l) (bW l')),[]) else none
 | _,_=>none }
theorem aaI{n:Nat}(h:Ld n):bE Tryz.prog 70 (cEqf n):=by
 refine⟨by kernel_rfl,fun args aj c r aY e hc=>?_⟩;simp only[cEqf] at e;split at e;obtain⟨hb,e1⟩:=ah.aA e;clear e;simp only[Bool.and_eq_true,Nat.beq_eq] at hb;obtain⟨⟨rfl,rfl⟩,rfl⟩:=hb;cases e1;obtain⟨⟨L,rfl⟩,⟨M,rfl⟩,h2,h3,h4⟩:=hc;rw[cN] at h2 h3 h4;rw[cN,cN];refine bq (aQ:=[([0,1,0,1,1],[1,2,15,16,17])]) (Le h) Tryz.func70 (by kernel_rfl) (ak:=0) rfl (by kernel_rfl) 200 ?_;apply of_eq (q:=let q1:=decide ((↑((Ex.ai L).length/4):Int)=(↑((Ex.ai M).length/4):Int));((!q1)=true->ax [vB false]=bB (Ex.fM L M)/\([]:List Ob)=[])/\((!q1)=false->aF (dD Tryz.prog (gXe n) Tryz.f70 (0:Nat) [([0,1,0,1,1],[1,2,15,16,17])]) (aX (bB (Ex.fM L M)) []) [0,1,0,1,1] (fr [(1,aP (W.rs (4:Nat) (Ex.ai M))),(2,aP (W.func 46 [])),(15,aP (W.rs (4:Nat) (Ex.ai L))),(16,nI (↑((Ex.ai L).length/4):Int)),(17,nI (0))]) (af.ofList []))) (by kernel_rfl)
 try simp only[sL]
 rw[NH,NH];refine⟨fun hn=>?_,fun hn=>?_⟩;rw[Ex.wJ _ _ (by omega)];rfl;exact NT n h L M (by omega) (by omega) h3 h4 (L.length-0) 0 rfl (by omega);cases e
theorem aaJ(n:Nat)(h:Ld n):Ld (n+1):=by
 intro k m t L k' m' t' M hL hl hm;refine bq (aQ:=[]) (aq (aaI h) aK) Tryz.func46 (by kernel_rfl) (ak:=0) rfl (by kernel_rfl) 200 ?_;apply of_eq (q:=let q1:=(bif bif decide (k=k') then decide (m=m') else false then decide (t=t') else false)=true;let q2:=(bif decide (k=k') then decide (m=m') else false)=true;let q3:=decide (k=k')=true;(q3->q3)/\(q3->q3)/\(q3->q3)/\(q3->q3)/\(q3->q3)/\(q2->q2)/\(q2->q2)/\(q2->q2)/\(q2->q2)/\(q2->q2)/\(q1->q1)/\(q1->q1)/\(q1->q1)/\(q1->q1)/\(q1->CJ (Ex.ai L) (Ex.ai M) (n+1))/\(q1->q1)/\ax [vB (bif bif bif decide (k=k') then decide (m=m') else false then decide (t=t') else false then Ex.fM (bW (Ex.ai L)) (bW (Ex.ai M)) else false)]=bB ((Ex.mk k m t L).jb (Ex.mk k' m' t' M))/\([]:List Ob)=[]) (by kernel_rfl)
 try simp only[sL]
 rw[cN,cN];exact⟨fun _=>EI hL hl hm,rfl⟩
theorem Lf:∀ n,Ld n
 | 0=>fun k m t L _ _ _ _ h=>by omega
 | n+1=>aaJ n (Lf n)
def oo(e:Ex):Bool:=e.jb (.mk 0 0 eS [])
theorem Xk(k m:Int)(t:ByteArray)(L:List Ex)(hl:Ex.aM L<=1000000):bt Tryz.prog 79 [HF k m t (Ex.ai L)] [] (bB (oo (.mk k m t L))) []:=by
 refine bq (aQ:=[]) (Le (Lf 1000001)) Tryz.func79 (by kernel_rfl) (ak:=0) rfl (by kernel_rfl) 200 ?_;apply of_eq (q:=CJ (Ex.ai L) [] (1000001:Nat)/\ax [vB ((Ex.mk k m t (bW (Ex.ai L))).jb (Ex.mk (0:Int) (0:Int) (ByteArray.mk #[]) (bW [])))]=bB (oo (Ex.mk k m t L))/\([]:List Ob)=[]) (by kernel_rfl)
 try simp only[sL]
 have h:=EI (L:=L) (M:=[]) (n:=1000001) (by omega) hl (by rw[Ex.dK];omega);rw[Ex.bZ] at h;have e0:bW []=[]:=by have:=cN [];rwa [Ex.bZ] at this
 rw[cN,e0];exact⟨h,rfl⟩
noncomputable def QF:cT:={ cB:=[],f:=fun args aj=>match args,aj with
 | [.p (.agg [.int .i64 k,.int .i64 m,.str t,.rs q l])],[]=>bif Nat.beq q 4 then some (.p ((∃ L,l=Ex.ai L)/\Ex.aM (bW l)<=1000000),bB (oo (Ex.mk k m t (bW l))),[]) else none
 | _,_=>none }
theorem Xl:bE Tryz.prog 79 QF:=by
 refine⟨by kernel_rfl,fun args aj c r aY e hc=>?_⟩;simp only[QF] at e;split at e;obtain⟨hb,e1⟩:=ah.aA e;clear e;cases Nat.eq_of_beq_eq_true hb;cases e1;obtain⟨⟨L,rfl⟩,h2⟩:=hc;rw[cN] at h2 ⊢;exact Xk _ _ _ _ h2;cases e
abbrev CK:Ob:=⟨49,[.c (.mp 1)]⟩
def rX(k n:Int)(t:ByteArray)(len:Nat):Bool :=
 bif decide (k=1) then decide (0<=n)&&decide (n<=1000000000000000)&&decide ((len:Int)=0)&&decide (t=eS) else
 bif decide (k=2) then decide ((t.size:Int)<=200)&&decide ((aN cD t 0:Int)=t.size)&&decide ((len:Int)=0)&&decide (n=0) else
 bif decide (k=3) then(decide (n=0)||decide (n=1))&&decide ((len:Int)=0)&&decide (t=eS) else
 bif decide (k=4) then cH t&&decide ((len:Int)=0)&&decide (n=0) else
 bif decide (k=5) then decide (n=0)&&decide (t=eS) else
 bif decide (k=6) then cH t&&decide (n=0) else
 bif decide (k=7) then decide ((len:Int)=2)&&decide (n=0)&&decide (t=eS) else
 bif decide (k=8) then(decide (t=fP)||decide (t=iS))&&decide ((len:Int)=1)&&decide (n=0) else
 bif decide (k=9) then decide (0<dM t)&&decide ((len:Int)=2)&&decide (n=0) else false
mutual
def Ex.fin:Ex->Bool
 | .mk k n t l=>Ex.iy l&&rX k n t l.length
def Ex.iy:List Ex->Bool
 | []=>true
 | e::l=>e.fin&&Ex.iy l
end
theorem Ex.fin_eq(e:Ex):e.fin=(Ex.iy e.l&&rX e.k e.n e.t e.l.length):=by cases e;rw[Ex.fin];rfl
theorem Ex.gY:Ex.iy []=true:=by rw[Ex.iy]
theorem Ex.kL(e:Ex)(l:List Ex):Ex.iy (e::l)=(e.fin&&Ex.iy l):=by rw[Ex.iy]
def Ex.bad:List Ex->Int->Int
 | [],_=>-1
 | e::l,i=>bif e.fin then Ex.bad l (i+1) else i
theorem Ex.NU:∀(l:List Ex)(i:Int),0<=i->decide (0<=Ex.bad l i)=!Ex.iy l
 | [],i,_=>by rw[Ex.gY];rfl
 | e::l,i,h=>by
   rw[Ex.kL,Ex.bad];cases e.fin with
   | true=>rw[cond_true,Bool.true_and];exact Ex.NU l (i+1) (by omega)
   | false=>rw[cond_false,decide_eq_true h];rfl
def uG(l:List PV)(n:Nat):Prop:=(∃ L,l=Ex.ai L)/\Ex.aM (bW l)<n/\Ex.aM (bW l)<=1000000
theorem AJ{L:List Ex}{n:Nat}(h1:Ex.aM L<n)(h2:Ex.aM L<=1000000):uG (Ex.ai L) n:=by
 unfold uG;rw[cN];exact⟨⟨_,rfl⟩,h1,h2⟩
noncomputable def QG(n:Nat):cT:={ cB:=[false,true],f:=fun args aj=>match args,aj with
 | [.p (.agg [.int .i64 k,.int .i64 m,.str t,.rs q l]),.p (.c (.mp 0))],[o]=>bif Nat.beq q 4 then some (.p (o=bw/\uG l n),bB (Ex.mk k m t (bW l)).fin,[o]) else none
 | _,_=>none }
abbrev rC:A:=.p (.c (.mp 0))
def vv(n:Nat):Prop:=∀(k m:Int)(t:ByteArray)(L:List Ex),Ex.aM L<n->Ex.aM L<=1000000->bt Tryz.prog 18 [HF k m t (Ex.ai L),rC] [bw] (bB (Ex.mk k m t L).fin) [bw]
theorem FW{n:Nat}(h:vv n):bE Tryz.prog 18 (QG n):=by
 refine⟨by kernel_rfl,fun args aj c r aY e hc=>?_⟩;simp only[QG] at e;split at e;obtain⟨hb,e1⟩:=ah.aA e;clear e;cases Nat.eq_of_beq_eq_true hb;cases e1;obtain⟨rfl,⟨L,rfl⟩,h2,h3⟩:=hc;rw[cN] at h2 h3 ⊢;exact h _ _ _ _ h2 h3;cases e
abbrev fnF1:A:=.p (.c (.func 37 [(0,0)]))
noncomputable def cF1(n:Nat):cT:={ cB:=[false,true],f:=fun args aj=>match args,aj with
 | [.p (.agg [.int .i64 k,.int .i64 m,.str t,.rs q l]),.p (.c (.ptr 0 0))],[⟨ty,[.c (.mp 1)]⟩,o]=>bif Nat.beq q 4&&Nat.beq ty 49 then some (.p (o=bw/\uG l n),bB (!(Ex.mk k m t (bW l)).fin),[CK,o]) else none
 | _,_=>none }
theorem cF1_ok{n:Nat}(h:vv n):bE Tryz.prog 37 (cF1 n):=by
 refine⟨by kernel_rfl,fun args aj c r aY e hc=>?_⟩;simp only[cF1] at e;split at e;rename_i k m t q l ty o;obtain⟨hb,e1⟩:=ah.aA e;clear e;simp only[Bool.and_eq_true,Nat.beq_eq] at hb;obtain⟨rfl,rfl⟩:=hb;cases e1;obtain⟨rfl,⟨L,rfl⟩,h2,h3⟩:=hc;rw[cN] at h2 h3 ⊢;refine bq (aQ:=[]) (aq (FW h) aK) Tryz.func37 (by kernel_rfl) (ak:=2) rfl (by kernel_rfl) 200 ?_;apply of_eq (q:=(Ob.mk 49 [Fd.m D.str (D.int .i64) cx]=bw/\uG (Ex.ai L) n)/\ax [V.c (W.bool !(Ex.mk k m t (bW (Ex.ai L))).fin)]=bB !(Ex.mk k m t L).fin/\[Ob.mk 49 [Fd.c (W.mp (1:Nat))],Ob.mk 49 [Fd.m D.str (D.int .i64) cx]]=[CK,bw]) (by kernel_rfl)
 try simp only[sL]
 rw[cN];exact⟨AJ h2 h3,rfl⟩;cases e
noncomputable def gF1(n:Nat):cg:=[(37,cF1 n)]
theorem TY{n:Nat}(h:vv n):bp Tryz.prog (gF1 n):=aq (cF1_ok h) aK
noncomputable def sIxE(n:Nat):bh:=ez Tryz.prog (gF1 n) Tryz.f62 2 [([0,1,0,1],[0,1,7,8])] [] []
theorem Lg(n:Nat)(h:vv n)(L:List Ex)(hL:Ex.aM L<=n)(hl:Ex.aM L<=1000000):∀(j i:Nat),j=L.length-i->i<=L.length->
 aF (sIxE n) (aX (nI (Ex.bad (L.drop i) i)) [CK,bw]) [0,1,0,1] (fr [(0,Y2 L),(1,fnF1),(7,nI L.length),(8,nI i)]) (.ofList [CK,bw])
 | j,i,hj,hi=>by
   refine cj (TY h) (by kernel_rfl) 200 ?_;apply of_eq (q:=let q1:=[Ob.mk 49 [Fd.c (W.mp (1:Nat))],Ob.mk 49 [Fd.m D.str (D.int .i64) cx]]=[CK,bw];let q2:=(Ex.ai L);let q3:=(Ex.bad (List.drop i L) (i:Int));(decide ((i:Int)<(L.length:Int))=true->((0:Int)<=(i:Int)/\i*4<q2.length)/\i*4+4<=q2.length/\(PV.int (0:Int)).like (q2.getD (i*4) (PV.bool false))=true/\(PV.int (0:Int)).like (q2.getD (i*4+1) (PV.bool false))=true/\(PV.str (ByteArray.mk #[])).like (q2.getD (i*4+1+1) (PV.bool false))=true/\(PV.aZ (4:Nat) []).like (q2.getD (i*4+1+1+1) (PV.bool false))=true/\(Ob.mk 49 [Fd.m D.str (D.int .i64) cx]=bw/\uG (q2.getD (i*4+1+1+1) (PV.bool false)).aI n)/\((!(Ex.mk (q2.getD (i*4) (PV.bool false)).asInt (q2.getD (i*4+1) (PV.bool false)).asInt (q2.getD (i*4+1+1) (PV.bool false)).bL (bW (q2.getD (i*4+1+1+1) (PV.bool false)).aI)).fin)=true->ax [vI (i:Int)]=nI q3/\q1)/\((!(Ex.mk (q2.getD (i*4) (PV.bool false)).asInt (q2.getD (i*4+1) (PV.bool false)).asInt (q2.getD (i*4+1+1) (PV.bool false)).bL (bW (q2.getD (i*4+1+1+1) (PV.bool false)).aI)).fin)=false->aF (sIxE n) (aX (nI q3) [CK,bw]) [0,1,0,1] (fr [(0,aP (W.rs (4:Nat) q2)),(1,aP (W.func 37 [(0,(0:Nat))])),(7,nI (L.length:Int)),(8,nI (IntKind.i64.wrap ((i:Int)+1)))]) (af.ofList [Ob.mk 49 [Fd.c (W.mp (1:Nat))],Ob.mk 49 [Fd.m D.str (D.int .i64) cx]])))/\(decide ((i:Int)<(L.length:Int))=false->ax [vI (-1)]=nI q3/\q1)) (by kernel_rfl)
   try simp only[sL]
   have bO:=Ex.jv L;refine⟨fun h1=>?_,fun h1=>?_⟩;have h1:i<L.length:=by omega
   rw[CG h1,vo h1,CH h1,CI h1,Ex.vr,wrap64 (n:=(i:Int)+1) (by omega) (by omega),List.drop_eq_getElem_cons h1,Ex.bad];have m1:=Ex.iY (List.getElem_mem h1);rw[Ex.eT] at m1;have g1:i*4+4<=(Ex.ai L).length:=by rw[Ex.dJ];omega
   have hX:uG (PV.aZ 4 (Ex.ai L[i].l)).aI n:=AJ (by omega) (by omega);refine⟨⟨by omega,by omega⟩,g1,rfl,rfl,rfl,rfl,hX,fun hf=>?_,fun ht=>?_⟩;rw[hf];rfl
   . rw[ht,cond_true];cases j with
     | zero=>omega
     | succ j=>exact Lg n h L hL hl j (i+1) (by omega) (by omega)
   rw[List.drop_eq_nil_of_le (by omega)];rfl
noncomputable def cIxE(n:Nat):cT:={ cB:=[false,true],f:=fun args aj=>match args,aj with
 | [.p (.c (.rs q l)),.p (.c (.func f [(0,0)]))],[⟨ty,[.c (.mp 1)]⟩,o]=>bif Nat.beq q 4&&Nat.beq f 37&&Nat.beq ty 49 then some (.p (o=bw/\uG l (n+1)),nI (Ex.bad (bW l) 0),[CK,o]) else none
 | _,_=>none }
theorem aaK{n:Nat}(h:vv n):bE Tryz.prog 62 (cIxE n):=by
 refine⟨by kernel_rfl,fun args aj c r aY e hc=>?_⟩;simp only[cIxE] at e;split at e;obtain⟨hb,e1⟩:=ah.aA e;clear e;simp only[Bool.and_eq_true,Nat.beq_eq] at hb;obtain⟨⟨rfl,rfl⟩,rfl⟩:=hb;cases e1;obtain⟨rfl,⟨L,rfl⟩,h2,h3⟩:=hc;rw[cN] at h2 h3 ⊢;refine bq (aQ:=[([0,1,0,1],[0,1,7,8])]) (TY h) Tryz.func62 (by kernel_rfl) (ak:=2) rfl (by kernel_rfl) 200 ?_;apply of_eq (q:=aF (dD Tryz.prog (gF1 n) Tryz.f62 (2:Nat) [([0,1,0,1],[0,1,7,8])]) (aX (nI (Ex.bad L (0:Int))) [CK,bw]) [0,1,0,1] (fr [(0,aP (W.rs (4:Nat) (Ex.ai L))),(1,aP (W.func 37 [(0,(0:Nat))])),(7,nI (↑((Ex.ai L).length/4):Int)),(8,nI (0))]) (af.ofList [Ob.mk 49 [Fd.c (W.mp (1:Nat))],Ob.mk 49 [Fd.m D.str (D.int .i64) cx]])) (by kernel_rfl)
 try simp only[sL,Int.reduceEq,Int.reduceNe,Nat.reduceAdd]
 rw[NH];exact Lg n h L (by omega) h3 (L.length-0) 0 rfl (by omega);cases e
noncomputable def Xm(n:Nat):cT:={ cB:=[false,true],f:=fun args aj=>match args,aj with
 | [.p (.c (.rs q l)),.p (.c (.func f [(0,0)]))],[⟨ty,[.c (.mp 1)]⟩,o]=>bif Nat.beq q 4&&Nat.beq f 37&&Nat.beq ty 49 then some (.p (o=bw/\uG l (n+1)),bB (!Ex.iy (bW l)),[CK,o]) else none
 | _,_=>none }
theorem aaL{n:Nat}(h:vv n):bE Tryz.prog 36 (Xm n):=by
 refine⟨by kernel_rfl,fun args aj c r aY e hc=>?_⟩;simp only[Xm] at e;split at e;rename_i q l f ty o;obtain⟨hb,e1⟩:=ah.aA e;clear e;simp only[Bool.and_eq_true,Nat.beq_eq] at hb;obtain⟨⟨rfl,rfl⟩,rfl⟩:=hb;cases e1;obtain⟨rfl,hX⟩:=hc;refine bq (aQ:=[]) (aq (aaK h) aK) Tryz.func36 (by kernel_rfl) (ak:=2) rfl (by kernel_rfl) 200 ?_;apply of_eq (q:=(Ob.mk 49 [Fd.m D.str (D.int .i64) cx]=bw/\uG l (n+1))/\ax [vB (decide ((0:Int)<=Ex.bad (bW l) (0:Int)))]=bB !Ex.iy (bW l)/\[Ob.mk 49 [Fd.c (W.mp (1:Nat))],Ob.mk 49 [Fd.m D.str (D.int .i64) cx]]=[CK,bw]) (by kernel_rfl)
 try simp only[sL]
 rw[<-Ex.NU _ 0 (by omega)];exact⟨hX,rfl⟩;cases e
noncomputable def gFi(n:Nat):cg:=[(36,Xm n),(38,EG),(40,EH)]
theorem gFi_ok{n:Nat}(h:vv n):bp Tryz.prog (gFi n):=aq (aaL h) (aq HE (aq AG aK))
theorem Xn(n:Nat)(h:vv n):vv (n+1):=by
 intro k m t L hL hl;refine bq (aQ:=[]) (gFi_ok h) Tryz.func18 (by kernel_rfl) (ak:=1) rfl (by kernel_rfl) 400 ?_;apply of_eq (q:=let q1:=(↑((Ex.ai L).length/4):Int);let q2:=decide (t=ByteArray.mk #[(110:UInt8),(111:UInt8),(116:UInt8)]);let q4:=decide ((0:Int)<dz D.str (D.int .i64) cx t);let q7:=decide (t=ByteArray.mk #[(45:UInt8)]);let q9:=decide ((t.size:Int)<=200);let aJ:=decide (m=0);let bn:=(bif bif bif q7 then true else q2 then decide (q1=1) else false then aJ else false)=true;let bS:=(R1.pure (Cd.t.and Cd.t) (aP (W.str t))).v=(R1.pure (Cd.t.and Cd.t) (aP (W.str t))).v;let dx:=[Ob.mk 49 [Fd.m D.str (D.int .i64) cx]]=[bw];let dR:=(bif bif q7 then true else q2 then decide (q1=1) else false)=true;let eI:=decide ((↑(aN cD t (0:Nat)):Int)=(t.size:Int));let lJ:=(bif aJ then true else decide (m=1))=true;let kf:=decide ((0:Int)<=m);let gL:=(bif q9 then eI else false)=true;let gi:=(bif q7 then true else q2)=true;let jn:=decide (q1=q1);let gN:=decide (q1=2);let gu:=decide (q1=0);let jt:=(Ex.mk k m t L);let fj:=q9=true;let ja:=cH t=true;let iZ:=decide (m<=1000000000000000);let nM:=decide (t=ByteArray.mk #[]);let wv:=A.cond (fj) (V.c (W.str t))=A.cond (fj) (V.c (W.str t));let q3:=(bif bif bif q9 then eI else false then gu else false then aJ else false)=true;let q5:=(bif bif q9 then eI else false then gu else false)=true;let q6:=(bif bif bif kf then iZ else false then gu else false then decide (m=m) else false)=true;let q8:=(bif bif bif aJ then true else decide (m=1) then gu else false then decide (m=m) else false)=true;let bg:=(bif bif kf then iZ else false then gu else false)=true;let bX:=(bif bif aJ then true else decide (m=1) then gu else false)=true;let dX:=(bif bif cH t then jn else false then aJ else false)=true;let bV:=(bif bif cH t then gu else false then aJ else false)=true;let cU:=(bif bif q4 then gN else false then aJ else false)=true;let dL:=(bif kf then iZ else false)=true;let bQ:=(bif cH t then jn else false)=true;let ga:=(bif cH t then gu else false)=true;let dF:=(bif jn then aJ else false)=true;let j3:=(bif gN then aJ else false)=true;let gb:=(bif q4 then gN else false)=true;(Ob.mk 49 [Fd.m D.str (D.int .i64) cx]=bw/\uG (Ex.ai L) (n+1))/\((!Ex.iy (bW (Ex.ai L)))=true->ax [vB false]=bB jt.fin/\dx)/\((!Ex.iy (bW (Ex.ai L)))=false->(decide (k=1)=true->(kf=true->kf=true)/\(kf=true->kf=true)/\(kf=true->kf=true)/\(dL->dL)/\(dL->dL)/\(dL->dL)/\(bg->bg)/\(bg->bg)/\(bg->bg)/\(bg->bg)/\(q6->q6)/\(q6->q6)/\(q6->q6)/\(q6->q6)/\ax [vB (bif bif bif bif kf then iZ else false then gu else false then decide (m=m) else false then nM else false)]=bB jt.fin/\dx)/\(decide (k=1)=false->(decide (k=2)=true->(fj->fj)/\(fj->fj)/\(fj->t.size<=1000000/\(0:Int)<=0/\(0:Int)<=(t.size:Int))/\(fj->fj)/\(fj->fj)/\(fj->fj)/\(fj->fj)/\(fj->fj)/\(fj->fj)/\wv/\(fj->fj)/\wv/\bS/\bS/\(gL->gL)/\(gL->gL)/\(gL->gL)/\(q5->q5)/\(q5->q5)/\(q5->q5)/\(q5->q5)/\(q3->q3)/\(q3->q3)/\(q3->q3)/\(q3->q3)/\ax [vB (bif bif bif bif q9 then eI else false then gu else false then aJ else false then decide (t=t) else false)]=bB jt.fin/\dx)/\(decide (k=2)=false->(decide (k=3)=true->(aJ=false->aJ=false)/\(aJ=false->aJ=false)/\(aJ=false->aJ=false)/\(lJ->lJ)/\(lJ->lJ)/\(lJ->lJ)/\(bX->bX)/\(bX->bX)/\(bX->bX)/\(bX->bX)/\(q8->q8)/\(q8->q8)/\(q8->q8)/\(q8->q8)/\ax [vB (bif bif bif bif aJ then true else decide (m=1) then gu else false then decide (m=m) else false then nM else false)]=bB jt.fin/\dx)/\(decide (k=3)=false->(decide (k=4)=true->bS/\bS/\(ja->ja)/\(ja->ja)/\(ja->ja)/\(ga->ga)/\(ga->ga)/\(ga->ga)/\(ga->ga)/\(bV->bV)/\(bV->bV)/\(bV->bV)/\(bV->bV)/\ax [vB (bif bif bif cH t then gu else false then aJ else false then decide (t=t) else false)]=bB jt.fin/\dx)/\(decide (k=4)=false->(decide (k=5)=true->(jn=true->jn=true)/\(jn=true->jn=true)/\(jn=true->jn=true)/\(jn=true->jn=true)/\(dF->dF)/\(dF->dF)/\(dF->dF)/\(dF->dF)/\ax [vB (bif bif jn then aJ else false then nM else false)]=bB jt.fin/\dx)/\(decide (k=5)=false->(decide (k=6)=true->bS/\bS/\(ja->ja)/\(ja->ja)/\(ja->ja)/\(bQ->bQ)/\(bQ->bQ)/\(bQ->bQ)/\(bQ->bQ)/\(dX->dX)/\(dX->dX)/\(dX->dX)/\(dX->dX)/\ax [vB (bif bif bif cH t then jn else false then aJ else false then decide (t=t) else false)]=bB jt.fin/\dx)/\(decide (k=6)=false->(decide (k=7)=true->(gN=true->gN=true)/\(gN=true->gN=true)/\(gN=true->gN=true)/\(gN=true->gN=true)/\(j3->j3)/\(j3->j3)/\(j3->j3)/\(j3->j3)/\ax [vB (bif bif gN then aJ else false then nM else false)]=bB jt.fin/\dx)/\(decide (k=7)=false->(decide (k=8)=true->(q7=false->q7=false)/\(q7=false->q7=false)/\(q7=false->q7=false)/\(gi->gi)/\(gi->gi)/\(gi->gi)/\(dR->dR)/\(dR->dR)/\(dR->dR)/\(dR->dR)/\(bn->bn)/\(bn->bn)/\(bn->bn)/\(bn->bn)/\ax [vB (bif bif bif bif q7 then true else q2 then decide (q1=1) else false then aJ else false then decide (t=t) else false)]=bB jt.fin/\dx)/\(decide (k=8)=false->(decide (k=9)=true->bS/\bS/\(q4=true->q4=true)/\(q4=true->q4=true)/\(q4=true->q4=true)/\(gb->gb)/\(gb->gb)/\(gb->gb)/\(gb->gb)/\(cU->cU)/\(cU->cU)/\(cU->cU)/\(cU->cU)/\ax [vB (bif bif bif q4 then gN else false then aJ else false then decide (t=t) else false)]=bB jt.fin/\dx)/\(decide (k=9)=false->ax [vB false]=bB jt.fin/\dx))))))))))) (by kernel_rfl)
 try simp only[sL]
 rw[cN,NH,Ij,Ex.fin_eq];simp only[decide_true,Bool.and_true,Bool.true_and];refine⟨AJ (by omega) hl,fun hf=>by show _=bB (Ex.iy L&&_);rw[hf];rfl,fun ht=>?_⟩;show _/\_;have hE:(Ex.iy (Ex.mk k m t L).l&&rX (Ex.mk k m t L).k (Ex.mk k m t L).n (Ex.mk k m t L).t (Ex.mk k m t L).l.length)=rX k m t L.length:=by
  show (Ex.iy L&&_)=_;rw[ht];rfl
 rw[hE];refine⟨fun h=>by subst h;rfl,fun h1=>⟨fun h=>by subst h;exact⟨fun h=>⟨by omega,by omega⟩,rfl⟩,fun h2=>⟨fun h=>by subst h;rfl,fun h3=>⟨fun h=>by subst h;rfl,fun h4=>⟨fun h=>by subst h;rfl,fun h5=>⟨fun h=>by subst h;rfl,fun h6=>⟨fun h=>by subst h;rfl,fun h7=>⟨fun h=>by subst h;rfl,fun h8=>⟨fun h=>by subst h;rfl,fun h9=>?_⟩⟩⟩⟩⟩⟩⟩⟩⟩;unfold rX;rw[decide_eq_false h1,decide_eq_false h2,decide_eq_false h3,decide_eq_false h4,decide_eq_false h5,decide_eq_false h6,decide_eq_false h7,decide_eq_false h8,decide_eq_false h9];rfl
theorem FX:∀ n,vv n
 | 0=>fun k m t L h=>by omega
 | n+1=>Xn n (FX n)
def cr(xs:List ByteArray)(sep:ByteArray):ByteArray:=⟨(Lib.join (xs.map (·.data.toList)) sep.data.toList).toArray⟩
theorem Lh{P:Program}{f:FuncId}{args:List A}{d:D}{y:d.ty}(h:∀(base:Nat) (η:Eta) (Z:ar) (w:World) vs,Go.aU.St base η Z (.ofList []) w->aL (cw η Z) args vs->Calls P f vs.toArray w fun e w'=>∃ u,e=.returned u/\(∀ Z:ar,cA Z d y u)/\Below w.heap.size w w'):bt P f args [] (dat d y) [] :=
 Ak fun base η Z w vs R hvs _=>h base η Z w vs R hvs
theorem Xo(xs : List ByteArray)(sep : ByteArray)(h : xs.length ≤ 1000000 ∧ (cr xs sep).size ≤ 10000000000000) : bt Tryz.prog 28 [nY xs, sS sep] [] (sS (cr xs sep)) [] :=
 Lh (d := .str) (y := cr xs sep) fun base η Z w vs R hvs => by
  match vs,hvs with
  | [v, s], ⟨⟨_, h1⟩, ⟨_, h2⟩, _⟩ =>
    have h2:s=.string sep:=h2;subst h2;obtain⟨a,len,c,rfl,hl,hc,hx⟩:=au.rd h1;subst hl;by_cases h0:xs=[];subst h0;exact(Tryz.strings_Join_none a c sep w).mono fun e w' ⟨he,hw⟩=>⟨_,he,fun _=>rfl,hw▸Below.refl _ _⟩;rcases hx with hx|⟨b,off,cells,rfl,hb,hd⟩;exact absurd hx h0;obtain⟨ty,fz,hw⟩:=R.zs b cells hb;refine(Tryz.strings_Join b off c xs sep w (fun j x hj=>?_) (cS hw) (by omega) hc ?_).mono fun e w' ⟨he,hB⟩=>⟨_,he,fun _=>rfl,hB⟩;obtain⟨u,e1,e2⟩:=hd j x hj;have e2:u=.string x:=e2;subst e2;simp[World.cell?,hw,e1];have:=h.2;have e:(cr xs sep).size=(Lib.join (xs.map (·.data.toList)) sep.data.toList).length:=by simp[cr,ByteArray.size]
    omega
def Iu:cT:=xY dS .str fun xs sep=>(.p (List.length (α:=ByteArray) xs<=1000000/\(cr xs sep).size<=10000000000000),sS (cr xs sep),[])
theorem Du:bE Tryz.prog 28 Iu:=qx (by kernel_rfl) fun xs s h=>Xo xs s h
def AK(n:Int):ByteArray:=⟨(Lib.itoa n).toArray⟩
theorem Xp {Z:ar} (hK:fW Tryz.prog Z) {base:Nat} {η:Eta} {S:af} {w:World} (R:Go.aU.St base η Z S w):Lib.TabIs Tryz.prog w "internal/strconv.uint64pow10" .u64 Lib.pow10Tab:=by
 obtain⟨g,hg⟩:∃ g,Tryz.prog.globalNamed "internal/strconv.uint64pow10" = some g:=⟨1,by kernel_rfl⟩;have h:=hK.1 ("internal/strconv.uint64pow10",.u64,Px) (by simp[Py]) g hg;obtain⟨ty,fz,e⟩:=R.zs _ _ h;unfold Lib.TabIs World.var?;rw[hg];simp only[Option.bind_some,e];rfl
theorem aaM(n:Int)(h:-9223372036854775808<=n/\n<=9223372036854775807):bt Tryz.prog 43 [nI n] [] (sS (AK n)) [] :=
 Ak (d := .str) (y := AK n) fun base η Z w vs R hvs hK => by
  match vs,hvs with
  | [v],⟨⟨_,h1⟩,_⟩ =>
    have h1:v=.int .i64 n:=h1;subst h1;refine(Tryz.strconv_Itoa n h.1 h.2 w (Xp hK R)).mono ?_;rintro e w' ⟨rfl,k,os,rfl⟩;exact⟨_,rfl,fun _=>rfl,⟨rfl,rfl,rfl,by simp[Sort.grow,World.drewN],fun b hb=>by simp only[Sort.grow,World.drewN];rw[Array.getElem?_append_left hb]⟩⟩
def cItB:cT:=jk (.int .i64) fun n=>(.p (-9223372036854775808<=(show Int from n)/\(show Int from n)<=9223372036854775807),sS (AK n),[])
theorem aaN:bE Tryz.prog 43 cItB:=eZ (by kernel_rfl) fun n h=>aaM n h
theorem Li(n:Int)(h:-9223372036854775808<=n/\n<=9223372036854775807):(AK n).size<=21:=Lib.itoa_length_le n h.1 h.2
def rY(b:Bool):ByteArray:=bif b then qB else rV
theorem aaO(b:Bool):bt Tryz.prog 44 [bB b] [] (sS (rY b)) [] :=
 Lh (d := .str) (y := rY b) fun base η Z w vs R hvs => by
  match vs,hvs with
  | [v],⟨⟨_,h1⟩,_⟩ =>
    have h1:v=.bool b:=h1;subst h1;refine(Tryz.strconv_FormatBool b w).mono ?_;rintro e w' ⟨rfl,rfl⟩;exact⟨_,rfl,fun _=>(by cases b<;>rfl),Below.refl _ _⟩
def cFoB:cT:=jk .bool fun b=>(.t,sS (rY b),[])
theorem aaP:bE Tryz.prog 44 cFoB:=eZ (by kernel_rfl) fun b _=>aaO b
def cZ(k:Int)(t:ByteArray):Int:=bif decide (k=9) then dM t else bif decide (k=8) then(bif decide (t=iS) then 3 else 7) else bif decide (k=7) then 9 else 10
theorem T9(k m:Int)(t:ByteArray)(l:List PV):bt Tryz.prog 41 [HF k m t l,rC] [bw] (nI (cZ k t)) [bw]:=by
 refine bq (aQ:=[]) aK Tryz.func41 (by kernel_rfl) (ak:=1) rfl (by kernel_rfl) 200 ?_;apply of_eq (q:=let q1:=[Ob.mk 49 [Fd.m D.str (D.int .i64) cx]]=[bw];let q2:=decide (t=ByteArray.mk #[(110:UInt8),(111:UInt8),(116:UInt8)]);(decide (k=9)=true->ax [vI (dz D.str (D.int .i64) cx t)]=nI (cZ k t)/\q1)/\(decide (k=9)=false->(decide (k=8)=true->(q2=true->ax [vI (3)]=nI (cZ k t)/\q1)/\(q2=false->ax [vI (7)]=nI (cZ k t)/\q1))/\(decide (k=8)=false->(decide (k=7)=true->ax [vI (9)]=nI (cZ k t)/\q1)/\(decide (k=7)=false->ax [vI (10)]=nI (cZ k t)/\q1)))) (by kernel_rfl)
 try simp only[sL]
 rw[Ij];refine⟨fun h=>by subst h;rfl,fun h9=>⟨fun h=>by subst h;exact⟨fun h=>by subst h;rfl,fun h=>by unfold cZ;rw[decide_eq_false h];rfl⟩,fun h8=>⟨fun h=>by subst h;rfl,fun h7=>?_⟩⟩⟩;unfold cZ;rw[decide_eq_false h9,decide_eq_false h8,decide_eq_false h7];rfl
noncomputable def Lj:cT:={ cB:=[false,true],f:=fun args aj=>match args,aj with
 | [.p (.agg [.int .i64 k,.int .i64 m,.str t,.rs q l]),.p (.c (.mp 0))],[o]=>bif Nat.beq q 4 then some (.p (o=bw),nI (cZ k t),[o]) else none
 | _,_=>none }
theorem Ua:bE Tryz.prog 41 Lj:=by
 refine⟨by kernel_rfl,fun args aj c r aY e hc=>?_⟩;simp only[Lj] at e;split at e;obtain⟨hb,e1⟩:=ah.aA e;clear e;cases Nat.eq_of_beq_eq_true hb;cases e1;cases hc;exact T9 _ _ _ _;cases e
def iJ(p:Int×ByteArray)(pl:Int):ByteArray:=bif decide (p.1<pl) then dP++p.2++dU else p.2
abbrev iC:ByteArray:=⟨#[44,32]⟩
abbrev rD:ByteArray:=⟨#[32]⟩
abbrev kM:ByteArray:=⟨#[34]⟩
abbrev rZ:ByteArray:=⟨#[94]⟩
abbrev Dv:ByteArray:=⟨#[110,111,116,32]⟩
def lB(ps:List (Int×ByteArray))(i:Nat):Int×ByteArray:=ps.getD i (0,eS)
def CM(lv:Int)(t:ByteArray)(a b:Int×ByteArray):ByteArray :=
 bif decide (lv=8) then iJ a 9++rZ++iJ b 7 else
 bif decide (lv=4) then iJ a (lv+1)++rD++t++rD++iJ b (lv+1) else
 iJ a lv++rD++t++rD++iJ b (lv+1)
def CN(k n:Int)(t:ByteArray)(ps:List (Int×ByteArray)):ByteArray :=
 bif decide (k=1) then AK n else
 bif decide (k=2) then kM++t++kM else
 bif decide (k=3) then rY (decide (n=1)) else
 bif decide (k=5) then gM++cr (ps.map (iJ · 1)) iC++gK else
 bif decide (k=6) then t++dP++cr (ps.map (iJ · 1)) iC++dU else
 bif decide (k=7) then iJ (lB ps 0) 9++gM++iJ (lB ps 1) 1++gK else
 bif decide (k=8) then(bif decide (cZ k t=3) then Dv++iJ (lB ps 0) (cZ k t) else fP++iJ (lB ps 0) (cZ k t)) else
 bif decide (k=9) then CM (cZ k t) t (lB ps 0) (lB ps 1) else t
mutual
def Ex.pr:Ex->Int×ByteArray
 | .mk k n t l=>(cZ k t,CN k n t (Ex.kN l))
def Ex.kN:List Ex->List (Int×ByteArray)
 | []=>[]
 | e::m=>e.pr::Ex.kN m
end
def Ex.jc(e:Ex):ByteArray:=e.pr.2
theorem Ex.kO(k n:Int)(t:ByteArray)(l:List Ex):(Ex.mk k n t l).jc=CN k n t (Ex.kN l):=by rw[Ex.jc,Ex.pr]
theorem Ex.NV:Ex.kN []=[]:=by rw[Ex.kN]
theorem Ex.j5(e:Ex)(l:List Ex):Ex.kN (e::l)=(cZ e.k e.t,e.jc)::Ex.kN l:=by cases e;rw[Ex.kN,Ex.jc,Ex.pr];rfl
def Ex.wr(e:Ex)(pl:Int):ByteArray:=iJ (cZ e.k e.t,e.jc) pl
theorem Ex.rE{l:List Ex}{i:Nat}(h:i<l.length)(pl:Int):iJ (lB (Ex.kN l) i) pl=l[i].wr pl:=by
 have:∀(l:List Ex)(i:Nat)(h:i<l.length),(Ex.kN l).getD i (0,eS)=(cZ l[i].k l[i].t,l[i].jc):=by
  intro l
  induction l with
  | nil=>intro i h;cases h
  | cons e l ih =>
    intro i h;rw[Ex.j5];cases i with
    | zero=>rfl
    | succ i=>exact ih i (by simpa using h)
 unfold lB;rw[this l i h];rfl
theorem Ex.wK(l:List Ex)(pl:Int):(Ex.kN l).map (iJ · pl)=l.map fun e=>e.wr pl:=by
 induction l with
 | nil=>rw[Ex.NV];rfl
 | cons e l ih=>rw[Ex.j5,List.map_cons,List.map_cons,ih];rfl
theorem aD(a b:ByteArray):(a++b).size=a.size+b.size:=ByteArray.size_append
theorem Xq{t : ByteArray}(h : 0 < dM t) : t.size ≤ 3 := by
 by_cases h3:t.size<=3;exact h3;exfalso;have : dM t = 0 := by
  have key:∀ l:List (ByteArray×Int),(∀ p∈l,p.1.size<=3)->dz .str (.int .i64) l t=0:=by
   intro l
   induction l with
   | nil=>intro _;rfl
   | cons p l ih =>
     intro h;have hb:D.kD .str t p.1=false:=by
      cases hb:D.kD .str t p.1 with
      | true =>
        have e:t=p.1:=(D.Gp rfl).1 hb;have:=h p (List.mem_cons_self ..);rw[<-e] at this;exact absurd this h3
      | false=>rfl
     have:=ih fun q hq=>h q (List.mem_cons_of_mem _ hq);obtain⟨a,b⟩:=p;unfold dz mH at this ⊢;unfold mH;rw[hb];exact this
  exact key tE (by decide)
 omega
theorem HG(sep:ByteArray):cr [] sep=eS:=rfl
theorem HI(x sep:ByteArray):cr [x] sep=x:=by
 unfold cr;rw[List.map_cons,List.map_nil,Lib.join_one]
theorem Ll(x y:ByteArray)(l:List ByteArray)(sep:ByteArray):cr (x::y::l) sep=x++(sep++cr (y::l) sep):=by
 unfold cr;have:Lib.join (x.data.toList::y.data.toList::l.map (·.data.toList)) sep.data.toList=x.data.toList++(sep.data.toList++Lib.join (y.data.toList::l.map (·.data.toList)) sep.data.toList):=by
  rw[Lib.join_cons,Lib.join_cons,Lib.joinTail,Lib.joinTail];simp
 rw[List.map_cons,List.map_cons,this];apply ByteArray.ext;simp
theorem rF(sep:ByteArray):∀ l:List ByteArray,(cr l sep).size<=(l.map fun x=>x.size+sep.size).sum
 | []=>by rw[HG];exact Nat.zero_le _
 | [x]=>by rw[HI];simp
 | x::y::l=>by
   have:=rF sep (y::l);rw[Ll,aD,aD,List.map_cons,List.sum_cons];omega
theorem jy(p:Int×ByteArray)(pl:Int):(iJ p pl).size<=p.2.size+2:=by
 unfold iJ;cases decide (p.1<pl) with
 | true=>rw[cond_true,aD,aD];exact by show 1+_+1<=_;omega
 | false=>rw[cond_false];omega
theorem BD{t:ByteArray}(h:cH t=true):t.size<=20:=by
 unfold cH at h;simp only[Bool.and_eq_true,decide_eq_true_eq] at h;omega
theorem jL{k n:Int}{t:ByteArray}{c:Nat}(h:rX k n t c=true) :
 (k=1/\0<=n/\n<=1000000000000000/\c=0/\t=eS)∨(k=2/\t.size<=200/\aN cD t 0=t.size/\c=0/\n=0)∨(k=3/\(n=0∨n=1)/\c=0/\t=eS)∨(k=4/\cH t=true/\c=0/\n=0)∨(k=5/\n=0/\t=eS)∨
 (k=6/\cH t=true/\n=0)∨(k=7/\c=2/\n=0/\t=eS)∨(k=8/\(t=fP∨t=iS)/\c=1/\n=0)∨(k=9/\0<dM t/\c=2/\n=0):=by
 unfold rX at h;simp only[cond_eq_ite,decide_eq_true_eq] at h
 (repeat' split at h)<;>simp only[Bool.and_eq_true,Bool.or_eq_true,decide_eq_true_eq,Bool.false_eq_true] at h<;>grind
theorem Y4{k n:Int}{t:ByteArray}{c:Nat}(h:rX k n t c=true):t.size<=200:=by
 have e0:t=eS->t.size<=200:=by rintro rfl;exact Nat.zero_le _
 rcases jL h with h|h|h|h|h|h|h|h|h;exact e0 h.2.2.2.2;omega;exact e0 h.2.2.2;have:=BD h.2.1;omega;exact e0 h.2.2;have:=BD h.2.1;omega;exact e0 h.2.2.2;rcases h.2.1 with rfl|rfl<;>decide;have:=Xq h.2.1;omega
theorem fin_n{k n:Int}{t:ByteArray}{c:Nat}(h:rX k n t c=true):-9223372036854775808<=n/\n<=9223372036854775807:=by
 rcases jL h with h|h|h|h|h|h|h|h|h<;>omega
def Dw(ps:List (Int×ByteArray)):Nat:=(ps.map fun p=>p.2.size+4).sum
theorem rG(p:Int×ByteArray)(ps:List (Int×ByteArray)):Dw (p::ps)=p.2.size+4+Dw ps:=by unfold Dw;rw[List.map_cons,List.sum_cons]
theorem sumP_2(ps:List (Int×ByteArray)):(lB ps 0).2.size+(lB ps 1).2.size<=Dw ps:=by
 match ps with
 | []=>exact Nat.zero_le _
 | [p]=>rw[rG];exact by show p.2.size+0<=_;omega
 | p::q::ps=>rw[rG,rG];exact by show p.2.size+q.2.size<=_;omega
theorem yt(ps:List (Int×ByteArray))(pl:Int):(cr (ps.map (iJ · pl)) iC).size<=Dw ps:=by
 refine Nat.le_trans (rF _ _) ?_
 induction ps with
 | nil=>exact Nat.le_refl _
 | cons p ps ih =>
   have:=jy p pl;rw[rG,List.map_cons,List.map_cons,List.sum_cons];have:iC.size=2:=rfl;omega
theorem Xr(lv:Int)(t:ByteArray)(a b:Int×ByteArray):(CM lv t a b).size<=a.2.size+b.2.size+t.size+6:=by
 have z6:rZ.size=1:=rfl;have z7:rD.size=1:=rfl;unfold CM;cases decide (lv=8) with
 | true =>
   have h1:=jy a 9;have h2:=jy b 7;rw[cond_true,aD,aD];omega
 | false =>
   rw[cond_false];cases decide (lv=4) with
   | true =>
     have h1:=jy a (lv+1);have h2:=jy b (lv+1);rw[cond_true,aD,aD,aD,aD];omega
   | false =>
     have h1:=jy a lv;have h2:=jy b (lv+1);rw[cond_false,aD,aD,aD,aD];omega
theorem Xs{k n:Int}{t:ByteArray}{c:Nat}(h:rX k n t c=true)(ps:List (Int×ByteArray)):(CN k n t ps).size+4<=Dw ps+250:=by
 have h1:=Y4 h;have h3:=sumP_2 ps;rcases jL h with h|h|h|h|h|h|h|h|h<;>obtain⟨rfl,h⟩:=h;have h2:=Li n ⟨by omega,by omega⟩;show (AK n).size+4<=_;omega;show (kM++t++kM).size+4<=_;rw[aD,aD];show 1+_+1+4<=_;omega;show (rY (decide (n=1))).size+4<=_;have hb:(rY (decide (n=1))).size<=5:=by cases decide (n=1)<;>decide
 omega;show t.size+4<=_;omega;show (gM++cr (ps.map (iJ · 1)) iC++gK).size+4<=_;have h4:=yt ps 1;rw[aD,aD];show 1+_+1+4<=_;omega;show (t++dP++cr (ps.map (iJ · 1)) iC++dU).size+4<=_;have h4:=yt ps 1;rw[aD,aD,aD];show t.size+1+_+1+4<=_;omega;show (iJ (lB ps 0) 9++gM++iJ (lB ps 1) 1++gK).size+4<=_;have h5:=jy (lB ps 0) 9;have h6:=jy (lB ps 1) 1;rw[aD,aD,aD];show _+1+_+1+4<=_;omega
 . show (bif decide (cZ 8 t=3) then Dv++iJ (lB ps 0) (cZ 8 t) else fP++iJ (lB ps 0) (cZ 8 t)).size+4<=_;have h5:=jy (lB ps 0) (cZ 8 t);cases decide (cZ 8 t=3) with
   | true=>rw[cond_true,aD];exact by show 4+_+4<=_;omega
   | false=>rw[cond_false,aD];exact by show 1+_+4<=_;omega
 show (CM (cZ 9 t) t (lB ps 0) (lB ps 1)).size+4<=_;have:=Xr (cZ 9 t) t (lB ps 0) (lB ps 1);omega
mutual
theorem Ex.Ln:∀ e:Ex,e.fin=true->e.jc.size+4<=250*e.ct
 | .mk k n t l,h=>by
   rw[Ex.fin,Bool.and_eq_true] at h;have h1:=Xs h.2 (Ex.kN l);have h2:=Ex.Dx l h.1;rw[Ex.kO,Ex.ct];omega
theorem Ex.Dx:∀ l:List Ex,Ex.iy l=true->Dw (Ex.kN l)<=250*Ex.aM l
 | [],_=>by rw[Ex.NV];exact Nat.zero_le _
 | e::l,h=>by
   rw[Ex.kL,Bool.and_eq_true] at h;have h1:=Ex.Ln e h.1;have h2:=Ex.Dx l h.2;rw[Ex.j5,Ex.dV,rG];show e.jc.size+4+_<=_;omega
end
def pQ(k n:Int)(t:ByteArray)(l:List PV)(pl:Int)(m:Nat):Prop :=
 (∃ L,l=Ex.ai L)/\(Ex.mk k n t (bW l)).fin=true/\2*Ex.aM (bW l)+(bif decide (cZ k t<pl) then 1 else 0)<m/\Ex.aM (bW l)<=1000000
theorem EJ{k n:Int}{t:ByteArray}{L:List Ex}{pl:Int}{m:Nat}(h1:(Ex.mk k n t L).fin=true)(h2:2*Ex.aM L+(bif decide (cZ k t<pl) then 1 else 0)<m)(h3:Ex.aM L<=1000000):pQ k n t (Ex.ai L) pl m:=by
 unfold pQ;rw[cN];exact⟨⟨_,rfl⟩,h1,h2,h3⟩
def EK(m:Nat):Prop:=∀(k n:Int)(t:ByteArray)(L:List Ex)(pl:Int),(Ex.mk k n t L).fin=true->2*Ex.aM L+(bif decide (cZ k t<pl) then 1 else 0)<m->Ex.aM L<=1000000->bt Tryz.prog 19 [HF k n t (Ex.ai L),nI pl,rC] [bw] (sS ((Ex.mk k n t L).wr pl)) [bw]
noncomputable def NW(m:Nat):cT:={ cB:=[false,false,true],f:=fun args aj=>match args,aj with
 | [.p (.agg [.int .i64 k,.int .i64 n,.str t,.rs q l]),.p (.c (.int .i64 pl)),.p (.c (.mp 0))],[o]=>bif Nat.beq q 4 then some (.p (o=bw/\pQ k n t l pl m),sS ((Ex.mk k n t (bW l)).wr pl),[o]) else none
 | _,_=>none }
theorem EL{m:Nat}(h:EK m):bE Tryz.prog 19 (NW m):=by
 refine⟨by kernel_rfl,fun args aj c r aY e hc=>?_⟩;simp only[NW] at e;split at e;obtain⟨hb,e1⟩:=ah.aA e;clear e;cases Nat.eq_of_beq_eq_true hb;cases e1;obtain⟨rfl,⟨L,rfl⟩,h1,h2,h3⟩:=hc;rw[cN] at h1 h2 h3 ⊢;exact h _ _ _ _ _ h1 h2 h3;cases e
abbrev AL:Ob:=⟨49,[.c (.mp 2)]⟩
noncomputable def gP1(m:Nat):cg:=[(19,NW m),(28,Iu)]
theorem Ub{m:Nat}(h:EK m):bp Tryz.prog (gP1 m):=aq (EL h) (aq Du aK)
noncomputable def sP1(m:Nat):bh:=ez Tryz.prog (gP1 m) Tryz.f42 3 [([0,1,0,1,1],[1,3,7,8,9])] [] []
def pR(L:List Ex):List ByteArray:=L.map fun e=>e.wr 1
theorem NX(L:List Ex):(pR L).length=L.length:=by unfold pR;rw[List.length_map]
theorem Lq{L:List Ex}(hf:Ex.iy L=true):(cr (pR L) iC).size<=250*Ex.aM L:=by
 have h1:=yt (Ex.kN L) 1;rw[Ex.wK] at h1;exact Nat.le_trans h1 (Ex.Dx L hf)
theorem wM{e:Ex}:∀{l:List Ex},Ex.iy l=true->e∈l->e.fin=true
 | x::l,h,hm=>by
   rw[Ex.kL,Bool.and_eq_true] at h;rcases List.mem_cons.1 hm with rfl|hm;exact h.1;exact wM h.2 hm
theorem Uc{L:List Ex}{i:Nat}(h:i<L.length)(hf:Ex.iy L=true){m:Nat}(h2:2*Ex.aM L<=m)(h3:Ex.aM L<=1000000)(pl:Int):pQ (PV.asInt (.int L[i].k)) (PV.asInt (.int L[i].n)) (PV.bL (.str L[i].t)) (PV.aI (.aZ 4 (Ex.ai L[i].l))) pl m:=by
 have m1:=Ex.iY (List.getElem_mem h);rw[Ex.eT] at m1;refine EJ (L:=L[i].l) ?_ ?_ (by omega);have:=wM hf (List.getElem_mem h)
 rwa [<-Ex.eta L[i]] at this
 have:(bif decide (cZ (PV.asInt (.int L[i].k)) (PV.bL (.str L[i].t))<pl) then 1 else 0)<=1:=by cases decide (cZ (PV.asInt (.int L[i].k)) (PV.bL (.str L[i].t))<pl)<;>decide
 omega
theorem NY{m:Nat}(h:EK m)(k n:Int)(t:ByteArray)(L:List Ex)(hf:Ex.iy L=true)(h2:2*Ex.aM L<=m)(h3:Ex.aM L<=1000000):∀(j i:Nat),j=L.length-i->i<=L.length->
 aF (sP1 m) (aX (sS (cr (pR L) iC)) [sy k n t (Ex.ai L),AL,bw]) [0,1,0,1,1] (fr [(1,.p (.c (.ptr 1 0))),(3,.p (.c (.sl 3 0 i 1))),(7,Y2 L),(8,nI L.length),(9,nI i)]) (.ofList [sy k n t (Ex.ai L),AL,bw,⟨9,[.a 0 .str (pR (L.take i))]⟩])
 | j,i,hj,hi=>by
   refine cj (Ub h) (by kernel_rfl) 200 ?_;apply of_eq (q:=let q1:=(List.drop (0:Nat) (pR (List.take i L)));let q2:=(Ex.ai L);let q3:=(cr (List.take i q1) (ByteArray.mk #[(44:UInt8),(32:UInt8)]));let q4:=Ob.mk 25 [fI k,fI n,Fd.c (W.str t),Fd.c (W.rs (4:Nat) q2)];(decide ((i:Int)<(L.length:Int))=true->((0:Int)<=(i:Int)/\i*4<q2.length)/\i*4+4<=q2.length/\(PV.int (0:Int)).like (q2.getD (i*4) (PV.bool false))=true/\(PV.int (0:Int)).like (q2.getD (i*4+1) (PV.bool false))=true/\(PV.str (ByteArray.mk #[])).like (q2.getD (i*4+1+1) (PV.bool false))=true/\(PV.aZ (4:Nat) []).like (q2.getD (i*4+1+1+1) (PV.bool false))=true/\(Ob.mk 49 [Fd.m D.str (D.int .i64) cx]=bw/\pQ (q2.getD (i*4) (PV.bool false)).asInt (q2.getD (i*4+1) (PV.bool false)).asInt (q2.getD (i*4+1+1) (PV.bool false)).bL (q2.getD (i*4+1+1+1) (PV.bool false)).aI (1:Int) m)/\(0:Nat)+1<=1/\((0:Nat)+i<=(pR (List.take i L)).length/\(i+1)*16<=140737488355328)/\aF (sP1 m) (aX (sS (cr (pR L) iC)) [sy k n t q2,AL,bw]) [0,1,0,1,1] (fr [(1,aR 1 0),(3,aS 3 0 (i+1)),(7,aP (W.rs (4:Nat) q2)),(8,nI (L.length:Int)),(9,nI (IntKind.i64.wrap ((i:Int)+1)))]) (af.ofList [q4,Ob.mk 49 [Fd.c (W.mp (2:Nat))],Ob.mk 49 [Fd.m D.str (D.int .i64) cx],Ob.mk 9 [Fd.a 0 D.str (List.take i q1++List.take (1:Nat) (List.drop (0:Nat) [(Ex.mk (q2.getD (i*4) (PV.bool false)).asInt (q2.getD (i*4+1) (PV.bool false)).asInt (q2.getD (i*4+1+1) (PV.bool false)).bL (bW (q2.getD (i*4+1+1+1) (PV.bool false)).aI)).wr (1:Int)]))]]))/\(decide ((i:Int)<(L.length:Int))=false->(0:Nat)+i<=(pR (List.take i L)).length/\((List.take i q1).length<=1000000/\q3.size<=10000000000000)/\ax [V.c (W.str q3)]=sS (cr (pR L) iC)/\[q4,Ob.mk 49 [Fd.c (W.mp (2:Nat))],Ob.mk 49 [Fd.m D.str (D.int .i64) cx]]=[sy k n t q2,AL,bw])) (by kernel_rfl)
   try simp only[sL]
   have bO:=Ex.jv L;have hwl:(pR (L.take i)).length=i:=by rw[NX,List.length_take];omega
   rw[List.take_of_length_le (Nat.le_of_eq hwl)];refine⟨fun h1=>?_,fun h1=>?_⟩
   . have h1:i<L.length:=by omega
     have hC:=Uc h1 hf h2 h3 1;have g1:i*4+4<=(Ex.ai L).length:=by rw[Ex.dJ];omega
     rw[CG h1,vo h1,CH h1,CI h1,Ex.vr,wrap64 (n:=(i:Int)+1) (by omega) (by omega)];refine⟨⟨by omega,by omega⟩,g1,rfl,rfl,rfl,rfl,hC,⟨by omega,by omega⟩,?_⟩;cases j with
     | zero=>omega
     | succ j =>
       have ih:=NY h k n t L hf h2 h3 j (i+1) (by omega) (by omega);have e:pR (L.take (i+1))=pR (L.take i)++[L[i].wr 1]:=by unfold pR;rw[List.take_succ_eq_append_getElem h1,List.map_append];rfl
       rw[e] at ih;exact ih
   have e:L.take i=L:=List.take_of_length_le (by omega);have:(cr (pR L) ⟨#[44,32]⟩).size<=250*Ex.aM L:=Lq hf;rw[e,NX];exact⟨by omega,⟨by omega,by omega⟩,rfl⟩
theorem p1_sem{m:Nat}(h:EK m)(k n:Int)(t:ByteArray)(L:List Ex)(hf:Ex.iy L=true)(h2:2*Ex.aM L<=m)(h3:Ex.aM L<=1000000) :
 bt Tryz.prog 42 [.p (.c (.ptr 0 0)),.p (.c (.ptr 1 0))] [sy k n t (Ex.ai L),AL,bw] (sS (cr (pR L) iC)) [sy k n t (Ex.ai L),AL,bw]:=by
 refine bq (aQ:=[([0,1,0,1,1],[1,3,7,8,9])]) (Ub h) Tryz.func42 (by kernel_rfl) (ak:=3) rfl (by kernel_rfl) 200 ?_;apply of_eq (q:=aF (dD Tryz.prog (gP1 m) Tryz.f42 (3:Nat) [([0,1,0,1,1],[1,3,7,8,9])]) (aX (sS (cr (pR L) iC)) [sy k n t (Ex.ai L),AL,bw]) [0,1,0,1,1] (fr [(1,aR 1 0),(3,aS 3 0 0),(7,aP (W.rs (4:Nat) (Ex.ai L))),(8,nI (↑((Ex.ai L).length/4):Int)),(9,nI (0))]) (af.ofList [Ob.mk 25 [fI k,fI n,Fd.c (W.str t),Fd.c (W.rs (4:Nat) (Ex.ai L))],Ob.mk 49 [Fd.c (W.mp (2:Nat))],Ob.mk 49 [Fd.m D.str (D.int .i64) cx],Ob.mk 9 [Fd.a 0 D.str []]])) (by kernel_rfl)
 try simp only[sL,Int.reduceEq,Int.reduceNe,Nat.reduceAdd]
 rw[NH];exact NY h k n t L hf h2 h3 (L.length-0) 0 rfl (by omega)
noncomputable def cPt(m:Nat):cT:={ cB:=[true,true],f:=fun args aj=>match args,aj with
 | [.p (.c (.ptr 0 0)),.p (.c (.ptr 1 0))],[⟨ty,[.c (.int .i64 k),.c (.int .i64 n),.c (.str t),.c (.rs q l)]⟩,⟨ty2,[.c (.mp 2)]⟩,o]=>bif Nat.beq q 4&&Nat.beq ty 25&&Nat.beq ty2 49 then some (.p (o=bw/\(∃ L,l=Ex.ai L)/\Ex.iy (bW l)=true/\2*Ex.aM (bW l)<=m/\Ex.aM (bW l)<=1000000),sS (cr (pR (bW l)) iC),[sy k n t l,AL,o]) else none
 | _,_=>none }
theorem cPt_ok{m:Nat}(h:EK m):bE Tryz.prog 42 (cPt m):=by
 refine⟨by kernel_rfl,fun args aj c r aY e hc=>?_⟩;simp only[cPt] at e;split at e;obtain⟨hb,e1⟩:=ah.aA e;clear e;simp only[Bool.and_eq_true,Nat.beq_eq] at hb;obtain⟨⟨rfl,rfl⟩,rfl⟩:=hb;cases e1;obtain⟨rfl,⟨L,rfl⟩,h1,h2,h3⟩:=hc;rw[cN] at h1 h2 h3 ⊢;exact p1_sem h _ _ _ _ h1 h2 h3;cases e
noncomputable def Y5(m:Nat):cg:=[(19,NW m),(41,Lj),(42,cPt m),(43,cItB),(44,cFoB)]
theorem gWt_ok{m:Nat}(h:EK m):bp Tryz.prog (Y5 m):=aq (EL h) (aq Ua (aq (cPt_ok h) (aq aaN (aq aaP aK))))
theorem lv_le(t:ByteArray):dM t<=8:=by
 have key:∀ l:List (ByteArray×Int),(∀ p∈l,p.2<=8)->dz .str (.int .i64) l t<=8:=by
  intro l
  induction l with
  | nil=>intro _;exact by show (0:Int)<=8;omega
  | cons p l ih =>
    intro h;have i1:=h p (List.mem_cons_self ..);have i2:=ih fun q hq=>h q (List.mem_cons_of_mem _ hq);obtain⟨a,b⟩:=p;unfold dz mH at i2 ⊢;unfold mH;cases D.kD .str t a with
    | true=>exact i1
    | false=>exact i2
 exact key tE (by decide)
theorem Y6{k n:Int}{t:ByteArray}{L:List Ex}{pl:Int}(h:pl<=cZ k t):(Ex.mk k n t L).wr pl=CN k n t (Ex.kN L):=by
 have e:(Ex.mk k n t L).wr pl=bif decide (cZ k t<pl) then dP++(Ex.mk k n t L).jc++dU else(Ex.mk k n t L).jc:=rfl;rw[e,decide_eq_false (by omega),cond_false,Ex.kO]
theorem wr_lt{k n:Int}{t:ByteArray}{L:List Ex}{pl:Int}(h:cZ k t<pl):(Ex.mk k n t L).wr pl=dP++CN k n t (Ex.kN L)++dU:=by
 have e:(Ex.mk k n t L).wr pl=bif decide (cZ k t<pl) then dP++(Ex.mk k n t L).jc++dU else(Ex.mk k n t L).jc:=rfl;rw[e,decide_eq_true h,cond_true,Ex.kO]
theorem BF(e:Ex)(h:e.fin=true)(pl:Int):(e.wr pl).size<=250*e.ct:=by
 have h1:=Ex.Ln e h;have h2:(e.wr pl).size<=e.jc.size+2:=jy _ pl;omega
theorem aaQ{k n:Int}{t:ByteArray}{c:Nat}(h:rX k n t c=true):1<=cZ k t:=by
 rcases jL h with g|g|g|g|g|g|g|g|g<;>obtain⟨rfl,g⟩:=g
 all_goals first
  | (show (1:Int)<=10;omega)
  | (show (1:Int)<=9;omega)
  | exact g.1
  | (rcases g.1 with rfl|rfl<;>decide)
theorem qf(c:UInt8):(ByteArray.mk #[c]).size=1:=rfl
theorem CO(a b c d:UInt8):(ByteArray.mk #[a,b,c,d]).size=4:=rfl
theorem aaR(m:Nat)(h:EK m):EK (m+1):=by
 intro k n t L pl hf hm hl;refine bq (aQ:=[]) (gWt_ok h) Tryz.func19 (by kernel_rfl) (ak:=1) rfl (by kernel_rfl) 400 ?_;apply of_eq (q:=let q2:=(Ex.ai L);let q5:=(0:Nat);let q9:=Ob.mk 49 [Fd.m D.str (D.int .i64) cx]=bw;let bg:=[Ob.mk 49 [Fd.m D.str (D.int .i64) cx]]=[bw];let bS:=(q5*4+1+1+1);let bX:=(1:Nat);let bV:=(q5*4+1+1);let cU:=(IntKind.i64.wrap (cZ k t+1));let eI:=((Ex.mk k n t L).wr pl);let dL:=(PV.aZ (4:Nat) []).like (q2.getD bS (PV.bool false))=true;let bQ:=bX*4+4<=q2.length;let ga:=(bX*4+1+1+1);let dF:=(q5*4+1);let gb:=(bX*4+1+1);let kf:=(∃ rB,Ex.ai L=Ex.ai rB)/\Ex.iy (bW q2)=true/\(2:Nat)*Ex.aM (bW q2)<=m/\Ex.aM (bW q2)<=1000000;let gL:=(bX*4+1);let gi:=(q5*4);let jn:=q5*4+4<=q2.length;let gN:=(32:UInt8);let gu:=(bX*4);let jt:=q5*4<q2.length;let fj:=(0:Int);let ja:=(Cd.t.and Cd.t);let iZ:=(cZ k t);let nM:=(pR (bW q2));let q3:=(PV.str (ByteArray.mk #[])).like (q2.getD gb (PV.bool false))=true;let q4:=(PV.aZ (4:Nat) []).like (q2.getD ga (PV.bool false))=true;let q6:=(PV.int fj).like (q2.getD gL (PV.bool false))=true;let q7:=(PV.int fj).like (q2.getD gu (PV.bool false))=true;let q8:=(R1.pure ja (aP (W.rs (4:Nat) q2))).v=(R1.pure ja (aP (W.rs (4:Nat) q2))).v;let aJ:=(R1.pure ja (aP (W.str t))).v=(R1.pure ja (aP (W.str t))).v;let bn:=(R1.pure ja (aP (W.mp q5))).v=(R1.pure ja (aP (W.mp q5))).v;let dx:=(PV.str (ByteArray.mk #[])).like (q2.getD bV (PV.bool false))=true;let dX:=(PV.int fj).like (q2.getD dF (PV.bool false))=true;let dR:=(PV.int fj).like (q2.getD gi (PV.bool false))=true;let j3:=((Ex.mk (q2.getD gi (PV.bool false)).asInt (q2.getD dF (PV.bool false)).asInt (q2.getD bV (PV.bool false)).bL (bW (q2.getD bS (PV.bool false)).aI)).wr (9:Int)).size+1<=9223372036854775807;let lJ:=(A.p (V.agg (mG q2 gu (shapes ((dD Tryz.prog (Y5 m) Tryz.f19 bX []).env (aX (sS eI) [bw])).P (25:Nat))).snd));let q1:=(R1.pure (Cd.t.and ((Cd.p (bQ)).and (mG q2 gu (shapes ((dD Tryz.prog (Y5 m) Tryz.f19 bX []).env (aX (sS eI) [bw])).P (25:Nat))).fst)) lJ).v=(R1.pure (Cd.t.and ((Cd.p (bQ)).and (mG q2 gu (shapes ((dD Tryz.prog (Y5 m) Tryz.f19 bX []).env (aX (sS eI) [bw])).P (25:Nat))).fst)) lJ).v;q9/\(decide (cZ k t<pl)=true->(q9/\pQ k n t q2 (1:Int) m)/\bX+((Ex.mk k n t (bW q2)).wr (1:Int)).size<=9223372036854775807/\(ByteArray.mk #[(40:UInt8)]++(Ex.mk k n t (bW q2)).wr (1:Int)).size+1<=9223372036854775807/\ax [V.c (W.str (ByteArray.mk #[(40:UInt8)]++(Ex.mk k n t (bW q2)).wr (1:Int)++ByteArray.mk #[(41:UInt8)]))]=sS eI/\bg)/\(decide (cZ k t<pl)=false->(decide (k=1)=true->((-9223372036854775808:Int)<=n/\n<=9223372036854775807)/\ax [V.c (W.str (AK n))]=sS eI/\bg)/\(decide (k=1)=false->(decide (k=2)=true->bX+t.size<=9223372036854775807/\(ByteArray.mk #[(34:UInt8)]++t).size+1<=9223372036854775807/\ax [V.c (W.str (ByteArray.mk #[(34:UInt8)]++t++ByteArray.mk #[(34:UInt8)]))]=sS eI/\bg)/\(decide (k=2)=false->(decide (k=3)=true->ax [V.c (W.str (rY (decide (n=1))))]=sS eI/\bg)/\(decide (k=3)=false->(decide (k=5)=true->(q9/\kf)/\bX+(cr nM iC).size<=9223372036854775807/\(ByteArray.mk #[(91:UInt8)]++cr nM iC).size+1<=9223372036854775807/\ax [V.c (W.str (ByteArray.mk #[(91:UInt8)]++cr nM iC++ByteArray.mk #[(93:UInt8)]))]=sS eI/\bg)/\(decide (k=5)=false->(decide (k=6)=true->t.size+1<=9223372036854775807/\(q9/\kf)/\(t++ByteArray.mk #[(40:UInt8)]).size+(cr nM iC).size<=9223372036854775807/\(t++ByteArray.mk #[(40:UInt8)]++cr nM iC).size+1<=9223372036854775807/\aJ/\aJ/\ax [V.c (W.str (t++ByteArray.mk #[(40:UInt8)]++cr nM iC++ByteArray.mk #[(41:UInt8)]))]=sS eI/\bg)/\(decide (k=6)=false->(decide (k=7)=true->(fj<=0/\jt)/\jn/\dR/\dX/\dx/\dL/\(q9/\pQ (q2.getD gi (PV.bool false)).asInt (q2.getD dF (PV.bool false)).asInt (q2.getD bV (PV.bool false)).bL (q2.getD bS (PV.bool false)).aI (9:Int) m)/\j3/\(fj<=1/\bX*4<q2.length)/\bQ/\q7/\q6/\q3/\q4/\(q9/\pQ (q2.getD gu (PV.bool false)).asInt (q2.getD gL (PV.bool false)).asInt (q2.getD gb (PV.bool false)).bL (q2.getD ga (PV.bool false)).aI (1:Int) m)/\((Ex.mk (q2.getD gi (PV.bool false)).asInt (q2.getD dF (PV.bool false)).asInt (q2.getD bV (PV.bool false)).bL (bW (q2.getD bS (PV.bool false)).aI)).wr (9:Int)++ByteArray.mk #[(91:UInt8)]).size+((Ex.mk (q2.getD gu (PV.bool false)).asInt (q2.getD gL (PV.bool false)).asInt (q2.getD gb (PV.bool false)).bL (bW (q2.getD ga (PV.bool false)).aI)).wr (1:Int)).size<=9223372036854775807/\((Ex.mk (q2.getD gi (PV.bool false)).asInt (q2.getD dF (PV.bool false)).asInt (q2.getD bV (PV.bool false)).bL (bW (q2.getD bS (PV.bool false)).aI)).wr (9:Int)++ByteArray.mk #[(91:UInt8)]++(Ex.mk (q2.getD gu (PV.bool false)).asInt (q2.getD gL (PV.bool false)).asInt (q2.getD gb (PV.bool false)).bL (bW (q2.getD ga (PV.bool false)).aI)).wr (1:Int)).size+1<=9223372036854775807/\q8/\q8/\bQ/\q7/\q6/\q3/\q4/\q1/\bQ/\q7/\q6/\q3/\q4/\q1/\bn/\bn/\ax [V.c (W.str ((Ex.mk (q2.getD gi (PV.bool false)).asInt (q2.getD dF (PV.bool false)).asInt (q2.getD bV (PV.bool false)).bL (bW (q2.getD bS (PV.bool false)).aI)).wr (9:Int)++ByteArray.mk #[(91:UInt8)]++(Ex.mk (q2.getD gu (PV.bool false)).asInt (q2.getD gL (PV.bool false)).asInt (q2.getD gb (PV.bool false)).bL (bW (q2.getD ga (PV.bool false)).aI)).wr (1:Int)++ByteArray.mk #[(93:UInt8)]))]=sS eI/\bg)/\(decide (k=7)=false->(decide (k=8)=true->(decide (cZ k t=3)=true->(fj<=0/\jt)/\jn/\dR/\dX/\dx/\dL/\(q9/\pQ (q2.getD gi (PV.bool false)).asInt (q2.getD dF (PV.bool false)).asInt (q2.getD bV (PV.bool false)).bL (q2.getD bS (PV.bool false)).aI iZ m)/\(4:Nat)+((Ex.mk (q2.getD gi (PV.bool false)).asInt (q2.getD dF (PV.bool false)).asInt (q2.getD bV (PV.bool false)).bL (bW (q2.getD bS (PV.bool false)).aI)).wr iZ).size<=9223372036854775807/\ax [V.c (W.str (ByteArray.mk #[(110:UInt8),(111:UInt8),(116:UInt8),gN]++(Ex.mk (q2.getD gi (PV.bool false)).asInt (q2.getD dF (PV.bool false)).asInt (q2.getD bV (PV.bool false)).bL (bW (q2.getD bS (PV.bool false)).aI)).wr iZ))]=sS eI/\bg)/\(decide (cZ k t=3)=false->(fj<=0/\jt)/\jn/\dR/\dX/\dx/\dL/\(q9/\pQ (q2.getD gi (PV.bool false)).asInt (q2.getD dF (PV.bool false)).asInt (q2.getD bV (PV.bool false)).bL (q2.getD bS (PV.bool false)).aI iZ m)/\bX+((Ex.mk (q2.getD gi (PV.bool false)).asInt (q2.getD dF (PV.bool false)).asInt (q2.getD bV (PV.bool false)).bL (bW (q2.getD bS (PV.bool false)).aI)).wr iZ).size<=9223372036854775807/\ax [V.c (W.str (ByteArray.mk #[(45:UInt8)]++(Ex.mk (q2.getD gi (PV.bool false)).asInt (q2.getD dF (PV.bool false)).asInt (q2.getD bV (PV.bool false)).bL (bW (q2.getD bS (PV.bool false)).aI)).wr iZ))]=sS eI/\bg))/\(decide (k=8)=false->(decide (k=9)=true->(decide (cZ k t=8)=true->(fj<=0/\jt)/\jn/\dR/\dX/\dx/\dL/\(q9/\pQ (q2.getD gi (PV.bool false)).asInt (q2.getD dF (PV.bool false)).asInt (q2.getD bV (PV.bool false)).bL (q2.getD bS (PV.bool false)).aI (9:Int) m)/\j3/\(fj<=1/\bX*4<q2.length)/\bQ/\q7/\q6/\q3/\q4/\(q9/\pQ (q2.getD gu (PV.bool false)).asInt (q2.getD gL (PV.bool false)).asInt (q2.getD gb (PV.bool false)).bL (q2.getD ga (PV.bool false)).aI (7:Int) m)/\((Ex.mk (q2.getD gi (PV.bool false)).asInt (q2.getD dF (PV.bool false)).asInt (q2.getD bV (PV.bool false)).bL (bW (q2.getD bS (PV.bool false)).aI)).wr (9:Int)++ByteArray.mk #[(94:UInt8)]).size+((Ex.mk (q2.getD gu (PV.bool false)).asInt (q2.getD gL (PV.bool false)).asInt (q2.getD gb (PV.bool false)).bL (bW (q2.getD ga (PV.bool false)).aI)).wr (7:Int)).size<=9223372036854775807/\q8/\q8/\bQ/\q7/\q6/\q3/\q4/\q1/\bQ/\q7/\q6/\q3/\q4/\q1/\bn/\bn/\ax [V.c (W.str ((Ex.mk (q2.getD gi (PV.bool false)).asInt (q2.getD dF (PV.bool false)).asInt (q2.getD bV (PV.bool false)).bL (bW (q2.getD bS (PV.bool false)).aI)).wr (9:Int)++ByteArray.mk #[(94:UInt8)]++(Ex.mk (q2.getD gu (PV.bool false)).asInt (q2.getD gL (PV.bool false)).asInt (q2.getD gb (PV.bool false)).bL (bW (q2.getD ga (PV.bool false)).aI)).wr (7:Int)))]=sS eI/\bg)/\(decide (cZ k t=8)=false->(decide (cZ k t=4)=true->(fj<=0/\jt)/\jn/\dR/\dX/\dx/\dL/\(q9/\pQ (q2.getD gi (PV.bool false)).asInt (q2.getD dF (PV.bool false)).asInt (q2.getD bV (PV.bool false)).bL (q2.getD bS (PV.bool false)).aI cU m)/\((Ex.mk (q2.getD gi (PV.bool false)).asInt (q2.getD dF (PV.bool false)).asInt (q2.getD bV (PV.bool false)).bL (bW (q2.getD bS (PV.bool false)).aI)).wr cU).size+1<=9223372036854775807/\((Ex.mk (q2.getD gi (PV.bool false)).asInt (q2.getD dF (PV.bool false)).asInt (q2.getD bV (PV.bool false)).bL (bW (q2.getD bS (PV.bool false)).aI)).wr cU++ByteArray.mk #[gN]).size+t.size<=9223372036854775807/\((Ex.mk (q2.getD gi (PV.bool false)).asInt (q2.getD dF (PV.bool false)).asInt (q2.getD bV (PV.bool false)).bL (bW (q2.getD bS (PV.bool false)).aI)).wr cU++ByteArray.mk #[gN]++t).size+1<=9223372036854775807/\(fj<=1/\bX*4<q2.length)/\bQ/\q7/\q6/\q3/\q4/\(q9/\pQ (q2.getD gu (PV.bool false)).asInt (q2.getD gL (PV.bool false)).asInt (q2.getD gb (PV.bool false)).bL (q2.getD ga (PV.bool false)).aI cU m)/\((Ex.mk (q2.getD gi (PV.bool false)).asInt (q2.getD dF (PV.bool false)).asInt (q2.getD bV (PV.bool false)).bL (bW (q2.getD bS (PV.bool false)).aI)).wr cU++ByteArray.mk #[gN]++t++ByteArray.mk #[gN]).size+((Ex.mk (q2.getD gu (PV.bool false)).asInt (q2.getD gL (PV.bool false)).asInt (q2.getD gb (PV.bool false)).bL (bW (q2.getD ga (PV.bool false)).aI)).wr cU).size<=9223372036854775807/\aJ/\aJ/\aJ/\q8/\q8/\bQ/\q7/\q6/\q3/\q4/\q1/\bQ/\q7/\q6/\q3/\q4/\q1/\bn/\bn/\ax [V.c (W.str ((Ex.mk (q2.getD gi (PV.bool false)).asInt (q2.getD dF (PV.bool false)).asInt (q2.getD bV (PV.bool false)).bL (bW (q2.getD bS (PV.bool false)).aI)).wr cU++ByteArray.mk #[gN]++t++ByteArray.mk #[gN]++(Ex.mk (q2.getD gu (PV.bool false)).asInt (q2.getD gL (PV.bool false)).asInt (q2.getD gb (PV.bool false)).bL (bW (q2.getD ga (PV.bool false)).aI)).wr cU))]=sS eI/\bg)/\(decide (cZ k t=4)=false->(fj<=0/\jt)/\jn/\dR/\dX/\dx/\dL/\(q9/\pQ (q2.getD gi (PV.bool false)).asInt (q2.getD dF (PV.bool false)).asInt (q2.getD bV (PV.bool false)).bL (q2.getD bS (PV.bool false)).aI iZ m)/\((Ex.mk (q2.getD gi (PV.bool false)).asInt (q2.getD dF (PV.bool false)).asInt (q2.getD bV (PV.bool false)).bL (bW (q2.getD bS (PV.bool false)).aI)).wr iZ).size+1<=9223372036854775807/\((Ex.mk (q2.getD gi (PV.bool false)).asInt (q2.getD dF (PV.bool false)).asInt (q2.getD bV (PV.bool false)).bL (bW (q2.getD bS (PV.bool false)).aI)).wr iZ++ByteArray.mk #[gN]).size+t.size<=9223372036854775807/\((Ex.mk (q2.getD gi (PV.bool false)).asInt (q2.getD dF (PV.bool false)).asInt (q2.getD bV (PV.bool false)).bL (bW (q2.getD bS (PV.bool false)).aI)).wr iZ++ByteArray.mk #[gN]++t).size+1<=9223372036854775807/\(fj<=1/\bX*4<q2.length)/\bQ/\q7/\q6/\q3/\q4/\(q9/\pQ (q2.getD gu (PV.bool false)).asInt (q2.getD gL (PV.bool false)).asInt (q2.getD gb (PV.bool false)).bL (q2.getD ga (PV.bool false)).aI cU m)/\((Ex.mk (q2.getD gi (PV.bool false)).asInt (q2.getD dF (PV.bool false)).asInt (q2.getD bV (PV.bool false)).bL (bW (q2.getD bS (PV.bool false)).aI)).wr iZ++ByteArray.mk #[gN]++t++ByteArray.mk #[gN]).size+((Ex.mk (q2.getD gu (PV.bool false)).asInt (q2.getD gL (PV.bool false)).asInt (q2.getD gb (PV.bool false)).bL (bW (q2.getD ga (PV.bool false)).aI)).wr cU).size<=9223372036854775807/\aJ/\aJ/\aJ/\q8/\q8/\bQ/\q7/\q6/\q3/\q4/\q1/\bQ/\q7/\q6/\q3/\q4/\q1/\bn/\bn/\ax [V.c (W.str ((Ex.mk (q2.getD gi (PV.bool false)).asInt (q2.getD dF (PV.bool false)).asInt (q2.getD bV (PV.bool false)).bL (bW (q2.getD bS (PV.bool false)).aI)).wr iZ++ByteArray.mk #[gN]++t++ByteArray.mk #[gN]++(Ex.mk (q2.getD gu (PV.bool false)).asInt (q2.getD gL (PV.bool false)).asInt (q2.getD gb (PV.bool false)).bL (bW (q2.getD ga (PV.bool false)).aI)).wr cU))]=sS eI/\bg)))/\(decide (k=9)=false->ax [V.c (W.str t)]=sS eI/\bg)))))))))) (by kernel_rfl)
 try simp only[sL]
 rw[Ex.fin,Bool.and_eq_true] at hf;obtain⟨hF,h1⟩:=hf;rw[cN];have hl0:=aaQ h1;have hs:∀(i:Nat)(h:i<L.length)(pl:Int),(L[i].wr pl).size<=250000000:=by
  intro i h pl;have a:=BF L[i] (wM hF (List.getElem_mem h)) pl;have b:=Ex.iY (List.getElem_mem h);omega
 have hJ:=Lq hF;have ht:=Y4 h1;refine⟨fun hp=>?_,fun hp=>?_⟩;rw[decide_eq_true hp,cond_true] at hm;have hC:pQ k n t (Ex.ai L) 1 m:=EJ (by rw[Ex.fin,hF,h1];rfl) (by rw[decide_eq_false (by omega),cond_false];omega) hl;have hz:=BF (Ex.mk k n t L) (by rw[Ex.fin,hF,h1];rfl) 1;rw[Ex.ct] at hz;rw[wr_lt hp];rw[Y6 hl0] at hz ⊢;refine⟨hC,by omega,by rw[aD,qf];omega,rfl⟩;rw[decide_eq_false (by omega),cond_false] at hm;rw[Y6 hp];have hC:=fun(i:Nat) (h:i<L.length) pl=>Uc h hF (m:=m) (by omega) hl pl;refine⟨fun h=>?_,fun n1=>⟨fun h=>?_,fun n2=>⟨fun h=>?_,fun n3=>⟨fun h=>?_,fun n5=>⟨fun h=>?_,fun n6=>⟨fun h=>?_,fun n7=>⟨fun h=>?_,fun n8=>⟨fun h=>?_,fun n9=>?_⟩⟩⟩⟩⟩⟩⟩⟩;subst h;exact⟨fin_n h1,rfl⟩;subst h;exact⟨by omega,by rw[aD,qf];omega,rfl⟩;subst h;rfl;subst h;refine⟨⟨⟨_,rfl⟩,hF,by omega,hl⟩,by omega,by rw[aD,qf];omega,?_⟩;have:CN 5 n t (Ex.kN L)=gM++cr ((Ex.kN L).map (iJ · 1)) iC++gK:=rfl;rw[this,Ex.wK];rfl;subst h;refine⟨by omega,⟨⟨_,rfl⟩,hF,by omega,hl⟩,by rw[aD,qf];omega,by rw[aD,aD,qf];omega,?_⟩;have:CN 6 n t (Ex.kN L)=t++dP++cr ((Ex.kN L).map (iJ · 1)) iC++dU:=rfl;rw[this,Ex.wK];rfl
 . subst h;have hc:L.length=2:=by rcases jL h1 with g|g|g|g|g|g|g|g|g<;>omega
   have l0:0<L.length:=by omega
   have l1:1<L.length:=by omega
   have q0:=hs 0 l0 9;have q1:=hs 1 l1 1;rw[CG l0,vo l0,CH l0,CI l0,CG l1,vo l1,CH l1,CI l1,Ex.vr,Ex.vr];have hE:CN 7 n t (Ex.kN L)=iJ (lB (Ex.kN L) 0) 9++gM++iJ (lB (Ex.kN L) 1) 1++gK:=rfl;rw[hE,Ex.rE l0,Ex.rE l1];have hp:=Ex.dJ L
   (repeat' first|exact hC 0 l0 9|exact hC 1 l1 1|apply And.intro)<;>first|rfl|omega|(simp only[aD,qf];omega)
 subst h;have hc:L.length=1:=by rcases jL h1 with g|g|g|g|g|g|g|g|g<;>omega
 have l0:0<L.length:=by omega
 have q0:=hs 0 l0 (cZ 8 t);rw[CG l0,vo l0,CH l0,CI l0,Ex.vr];have hE:CN 8 n t (Ex.kN L)=bif decide (cZ 8 t=3) then Dv++iJ (lB (Ex.kN L) 0) (cZ 8 t) else fP++iJ (lB (Ex.kN L) 0) (cZ 8 t):=rfl;rw[hE,Ex.rE l0];have hp:=Ex.dJ L;refine⟨fun h=>?_,fun h=>?_⟩
 . rw[decide_eq_true h,cond_true];rw[h] at q0 ⊢
   (repeat' first|exact hC 0 l0 3|apply And.intro)<;>first|rfl|omega|(simp only[aD,qf,CO];omega)
 . rw[decide_eq_false h,cond_false]
   (repeat' first|exact hC 0 l0 (cZ 8 t)|apply And.intro)<;>first|rfl|omega|(simp only[aD,qf,CO];omega)
 subst h;have hc:L.length=2:=by rcases jL h1 with g|g|g|g|g|g|g|g|g<;>omega
 have hv:cZ 9 t=dM t:=rfl;have hvb:cZ 9 t<=8:=lv_le t;have l0:0<L.length:=by omega
 have l1:1<L.length:=by omega
 have hp:=Ex.dJ L;rw[CG l0,vo l0,CH l0,CI l0,CG l1,vo l1,CH l1,CI l1,Ex.vr,Ex.vr,wrap64 (n:=cZ 9 t+1) (by omega) (by omega)];have hE:CN 9 n t (Ex.kN L)=CM (cZ 9 t) t (lB (Ex.kN L) 0) (lB (Ex.kN L) 1):=rfl;rw[hE];unfold CM;rw[Ex.rE l0,Ex.rE l0,Ex.rE l0,Ex.rE l1,Ex.rE l1];refine⟨fun h=>?_,fun h8=>⟨fun h=>?_,fun h=>?_⟩⟩
 . rw[decide_eq_true h,cond_true];have q0:=hs 0 l0 9;have q1:=hs 1 l1 7
   (repeat' first|exact hC 0 l0 9|exact hC 1 l1 7|apply And.intro)<;>first|rfl|omega|(simp only[aD,qf];omega)
 . rw[decide_eq_false h8,cond_false,decide_eq_true h,cond_true];have q0:=hs 0 l0 (cZ 9 t+1);have q1:=hs 1 l1 (cZ 9 t+1)
   (repeat' first|exact hC 0 l0 _|exact hC 1 l1 _|apply And.intro)<;>first|rfl|omega|(simp only[aD,qf];omega)
 . rw[decide_eq_false h8,cond_false,decide_eq_false h,cond_false];have q0:=hs 0 l0 (cZ 9 t);have q1:=hs 1 l1 (cZ 9 t+1)
   (repeat' first|exact hC 0 l0 _|exact hC 1 l1 _|apply And.intro)<;>first|rfl|omega|(simp only[aD,qf];omega)
 rcases jL h1 with g|g|g|g|g|g|g|g|g<;>first|omega|(obtain⟨rfl,g⟩:=g;rfl)
theorem Lr:∀ m,EK m
 | 0=>fun k n t L pl _ h=>by omega
 | m+1=>aaR m (Lr m)
end Go.Proofs.YtcimgfhfpiapaaaGreatDoor
