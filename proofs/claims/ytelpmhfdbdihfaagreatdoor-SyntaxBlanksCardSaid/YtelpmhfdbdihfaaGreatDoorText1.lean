/- Names, and which expressions are valid. -/
import Derived.Test.YtelpmhfdbdihfaaGreatDoorPars2
import Derived.Test.YtelpmhfdbdihfaaGreatDoorShelf1
import Derived.Lib.ItoaLen
namespace Go.Proofs.YtelpmhfdbdihfaaGreatDoor
open Go.aT Go.RowKit
set_option maxRecDepth 100000
theorem X5 (c:Int):bq Tryz.prog 99 [Ik c] [] (bB (dB c)) []:=by
 refine bh (aJ:=[]) Qo Tryz.func99 (by kernel_rfl) (ak:=0) rfl (by kernel_rfl) 100 ?_
 apply of_eq (q:=let q1:=(bif gU c then true else cT c)=false;(gU c=false->gU c=false)/\(gU c=false->gU c=false)/\(q1->q1)/\(q1->q1)/\ax [vB (bif bif gU c then true else cT c then true else decide (c=95))]=bB (dB c)/\([]:List Ob)=[]) (by kernel_rfl)
 try simp only [sL]
 first | rfl | exact ⟨by omega,rfl⟩ | exact ?a
def WN:cQ:=jh (.int .u8) fun c=>(.t,bB (dB c),[])
theorem U0:bF Tryz.prog 99 WN:=eU (by kernel_rfl) fun c _=>X5 c
theorem X6 (c:Int):bq Tryz.prog 91 [Ik c] [] (bB (cJ c)) []:=by
 refine bh (aJ:=[]) aF Tryz.func91 (by kernel_rfl) (ak:=0) rfl (by kernel_rfl) 100 ?_
 apply of_eq (q:=let q2:=decide ((32:Int)<=c);let q1:=(bif q2 then decide (c<=126) else false)=true;(q2=true->q2=true)/\(q2=true->q2=true)/\(q1->q1)/\(q1->q1)/\ax [vB (bif bif q2 then decide (c<=126) else false then !decide (c=34) else false)]=bB (cJ c)/\([]:List Ob)=[]) (by kernel_rfl)
 try simp only [sL]
 first | rfl | exact ⟨by omega,rfl⟩ | exact ?a
def WO:cQ:=jh (.int .u8) fun c=>(.t,bB (cJ c),[])
theorem U1:bF Tryz.prog 91 WO:=eU (by kernel_rfl) fun c _=>X6 c
noncomputable def Jw:bY:=[(99,WN)]
theorem Fs:aZ Tryz.prog Jw:=ar U0 aF
noncomputable def Ru:aX:=cX Tryz.prog Jw Tryz.f36 0 [([0,0,1],[0,1,2])]
theorem wT (s:ByteArray) (hs:s.size<=1000000):∀ (k i:Nat),k=s.size-i->i<=s.size->aG Ru (aV (nI (aQ dB s i)) []) [0,0,1] (fr [(0,sS s),(1,nI i),(2,oB 99)]) (.ofList [])
 | k,i,hk,hi=>by
   refine bZ Fs (by kernel_rfl) 100 ?_
   apply of_eq (q:=let q2:=decide ((i:Int)<(s.size:Int));let q1:=q2=true;(q1->q1)/\(q1->q1)/\(q1->(0:Int)<=(i:Int)/\(i:Int)<(s.size:Int))/\(q1->q1)/\(q1->q1)/\(q1->q1)/\((bif q2 then dB (bn s i) else false)=true->aG Ru (aV (nI (↑(aQ dB s i):Int)) []) [0,0,1] (fr [(0,aP (W.str s)),(1,nI (IntKind.i64.wrap ((i:Int)+1))),(2,aP (W.func 99 []))]) (af.ofList []))/\((bif q2 then dB (bn s i) else false)=false->ax [vI (i:Int)]=nI (↑(aQ dB s i):Int)/\([]:List Ob)=[])) (by kernel_rfl)
   try simp only [sL]
   refine ⟨fun h=>by omega,fun h=>?_,fun h=>?_⟩
   . have hi1:i<s.size:=by omega
     rw [wrap64 (by omega) (by omega),gA ⟨hi1,h.2⟩]
     cases k with
     | zero=>omega
     | succ k=>exact wT s hs k (i+1) (by omega) (by omega)
   . rw [jY (by rintro ⟨h1,h2⟩;rw [h (by omega)] at h2;cases h2)];rfl
theorem U2 (s:ByteArray) (i:Int) (h:s.size<=1000000/\0<=i/\i<=s.size):bq Tryz.prog 36 [sS s,nI i,oB 99] [] (nI (aQ dB s i.toNat)) []:=by
 obtain ⟨hs,h0,h1⟩:=h
 obtain ⟨n,rfl⟩:∃ n:Nat,i=n:=⟨i.toNat,by omega⟩
 rw [Int.toNat_natCast]
 refine bh (aJ:=[([0,0,1],[0,1,2])]) Fs Tryz.func36 (by kernel_rfl) (ak:=0) rfl (by kernel_rfl) 100 ?_
 apply of_eq (q:=aG (cX Tryz.prog Jw Tryz.f36 (0:Nat) [([0,0,1],[0,1,2])]) (aV (nI (↑(aQ dB s n):Int)) []) [0,0,1] (fr [(0,aP (W.str s)),(1,nI (n:Int)),(2,aP (W.func 99 []))]) (af.ofList [])) (by kernel_rfl)
 try simp only [sL,Int.reduceEq,Int.reduceNe,Nat.reduceAdd]
 exact wT s hs _ n rfl (by omega)
noncomputable def Jy:bY:=[(91,WO)]
theorem Ft:aZ Tryz.prog Jy:=ar U1 aF
noncomputable def Rv:aX:=cX Tryz.prog Jy Tryz.f36 0 [([0,0,1],[0,1,2])]
theorem wU (s:ByteArray) (hs:s.size<=1000000):∀ (k i:Nat),k=s.size-i->i<=s.size->aG Rv (aV (nI (aQ cJ s i)) []) [0,0,1] (fr [(0,sS s),(1,nI i),(2,oB 91)]) (.ofList [])
 | k,i,hk,hi=>by
   refine bZ Ft (by kernel_rfl) 100 ?_
   apply of_eq (q:=let q2:=decide ((i:Int)<(s.size:Int));let q1:=q2=true;(q1->q1)/\(q1->q1)/\(q1->(0:Int)<=(i:Int)/\(i:Int)<(s.size:Int))/\(q1->q1)/\(q1->q1)/\(q1->q1)/\((bif q2 then cJ (bn s i) else false)=true->aG Rv (aV (nI (↑(aQ cJ s i):Int)) []) [0,0,1] (fr [(0,aP (W.str s)),(1,nI (IntKind.i64.wrap ((i:Int)+1))),(2,aP (W.func 91 []))]) (af.ofList []))/\((bif q2 then cJ (bn s i) else false)=false->ax [vI (i:Int)]=nI (↑(aQ cJ s i):Int)/\([]:List Ob)=[])) (by kernel_rfl)
   try simp only [sL]
   refine ⟨fun h=>by omega,fun h=>?_,fun h=>?_⟩
   . have hi1:i<s.size:=by omega
     rw [wrap64 (by omega) (by omega),gA ⟨hi1,h.2⟩]
     cases k with
     | zero=>omega
     | succ k=>exact wU s hs k (i+1) (by omega) (by omega)
   . rw [jY (by rintro ⟨h1,h2⟩;rw [h (by omega)] at h2;cases h2)];rfl
theorem U3 (s:ByteArray) (i:Int) (h:s.size<=1000000/\0<=i/\i<=s.size):bq Tryz.prog 36 [sS s,nI i,oB 91] [] (nI (aQ cJ s i.toNat)) []:=by
 obtain ⟨hs,h0,h1⟩:=h
 obtain ⟨n,rfl⟩:∃ n:Nat,i=n:=⟨i.toNat,by omega⟩
 rw [Int.toNat_natCast]
 refine bh (aJ:=[([0,0,1],[0,1,2])]) Ft Tryz.func36 (by kernel_rfl) (ak:=0) rfl (by kernel_rfl) 100 ?_
 apply of_eq (q:=aG (cX Tryz.prog Jy Tryz.f36 (0:Nat) [([0,0,1],[0,1,2])]) (aV (nI (↑(aQ cJ s n):Int)) []) [0,0,1] (fr [(0,aP (W.str s)),(1,nI (n:Int)),(2,aP (W.func 91 []))]) (af.ofList [])) (by kernel_rfl)
 try simp only [sL,Int.reduceEq,Int.reduceNe,Nat.reduceAdd]
 exact wU s hs _ n rfl (by omega)
def C8:cQ:={ cw:=[],f:=fun args ai=>match args,ai with
 | [x,y,.p (.c (.func f []))],[]=>match rJ .str x,rJ (.int .i64) y with
   | some s,some i =>
     bif Nat.beq f 99 then some (.p (ByteArray.size s<=1000000/\0<=(i:Int)/\(i:Int)<=ByteArray.size s),nI (aQ dB s (Int.toNat i)),[]) else
     bif Nat.beq f 91 then some (.p (ByteArray.size s<=1000000/\0<=(i:Int)/\(i:Int)<=ByteArray.size s),nI (aQ cJ s (Int.toNat i)),[]) else none
   | _,_=>none
 | _,_=>none }
theorem Fu:bF Tryz.prog 36 C8:=by
 refine ⟨by kernel_rfl,fun args ai c r aU e hc=>?_⟩
 simp only [C8] at e
 split at e
 . rename_i x y f
   split at e
   . rename_i s i hx hy
     have key:∀ (g:Nat) (p:Int->Bool),(∀ (s:ByteArray) (i:Int),(s.size<=1000000/\0<=i/\i<=s.size)->bq Tryz.prog 36 [sS s,nI i,oB g] [] (nI (aQ p s i.toNat)) [])->f=g->
      some ((Cd.p (ByteArray.size s<=1000000/\0<=(i:Int)/\(i:Int)<=ByteArray.size s)),nI (aQ p s (Int.toNat i)),([]:List Ob))=some (c,r,aU)->bq Tryz.prog 36 [x,y,oB f] [] r aU:=by
      rintro g p hg rfl e
      cases e
      exact bq.args (hg s i hc) fun η Z vs hv=>match vs,hv with | [_,_,_],⟨a,b,d⟩=>⟨jb hx a,jb hy b,d⟩
     cases h1:Nat.beq f 99 with
     | true=>rw [h1] at e;exact key _ _ U2 (Nat.eq_of_beq_eq_true h1) e
     | false =>
     rw [h1] at e
     cases h2:Nat.beq f 91 with
     | true=>rw [h2] at e;exact key _ _ U3 (Nat.eq_of_beq_eq_true h2) e
     | false=>rw [h2] at e;cases e
   . cases e
 . cases e
def dF (s:ByteArray):Bool:=!decide (s=eS)&&decide ((s.size:Int)<=20)&&gU (bn s 0)&&!fB pG s&&decide ((aQ dB s 0:Int)=s.size)
noncomputable def gNm:bY:=[(38,vY),(42,NI),(41,CV),(36,C8)]
theorem gNm_ok:aZ Tryz.prog gNm:=ar tI (ar Ip (ar yM (ar Fu aF)))
theorem U4 (s:ByteArray):bq Tryz.prog 73 [sS s] [] (bB (dF s)) []:=by
 refine bh (aJ:=[]) gNm_ok Tryz.func73 (by kernel_rfl) (ak:=0) rfl (by kernel_rfl) 200 ?_
 apply of_eq (q:=let q3:=decide (s=ByteArray.mk #[]);let q4:=decide ((20:Int)<(s.size:Int));let q1:=(bif bif q3 then true else q4 then true else !gU (bn s (0:Nat)))=false;let q2:=(bif q3 then true else q4)=false;(q3=false->q3=false)/\(q3=false->q3=false)/\(q3=false->q3=false)/\(q2->q2)/\(q2->(0:Int)<=0/\(0:Int)<(s.size:Int))/\(q2->q2)/\(q2->q2)/\(q2->q2)/\(q1->q1)/\(q1->q1)/\(q1->(13:Nat)<=1000000)/\(q1->q1)/\((bif bif bif q3 then true else q4 then true else !gU (bn s (0:Nat)) then true else fB pG s)=true->ax [vB false]=bB (dF s)/\([]:List Ob)=[])/\((bif bif bif q3 then true else q4 then true else !gU (bn s (0:Nat)) then true else fB pG s)=false->(s.size<=1000000/\(0:Int)<=0/\(0:Int)<=(s.size:Int))/\ax [vB (decide ((↑(aQ dB s (0:Nat)):Int)=(s.size:Int)))]=bB (dF s)/\([]:List Ob)=[])) (by kernel_rfl)
 try simp only [sL]
 refine ⟨fun h=>?_,fun _=>by omega,fun h=>?_,fun h=>?_⟩
 . have:s.size≠0:=by
    intro h0
    apply h.1
    obtain ⟨d⟩:=s
    have:d=#[]:=Array.eq_empty_of_size_eq_zero h0
    rw [this]
   omega
 . unfold dF
   rcases h with ((h | h) | h) | h
   . rw [decide_eq_true h];rfl
   . rw [decide_eq_false (p:=(s.size:Int)<=20) (by omega),Bool.and_false];rfl
   . rw [h,Bool.and_false];rfl
   . rw [h,Bool.not_true,Bool.and_false];rfl
 . refine ⟨⟨by omega,by omega⟩,?_⟩
   unfold dF
   rw [decide_eq_false h.1.1.1,decide_eq_true h.1.1.2,h.1.2,h.2];rfl
def C9:cQ:=jh .str fun s=>(.t,bB (dF s),[])
theorem yX:bF Tryz.prog 73 C9:=eU (by kernel_rfl) fun s _=>U4 s
mutual
def Ex.jR:Ex->Ex->Bool
 | .mk k n t l,.mk k' n' t' l'=>decide (k=k')&&decide (n=n')&&decide (t=t')&&Ex.fF l l'
def Ex.fF:List Ex->List Ex->Bool
 | [],[]=>true
 | a::l,b::m=>a.jR b&&Ex.fF l m
 | _,_=>false
end
theorem Ex.uO:Ex.fF [] []=true:=by rw [Ex.fF]
theorem Ex.nC (a b:Ex) (l m:List Ex):Ex.fF (a::l) (b::m)=(a.jR b&&Ex.fF l m):=by rw [Ex.fF]
theorem Ex.uP:∀ (l m:List Ex),l.length≠m.length->Ex.fF l m=false
 | [],[],h=>absurd rfl h
 | [],b::m,_=>by rw [Ex.fF] <;> simp
 | a::l,[],_=>by rw [Ex.fF] <;> simp
 | a::l,b::m,h=>by
   rw [Ex.nC,Ex.uP l m (fun e=>h (by simp [e])),Bool.and_false]
mutual
theorem Ex.zY:∀ (a b:Ex),a.jR b=true↔a=b
 | .mk k n t l,.mk k' n' t' l'=>by
   rw [Ex.jR,Bool.and_eq_true,Bool.and_eq_true,Bool.and_eq_true,Ex.pI l l',decide_eq_true_eq,decide_eq_true_eq,decide_eq_true_eq,Ex.mk.injEq,and_assoc,and_assoc]
theorem Ex.pI:∀ (l m:List Ex),Ex.fF l m=true↔l=m
 | [],[]=>by simp [Ex.uO]
 | [],b::m=>by rw [Ex.fF] <;> simp
 | a::l,[]=>by rw [Ex.fF] <;> simp
 | a::l,b::m=>by rw [Ex.nC,Bool.and_eq_true,Ex.zY a b,Ex.pI l m,List.cons.injEq]
end
theorem Ex.eta (e:Ex):Ex.mk e.k e.n e.t e.l=e:=by cases e;rfl
theorem Ex.tM (e:Ex):Ex.mk (PV.asInt (.int e.k)) (PV.asInt (.int e.n)) (PV.bN (.str e.t)) (bX (PV.aE (.aW 4 (Ex.aj e.l))))=e:=by
 have:bX (PV.aE (.aW 4 (Ex.aj e.l)))=e.l:=dn _
 rw [this];exact e.eta
abbrev Jz (k m:Int) (t:ByteArray) (l:List PV):A:=.p (.agg [.int .i64 k,.int .i64 m,.str t,.rs 4 l])
abbrev WQ (L:List Ex):A:=.p (.c (.rs 4 (Ex.aj L)))
def A6 (l m:List PV) (n:Nat):Prop:=(∃ L,l=Ex.aj L)/\(∃ M,m=Ex.aj M)/\Ex.aI (bX l)<n/\Ex.aI (bX l)<=1000000/\Ex.aI (bX m)<=1000000
theorem Da {L M:List Ex} {n:Nat} (h1:Ex.aI L<n) (h2:Ex.aI L<=1000000) (h3:Ex.aI M<=1000000):A6 (Ex.aj L) (Ex.aj M) n:=by
 unfold A6
 rw [dn,dn]
 exact ⟨⟨_,rfl⟩,⟨_,rfl⟩,h1,h2,h3⟩
noncomputable def WR (n:Nat):cQ:={ cw:=[],f:=fun args ai=>match args,ai with
 | [.p (.agg [.int .i64 k,.int .i64 m,.str t,.rs q l]),.p (.agg [.int .i64 k',.int .i64 m',.str t',.rs q' l'])],[]=>bif Nat.beq q 4&&Nat.beq q' 4 then some (.p (A6 l l' n),bB ((Ex.mk k m t (bX l)).jR (.mk k' m' t' (bX l'))),[]) else none
 | _,_=>none }
def JA (n:Nat):Prop:=∀ (k m:Int) (t:ByteArray) (L:List Ex) (k' m':Int) (t':ByteArray) (M:List Ex),Ex.aI L<n->Ex.aI L<=1000000->Ex.aI M<=1000000->bq Tryz.prog 34 [Jz k m t (Ex.aj L),Jz k' m' t' (Ex.aj M)] [] (bB ((Ex.mk k m t L).jR (.mk k' m' t' M))) []
theorem Rx {n:Nat} (h:JA n):bF Tryz.prog 34 (WR n):=by
 refine ⟨by kernel_rfl,fun args ai c r aU e hc=>?_⟩
 simp only [WR] at e
 split at e
 . obtain ⟨hb,e1⟩:=ah.ay e
   clear e
   simp only [Bool.and_eq_true,Nat.beq_eq] at hb
   obtain ⟨rfl,rfl⟩:=hb
   cases e1
   obtain ⟨⟨L,rfl⟩,⟨M,rfl⟩,h2,h3,h4⟩:=hc
   rw [dn] at h2 h3 h4
   rw [dn,dn]
   exact h _ _ _ _ _ _ _ _ h2 h3 h4
 . cases e
noncomputable def gXe (n:Nat):bY:=[(34,WR n)]
theorem JB {n:Nat} (h:JA n):aZ Tryz.prog (gXe n):=ar (Rx h) aF
abbrev fnXe:A:=.p (.c (.func 34 []))
noncomputable def sXe (n:Nat):aX:=eu Tryz.prog (gXe n) Tryz.f68 0 [([0,1,0,1,1],[1,2,15,16,17])] [] []
theorem LN (n:Nat) (h:JA n) (L M:List Ex) (he:L.length=M.length) (hL:Ex.aI L<=n) (hl:Ex.aI L<=1000000) (hm:Ex.aI M<=1000000):∀ (j i:Nat),j=L.length-i->i<=L.length->
 aG (sXe n) (aV (bB (Ex.fF (L.drop i) (M.drop i))) []) [0,1,0,1,1] (fr [(1,WQ M),(2,fnXe),(15,WQ L),(16,nI L.length),(17,nI i)]) (.ofList [])
 | j,i,hj,hi=>by
   refine bZ (JB h) (by kernel_rfl) 200 ?_
   apply of_eq (q:=let q1:=(i*4+1+1+1);let q2:=(Ex.aj L);let q3:=(Ex.aj M);let q4:=(Ex.fF (List.drop i L) (List.drop i M));let q5:=(i*4+1+1);(decide ((i:Int)<(L.length:Int))=true->((0:Int)<=(i:Int)/\i*4<q2.length)/\i*4+4<=q2.length/\(PV.int (0:Int)).like (q2.getD (i*4) (PV.bool false))=true/\(PV.int (0:Int)).like (q2.getD (i*4+1) (PV.bool false))=true/\(PV.str (ByteArray.mk #[])).like (q2.getD q5 (PV.bool false))=true/\(PV.aW (4:Nat) []).like (q2.getD q1 (PV.bool false))=true/\((0:Int)<=(i:Int)/\i*4<q3.length)/\i*4+4<=q3.length/\(PV.int (0:Int)).like (q3.getD (i*4) (PV.bool false))=true/\(PV.int (0:Int)).like (q3.getD (i*4+1) (PV.bool false))=true/\(PV.str (ByteArray.mk #[])).like (q3.getD q5 (PV.bool false))=true/\(PV.aW (4:Nat) []).like (q3.getD q1 (PV.bool false))=true/\A6 (q2.getD q1 (PV.bool false)).aE (q3.getD q1 (PV.bool false)).aE n/\((!(Ex.mk (q2.getD (i*4) (PV.bool false)).asInt (q2.getD (i*4+1) (PV.bool false)).asInt (q2.getD q5 (PV.bool false)).bN (bX (q2.getD q1 (PV.bool false)).aE)).jR (Ex.mk (q3.getD (i*4) (PV.bool false)).asInt (q3.getD (i*4+1) (PV.bool false)).asInt (q3.getD q5 (PV.bool false)).bN (bX (q3.getD q1 (PV.bool false)).aE)))=true->ax [vB false]=bB q4/\([]:List Ob)=[])/\((!(Ex.mk (q2.getD (i*4) (PV.bool false)).asInt (q2.getD (i*4+1) (PV.bool false)).asInt (q2.getD q5 (PV.bool false)).bN (bX (q2.getD q1 (PV.bool false)).aE)).jR (Ex.mk (q3.getD (i*4) (PV.bool false)).asInt (q3.getD (i*4+1) (PV.bool false)).asInt (q3.getD q5 (PV.bool false)).bN (bX (q3.getD q1 (PV.bool false)).aE)))=false->aG (sXe n) (aV (bB q4) []) [0,1,0,1,1] (fr [(1,aP (W.rs (4:Nat) q3)),(2,aP (W.func 34 [])),(15,aP (W.rs (4:Nat) q2)),(16,nI (L.length:Int)),(17,nI (IntKind.i64.wrap ((i:Int)+1)))]) (af.ofList [])))/\(decide ((i:Int)<(L.length:Int))=false->ax [vB true]=bB q4/\([]:List Ob)=[])) (by kernel_rfl)
   try simp only [sL]
   have bO:=Ex.jd L
   refine ⟨fun h1=>?_,fun h1=>?_⟩
   . have h1:i<L.length:=by omega
     have h2:i<M.length:=by omega
     rw [A3 h1,tL h1,A4 h1,A5 h1,A3 h2,tL h2,A4 h2,A5 h2,Ex.tM,Ex.tM,wrap64 (n:=(i:Int)+1) (by omega) (by omega),List.drop_eq_getElem_cons h1,List.drop_eq_getElem_cons h2,Ex.nC]
     have m1:=Ex.je (List.getElem_mem h1)
     have m2:=Ex.je (List.getElem_mem h2)
     rw [Ex.fE] at m1 m2
     have g1:i*4+4<=(Ex.aj L).length:=by rw [Ex.dD];omega
     have g2:i*4+4<=(Ex.aj M).length:=by rw [Ex.dD];omega
     have hX:A6 (PV.aW 4 (Ex.aj L[i].l)).aE (PV.aW 4 (Ex.aj M[i].l)).aE n:=Da (by omega) (by omega) (by omega)
     refine ⟨⟨by omega,by omega⟩,g1,rfl,rfl,rfl,rfl,⟨by omega,by omega⟩,g2,rfl,rfl,rfl,rfl,hX,fun hf=>?_,fun ht=>?_⟩
     . rw [hf];rfl
     . rw [ht,Bool.true_and]
       cases j with
       | zero=>omega
       | succ j=>exact LN n h L M he hL hl hm j (i+1) (by omega) (by omega)
   . rw [List.drop_eq_nil_of_le (by omega),List.drop_eq_nil_of_le (by omega),Ex.uO];rfl
noncomputable def cEqf (n:Nat):cQ:={ cw:=[],f:=fun args ai=>match args,ai with
 | [.p (.c (.rs q l)),.p (.c (.rs q' l')),.p (.c (.func f []))],[]=>bif Nat.beq q 4&&Nat.beq q' 4&&Nat.beq f 34 then some (.p (A6 l l' (n+1)),bB (Ex.fF (bX l) (bX l')),[]) else none
 | _,_=>none }
theorem X7 {n:Nat} (h:JA n):bF Tryz.prog 68 (cEqf n):=by
 refine ⟨by kernel_rfl,fun args ai c r aU e hc=>?_⟩
 simp only [cEqf] at e
 split at e
 . obtain ⟨hb,e1⟩:=ah.ay e
   clear e
   simp only [Bool.and_eq_true,Nat.beq_eq] at hb
   obtain ⟨⟨rfl,rfl⟩,rfl⟩:=hb
   cases e1
   obtain ⟨⟨L,rfl⟩,⟨M,rfl⟩,h2,h3,h4⟩:=hc
   rw [dn] at h2 h3 h4
   rw [dn,dn]
   refine bh (aJ:=[([0,1,0,1,1],[1,2,15,16,17])]) (JB h) Tryz.func68 (by kernel_rfl) (ak:=0) rfl (by kernel_rfl) 200 ?_
   apply of_eq (q:=let q1:=decide ((↑((Ex.aj L).length / 4):Int)=(↑((Ex.aj M).length / 4):Int));((!q1)=true->ax [vB false]=bB (Ex.fF L M)/\([]:List Ob)=[])/\((!q1)=false->aG (cX Tryz.prog (gXe n) Tryz.f68 (0:Nat) [([0,1,0,1,1],[1,2,15,16,17])]) (aV (bB (Ex.fF L M)) []) [0,1,0,1,1] (fr [(1,aP (W.rs (4:Nat) (Ex.aj M))),(2,aP (W.func 34 [])),(15,aP (W.rs (4:Nat) (Ex.aj L))),(16,nI (↑((Ex.aj L).length / 4):Int)),(17,nI (0))]) (af.ofList []))) (by kernel_rfl)
   try simp only [sL]
   rw [LC,LC]
   refine ⟨fun hn=>?_,fun hn=>?_⟩
   . rw [Ex.uP _ _ (by omega)];rfl
   . exact LN n h L M (by omega) (by omega) h3 h4 (L.length-0) 0 rfl (by omega)
 . cases e
theorem X8 (n:Nat) (h:JA n):JA (n+1):=by
 intro k m t L k' m' t' M hL hl hm
 refine bh (aJ:=[]) (ar (X7 h) aF) Tryz.func34 (by kernel_rfl) (ak:=0) rfl (by kernel_rfl) 200 ?_
 apply of_eq (q:=let q1:=(bif bif decide (k=k') then decide (m=m') else false then decide (t=t') else false)=true;let q2:=(bif decide (k=k') then decide (m=m') else false)=true;let q3:=decide (k=k')=true;(q3->q3)/\(q3->q3)/\(q3->q3)/\(q3->q3)/\(q3->q3)/\(q2->q2)/\(q2->q2)/\(q2->q2)/\(q2->q2)/\(q2->q2)/\(q1->q1)/\(q1->q1)/\(q1->q1)/\(q1->q1)/\(q1->A6 (Ex.aj L) (Ex.aj M) (n+1))/\(q1->q1)/\ax [vB (bif bif bif decide (k=k') then decide (m=m') else false then decide (t=t') else false then Ex.fF (bX (Ex.aj L)) (bX (Ex.aj M)) else false)]=bB ((Ex.mk k m t L).jR (Ex.mk k' m' t' M))/\([]:List Ob)=[]) (by kernel_rfl)
 try simp only [sL]
 rw [dn,dn]
 exact ⟨fun _=>Da hL hl hm,rfl⟩
theorem JC:∀ n,JA n
 | 0=>fun k m t L _ _ _ _ h=>by omega
 | n+1=>X8 n (JC n)
def mX (e:Ex):Bool:=e.jR (.mk 0 0 eS [])
theorem U5 (k m:Int) (t:ByteArray) (L:List Ex) (hl:Ex.aI L<=1000000):bq Tryz.prog 74 [Jz k m t (Ex.aj L)] [] (bB (mX (.mk k m t L))) []:=by
 refine bh (aJ:=[]) (JB (JC 1000001)) Tryz.func74 (by kernel_rfl) (ak:=0) rfl (by kernel_rfl) 200 ?_
 apply of_eq (q:=A6 (Ex.aj L) [] (1000001:Nat)/\ax [vB ((Ex.mk k m t (bX (Ex.aj L))).jR (Ex.mk (0:Int) (0:Int) (ByteArray.mk #[]) (bX [])))]=bB (mX (Ex.mk k m t L))/\([]:List Ob)=[]) (by kernel_rfl)
 try simp only [sL]
 have h:=Da (L:=L) (M:=[]) (n:=1000001) (by omega) hl (by rw [Ex.dH];omega)
 rw [Ex.ck] at h
 have e0:bX []=[]:=by have:=dn [];rwa [Ex.ck] at this
 rw [dn,e0]
 exact ⟨h,rfl⟩
noncomputable def Oq:cQ:={ cw:=[],f:=fun args ai=>match args,ai with
 | [.p (.agg [.int .i64 k,.int .i64 m,.str t,.rs q l])],[]=>bif Nat.beq q 4 then some (.p ((∃ L,l=Ex.aj L)/\Ex.aI (bX l)<=1000000),bB (mX (Ex.mk k m t (bX l))),[]) else none
 | _,_=>none }
theorem U6:bF Tryz.prog 74 Oq:=by
 refine ⟨by kernel_rfl,fun args ai c r aU e hc=>?_⟩
 simp only [Oq] at e
 split at e
 . obtain ⟨hb,e1⟩:=ah.ay e
   clear e
   cases Nat.eq_of_beq_eq_true hb
   cases e1
   obtain ⟨⟨L,rfl⟩,h2⟩:=hc
   rw [dn] at h2 ⊢
   exact U5 _ _ _ _ h2
 . cases e
abbrev A7:Ob:=⟨61,[.c (.mp 1)]⟩
def rY (k n:Int) (t:ByteArray) (len:Nat):Bool :=
 bif decide (k=1) then decide (0<=n)&&decide (n<=1000000000000000)&&decide ((len:Int)=0)&&decide (t=eS) else
 bif decide (k=2) then decide ((t.size:Int)<=200)&&decide ((aQ cJ t 0:Int)=t.size)&&decide ((len:Int)=0)&&decide (n=0) else
 bif decide (k=3) then (decide (n=0)||decide (n=1))&&decide ((len:Int)=0)&&decide (t=eS) else
 bif decide (k=4) then dF t&&decide ((len:Int)=0)&&decide (n=0) else
 bif decide (k=5) then decide (n=0)&&decide (t=eS) else
 bif decide (k=6) then dF t&&decide (n=0) else
 bif decide (k=7) then decide ((len:Int)=2)&&decide (n=0)&&decide (t=eS) else
 bif decide (k=8) then (decide (t=BI)||decide (t=IK))&&decide ((len:Int)=1)&&decide (n=0) else
 bif decide (k=9) then decide (0<rP t)&&decide ((len:Int)=2)&&decide (n=0) else false
mutual
def Ex.fin:Ex->Bool
 | .mk k n t l=>Ex.jv l&&rY k n t l.length
def Ex.jv:List Ex->Bool
 | []=>true
 | e::l=>e.fin&&Ex.jv l
end
theorem Ex.fin_eq (e:Ex):e.fin=(Ex.jv e.l&&rY e.k e.n e.t e.l.length):=by cases e;rw [Ex.fin];rfl
theorem Ex.U7:Ex.jv []=true:=by rw [Ex.jv]
theorem Ex.yY (e:Ex) (l:List Ex):Ex.jv (e::l)=(e.fin&&Ex.jv l):=by rw [Ex.jv]
def Ex.bad:List Ex->Int->Int
 | [],_=>-1
 | e::l,i=>bif e.fin then Ex.bad l (i+1) else i
theorem Ex.LO:∀ (l:List Ex) (i:Int),0<=i->decide (0<=Ex.bad l i)=!Ex.jv l
 | [],i,_=>by rw [Ex.U7];rfl
 | e::l,i,h=>by
   rw [Ex.yY,Ex.bad]
   cases e.fin with
   | true=>rw [cond_true,Bool.true_and];exact Ex.LO l (i+1) (by omega)
   | false=>rw [cond_false,decide_eq_true h];rfl
def sY (l:List PV) (n:Nat):Prop:=(∃ L,l=Ex.aj L)/\Ex.aI (bX l)<n/\Ex.aI (bX l)<=1000000
theorem yZ {L:List Ex} {n:Nat} (h1:Ex.aI L<n) (h2:Ex.aI L<=1000000):sY (Ex.aj L) n:=by
 unfold sY
 rw [dn]
 exact ⟨⟨_,rfl⟩,h1,h2⟩
noncomputable def Ot (n:Nat):cQ:={ cw:=[false,true],f:=fun args ai=>match args,ai with
 | [.p (.agg [.int .i64 k,.int .i64 m,.str t,.rs q l]),.p (.c (.mp 0))],[o]=>bif Nat.beq q 4 then some (.p (o=br/\sY l n),bB (Ex.mk k m t (bX l)).fin,[o]) else none
 | _,_=>none }
abbrev ql:A:=.p (.c (.mp 0))
def tN (n:Nat):Prop:=∀ (k m:Int) (t:ByteArray) (L:List Ex),Ex.aI L<n->Ex.aI L<=1000000->bq Tryz.prog 57 [Jz k m t (Ex.aj L),ql] [br] (bB (Ex.mk k m t L).fin) [br]
theorem Ee {n:Nat} (h:tN n):bF Tryz.prog 57 (Ot n):=by
 refine ⟨by kernel_rfl,fun args ai c r aU e hc=>?_⟩
 simp only [Ot] at e
 split at e
 . obtain ⟨hb,e1⟩:=ah.ay e
   clear e
   cases Nat.eq_of_beq_eq_true hb
   cases e1
   obtain ⟨rfl,⟨L,rfl⟩,h2,h3⟩:=hc
   rw [dn] at h2 h3 ⊢
   exact h _ _ _ _ h2 h3
 . cases e
abbrev fnF1:A:=.p (.c (.func 90 [(0,0)]))
noncomputable def cF1 (n:Nat):cQ:={ cw:=[false,true],f:=fun args ai=>match args,ai with
 | [.p (.agg [.int .i64 k,.int .i64 m,.str t,.rs q l]),.p (.c (.ptr 0 0))],[⟨ty,[.c (.mp 1)]⟩,o]=>bif Nat.beq q 4&&Nat.beq ty 61 then some (.p (o=br/\sY l n),bB (!(Ex.mk k m t (bX l)).fin),[A7,o]) else none
 | _,_=>none }
theorem cF1_ok {n:Nat} (h:tN n):bF Tryz.prog 90 (cF1 n):=by
 refine ⟨by kernel_rfl,fun args ai c r aU e hc=>?_⟩
 simp only [cF1] at e
 split at e
 . rename_i k m t q l ty o
   obtain ⟨hb,e1⟩:=ah.ay e
   clear e
   simp only [Bool.and_eq_true,Nat.beq_eq] at hb
   obtain ⟨rfl,rfl⟩:=hb
   cases e1
   obtain ⟨rfl,⟨L,rfl⟩,h2,h3⟩:=hc
   rw [dn] at h2 h3 ⊢
   refine bh (aJ:=[]) (ar (Ee h) aF) Tryz.func90 (by kernel_rfl) (ak:=2) rfl (by kernel_rfl) 200 ?_
   apply of_eq (q:=(Ob.mk 61 [Fd.m D.str (D.int .i64) ct]=br/\sY (Ex.aj L) n)/\ax [V.c (W.bool !(Ex.mk k m t (bX (Ex.aj L))).fin)]=bB !(Ex.mk k m t L).fin/\[Ob.mk 61 [Fd.c (W.mp (1:Nat))],Ob.mk 61 [Fd.m D.str (D.int .i64) ct]]=[A7,br]) (by kernel_rfl)
   try simp only [sL]
   rw [dn]
   exact ⟨yZ h2 h3,rfl⟩
 . cases e
noncomputable def gF1 (n:Nat):bY:=[(90,cF1 n)]
theorem Ry {n:Nat} (h:tN n):aZ Tryz.prog (gF1 n):=ar (cF1_ok h) aF
noncomputable def sIxE (n:Nat):aX:=eu Tryz.prog (gF1 n) Tryz.f109 2 [([0,1,0,1],[0,1,7,8])] [] []
theorem JD (n:Nat) (h:tN n) (L:List Ex) (hL:Ex.aI L<=n) (hl:Ex.aI L<=1000000):∀ (j i:Nat),j=L.length-i->i<=L.length->
 aG (sIxE n) (aV (nI (Ex.bad (L.drop i) i)) [A7,br]) [0,1,0,1] (fr [(0,WQ L),(1,fnF1),(7,nI L.length),(8,nI i)]) (.ofList [A7,br])
 | j,i,hj,hi=>by
   refine bZ (Ry h) (by kernel_rfl) 200 ?_
   apply of_eq (q:=let q1:=[Ob.mk 61 [Fd.c (W.mp (1:Nat))],Ob.mk 61 [Fd.m D.str (D.int .i64) ct]]=[A7,br];let q2:=(Ex.aj L);let q3:=(Ex.bad (List.drop i L) (i:Int));(decide ((i:Int)<(L.length:Int))=true->((0:Int)<=(i:Int)/\i*4<q2.length)/\i*4+4<=q2.length/\(PV.int (0:Int)).like (q2.getD (i*4) (PV.bool false))=true/\(PV.int (0:Int)).like (q2.getD (i*4+1) (PV.bool false))=true/\(PV.str (ByteArray.mk #[])).like (q2.getD (i*4+1+1) (PV.bool false))=true/\(PV.aW (4:Nat) []).like (q2.getD (i*4+1+1+1) (PV.bool false))=true/\(Ob.mk 61 [Fd.m D.str (D.int .i64) ct]=br/\sY (q2.getD (i*4+1+1+1) (PV.bool false)).aE n)/\((!(Ex.mk (q2.getD (i*4) (PV.bool false)).asInt (q2.getD (i*4+1) (PV.bool false)).asInt (q2.getD (i*4+1+1) (PV.bool false)).bN (bX (q2.getD (i*4+1+1+1) (PV.bool false)).aE)).fin)=true->ax [vI (i:Int)]=nI q3/\q1)/\((!(Ex.mk (q2.getD (i*4) (PV.bool false)).asInt (q2.getD (i*4+1) (PV.bool false)).asInt (q2.getD (i*4+1+1) (PV.bool false)).bN (bX (q2.getD (i*4+1+1+1) (PV.bool false)).aE)).fin)=false->aG (sIxE n) (aV (nI q3) [A7,br]) [0,1,0,1] (fr [(0,aP (W.rs (4:Nat) q2)),(1,aP (W.func 90 [(0,(0:Nat))])),(7,nI (L.length:Int)),(8,nI (IntKind.i64.wrap ((i:Int)+1)))]) (af.ofList [Ob.mk 61 [Fd.c (W.mp (1:Nat))],Ob.mk 61 [Fd.m D.str (D.int .i64) ct]])))/\(decide ((i:Int)<(L.length:Int))=false->ax [vI (-1)]=nI q3/\q1)) (by kernel_rfl)
   try simp only [sL]
   have bO:=Ex.jd L
   refine ⟨fun h1=>?_,fun h1=>?_⟩
   . have h1:i<L.length:=by omega
     rw [A3 h1,tL h1,A4 h1,A5 h1,Ex.tM,wrap64 (n:=(i:Int)+1) (by omega) (by omega),List.drop_eq_getElem_cons h1,Ex.bad]
     have m1:=Ex.je (List.getElem_mem h1)
     rw [Ex.fE] at m1
     have g1:i*4+4<=(Ex.aj L).length:=by rw [Ex.dD];omega
     have hX:sY (PV.aW 4 (Ex.aj L[i].l)).aE n:=yZ (by omega) (by omega)
     refine ⟨⟨by omega,by omega⟩,g1,rfl,rfl,rfl,rfl,hX,fun hf=>?_,fun ht=>?_⟩
     . rw [hf];rfl
     . rw [ht,cond_true]
       cases j with
       | zero=>omega
       | succ j=>exact JD n h L hL hl j (i+1) (by omega) (by omega)
   . rw [List.drop_eq_nil_of_le (by omega)];rfl
noncomputable def cIxE (n:Nat):cQ:={ cw:=[false,true],f:=fun args ai=>match args,ai with
 | [.p (.c (.rs q l)),.p (.c (.func f [(0,0)]))],[⟨ty,[.c (.mp 1)]⟩,o]=>bif Nat.beq q 4&&Nat.beq f 90&&Nat.beq ty 61 then some (.p (o=br/\sY l (n+1)),nI (Ex.bad (bX l) 0),[A7,o]) else none
 | _,_=>none }
theorem X9 {n:Nat} (h:tN n):bF Tryz.prog 109 (cIxE n):=by
 refine ⟨by kernel_rfl,fun args ai c r aU e hc=>?_⟩
 simp only [cIxE] at e
 split at e
 . obtain ⟨hb,e1⟩:=ah.ay e
   clear e
   simp only [Bool.and_eq_true,Nat.beq_eq] at hb
   obtain ⟨⟨rfl,rfl⟩,rfl⟩:=hb
   cases e1
   obtain ⟨rfl,⟨L,rfl⟩,h2,h3⟩:=hc
   rw [dn] at h2 h3 ⊢
   refine bh (aJ:=[([0,1,0,1],[0,1,7,8])]) (Ry h) Tryz.func109 (by kernel_rfl) (ak:=2) rfl (by kernel_rfl) 200 ?_
   apply of_eq (q:=aG (cX Tryz.prog (gF1 n) Tryz.f109 (2:Nat) [([0,1,0,1],[0,1,7,8])]) (aV (nI (Ex.bad L (0:Int))) [A7,br]) [0,1,0,1] (fr [(0,aP (W.rs (4:Nat) (Ex.aj L))),(1,aP (W.func 90 [(0,(0:Nat))])),(7,nI (↑((Ex.aj L).length / 4):Int)),(8,nI (0))]) (af.ofList [Ob.mk 61 [Fd.c (W.mp (1:Nat))],Ob.mk 61 [Fd.m D.str (D.int .i64) ct]])) (by kernel_rfl)
   try simp only [sL,Int.reduceEq,Int.reduceNe,Nat.reduceAdd]
   rw [LC]
   exact JD n h L (by omega) h3 (L.length-0) 0 rfl (by omega)
 . cases e
noncomputable def U8 (n:Nat):cQ:={ cw:=[false,true],f:=fun args ai=>match args,ai with
 | [.p (.c (.rs q l)),.p (.c (.func f [(0,0)]))],[⟨ty,[.c (.mp 1)]⟩,o]=>bif Nat.beq q 4&&Nat.beq f 90&&Nat.beq ty 61 then some (.p (o=br/\sY l (n+1)),bB (!Ex.jv (bX l)),[A7,o]) else none
 | _,_=>none }
theorem Ya {n:Nat} (h:tN n):bF Tryz.prog 89 (U8 n):=by
 refine ⟨by kernel_rfl,fun args ai c r aU e hc=>?_⟩
 simp only [U8] at e
 split at e
 . rename_i q l f ty o
   obtain ⟨hb,e1⟩:=ah.ay e
   clear e
   simp only [Bool.and_eq_true,Nat.beq_eq] at hb
   obtain ⟨⟨rfl,rfl⟩,rfl⟩:=hb
   cases e1
   obtain ⟨rfl,hX⟩:=hc
   refine bh (aJ:=[]) (ar (X9 h) aF) Tryz.func89 (by kernel_rfl) (ak:=2) rfl (by kernel_rfl) 200 ?_
   apply of_eq (q:=(Ob.mk 61 [Fd.m D.str (D.int .i64) ct]=br/\sY l (n+1))/\ax [vB (decide ((0:Int)<=Ex.bad (bX l) (0:Int)))]=bB !Ex.jv (bX l)/\[Ob.mk 61 [Fd.c (W.mp (1:Nat))],Ob.mk 61 [Fd.m D.str (D.int .i64) ct]]=[A7,br]) (by kernel_rfl)
   try simp only [sL]
   rw [<-Ex.LO _ 0 (by omega)]
   exact ⟨hX,rfl⟩
 . cases e
noncomputable def gFi (n:Nat):bY:=[(89,U8 n),(36,C8),(73,C9)]
theorem gFi_ok {n:Nat} (h:tN n):aZ Tryz.prog (gFi n):=ar (Ya h) (ar Fu (ar yX aF))
theorem U9 (n:Nat) (h:tN n):tN (n+1):=by
 intro k m t L hL hl
 refine bh (aJ:=[]) (gFi_ok h) Tryz.func57 (by kernel_rfl) (ak:=1) rfl (by kernel_rfl) 400 ?_
 apply of_eq (q:=let q1:=(↑((Ex.aj L).length / 4):Int);let q2:=decide (t=ByteArray.mk #[(110:UInt8),(111:UInt8),(116:UInt8)]);let q4:=decide ((0:Int)<dW D.str (D.int .i64) ct t);let q7:=decide (t=ByteArray.mk #[(45:UInt8)]);let q9:=decide ((t.size:Int)<=200);let aM:=decide (m=0);let bg:=(bif bif bif q7 then true else q2 then decide (q1=1) else false then aM else false)=true;let bV:=(R1.pure (Cd.t.and Cd.t) (aP (W.str t))).v=(R1.pure (Cd.t.and Cd.t) (aP (W.str t))).v;let dx:=[Ob.mk 61 [Fd.m D.str (D.int .i64) ct]]=[br];let fu:=(bif bif q7 then true else q2 then decide (q1=1) else false)=true;let eP:=decide ((↑(aQ cJ t (0:Nat)):Int)=(t.size:Int));let kP:=(bif aM then true else decide (m=1))=true;let jQ:=decide ((0:Int)<=m);let gC:=(bif q9 then eP else false)=true;let fR:=(bif q7 then true else q2)=true;let iX:=decide (q1=q1);let gD:=decide (q1=2);let fW:=decide (q1=0);let jc:=(Ex.mk k m t L);let eK:=q9=true;let iO:=dF t=true;let iN:=decide (m<=1000000000000000);let mJ:=decide (t=ByteArray.mk #[]);let uK:=A.cond (eK) (V.c (W.str t))=A.cond (eK) (V.c (W.str t));let q3:=(bif bif bif q9 then eP else false then fW else false then aM else false)=true;let q5:=(bif bif q9 then eP else false then fW else false)=true;let q6:=(bif bif bif jQ then iN else false then fW else false then decide (m=m) else false)=true;let q8:=(bif bif bif aM then true else decide (m=1) then fW else false then decide (m=m) else false)=true;let bE:=(bif bif jQ then iN else false then fW else false)=true;let cN:=(bif bif aM then true else decide (m=1) then fW else false)=true;let eO:=(bif bif dF t then iX else false then aM else false)=true;let bP:=(bif bif dF t then fW else false then aM else false)=true;let dX:=(bif bif q4 then gD else false then aM else false)=true;let dO:=(bif jQ then iN else false)=true;let bW:=(bif dF t then iX else false)=true;let d9:=(bif dF t then fW else false)=true;let cL:=(bif iX then aM else false)=true;let jI:=(bif gD then aM else false)=true;let fQ:=(bif q4 then gD else false)=true;(Ob.mk 61 [Fd.m D.str (D.int .i64) ct]=br/\sY (Ex.aj L) (n+1))/\((!Ex.jv (bX (Ex.aj L)))=true->ax [vB false]=bB jc.fin/\dx)/\((!Ex.jv (bX (Ex.aj L)))=false->(decide (k=1)=true->(jQ=true->jQ=true)/\(jQ=true->jQ=true)/\(jQ=true->jQ=true)/\(dO->dO)/\(dO->dO)/\(dO->dO)/\(bE->bE)/\(bE->bE)/\(bE->bE)/\(bE->bE)/\(q6->q6)/\(q6->q6)/\(q6->q6)/\(q6->q6)/\ax [vB (bif bif bif bif jQ then iN else false then fW else false then decide (m=m) else false then mJ else false)]=bB jc.fin/\dx)/\(decide (k=1)=false->(decide (k=2)=true->(eK->eK)/\(eK->eK)/\(eK->t.size<=1000000/\(0:Int)<=0/\(0:Int)<=(t.size:Int))/\(eK->eK)/\(eK->eK)/\(eK->eK)/\(eK->eK)/\(eK->eK)/\(eK->eK)/\uK/\(eK->eK)/\uK/\bV/\bV/\(gC->gC)/\(gC->gC)/\(gC->gC)/\(q5->q5)/\(q5->q5)/\(q5->q5)/\(q5->q5)/\(q3->q3)/\(q3->q3)/\(q3->q3)/\(q3->q3)/\ax [vB (bif bif bif bif q9 then eP else false then fW else false then aM else false then decide (t=t) else false)]=bB jc.fin/\dx)/\(decide (k=2)=false->(decide (k=3)=true->(aM=false->aM=false)/\(aM=false->aM=false)/\(aM=false->aM=false)/\(kP->kP)/\(kP->kP)/\(kP->kP)/\(cN->cN)/\(cN->cN)/\(cN->cN)/\(cN->cN)/\(q8->q8)/\(q8->q8)/\(q8->q8)/\(q8->q8)/\ax [vB (bif bif bif bif aM then true else decide (m=1) then fW else false then decide (m=m) else false then mJ else false)]=bB jc.fin/\dx)/\(decide (k=3)=false->(decide (k=4)=true->bV/\bV/\(iO->iO)/\(iO->iO)/\(iO->iO)/\(d9->d9)/\(d9->d9)/\(d9->d9)/\(d9->d9)/\(bP->bP)/\(bP->bP)/\(bP->bP)/\(bP->bP)/\ax [vB (bif bif bif dF t then fW else false then aM else false then decide (t=t) else false)]=bB jc.fin/\dx)/\(decide (k=4)=false->(decide (k=5)=true->(iX=true->iX=true)/\(iX=true->iX=true)/\(iX=true->iX=true)/\(iX=true->iX=true)/\(cL->cL)/\(cL->cL)/\(cL->cL)/\(cL->cL)/\ax [vB (bif bif iX then aM else false then mJ else false)]=bB jc.fin/\dx)/\(decide (k=5)=false->(decide (k=6)=true->bV/\bV/\(iO->iO)/\(iO->iO)/\(iO->iO)/\(bW->bW)/\(bW->bW)/\(bW->bW)/\(bW->bW)/\(eO->eO)/\(eO->eO)/\(eO->eO)/\(eO->eO)/\ax [vB (bif bif bif dF t then iX else false then aM else false then decide (t=t) else false)]=bB jc.fin/\dx)/\(decide (k=6)=false->(decide (k=7)=true->(gD=true->gD=true)/\(gD=true->gD=true)/\(gD=true->gD=true)/\(gD=true->gD=true)/\(jI->jI)/\(jI->jI)/\(jI->jI)/\(jI->jI)/\ax [vB (bif bif gD then aM else false then mJ else false)]=bB jc.fin/\dx)/\(decide (k=7)=false->(decide (k=8)=true->(q7=false->q7=false)/\(q7=false->q7=false)/\(q7=false->q7=false)/\(fR->fR)/\(fR->fR)/\(fR->fR)/\(fu->fu)/\(fu->fu)/\(fu->fu)/\(fu->fu)/\(bg->bg)/\(bg->bg)/\(bg->bg)/\(bg->bg)/\ax [vB (bif bif bif bif q7 then true else q2 then decide (q1=1) else false then aM else false then decide (t=t) else false)]=bB jc.fin/\dx)/\(decide (k=8)=false->(decide (k=9)=true->bV/\bV/\(q4=true->q4=true)/\(q4=true->q4=true)/\(q4=true->q4=true)/\(fQ->fQ)/\(fQ->fQ)/\(fQ->fQ)/\(fQ->fQ)/\(dX->dX)/\(dX->dX)/\(dX->dX)/\(dX->dX)/\ax [vB (bif bif bif q4 then gD else false then aM else false then decide (t=t) else false)]=bB jc.fin/\dx)/\(decide (k=9)=false->ax [vB false]=bB jc.fin/\dx))))))))))) (by kernel_rfl)
 try simp only [sL]
 rw [dn,LC,FM,Ex.fin_eq]
 simp only [decide_true,Bool.and_true,Bool.true_and]
 refine ⟨yZ (by omega) hl,fun hf=>by show _=bB (Ex.jv L&&_);rw [hf];rfl,fun ht=>?_⟩
 show _/\_
 have hE:(Ex.jv (Ex.mk k m t L).l&&rY (Ex.mk k m t L).k (Ex.mk k m t L).n (Ex.mk k m t L).t (Ex.mk k m t L).l.length)=rY k m t L.length:=by
  show (Ex.jv L&&_)=_
  rw [ht];rfl
 rw [hE]
 refine ⟨fun h=>by subst h;rfl,fun h1=>⟨fun h=>by subst h;exact ⟨fun h=>⟨by omega,by omega⟩,rfl⟩,fun h2=>⟨fun h=>by subst h;rfl,fun h3=>⟨fun h=>by subst h;rfl,fun h4=>⟨fun h=>by subst h;rfl,fun h5=>⟨fun h=>by subst h;rfl,fun h6=>⟨fun h=>by subst h;rfl,fun h7=>⟨fun h=>by subst h;rfl,fun h8=>⟨fun h=>by subst h;rfl,fun h9=>?_⟩⟩⟩⟩⟩⟩⟩⟩⟩
 unfold rY
 rw [decide_eq_false h1,decide_eq_false h2,decide_eq_false h3,decide_eq_false h4,decide_eq_false h5,decide_eq_false h6,decide_eq_false h7,decide_eq_false h8,decide_eq_false h9];rfl
theorem Ef:∀ n,tN n
 | 0=>fun k m t L h=>by omega
 | n+1=>U9 n (Ef n)
def cE (xs:List ByteArray) (sep:ByteArray):ByteArray:=⟨(Lib.join (xs.map (·.data.toList)) sep.data.toList).toArray⟩
theorem JE {P:Program} {f:FuncId} {args:List A} {d:D} {y:d.ty} (h:∀ (base:Nat) (η:Eta) (Z:aq) (w:World) vs,Go.aT.St base η Z (.ofList []) w->aH (cr η Z) args vs->Calls P f vs.toArray w fun e w'=>∃ u,e=.returned u/\(∀ Z:aq,cu Z d y u)/\Below w.heap.size w w'):bq P f args [] (dat d y) [] :=
 yE fun base η Z w vs R hvs _=>h base η Z w vs R hvs
theorem Va (xs : List ByteArray) (sep : ByteArray) (h : xs.length ≤ 1000000 ∧ (cE xs sep).size ≤ 10000000000000) : bq Tryz.prog 22 [lC xs, sS sep] [] (sS (cE xs sep)) [] :=
 JE (d := .str) (y := cE xs sep) fun base η Z w vs R hvs => by
  match vs,hvs with
  | [v, s], ⟨⟨_, h1⟩, ⟨_, h2⟩, _⟩ =>
    have h2:s=.string sep:=h2
    subst h2
    obtain ⟨a,len,c,rfl,hl,hc,hx⟩:=au.rd h1
    subst hl
    by_cases h0:xs=[]
    . subst h0
      exact (Tryz.strings_Join_none a c sep w).mono fun e w' ⟨he,hw⟩=>⟨_,he,fun _=>rfl,hw▸Below.refl _ _⟩
    . rcases hx with hx | ⟨b,off,cells,rfl,hb,hd⟩
      . exact absurd hx h0
      . obtain ⟨ty,fz,hw⟩:=R.zs b cells hb
        refine (Tryz.strings_Join b off c xs sep w (fun j x hj=>?_) (cM hw) (by omega) hc ?_).mono fun e w' ⟨he,hB⟩=>⟨_,he,fun _=>rfl,hB⟩
        . obtain ⟨u,e1,e2⟩:=hd j x hj
          have e2:u=.string x:=e2
          subst e2
          simp [World.cell?,hw,e1]
        . have:=h.2
          have e:(cE xs sep).size=(Lib.join (xs.map (·.data.toList)) sep.data.toList).length:=by simp [cE,ByteArray.size]
          omega
def FW:cQ:=vU dS .str fun xs sep=>(.p (List.length (α:=ByteArray) xs<=1000000/\(cE xs sep).size<=10000000000000),sS (cE xs sep),[])
theorem BO:bF Tryz.prog 22 FW:=pz (by kernel_rfl) fun xs s h=>Va xs s h
def JF (n:Int):ByteArray:=⟨(Lib.itoa n).toArray⟩
theorem Vb {Z:aq} (hK:fJ Tryz.prog Z) {base:Nat} {η:Eta} {S:af} {w:World} (R:Go.aT.St base η Z S w):Lib.TabIs Tryz.prog w "internal/strconv.uint64pow10" .u64 Lib.pow10Tab:=by
 obtain ⟨g,hg⟩:∃ g,Tryz.prog.globalNamed "internal/strconv.uint64pow10" = some g:=⟨3,by kernel_rfl⟩
 have h:=hK.1 ("internal/strconv.uint64pow10",.u64,M8) (by simp [M9]) g hg
 obtain ⟨ty,fz,e⟩:=R.zs _ _ h
 unfold Lib.TabIs World.var?
 rw [hg]
 simp only [Option.bind_some,e]
 rfl
theorem Yb (n:Int) (h:-9223372036854775808<=n/\n<=9223372036854775807):bq Tryz.prog 82 [nI n] [] (sS (JF n)) [] :=
 yE (d := .str) (y := JF n) fun base η Z w vs R hvs hK => by
  match vs,hvs with
  | [v],⟨⟨_,h1⟩,_⟩ =>
    have h1:v=.int .i64 n:=h1
    subst h1
    refine (Tryz.strconv_Itoa n h.1 h.2 w (Vb hK R)).mono ?_
    rintro e w' ⟨rfl,k,os,rfl⟩
    exact ⟨_,rfl,fun _=>rfl,⟨rfl,rfl,rfl,by simp [Sort.grow,World.drewN],fun b hb=>by simp only [Sort.grow,World.drewN];rw [Array.getElem?_append_left hb]⟩⟩
def cItB:cQ:=jh (.int .i64) fun n=>(.p (-9223372036854775808<=(show Int from n)/\(show Int from n)<=9223372036854775807),sS (JF n),[])
theorem Yc:bF Tryz.prog 82 cItB:=eU (by kernel_rfl) fun n h=>Yb n h
theorem Vc (n:Int) (h:-9223372036854775808<=n/\n<=9223372036854775807):(JF n).size<=21:=Lib.itoa_length_le n h.1 h.2
def BP (b:Bool):ByteArray:=bif b then IL else IQ
theorem Yd (b:Bool):bq Tryz.prog 83 [bB b] [] (sS (BP b)) [] :=
 JE (d := .str) (y := BP b) fun base η Z w vs R hvs => by
  match vs,hvs with
  | [v],⟨⟨_,h1⟩,_⟩ =>
    have h1:v=.bool b:=h1
    subst h1
    refine (Tryz.strconv_FormatBool b w).mono ?_
    rintro e w' ⟨rfl,rfl⟩
    exact ⟨_,rfl,fun _=>(by cases b <;> rfl),Below.refl _ _⟩
def cFoB:cQ:=jh .bool fun b=>(.t,sS (BP b),[])
theorem Ye:bF Tryz.prog 83 cFoB:=eU (by kernel_rfl) fun b _=>Yd b
def dY (k:Int) (t:ByteArray):Int:=bif decide (k=9) then rP t else bif decide (k=8) then (bif decide (t=IK) then 3 else 7) else bif decide (k=7) then 9 else 10
theorem Rz (k m:Int) (t:ByteArray) (l:List PV):bq Tryz.prog 80 [Jz k m t l,ql] [br] (nI (dY k t)) [br]:=by
 refine bh (aJ:=[]) aF Tryz.func80 (by kernel_rfl) (ak:=1) rfl (by kernel_rfl) 200 ?_
 apply of_eq (q:=let q1:=[Ob.mk 61 [Fd.m D.str (D.int .i64) ct]]=[br];let q2:=decide (t=ByteArray.mk #[(110:UInt8),(111:UInt8),(116:UInt8)]);(decide (k=9)=true->ax [vI (dW D.str (D.int .i64) ct t)]=nI (dY k t)/\q1)/\(decide (k=9)=false->(decide (k=8)=true->(q2=true->ax [vI (3)]=nI (dY k t)/\q1)/\(q2=false->ax [vI (7)]=nI (dY k t)/\q1))/\(decide (k=8)=false->(decide (k=7)=true->ax [vI (9)]=nI (dY k t)/\q1)/\(decide (k=7)=false->ax [vI (10)]=nI (dY k t)/\q1)))) (by kernel_rfl)
 try simp only [sL]
 rw [FM]
 refine ⟨fun h=>by subst h;rfl,fun h9=>⟨fun h=>by subst h;exact ⟨fun h=>by subst h;rfl,fun h=>by unfold dY;rw [decide_eq_false h];rfl⟩,fun h8=>⟨fun h=>by subst h;rfl,fun h7=>?_⟩⟩⟩
 unfold dY
 rw [decide_eq_false h9,decide_eq_false h8,decide_eq_false h7];rfl
noncomputable def JG:cQ:={ cw:=[false,true],f:=fun args ai=>match args,ai with
 | [.p (.agg [.int .i64 k,.int .i64 m,.str t,.rs q l]),.p (.c (.mp 0))],[o]=>bif Nat.beq q 4 then some (.p (o=br),nI (dY k t),[o]) else none
 | _,_=>none }
theorem RB:bF Tryz.prog 80 JG:=by
 refine ⟨by kernel_rfl,fun args ai c r aU e hc=>?_⟩
 simp only [JG] at e
 split at e
 . obtain ⟨hb,e1⟩:=ah.ay e
   clear e
   cases Nat.eq_of_beq_eq_true hb
   cases e1
   cases hc
   exact Rz _ _ _ _
 . cases e
def jS (p:Int×ByteArray) (pl:Int):ByteArray:=bif decide (p.1<pl) then mV++p.2++ku else p.2
abbrev kR:ByteArray:=⟨#[44,32]⟩
abbrev RD:ByteArray:=⟨#[32]⟩
abbrev WS:ByteArray:=⟨#[34]⟩
abbrev tCar:ByteArray:=⟨#[94]⟩
abbrev Vd:ByteArray:=⟨#[110,111,116,32]⟩
def kJ (ps:List (Int×ByteArray)) (i:Nat):Int×ByteArray:=ps.getD i (0,eS)
def LP (lv:Int) (t:ByteArray) (a b:Int×ByteArray):ByteArray :=
 bif decide (lv=8) then jS a 9++tCar++jS b 7 else
 bif decide (lv=4) then jS a (lv+1)++RD++t++RD++jS b (lv+1) else
 jS a lv++RD++t++RD++jS b (lv+1)
def A8 (k n:Int) (t:ByteArray) (ps:List (Int×ByteArray)):ByteArray :=
 bif decide (k=1) then JF n else
 bif decide (k=2) then WS++t++WS else
 bif decide (k=3) then BP (decide (n=1)) else
 bif decide (k=5) then sX++cE (ps.map (jS · 1)) kR++qG else
 bif decide (k=6) then t++mV++cE (ps.map (jS · 1)) kR++ku else
 bif decide (k=7) then jS (kJ ps 0) 9++sX++jS (kJ ps 1) 1++qG else
 bif decide (k=8) then (bif decide (dY k t=3) then Vd++jS (kJ ps 0) (dY k t) else BI++jS (kJ ps 0) (dY k t)) else
 bif decide (k=9) then LP (dY k t) t (kJ ps 0) (kJ ps 1) else t
mutual
def Ex.pr:Ex->Int×ByteArray
 | .mk k n t l=>(dY k t,A8 k n t (Ex.ko l))
def Ex.ko:List Ex->List (Int×ByteArray)
 | []=>[]
 | e::m=>e.pr::Ex.ko m
end
def Ex.uQ (e:Ex):ByteArray:=e.pr.2
theorem Ex.JH (k n:Int) (t:ByteArray) (l:List Ex):(Ex.mk k n t l).uQ=A8 k n t (Ex.ko l):=by rw [Ex.uQ,Ex.pr]
theorem Ex.LQ:Ex.ko []=[]:=by rw [Ex.ko]
theorem Ex.BQ (e:Ex) (l:List Ex):Ex.ko (e::l)=(dY e.k e.t,e.uQ)::Ex.ko l:=by cases e;rw [Ex.ko,Ex.uQ,Ex.pr];rfl
def Ex.wr (e:Ex) (pl:Int):ByteArray:=jS (dY e.k e.t,e.uQ) pl
theorem Ex.qm {l:List Ex} {i:Nat} (h:i<l.length) (pl:Int):jS (kJ (Ex.ko l) i) pl=l[i].wr pl:=by
 have:∀ (l:List Ex) (i:Nat) (h:i<l.length),(Ex.ko l).getD i (0,eS)=(dY l[i].k l[i].t,l[i].uQ):=by
  intro l
  induction l with
  | nil=>intro i h;cases h
  | cons e l ih =>
    intro i h
    rw [Ex.BQ]
    cases i with
    | zero=>rfl
    | succ i=>exact ih i (by simpa using h)
 unfold kJ
 rw [this l i h];rfl
theorem Ex.Eg (l:List Ex) (pl:Int):(Ex.ko l).map (jS · pl)=l.map fun e=>e.wr pl:=by
 induction l with
 | nil=>rw [Ex.LQ];rfl
 | cons e l ih=>rw [Ex.BQ,List.map_cons,List.map_cons,ih];rfl
theorem aY (a b:ByteArray):(a++b).size=a.size+b.size:=ByteArray.size_append
theorem Ve {t : ByteArray} (h : 0 < rP t) : t.size ≤ 3 := by
 by_cases h3:t.size<=3
 . exact h3
 . exfalso
   have : rP t = 0 := by
    have key:∀ l:List (ByteArray×Int),(∀ p∈l,p.1.size<=3)->dW .str (.int .i64) l t=0:=by
     intro l
     induction l with
     | nil=>intro _;rfl
     | cons p l ih =>
       intro h
       have hb:D.kY .str t p.1=false:=by
        cases hb:D.kY .str t p.1 with
        | true =>
          have e:t=p.1:=(D.Pg rfl).1 hb
          have:=h p (List.mem_cons_self ..)
          rw [<-e] at this
          exact absurd this h3
        | false=>rfl
       have:=ih fun q hq=>h q (List.mem_cons_of_mem _ hq)
       obtain ⟨a,b⟩:=p
       unfold dW oo at this ⊢
       unfold oo
       rw [hb];exact this
    exact key D3 (by decide)
   omega
theorem RE (sep:ByteArray):cE [] sep=eS:=rfl
theorem RF (x sep:ByteArray):cE [x] sep=x:=by
 unfold cE
 rw [List.map_cons,List.map_nil,Lib.join_one]
theorem Vf (x y:ByteArray) (l:List ByteArray) (sep:ByteArray):cE (x::y::l) sep=x++(sep++cE (y::l) sep):=by
 unfold cE
 have:Lib.join (x.data.toList::y.data.toList::l.map (·.data.toList)) sep.data.toList=x.data.toList++(sep.data.toList++Lib.join (y.data.toList::l.map (·.data.toList)) sep.data.toList):=by
  rw [Lib.join_cons,Lib.join_cons,Lib.joinTail,Lib.joinTail];simp
 rw [List.map_cons,List.map_cons,this]
 apply ByteArray.ext
 simp
theorem sZ (sep:ByteArray):∀ l:List ByteArray,(cE l sep).size<=(l.map fun x=>x.size+sep.size).sum
 | []=>by rw [RE];exact Nat.zero_le _
 | [x]=>by rw [RF];simp
 | x::y::l=>by
   have:=sZ sep (y::l)
   rw [Vf,aY,aY,List.map_cons,List.sum_cons]
   omega
theorem jK (p:Int×ByteArray) (pl:Int):(jS p pl).size<=p.2.size+2:=by
 unfold jS
 cases decide (p.1<pl) with
 | true=>rw [cond_true,aY,aY];exact by show 1+_+1<=_;omega
 | false=>rw [cond_false];omega
theorem zZ {t:ByteArray} (h:dF t=true):t.size<=20:=by
 unfold dF at h
 simp only [Bool.and_eq_true,decide_eq_true_eq] at h
 omega
theorem kq {k n:Int} {t:ByteArray} {c:Nat} (h:rY k n t c=true) :
 (k=1/\0<=n/\n<=1000000000000000/\c=0/\t=eS)∨(k=2/\t.size<=200/\aQ cJ t 0=t.size/\c=0/\n=0)∨(k=3/\(n=0∨n=1)/\c=0/\t=eS)∨(k=4/\dF t=true/\c=0/\n=0)∨(k=5/\n=0/\t=eS)∨
 (k=6/\dF t=true/\n=0)∨(k=7/\c=2/\n=0/\t=eS)∨(k=8/\(t=BI∨t=IK)/\c=1/\n=0)∨(k=9/\0<rP t/\c=2/\n=0):=by
 unfold rY at h
 simp only [cond_eq_ite,decide_eq_true_eq] at h
 (repeat' split at h) <;> simp only [Bool.and_eq_true,Bool.or_eq_true,decide_eq_true_eq,Bool.false_eq_true] at h <;> grind
theorem WT {k n:Int} {t:ByteArray} {c:Nat} (h:rY k n t c=true):t.size<=200:=by
 have e0:t=eS->t.size<=200:=by rintro rfl;exact Nat.zero_le _
 rcases kq h with h | h | h | h | h | h | h | h | h
 . exact e0 h.2.2.2.2
 . omega
 . exact e0 h.2.2.2
 . have:=zZ h.2.1;omega
 . exact e0 h.2.2
 . have:=zZ h.2.1;omega
 . exact e0 h.2.2.2
 . rcases h.2.1 with rfl | rfl <;> decide
 . have:=Ve h.2.1;omega
theorem fin_n {k n:Int} {t:ByteArray} {c:Nat} (h:rY k n t c=true):-9223372036854775808<=n/\n<=9223372036854775807:=by
 rcases kq h with h | h | h | h | h | h | h | h | h <;> omega
def BR (ps:List (Int×ByteArray)):Nat:=(ps.map fun p=>p.2.size+4).sum
theorem qo (p:Int×ByteArray) (ps:List (Int×ByteArray)):BR (p::ps)=p.2.size+4+BR ps:=by unfold BR;rw [List.map_cons,List.sum_cons]
theorem sumP_2 (ps:List (Int×ByteArray)):(kJ ps 0).2.size+(kJ ps 1).2.size<=BR ps:=by
 match ps with
 | []=>exact Nat.zero_le _
 | [p]=>rw [qo];exact by show p.2.size+0<=_;omega
 | p::q::ps=>rw [qo,qo];exact by show p.2.size+q.2.size<=_;omega
theorem wv (ps:List (Int×ByteArray)) (pl:Int):(cE (ps.map (jS · pl)) kR).size<=BR ps:=by
 refine Nat.le_trans (sZ _ _) ?_
 induction ps with
 | nil=>exact Nat.le_refl _
 | cons p ps ih =>
   have:=jK p pl
   rw [qo,List.map_cons,List.map_cons,List.sum_cons]
   have:kR.size=2:=rfl
   omega
theorem Vg (lv:Int) (t:ByteArray) (a b:Int×ByteArray):(LP lv t a b).size<=a.2.size+b.2.size+t.size+6:=by
 have z6:tCar.size=1:=rfl
 have z7:RD.size=1:=rfl
 unfold LP
 cases decide (lv=8) with
 | true =>
   have h1:=jK a 9
   have h2:=jK b 7
   rw [cond_true,aY,aY];omega
 | false =>
   rw [cond_false]
   cases decide (lv=4) with
   | true =>
     have h1:=jK a (lv+1)
     have h2:=jK b (lv+1)
     rw [cond_true,aY,aY,aY,aY];omega
   | false =>
     have h1:=jK a lv
     have h2:=jK b (lv+1)
     rw [cond_false,aY,aY,aY,aY];omega
theorem Vh {k n:Int} {t:ByteArray} {c:Nat} (h:rY k n t c=true) (ps:List (Int×ByteArray)):(A8 k n t ps).size+4<=BR ps+250:=by
 have h1:=WT h
 have h3:=sumP_2 ps
 rcases kq h with h | h | h | h | h | h | h | h | h <;> obtain ⟨rfl,h⟩:=h
 . have h2:=Vc n ⟨by omega,by omega⟩
   show (JF n).size+4<=_
   omega
 . show (WS++t++WS).size+4<=_
   rw [aY,aY]
   show 1+_+1+4<=_
   omega
 . show (BP (decide (n=1))).size+4<=_
   have hb:(BP (decide (n=1))).size<=5:=by cases decide (n=1) <;> decide
   omega
 . show t.size+4<=_
   omega
 . show (sX++cE (ps.map (jS · 1)) kR++qG).size+4<=_
   have h4:=wv ps 1
   rw [aY,aY]
   show 1+_+1+4<=_
   omega
 . show (t++mV++cE (ps.map (jS · 1)) kR++ku).size+4<=_
   have h4:=wv ps 1
   rw [aY,aY,aY]
   show t.size+1+_+1+4<=_
   omega
 . show (jS (kJ ps 0) 9++sX++jS (kJ ps 1) 1++qG).size+4<=_
   have h5:=jK (kJ ps 0) 9
   have h6:=jK (kJ ps 1) 1
   rw [aY,aY,aY]
   show _+1+_+1+4<=_
   omega
 . show (bif decide (dY 8 t=3) then Vd++jS (kJ ps 0) (dY 8 t) else BI++jS (kJ ps 0) (dY 8 t)).size+4<=_
   have h5:=jK (kJ ps 0) (dY 8 t)
   cases decide (dY 8 t=3) with
   | true=>rw [cond_true,aY];exact by show 4+_+4<=_;omega
   | false=>rw [cond_false,aY];exact by show 1+_+4<=_;omega
 . show (LP (dY 9 t) t (kJ ps 0) (kJ ps 1)).size+4<=_
   have:=Vg (dY 9 t) t (kJ ps 0) (kJ ps 1)
   omega
mutual
theorem Ex.JI:∀ e:Ex,e.fin=true->e.uQ.size+4<=250*e.cB
 | .mk k n t l,h=>by
   rw [Ex.fin,Bool.and_eq_true] at h
   have h1:=Vh h.2 (Ex.ko l)
   have h2:=Ex.BS l h.1
   rw [Ex.JH,Ex.cB]
   omega
theorem Ex.BS:∀ l:List Ex,Ex.jv l=true->BR (Ex.ko l)<=250*Ex.aI l
 | [],_=>by rw [Ex.LQ];exact Nat.zero_le _
 | e::l,h=>by
   rw [Ex.yY,Bool.and_eq_true] at h
   have h1:=Ex.JI e h.1
   have h2:=Ex.BS l h.2
   rw [Ex.BQ,Ex.dU,qo]
   show e.uQ.size+4+_<=_
   omega
end
def oC (k n:Int) (t:ByteArray) (l:List PV) (pl:Int) (m:Nat):Prop :=
 (∃ L,l=Ex.aj L)/\(Ex.mk k n t (bX l)).fin=true/\2*Ex.aI (bX l)+(bif decide (dY k t<pl) then 1 else 0)<m/\Ex.aI (bX l)<=1000000
theorem Db {k n:Int} {t:ByteArray} {L:List Ex} {pl:Int} {m:Nat} (h1:(Ex.mk k n t L).fin=true) (h2:2*Ex.aI L+(bif decide (dY k t<pl) then 1 else 0)<m) (h3:Ex.aI L<=1000000):oC k n t (Ex.aj L) pl m:=by
 unfold oC
 rw [dn]
 exact ⟨⟨_,rfl⟩,h1,h2,h3⟩
def Dc (m:Nat):Prop:=∀ (k n:Int) (t:ByteArray) (L:List Ex) (pl:Int),(Ex.mk k n t L).fin=true->2*Ex.aI L+(bif decide (dY k t<pl) then 1 else 0)<m->Ex.aI L<=1000000->bq Tryz.prog 49 [Jz k n t (Ex.aj L),nI pl,ql] [br] (sS ((Ex.mk k n t L).wr pl)) [br]
noncomputable def LR (m:Nat):cQ:={ cw:=[false,false,true],f:=fun args ai=>match args,ai with
 | [.p (.agg [.int .i64 k,.int .i64 n,.str t,.rs q l]),.p (.c (.int .i64 pl)),.p (.c (.mp 0))],[o]=>bif Nat.beq q 4 then some (.p (o=br/\oC k n t l pl m),sS ((Ex.mk k n t (bX l)).wr pl),[o]) else none
 | _,_=>none }
theorem Dd {m:Nat} (h:Dc m):bF Tryz.prog 49 (LR m):=by
 refine ⟨by kernel_rfl,fun args ai c r aU e hc=>?_⟩
 simp only [LR] at e
 split at e
 . obtain ⟨hb,e1⟩:=ah.ay e
   clear e
   cases Nat.eq_of_beq_eq_true hb
   cases e1
   obtain ⟨rfl,⟨L,rfl⟩,h1,h2,h3⟩:=hc
   rw [dn] at h1 h2 h3 ⊢
   exact h _ _ _ _ _ h1 h2 h3
 . cases e
abbrev y4:Ob:=⟨61,[.c (.mp 2)]⟩
noncomputable def gP1 (m:Nat):bY:=[(49,LR m),(22,FW)]
theorem RG {m:Nat} (h:Dc m):aZ Tryz.prog (gP1 m):=ar (Dd h) (ar BO aF)
noncomputable def sP1 (m:Nat):aX:=eu Tryz.prog (gP1 m) Tryz.f81 3 [([0,1,0,1,1],[1,3,7,8,9])] [] []
def oD (L:List Ex):List ByteArray:=L.map fun e=>e.wr 1
theorem LS (L:List Ex):(oD L).length=L.length:=by unfold oD;rw [List.length_map]
theorem JJ {L:List Ex} (hf:Ex.jv L=true):(cE (oD L) kR).size<=250*Ex.aI L:=by
 have h1:=wv (Ex.ko L) 1
 rw [Ex.Eg] at h1
 exact Nat.le_trans h1 (Ex.BS L hf)
theorem Eh {e:Ex}:∀ {l:List Ex},Ex.jv l=true->e∈l->e.fin=true
 | x::l,h,hm=>by
   rw [Ex.yY,Bool.and_eq_true] at h
   rcases List.mem_cons.1 hm with rfl | hm
   . exact h.1
   . exact Eh h.2 hm
theorem RH {L:List Ex} {i:Nat} (h:i<L.length) (hf:Ex.jv L=true) {m:Nat} (h2:2*Ex.aI L<=m) (h3:Ex.aI L<=1000000) (pl:Int):oC (PV.asInt (.int L[i].k)) (PV.asInt (.int L[i].n)) (PV.bN (.str L[i].t)) (PV.aE (.aW 4 (Ex.aj L[i].l))) pl m:=by
 have m1:=Ex.je (List.getElem_mem h)
 rw [Ex.fE] at m1
 refine Db (L:=L[i].l) ?_ ?_ (by omega)
 . have:=Eh hf (List.getElem_mem h)
   rwa [<-Ex.eta L[i]] at this
 . have:(bif decide (dY (PV.asInt (.int L[i].k)) (PV.bN (.str L[i].t))<pl) then 1 else 0)<=1:=by cases decide (dY (PV.asInt (.int L[i].k)) (PV.bN (.str L[i].t))<pl) <;> decide
   omega
theorem LU {m:Nat} (h:Dc m) (k n:Int) (t:ByteArray) (L:List Ex) (hf:Ex.jv L=true) (h2:2*Ex.aI L<=m) (h3:Ex.aI L<=1000000):∀ (j i:Nat),j=L.length-i->i<=L.length->
 aG (sP1 m) (aV (sS (cE (oD L) kR)) [qJ k n t (Ex.aj L),y4,br]) [0,1,0,1,1] (fr [(1,.p (.c (.ptr 1 0))),(3,.p (.c (.sl 3 0 i 1))),(7,WQ L),(8,nI L.length),(9,nI i)]) (.ofList [qJ k n t (Ex.aj L),y4,br,⟨9,[.a 0 .str (oD (L.take i))]⟩])
 | j,i,hj,hi=>by
   refine bZ (RG h) (by kernel_rfl) 200 ?_
   apply of_eq (q:=let q1:=(List.drop (0:Nat) (oD (List.take i L)));let q2:=(Ex.aj L);let q3:=(cE (List.take i q1) (ByteArray.mk #[(44:UInt8),(32:UInt8)]));let q4:=Ob.mk 51 [fI k,fI n,Fd.c (W.str t),Fd.c (W.rs (4:Nat) q2)];(decide ((i:Int)<(L.length:Int))=true->((0:Int)<=(i:Int)/\i*4<q2.length)/\i*4+4<=q2.length/\(PV.int (0:Int)).like (q2.getD (i*4) (PV.bool false))=true/\(PV.int (0:Int)).like (q2.getD (i*4+1) (PV.bool false))=true/\(PV.str (ByteArray.mk #[])).like (q2.getD (i*4+1+1) (PV.bool false))=true/\(PV.aW (4:Nat) []).like (q2.getD (i*4+1+1+1) (PV.bool false))=true/\(Ob.mk 61 [Fd.m D.str (D.int .i64) ct]=br/\oC (q2.getD (i*4) (PV.bool false)).asInt (q2.getD (i*4+1) (PV.bool false)).asInt (q2.getD (i*4+1+1) (PV.bool false)).bN (q2.getD (i*4+1+1+1) (PV.bool false)).aE (1:Int) m)/\(0:Nat)+1<=1/\((0:Nat)+i<=(oD (List.take i L)).length/\(i+1)*16<=140737488355328)/\aG (sP1 m) (aV (sS (cE (oD L) kR)) [qJ k n t q2,y4,br]) [0,1,0,1,1] (fr [(1,aR 1 0),(3,aS 3 0 (i+1)),(7,aP (W.rs (4:Nat) q2)),(8,nI (L.length:Int)),(9,nI (IntKind.i64.wrap ((i:Int)+1)))]) (af.ofList [q4,Ob.mk 61 [Fd.c (W.mp (2:Nat))],Ob.mk 61 [Fd.m D.str (D.int .i64) ct],Ob.mk 9 [Fd.a 0 D.str (List.take i q1++List.take (1:Nat) (List.drop (0:Nat) [(Ex.mk (q2.getD (i*4) (PV.bool false)).asInt (q2.getD (i*4+1) (PV.bool false)).asInt (q2.getD (i*4+1+1) (PV.bool false)).bN (bX (q2.getD (i*4+1+1+1) (PV.bool false)).aE)).wr (1:Int)]))]]))/\(decide ((i:Int)<(L.length:Int))=false->(0:Nat)+i<=(oD (List.take i L)).length/\((List.take i q1).length<=1000000/\q3.size<=10000000000000)/\ax [V.c (W.str q3)]=sS (cE (oD L) kR)/\[q4,Ob.mk 61 [Fd.c (W.mp (2:Nat))],Ob.mk 61 [Fd.m D.str (D.int .i64) ct]]=[qJ k n t q2,y4,br])) (by kernel_rfl)
   try simp only [sL]
   have bO:=Ex.jd L
   have ZI:(oD (L.take i)).length=i:=by rw [LS,List.length_take];omega
   rw [List.take_of_length_le (Nat.le_of_eq ZI)]
   refine ⟨fun h1=>?_,fun h1=>?_⟩
   . have h1:i<L.length:=by omega
     have hC:=RH h1 hf h2 h3 1
     have g1:i*4+4<=(Ex.aj L).length:=by rw [Ex.dD];omega
     rw [A3 h1,tL h1,A4 h1,A5 h1,Ex.tM,wrap64 (n:=(i:Int)+1) (by omega) (by omega)]
     refine ⟨⟨by omega,by omega⟩,g1,rfl,rfl,rfl,rfl,hC,⟨by omega,by omega⟩,?_⟩
     cases j with
     | zero=>omega
     | succ j =>
       have ih:=LU h k n t L hf h2 h3 j (i+1) (by omega) (by omega)
       have e:oD (L.take (i+1))=oD (L.take i)++[L[i].wr 1]:=by unfold oD;rw [List.take_succ_eq_append_getElem h1,List.map_append];rfl
       rw [e] at ih
       exact ih
   . have e:L.take i=L:=List.take_of_length_le (by omega)
     have:(cE (oD L) ⟨#[44,32]⟩).size<=250*Ex.aI L:=JJ hf
     rw [e,LS]
     exact ⟨by omega,⟨by omega,by omega⟩,rfl⟩
theorem p1_sem {m:Nat} (h:Dc m) (k n:Int) (t:ByteArray) (L:List Ex) (hf:Ex.jv L=true) (h2:2*Ex.aI L<=m) (h3:Ex.aI L<=1000000) :
 bq Tryz.prog 81 [.p (.c (.ptr 0 0)),.p (.c (.ptr 1 0))] [qJ k n t (Ex.aj L),y4,br] (sS (cE (oD L) kR)) [qJ k n t (Ex.aj L),y4,br]:=by
 refine bh (aJ:=[([0,1,0,1,1],[1,3,7,8,9])]) (RG h) Tryz.func81 (by kernel_rfl) (ak:=3) rfl (by kernel_rfl) 200 ?_
 apply of_eq (q:=aG (cX Tryz.prog (gP1 m) Tryz.f81 (3:Nat) [([0,1,0,1,1],[1,3,7,8,9])]) (aV (sS (cE (oD L) kR)) [qJ k n t (Ex.aj L),y4,br]) [0,1,0,1,1] (fr [(1,aR 1 0),(3,aS 3 0 0),(7,aP (W.rs (4:Nat) (Ex.aj L))),(8,nI (↑((Ex.aj L).length / 4):Int)),(9,nI (0))]) (af.ofList [Ob.mk 51 [fI k,fI n,Fd.c (W.str t),Fd.c (W.rs (4:Nat) (Ex.aj L))],Ob.mk 61 [Fd.c (W.mp (2:Nat))],Ob.mk 61 [Fd.m D.str (D.int .i64) ct],Ob.mk 9 [Fd.a 0 D.str []]])) (by kernel_rfl)
 try simp only [sL,Int.reduceEq,Int.reduceNe,Nat.reduceAdd]
 rw [LC]
 exact LU h k n t L hf h2 h3 (L.length-0) 0 rfl (by omega)
noncomputable def cPt (m:Nat):cQ:={ cw:=[true,true],f:=fun args ai=>match args,ai with
 | [.p (.c (.ptr 0 0)),.p (.c (.ptr 1 0))],[⟨ty,[.c (.int .i64 k),.c (.int .i64 n),.c (.str t),.c (.rs q l)]⟩,⟨ty2,[.c (.mp 2)]⟩,o]=>bif Nat.beq q 4&&Nat.beq ty 51&&Nat.beq ty2 61 then some (.p (o=br/\(∃ L,l=Ex.aj L)/\Ex.jv (bX l)=true/\2*Ex.aI (bX l)<=m/\Ex.aI (bX l)<=1000000),sS (cE (oD (bX l)) kR),[qJ k n t l,y4,o]) else none
 | _,_=>none }
theorem cPt_ok {m:Nat} (h:Dc m):bF Tryz.prog 81 (cPt m):=by
 refine ⟨by kernel_rfl,fun args ai c r aU e hc=>?_⟩
 simp only [cPt] at e
 split at e
 . obtain ⟨hb,e1⟩:=ah.ay e
   clear e
   simp only [Bool.and_eq_true,Nat.beq_eq] at hb
   obtain ⟨⟨rfl,rfl⟩,rfl⟩:=hb
   cases e1
   obtain ⟨rfl,⟨L,rfl⟩,h1,h2,h3⟩:=hc
   rw [dn] at h1 h2 h3 ⊢
   exact p1_sem h _ _ _ _ h1 h2 h3
 . cases e
noncomputable def WU (m:Nat):bY:=[(49,LR m),(80,JG),(81,cPt m),(82,cItB),(83,cFoB)]
theorem gWt_ok {m:Nat} (h:Dc m):aZ Tryz.prog (WU m):=ar (Dd h) (ar RB (ar (cPt_ok h) (ar Yc (ar Ye aF))))
theorem lv_le (t:ByteArray):rP t<=8:=by
 have key:∀ l:List (ByteArray×Int),(∀ p∈l,p.2<=8)->dW .str (.int .i64) l t<=8:=by
  intro l
  induction l with
  | nil=>intro _;exact by show (0:Int)<=8;omega
  | cons p l ih =>
    intro h
    have i1:=h p (List.mem_cons_self ..)
    have i2:=ih fun q hq=>h q (List.mem_cons_of_mem _ hq)
    obtain ⟨a,b⟩:=p
    unfold dW oo at i2 ⊢
    unfold oo
    cases D.kY .str t a with
    | true=>exact i1
    | false=>exact i2
 exact key D3 (by decide)
theorem WV {k n:Int} {t:ByteArray} {L:List Ex} {pl:Int} (h:pl<=dY k t):(Ex.mk k n t L).wr pl=A8 k n t (Ex.ko L):=by
 have e:(Ex.mk k n t L).wr pl=bif decide (dY k t<pl) then mV++(Ex.mk k n t L).uQ++ku else (Ex.mk k n t L).uQ:=rfl
 rw [e,decide_eq_false (by omega),cond_false,Ex.JH]
theorem wr_lt {k n:Int} {t:ByteArray} {L:List Ex} {pl:Int} (h:dY k t<pl):(Ex.mk k n t L).wr pl=mV++A8 k n t (Ex.ko L)++ku:=by
 have e:(Ex.mk k n t L).wr pl=bif decide (dY k t<pl) then mV++(Ex.mk k n t L).uQ++ku else (Ex.mk k n t L).uQ:=rfl
 rw [e,decide_eq_true h,cond_true,Ex.JH]
theorem z8 (e:Ex) (h:e.fin=true) (pl:Int):(e.wr pl).size<=250*e.cB:=by
 have h1:=Ex.JI e h
 have h2:(e.wr pl).size<=e.uQ.size+2:=jK _ pl
 omega
theorem Yf {k n:Int} {t:ByteArray} {c:Nat} (h:rY k n t c=true):1<=dY k t:=by
 rcases kq h with g | g | g | g | g | g | g | g | g <;> obtain ⟨rfl,g⟩:=g
 all_goals first
  | (show (1:Int)<=10;omega)
  | (show (1:Int)<=9;omega)
  | exact g.1
  | (rcases g.1 with rfl | rfl <;> decide)
theorem oT (c:UInt8):(ByteArray.mk #[c]).size=1:=rfl
theorem A9 (a b c d:UInt8):(ByteArray.mk #[a,b,c,d]).size=4:=rfl
theorem Yg (m:Nat) (h:Dc m):Dc (m+1):=by
 intro k n t L pl hf hm hl
 refine bh (aJ:=[]) (gWt_ok h) Tryz.func49 (by kernel_rfl) (ak:=1) rfl (by kernel_rfl) 400 ?_
 apply of_eq (q:=let q2:=(Ex.aj L);let q5:=(0:Nat);let q9:=Ob.mk 61 [Fd.m D.str (D.int .i64) ct]=br;let bE:=[Ob.mk 61 [Fd.m D.str (D.int .i64) ct]]=[br];let bV:=(q5*4+1+1+1);let cN:=(1:Nat);let bP:=(q5*4+1+1);let dX:=(IntKind.i64.wrap (dY k t+1));let eP:=((Ex.mk k n t L).wr pl);let dO:=(PV.aW (4:Nat) []).like (q2.getD bV (PV.bool false))=true;let bW:=cN*4+4<=q2.length;let d9:=(cN*4+1+1+1);let cL:=(q5*4+1);let fQ:=(cN*4+1+1);let jQ:=(∃ qj,Ex.aj L=Ex.aj qj)/\Ex.jv (bX q2)=true/\(2:Nat)*Ex.aI (bX q2)<=m/\Ex.aI (bX q2)<=1000000;let gC:=(cN*4+1);let fR:=(q5*4);let iX:=q5*4+4<=q2.length;let gD:=(32:UInt8);let fW:=(cN*4);let jc:=q5*4<q2.length;let eK:=(0:Int);let iO:=(Cd.t.and Cd.t);let iN:=(dY k t);let mJ:=(oD (bX q2));let q3:=(PV.str (ByteArray.mk #[])).like (q2.getD fQ (PV.bool false))=true;let q4:=(PV.aW (4:Nat) []).like (q2.getD d9 (PV.bool false))=true;let q6:=(PV.int eK).like (q2.getD gC (PV.bool false))=true;let q7:=(PV.int eK).like (q2.getD fW (PV.bool false))=true;let q8:=(R1.pure iO (aP (W.rs (4:Nat) q2))).v=(R1.pure iO (aP (W.rs (4:Nat) q2))).v;let aM:=(R1.pure iO (aP (W.str t))).v=(R1.pure iO (aP (W.str t))).v;let bg:=(R1.pure iO (aP (W.mp q5))).v=(R1.pure iO (aP (W.mp q5))).v;let dx:=(PV.str (ByteArray.mk #[])).like (q2.getD bP (PV.bool false))=true;let eO:=(PV.int eK).like (q2.getD cL (PV.bool false))=true;let fu:=(PV.int eK).like (q2.getD fR (PV.bool false))=true;let jI:=((Ex.mk (q2.getD fR (PV.bool false)).asInt (q2.getD cL (PV.bool false)).asInt (q2.getD bP (PV.bool false)).bN (bX (q2.getD bV (PV.bool false)).aE)).wr (9:Int)).size+1<=9223372036854775807;let kP:=(A.p (V.agg (lS q2 fW (shapes ((cX Tryz.prog (WU m) Tryz.f49 cN []).env (aV (sS eP) [br])).P (51:Nat))).snd));let q1:=(R1.pure (Cd.t.and ((Cd.p (bW)).and (lS q2 fW (shapes ((cX Tryz.prog (WU m) Tryz.f49 cN []).env (aV (sS eP) [br])).P (51:Nat))).fst)) kP).v=(R1.pure (Cd.t.and ((Cd.p (bW)).and (lS q2 fW (shapes ((cX Tryz.prog (WU m) Tryz.f49 cN []).env (aV (sS eP) [br])).P (51:Nat))).fst)) kP).v;q9/\(decide (dY k t<pl)=true->(q9/\oC k n t q2 (1:Int) m)/\cN+((Ex.mk k n t (bX q2)).wr (1:Int)).size<=9223372036854775807/\(ByteArray.mk #[(40:UInt8)]++(Ex.mk k n t (bX q2)).wr (1:Int)).size+1<=9223372036854775807/\ax [V.c (W.str (ByteArray.mk #[(40:UInt8)]++(Ex.mk k n t (bX q2)).wr (1:Int)++ByteArray.mk #[(41:UInt8)]))]=sS eP/\bE)/\(decide (dY k t<pl)=false->(decide (k=1)=true->((-9223372036854775808:Int)<=n/\n<=9223372036854775807)/\ax [V.c (W.str (JF n))]=sS eP/\bE)/\(decide (k=1)=false->(decide (k=2)=true->cN+t.size<=9223372036854775807/\(ByteArray.mk #[(34:UInt8)]++t).size+1<=9223372036854775807/\ax [V.c (W.str (ByteArray.mk #[(34:UInt8)]++t++ByteArray.mk #[(34:UInt8)]))]=sS eP/\bE)/\(decide (k=2)=false->(decide (k=3)=true->ax [V.c (W.str (BP (decide (n=1))))]=sS eP/\bE)/\(decide (k=3)=false->(decide (k=5)=true->(q9/\jQ)/\cN+(cE mJ kR).size<=9223372036854775807/\(ByteArray.mk #[(91:UInt8)]++cE mJ kR).size+1<=9223372036854775807/\ax [V.c (W.str (ByteArray.mk #[(91:UInt8)]++cE mJ kR++ByteArray.mk #[(93:UInt8)]))]=sS eP/\bE)/\(decide (k=5)=false->(decide (k=6)=true->t.size+1<=9223372036854775807/\(q9/\jQ)/\(t++ByteArray.mk #[(40:UInt8)]).size+(cE mJ kR).size<=9223372036854775807/\(t++ByteArray.mk #[(40:UInt8)]++cE mJ kR).size+1<=9223372036854775807/\aM/\aM/\ax [V.c (W.str (t++ByteArray.mk #[(40:UInt8)]++cE mJ kR++ByteArray.mk #[(41:UInt8)]))]=sS eP/\bE)/\(decide (k=6)=false->(decide (k=7)=true->(eK<=0/\jc)/\iX/\fu/\eO/\dx/\dO/\(q9/\oC (q2.getD fR (PV.bool false)).asInt (q2.getD cL (PV.bool false)).asInt (q2.getD bP (PV.bool false)).bN (q2.getD bV (PV.bool false)).aE (9:Int) m)/\jI/\(eK<=1/\cN*4<q2.length)/\bW/\q7/\q6/\q3/\q4/\(q9/\oC (q2.getD fW (PV.bool false)).asInt (q2.getD gC (PV.bool false)).asInt (q2.getD fQ (PV.bool false)).bN (q2.getD d9 (PV.bool false)).aE (1:Int) m)/\((Ex.mk (q2.getD fR (PV.bool false)).asInt (q2.getD cL (PV.bool false)).asInt (q2.getD bP (PV.bool false)).bN (bX (q2.getD bV (PV.bool false)).aE)).wr (9:Int)++ByteArray.mk #[(91:UInt8)]).size+((Ex.mk (q2.getD fW (PV.bool false)).asInt (q2.getD gC (PV.bool false)).asInt (q2.getD fQ (PV.bool false)).bN (bX (q2.getD d9 (PV.bool false)).aE)).wr (1:Int)).size<=9223372036854775807/\((Ex.mk (q2.getD fR (PV.bool false)).asInt (q2.getD cL (PV.bool false)).asInt (q2.getD bP (PV.bool false)).bN (bX (q2.getD bV (PV.bool false)).aE)).wr (9:Int)++ByteArray.mk #[(91:UInt8)]++(Ex.mk (q2.getD fW (PV.bool false)).asInt (q2.getD gC (PV.bool false)).asInt (q2.getD fQ (PV.bool false)).bN (bX (q2.getD d9 (PV.bool false)).aE)).wr (1:Int)).size+1<=9223372036854775807/\q8/\q8/\bW/\q7/\q6/\q3/\q4/\q1/\bW/\q7/\q6/\q3/\q4/\q1/\bg/\bg/\ax [V.c (W.str ((Ex.mk (q2.getD fR (PV.bool false)).asInt (q2.getD cL (PV.bool false)).asInt (q2.getD bP (PV.bool false)).bN (bX (q2.getD bV (PV.bool false)).aE)).wr (9:Int)++ByteArray.mk #[(91:UInt8)]++(Ex.mk (q2.getD fW (PV.bool false)).asInt (q2.getD gC (PV.bool false)).asInt (q2.getD fQ (PV.bool false)).bN (bX (q2.getD d9 (PV.bool false)).aE)).wr (1:Int)++ByteArray.mk #[(93:UInt8)]))]=sS eP/\bE)/\(decide (k=7)=false->(decide (k=8)=true->(decide (dY k t=3)=true->(eK<=0/\jc)/\iX/\fu/\eO/\dx/\dO/\(q9/\oC (q2.getD fR (PV.bool false)).asInt (q2.getD cL (PV.bool false)).asInt (q2.getD bP (PV.bool false)).bN (q2.getD bV (PV.bool false)).aE iN m)/\(4:Nat)+((Ex.mk (q2.getD fR (PV.bool false)).asInt (q2.getD cL (PV.bool false)).asInt (q2.getD bP (PV.bool false)).bN (bX (q2.getD bV (PV.bool false)).aE)).wr iN).size<=9223372036854775807/\ax [V.c (W.str (ByteArray.mk #[(110:UInt8),(111:UInt8),(116:UInt8),gD]++(Ex.mk (q2.getD fR (PV.bool false)).asInt (q2.getD cL (PV.bool false)).asInt (q2.getD bP (PV.bool false)).bN (bX (q2.getD bV (PV.bool false)).aE)).wr iN))]=sS eP/\bE)/\(decide (dY k t=3)=false->(eK<=0/\jc)/\iX/\fu/\eO/\dx/\dO/\(q9/\oC (q2.getD fR (PV.bool false)).asInt (q2.getD cL (PV.bool false)).asInt (q2.getD bP (PV.bool false)).bN (q2.getD bV (PV.bool false)).aE iN m)/\cN+((Ex.mk (q2.getD fR (PV.bool false)).asInt (q2.getD cL (PV.bool false)).asInt (q2.getD bP (PV.bool false)).bN (bX (q2.getD bV (PV.bool false)).aE)).wr iN).size<=9223372036854775807/\ax [V.c (W.str (ByteArray.mk #[(45:UInt8)]++(Ex.mk (q2.getD fR (PV.bool false)).asInt (q2.getD cL (PV.bool false)).asInt (q2.getD bP (PV.bool false)).bN (bX (q2.getD bV (PV.bool false)).aE)).wr iN))]=sS eP/\bE))/\(decide (k=8)=false->(decide (k=9)=true->(decide (dY k t=8)=true->(eK<=0/\jc)/\iX/\fu/\eO/\dx/\dO/\(q9/\oC (q2.getD fR (PV.bool false)).asInt (q2.getD cL (PV.bool false)).asInt (q2.getD bP (PV.bool false)).bN (q2.getD bV (PV.bool false)).aE (9:Int) m)/\jI/\(eK<=1/\cN*4<q2.length)/\bW/\q7/\q6/\q3/\q4/\(q9/\oC (q2.getD fW (PV.bool false)).asInt (q2.getD gC (PV.bool false)).asInt (q2.getD fQ (PV.bool false)).bN (q2.getD d9 (PV.bool false)).aE (7:Int) m)/\((Ex.mk (q2.getD fR (PV.bool false)).asInt (q2.getD cL (PV.bool false)).asInt (q2.getD bP (PV.bool false)).bN (bX (q2.getD bV (PV.bool false)).aE)).wr (9:Int)++ByteArray.mk #[(94:UInt8)]).size+((Ex.mk (q2.getD fW (PV.bool false)).asInt (q2.getD gC (PV.bool false)).asInt (q2.getD fQ (PV.bool false)).bN (bX (q2.getD d9 (PV.bool false)).aE)).wr (7:Int)).size<=9223372036854775807/\q8/\q8/\bW/\q7/\q6/\q3/\q4/\q1/\bW/\q7/\q6/\q3/\q4/\q1/\bg/\bg/\ax [V.c (W.str ((Ex.mk (q2.getD fR (PV.bool false)).asInt (q2.getD cL (PV.bool false)).asInt (q2.getD bP (PV.bool false)).bN (bX (q2.getD bV (PV.bool false)).aE)).wr (9:Int)++ByteArray.mk #[(94:UInt8)]++(Ex.mk (q2.getD fW (PV.bool false)).asInt (q2.getD gC (PV.bool false)).asInt (q2.getD fQ (PV.bool false)).bN (bX (q2.getD d9 (PV.bool false)).aE)).wr (7:Int)))]=sS eP/\bE)/\(decide (dY k t=8)=false->(decide (dY k t=4)=true->(eK<=0/\jc)/\iX/\fu/\eO/\dx/\dO/\(q9/\oC (q2.getD fR (PV.bool false)).asInt (q2.getD cL (PV.bool false)).asInt (q2.getD bP (PV.bool false)).bN (q2.getD bV (PV.bool false)).aE dX m)/\((Ex.mk (q2.getD fR (PV.bool false)).asInt (q2.getD cL (PV.bool false)).asInt (q2.getD bP (PV.bool false)).bN (bX (q2.getD bV (PV.bool false)).aE)).wr dX).size+1<=9223372036854775807/\((Ex.mk (q2.getD fR (PV.bool false)).asInt (q2.getD cL (PV.bool false)).asInt (q2.getD bP (PV.bool false)).bN (bX (q2.getD bV (PV.bool false)).aE)).wr dX++ByteArray.mk #[gD]).size+t.size<=9223372036854775807/\((Ex.mk (q2.getD fR (PV.bool false)).asInt (q2.getD cL (PV.bool false)).asInt (q2.getD bP (PV.bool false)).bN (bX (q2.getD bV (PV.bool false)).aE)).wr dX++ByteArray.mk #[gD]++t).size+1<=9223372036854775807/\(eK<=1/\cN*4<q2.length)/\bW/\q7/\q6/\q3/\q4/\(q9/\oC (q2.getD fW (PV.bool false)).asInt (q2.getD gC (PV.bool false)).asInt (q2.getD fQ (PV.bool false)).bN (q2.getD d9 (PV.bool false)).aE dX m)/\((Ex.mk (q2.getD fR (PV.bool false)).asInt (q2.getD cL (PV.bool false)).asInt (q2.getD bP (PV.bool false)).bN (bX (q2.getD bV (PV.bool false)).aE)).wr dX++ByteArray.mk #[gD]++t++ByteArray.mk #[gD]).size+((Ex.mk (q2.getD fW (PV.bool false)).asInt (q2.getD gC (PV.bool false)).asInt (q2.getD fQ (PV.bool false)).bN (bX (q2.getD d9 (PV.bool false)).aE)).wr dX).size<=9223372036854775807/\aM/\aM/\aM/\q8/\q8/\bW/\q7/\q6/\q3/\q4/\q1/\bW/\q7/\q6/\q3/\q4/\q1/\bg/\bg/\ax [V.c (W.str ((Ex.mk (q2.getD fR (PV.bool false)).asInt (q2.getD cL (PV.bool false)).asInt (q2.getD bP (PV.bool false)).bN (bX (q2.getD bV (PV.bool false)).aE)).wr dX++ByteArray.mk #[gD]++t++ByteArray.mk #[gD]++(Ex.mk (q2.getD fW (PV.bool false)).asInt (q2.getD gC (PV.bool false)).asInt (q2.getD fQ (PV.bool false)).bN (bX (q2.getD d9 (PV.bool false)).aE)).wr dX))]=sS eP/\bE)/\(decide (dY k t=4)=false->(eK<=0/\jc)/\iX/\fu/\eO/\dx/\dO/\(q9/\oC (q2.getD fR (PV.bool false)).asInt (q2.getD cL (PV.bool false)).asInt (q2.getD bP (PV.bool false)).bN (q2.getD bV (PV.bool false)).aE iN m)/\((Ex.mk (q2.getD fR (PV.bool false)).asInt (q2.getD cL (PV.bool false)).asInt (q2.getD bP (PV.bool false)).bN (bX (q2.getD bV (PV.bool false)).aE)).wr iN).size+1<=9223372036854775807/\((Ex.mk (q2.getD fR (PV.bool false)).asInt (q2.getD cL (PV.bool false)).asInt (q2.getD bP (PV.bool false)).bN (bX (q2.getD bV (PV.bool false)).aE)).wr iN++ByteArray.mk #[gD]).size+t.size<=9223372036854775807/\((Ex.mk (q2.getD fR (PV.bool false)).asInt (q2.getD cL (PV.bool false)).asInt (q2.getD bP (PV.bool false)).bN (bX (q2.getD bV (PV.bool false)).aE)).wr iN++ByteArray.mk #[gD]++t).size+1<=9223372036854775807/\(eK<=1/\cN*4<q2.length)/\bW/\q7/\q6/\q3/\q4/\(q9/\oC (q2.getD fW (PV.bool false)).asInt (q2.getD gC (PV.bool false)).asInt (q2.getD fQ (PV.bool false)).bN (q2.getD d9 (PV.bool false)).aE dX m)/\((Ex.mk (q2.getD fR (PV.bool false)).asInt (q2.getD cL (PV.bool false)).asInt (q2.getD bP (PV.bool false)).bN (bX (q2.getD bV (PV.bool false)).aE)).wr iN++ByteArray.mk #[gD]++t++ByteArray.mk #[gD]).size+((Ex.mk (q2.getD fW (PV.bool false)).asInt (q2.getD gC (PV.bool false)).asInt (q2.getD fQ (PV.bool false)).bN (bX (q2.getD d9 (PV.bool false)).aE)).wr dX).size<=9223372036854775807/\aM/\aM/\aM/\q8/\q8/\bW/\q7/\q6/\q3/\q4/\q1/\bW/\q7/\q6/\q3/\q4/\q1/\bg/\bg/\ax [V.c (W.str ((Ex.mk (q2.getD fR (PV.bool false)).asInt (q2.getD cL (PV.bool false)).asInt (q2.getD bP (PV.bool false)).bN (bX (q2.getD bV (PV.bool false)).aE)).wr iN++ByteArray.mk #[gD]++t++ByteArray.mk #[gD]++(Ex.mk (q2.getD fW (PV.bool false)).asInt (q2.getD gC (PV.bool false)).asInt (q2.getD fQ (PV.bool false)).bN (bX (q2.getD d9 (PV.bool false)).aE)).wr dX))]=sS eP/\bE)))/\(decide (k=9)=false->ax [V.c (W.str t)]=sS eP/\bE)))))))))) (by kernel_rfl)
 try simp only [sL]
 rw [Ex.fin,Bool.and_eq_true] at hf
 obtain ⟨hF,h1⟩:=hf
 rw [dn]
 have hl0:=Yf h1
 have hs:∀ (i:Nat) (h:i<L.length) (pl:Int),(L[i].wr pl).size<=250000000:=by
  intro i h pl
  have a:=z8 L[i] (Eh hF (List.getElem_mem h)) pl
  have b:=Ex.je (List.getElem_mem h)
  omega
 have hJ:=JJ hF
 have ht:=WT h1
 refine ⟨fun hp=>?_,fun hp=>?_⟩
 . rw [decide_eq_true hp,cond_true] at hm
   have hC:oC k n t (Ex.aj L) 1 m:=Db (by rw [Ex.fin,hF,h1];rfl) (by rw [decide_eq_false (by omega),cond_false];omega) hl
   have hz:=z8 (Ex.mk k n t L) (by rw [Ex.fin,hF,h1];rfl) 1
   rw [Ex.cB] at hz
   rw [wr_lt hp]
   rw [WV hl0] at hz ⊢
   refine ⟨hC,by omega,by rw [aY,oT];omega,rfl⟩
 . rw [decide_eq_false (by omega),cond_false] at hm
   rw [WV hp]
   have hC:=fun (i:Nat) (h:i<L.length) pl=>RH h hF (m:=m) (by omega) hl pl
   refine ⟨fun h=>?_,fun n1=>⟨fun h=>?_,fun n2=>⟨fun h=>?_,fun n3=>⟨fun h=>?_,fun n5=>⟨fun h=>?_,fun n6=>⟨fun h=>?_,fun n7=>⟨fun h=>?_,fun n8=>⟨fun h=>?_,fun n9=>?_⟩⟩⟩⟩⟩⟩⟩⟩
   . subst h;exact ⟨fin_n h1,rfl⟩
   . subst h;exact ⟨by omega,by rw [aY,oT];omega,rfl⟩
   . subst h;rfl
   . subst h
     refine ⟨⟨⟨_,rfl⟩,hF,by omega,hl⟩,by omega,by rw [aY,oT];omega,?_⟩
     have:A8 5 n t (Ex.ko L)=sX++cE ((Ex.ko L).map (jS · 1)) kR++qG:=rfl
     rw [this,Ex.Eg];rfl
   . subst h
     refine ⟨by omega,⟨⟨_,rfl⟩,hF,by omega,hl⟩,by rw [aY,oT];omega,by rw [aY,aY,oT];omega,?_⟩
     have:A8 6 n t (Ex.ko L)=t++mV++cE ((Ex.ko L).map (jS · 1)) kR++ku:=rfl
     rw [this,Ex.Eg];rfl
   . subst h
     have hc:L.length=2:=by rcases kq h1 with g | g | g | g | g | g | g | g | g <;> omega
     have l0:0<L.length:=by omega
     have l1:1<L.length:=by omega
     have q0:=hs 0 l0 9
     have q1:=hs 1 l1 1
     rw [A3 l0,tL l0,A4 l0,A5 l0,A3 l1,tL l1,A4 l1,A5 l1,Ex.tM,Ex.tM]
     have hE:A8 7 n t (Ex.ko L)=jS (kJ (Ex.ko L) 0) 9++sX++jS (kJ (Ex.ko L) 1) 1++qG:=rfl
     rw [hE,Ex.qm l0,Ex.qm l1]
     have hp:=Ex.dD L
     (repeat' first | exact hC 0 l0 9 | exact hC 1 l1 1 | apply And.intro) <;> first | rfl | omega | (simp only [aY,oT];omega)
   . subst h
     have hc:L.length=1:=by rcases kq h1 with g | g | g | g | g | g | g | g | g <;> omega
     have l0:0<L.length:=by omega
     have q0:=hs 0 l0 (dY 8 t)
     rw [A3 l0,tL l0,A4 l0,A5 l0,Ex.tM]
     have hE:A8 8 n t (Ex.ko L)=bif decide (dY 8 t=3) then Vd++jS (kJ (Ex.ko L) 0) (dY 8 t) else BI++jS (kJ (Ex.ko L) 0) (dY 8 t):=rfl
     rw [hE,Ex.qm l0]
     have hp:=Ex.dD L
     refine ⟨fun h=>?_,fun h=>?_⟩
     . rw [decide_eq_true h,cond_true]
       rw [h] at q0 ⊢
       (repeat' first | exact hC 0 l0 3 | apply And.intro) <;> first | rfl | omega | (simp only [aY,oT,A9];omega)
     . rw [decide_eq_false h,cond_false]
       (repeat' first | exact hC 0 l0 (dY 8 t) | apply And.intro) <;> first | rfl | omega | (simp only [aY,oT,A9];omega)
   . subst h
     have hc:L.length=2:=by rcases kq h1 with g | g | g | g | g | g | g | g | g <;> omega
     have hv:dY 9 t=rP t:=rfl
     have hvb:dY 9 t<=8:=lv_le t
     have l0:0<L.length:=by omega
     have l1:1<L.length:=by omega
     have hp:=Ex.dD L
     rw [A3 l0,tL l0,A4 l0,A5 l0,A3 l1,tL l1,A4 l1,A5 l1,Ex.tM,Ex.tM,wrap64 (n:=dY 9 t+1) (by omega) (by omega)]
     have hE:A8 9 n t (Ex.ko L)=LP (dY 9 t) t (kJ (Ex.ko L) 0) (kJ (Ex.ko L) 1):=rfl
     rw [hE]
     unfold LP
     rw [Ex.qm l0,Ex.qm l0,Ex.qm l0,Ex.qm l1,Ex.qm l1]
     refine ⟨fun h=>?_,fun h8=>⟨fun h=>?_,fun h=>?_⟩⟩
     . rw [decide_eq_true h,cond_true]
       have q0:=hs 0 l0 9
       have q1:=hs 1 l1 7
       (repeat' first | exact hC 0 l0 9 | exact hC 1 l1 7 | apply And.intro) <;> first | rfl | omega | (simp only [aY,oT];omega)
     . rw [decide_eq_false h8,cond_false,decide_eq_true h,cond_true]
       have q0:=hs 0 l0 (dY 9 t+1)
       have q1:=hs 1 l1 (dY 9 t+1)
       (repeat' first | exact hC 0 l0 _ | exact hC 1 l1 _ | apply And.intro) <;> first | rfl | omega | (simp only [aY,oT];omega)
     . rw [decide_eq_false h8,cond_false,decide_eq_false h,cond_false]
       have q0:=hs 0 l0 (dY 9 t)
       have q1:=hs 1 l1 (dY 9 t+1)
       (repeat' first | exact hC 0 l0 _ | exact hC 1 l1 _ | apply And.intro) <;> first | rfl | omega | (simp only [aY,oT];omega)
   . rcases kq h1 with g | g | g | g | g | g | g | g | g <;> first | omega | (obtain ⟨rfl,g⟩:=g;rfl)
theorem JK:∀ m,Dc m
 | 0=>fun k n t L pl _ h=>by omega
 | m+1=>Yg m (JK m)
end Go.Proofs.YtelpmhfdbdihfaaGreatDoor
