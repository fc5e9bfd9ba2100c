/- Programs that are equal but for lines: the program's Same. -/
import Derived.Test.YtelpmhfdbdihfaaGreatDoorBlank1
import Derived.Test.YtelpmhfdbdihfaaGreatDoorLoom4
namespace Go.Proofs.YtelpmhfdbdihfaaGreatDoor
open Go.aT Go.RowKit
set_option maxRecDepth 100000
noncomputable def sEq:aX:=cX Tryz.prog [] Tryz.f33 0 [([0,1,0,1,1],[0,1,12,13])]
theorem J1 (l m:List ByteArray) (hl:l.length<=1000000/\m.length=l.length):∀ (k i:Nat),k=l.length-i->i<=l.length->aG sEq (aV (bB (decide (l.drop i=m.drop i))) []) [0,1,0,1,1] (fr [(0,lC l),(1,lC m),(12,nI l.length),(13,nI i)]) (.ofList [])
 | k, i, hk, hi => by
   refine bZ aF (by kernel_rfl) 100 ?_
   apply of_eq (q:=let q1:=decide (List.drop i l=List.drop i m);let q2:=decide (l.getD i (ByteArray.mk #[])=m.getD i (ByteArray.mk #[]));(decide ((i:Int)<(l.length:Int))=true->((0:Int)<=(i:Int)/\(i:Int)<(l.length:Int))/\i<l.length/\((0:Int)<=(i:Int)/\(i:Int)<(m.length:Int))/\i<m.length/\((!q2)=true->ax [vB false]=bB (q1)/\([]:List Ob)=[])/\((!q2)=false->aG sEq (aV (bB (q1)) []) [0,1,0,1,1] (fr [(0,aP (W.rd D.str l)),(1,aP (W.rd D.str m)),(12,nI (l.length:Int)),(13,nI (IntKind.i64.wrap ((i:Int)+1)))]) (af.ofList [])))/\(decide ((i:Int)<(l.length:Int))=false->ax [vB true]=bB (q1)/\([]:List Ob)=[])) (by kernel_rfl)
   try simp only [sL]
   obtain ⟨hl1,hl2⟩:=hl
   refine ⟨fun h=>⟨by omega,by omega,by omega,by omega,fun h1=>?_,fun h1=>?_⟩,fun h=>?_⟩
   . rw [decide_eq_false]
     . rfl
     . intro e
       rw [List.drop_eq_getElem_cons (l:=l) (i:=i) (by omega),List.drop_eq_getElem_cons (l:=m) (i:=i) (by omega)] at e
       apply h1
       rw [List.getD_eq_getElem?_getD,List.getElem?_eq_getElem (by omega),List.getD_eq_getElem?_getD,List.getElem?_eq_getElem (by omega)]
       exact (List.cons.inj e).1
   . rw [wrap64 (by omega) (by omega)]
     have e:decide (l.drop i=m.drop i)=decide (l.drop (i+1)=m.drop (i+1)):=by
      rw [List.drop_eq_getElem_cons (l:=l) (i:=i) (by omega),List.drop_eq_getElem_cons (l:=m) (i:=i) (by omega)]
      rw [List.getD_eq_getElem?_getD,List.getElem?_eq_getElem (by omega),List.getD_eq_getElem?_getD,List.getElem?_eq_getElem (by omega)] at h1
      have h1:l[i]=m[i]:=h1
      rw [h1]
      exact decide_eq_decide.2 ⟨fun e=>(List.cons.inj e).2,fun e=>by rw [e]⟩
     rw [e]
     cases k with
     | zero=>omega
     | succ k=>exact J1 l m ⟨hl1,hl2⟩ k (i+1) (by omega) (by omega)
   . rw [List.drop_eq_nil_of_le (by omega),List.drop_eq_nil_of_le (by omega)];rfl
theorem YR (l m:List ByteArray) (hl:l.length<=1000000/\m.length<=1000000):bq Tryz.prog 33 [lC l,lC m] [] (bB (decide (l=m))) []:=by
 refine bh (aJ:=[([0,1,0,1,1],[0,1,12,13])]) aF Tryz.func33 (by kernel_rfl) (ak:=0) rfl (by kernel_rfl) 100 ?_
 apply of_eq (q:=((!decide ((l.length:Int)=(m.length:Int)))=true->ax [vB false]=bB (decide (l=m))/\([]:List Ob)=[])/\((!decide ((l.length:Int)=(m.length:Int)))=false->aG (cX Tryz.prog [] Tryz.f33 (0:Nat) [([0,1,0,1,1],[0,1,12,13])]) (aV (bB (decide (l=m))) []) [0,1,0,1,1] (fr [(0,aP (W.rd D.str l)),(1,aP (W.rd D.str m)),(12,nI (l.length:Int)),(13,nI (0))]) (af.ofList []))) (by kernel_rfl)
 try simp only [sL]
 refine ⟨fun h=>?_,fun h=>?_⟩
 . rw [decide_eq_false (by rintro rfl;exact h rfl)];rfl
 . have:=J1 l m ⟨hl.1,by omega⟩ _ 0 rfl (by omega)
   rw [List.drop_zero,List.drop_zero] at this
   exact this
def W6:cQ:=vU dS dS fun l m=>(.p (List.length (α:=ByteArray) l<=1000000/\List.length (α:=ByteArray) m<=1000000),bB (decide ((show List ByteArray from l)=m)),[])
theorem VD:bF Tryz.prog 33 W6:=pz (by kernel_rfl) fun l m h=>YR l m h
mutual
def St.jR:St->St->Bool
 | .mk k _ t p e b c,.mk k' _ t' p' e' b' c'=>decide (k=k')&&decide (t=t')&&decide (p=p')&&e.jR e'&&St.fF b b'&&St.fF c c'
def St.fF:List St->List St->Bool
 | [],[]=>true
 | a::l,b::m=>a.jR b&&St.fF l m
 | _,_=>false
end
theorem St.Si (a b:St):a.jR b=(decide (a.k=b.k)&&decide (a.name=b.name)&&decide (a.params=b.params)&&a.e.jR b.e&&St.fF a.body b.body&&St.fF a.els b.els):=by cases a;cases b;rw [St.jR];rfl
theorem St.uO:St.fF [] []=true:=by rw [St.fF]
theorem St.nC (a b:St) (l m:List St):St.fF (a::l) (b::m)=(a.jR b&&St.fF l m):=by rw [St.fF]
theorem St.uP:∀ (l m:List St),l.length≠m.length->St.fF l m=false
 | [],[],h=>absurd rfl h
 | [],b::m,_=>by rw [St.fF] <;> simp
 | a::l,[],_=>by rw [St.fF] <;> simp
 | a::l,b::m,h=>by
   rw [St.nC,St.uP l m (fun e=>h (by simp [e])),Bool.and_false]
mutual
theorem St.zY:∀ (a b:St),a.jR b=true↔a.un=b.un
 | .mk k n t p e b c,.mk k' n' t' p' e' b' c'=>by
   rw [St.jR,Bool.and_eq_true,Bool.and_eq_true,Bool.and_eq_true,Bool.and_eq_true,Bool.and_eq_true,St.pI b b',St.pI c c',Ex.zY,decide_eq_true_eq,decide_eq_true_eq,decide_eq_true_eq,St.un,St.un,St.mk.injEq]
   simp [and_assoc]
theorem St.pI:∀ (l m:List St),St.fF l m=true↔St.ig l=St.ig m
 | [],[]=>by simp [St.uO]
 | [],b::m=>by rw [St.fF,St.ig,St.ig] <;> simp
 | a::l,[]=>by rw [St.fF,St.ig,St.ig] <;> simp
 | a::l,b::m=>by rw [St.nC,Bool.and_eq_true,St.zY a b,St.pI l m,St.ig,St.ig,List.cons.injEq]
end
def wW (l m:List PV) (n:Nat):Prop:=(∃ L,l=St.aj L)/\(∃ M,m=St.aj M)/\St.gF (cG l)/\St.gF (cG m)/\St.aI (cG l)<n/\St.aI (cG l)<=1000000/\St.aI (cG m)<=1000000
theorem Dn {L M:List St} {n:Nat} (p1:St.gF L) (p2:St.gF M) (h1:St.aI L<n) (h2:St.aI L<=1000000) (h3:St.aI M<=1000000):wW (St.aj L) (St.aj M) n:=by
 unfold wW
 rw [cZ,cZ]
 exact ⟨⟨_,rfl⟩,⟨_,rfl⟩,p1,p2,h1,h2,h3⟩
noncomputable def W7 (n:Nat):cQ:={ cw:=[],f:=fun args ai=>match args,ai with
 | [.p (.c (.rs q l)),.p (.c (.rs q' l'))],[]=>bif Nat.beq q 10&&Nat.beq q' 10 then some (.p (wW l l' n),bB (St.fF (cG l) (cG l')),[]) else none
 | _,_=>none }
def Dp (n:Nat):Prop:=∀ (L M:List St),St.gF L->St.gF M->St.aI L<n->St.aI L<=1000000->St.aI M<=1000000->bq Tryz.prog 8 [lV L,lV M] [] (bB (St.fF L M)) []
theorem Sj {n:Nat} (h:Dp n):bF Tryz.prog 8 (W7 n):=by
 refine ⟨by kernel_rfl,fun args ai c r aU e hc=>?_⟩
 simp only [W7] at e
 split at e
 . obtain ⟨hb,e1⟩:=ah.ay e
   clear e
   simp only [Bool.and_eq_true,Nat.beq_eq] at hb
   obtain ⟨rfl,rfl⟩:=hb
   cases e1
   obtain ⟨⟨L,rfl⟩,⟨M,rfl⟩,p1,p2,h2,h3,h4⟩:=hc
   rw [cZ] at p1 p2 h2 h3 h4
   rw [cZ,cZ]
   exact h _ _ p1 p2 h2 h3 h4
 . cases e
noncomputable def wX (k:Int) (t:ByteArray) (p:List ByteArray) (ek en:Int) (et:ByteArray) (el b c:List PV):St:=.mk k 0 t p (.mk ek en et (bX el)) (cG b) (cG c)
def ST2 (p p':List ByteArray) (el Fz b b' c c':List PV) (n:Nat):Prop:=(p.length<=1000000/\p'.length<=1000000)/\A6 el Fz 1000001/\wW b b' n/\wW c c' n
noncomputable def cSs (n:Nat):cQ:={ cw:=[],f:=fun args ai=>match args,ai with
 | [.p (.agg [.int .i64 k,.int .i64 _,.str t,.rd .str p,.int .i64 ek,.int .i64 en,.str et,.rs q el,.rs qb b,.rs qc c]),.p (.agg [.int .i64 k',.int .i64 _,.str t',.rd .str p',.int .i64 W8,.int .i64 en',.str W9,.rs q' Fz,.rs qb' b',.rs qc' c'])],[] =>
   bif Nat.beq q 4&&Nat.beq q' 4&&(Nat.beq qb 10&&Nat.beq qb' 10&&(Nat.beq qc 10&&Nat.beq qc' 10)) then some (.p (ST2 p p' el Fz b b' c c' n),bB ((wX k t p ek en et el b c).jR (wX k' t' p' W8 en' W9 Fz b' c')),[]) else none
 | _,_=>none }
noncomputable def gSs (n:Nat):bY:=[(33,W6),(34,WR 1000001),(8,W7 n)]
theorem gSs_ok {n:Nat} (h:Dp n):aZ Tryz.prog (gSs n):=ar VD (ar (Rx (JC _)) (ar (Sj h) aF))
theorem cSs_ok {n:Nat} (h:Dp n):bF Tryz.prog 16 (cSs n):=by
 refine ⟨by kernel_rfl,fun args ai c r aU e hc=>?_⟩
 simp only [cSs] at e
 split at e
 . rename_i k ln t p ek en et q el qb b qc cc k' ln' t' p' W8 en' W9 q' Fz qb' b' qc' cc'
   obtain ⟨hb,e1⟩:=ah.ay e
   clear e
   simp only [Bool.and_eq_true,Nat.beq_eq] at hb
   obtain ⟨⟨rfl,rfl⟩,⟨rfl,rfl⟩,rfl,rfl⟩:=hb
   cases e1
   obtain ⟨⟨hp,hp'⟩,hX,hB,hC⟩:=hc
   refine bh (aJ:=[]) (gSs_ok h) Tryz.func16 (by kernel_rfl) (ak:=0) rfl (by kernel_rfl) 400 ?_
   apply of_eq (q:=let q6:=decide (k=k');let q7:=(Ex.mk W8 en' W9 (bX Fz));let q1:=(bif bif bif bif q6 then decide (t=t') else false then decide (p=p') else false then (Ex.mk ek en et (bX el)).jR q7 else false then St.fF (cG b) (cG b') else false)=true;let q2:=(bif bif bif q6 then decide (t=t') else false then decide (p=p') else false then (Ex.mk ek en et (bX el)).jR q7 else false)=true;let q3:=(bif bif q6 then decide (t=t') else false then decide (p=p') else false)=true;let q4:=(bif q6 then decide (t=t') else false)=true;let q5:=q6=true;(q5->q5)/\(q5->q5)/\(q5->q5)/\(q5->q5)/\(q5->q5)/\(q4->q4)/\(q4->q4)/\(q4->q4)/\(q4->q4)/\(q4->p.length<=1000000/\p'.length<=1000000)/\(q4->q4)/\(q3->q3)/\(q3->q3)/\(q3->q3)/\(q3->q3)/\(q3->A6 el Fz (1000001:Nat))/\(q3->q3)/\(q2->q2)/\(q2->q2)/\(q2->q2)/\(q2->q2)/\(q2->wW b b' n)/\(q2->q2)/\(q1->q1)/\(q1->q1)/\(q1->q1)/\(q1->q1)/\(q1->wW cc cc' n)/\(q1->q1)/\ax [vB (bif bif bif bif bif q6 then decide (t=t') else false then decide (p=p') else false then (Ex.mk ek en et (bX el)).jR q7 else false then St.fF (cG b) (cG b') else false then St.fF (cG cc) (cG cc') else false)]=bB ((wX k t p ek en et el b cc).jR (wX k' t' p' W8 en' W9 Fz b' cc'))/\([]:List Ob)=[]) (by kernel_rfl)
   try simp only [sL]
   exact ⟨fun _=>⟨hp,hp'⟩,fun _=>hX,fun _=>hB,fun _=>hC,by rw [wX,wX,St.jR];rfl⟩
 . cases e
noncomputable def gSq (n:Nat):bY:=[(16,cSs n)]
theorem Sk {n:Nat} (h:Dp n):aZ Tryz.prog (gSq n):=ar (cSs_ok h) aF
abbrev fnSs:A:=.p (.c (.func 16 []))
noncomputable def sSq (n:Nat):aX:=eu Tryz.prog (gSq n) Tryz.f15 0 [([0,1,0,1,1],[1,2,15,16,17])] [] []
theorem Mt (x:St):wX (PV.asInt (.int x.k)) (PV.bN (.str x.name)) (PV.iK (.strs x.params)) (PV.asInt (.int x.e.k)) (PV.asInt (.int x.e.n)) (PV.bN (.str x.e.t)) (PV.aE (.aW 4 (Ex.aj x.e.l))) (PV.aE (.aW 10 (St.aj x.body))) (PV.aE (.aW 10 (St.aj x.els)))=.mk x.k 0 x.name x.params x.e x.body x.els:=by
 have h1:bX (PV.aE (.aW 4 (Ex.aj x.e.l)))=x.e.l:=dn _
 have h2:cG (PV.aE (.aW 10 (St.aj x.body)))=x.body:=cZ _
 have h3:cG (PV.aE (.aW 10 (St.aj x.els)))=x.els:=cZ _
 rw [wX,h1,h2,h3]
 have:Ex.mk (PV.asInt (.int x.e.k)) (PV.asInt (.int x.e.n)) (PV.bN (.str x.e.t)) x.e.l=x.e:=x.e.eta
 rw [this];rfl
theorem VE (a b:St):(St.mk a.k 0 a.name a.params a.e a.body a.els).jR (.mk b.k 0 b.name b.params b.e b.body b.els)=a.jR b:=by rw [St.Si,St.Si a b];rfl
theorem Mu (n:Nat) (h:Dp n) (L M:List St) (he:L.length=M.length) (p1:St.gF L) (p2:St.gF M) (hL:St.aI L<=n) (hl:St.aI L<=1000000) (hm:St.aI M<=1000000):∀ (j i:Nat),j=L.length-i->i<=L.length->
 aG (sSq n) (aV (bB (St.fF (L.drop i) (M.drop i))) []) [0,1,0,1,1] (fr [(1,lV M),(2,fnSs),(15,lV L),(16,nI L.length),(17,nI i)]) (.ofList [])
 | j, i, hj, hi => by
   refine bZ (Sk h) (by kernel_rfl) 400 ?_
   apply of_eq (q:=let q1:=(i*10+1+1+1+1+1+1+1+1+1);let q2:=(i*10+1+1+1+1+1+1+1+1);let q3:=(i*10+1+1+1+1+1+1+1);let q4:=(St.aj L);let q5:=(St.aj M);let q6:=(i*10+1+1+1+1+1+1);let q7:=(i*10+1+1+1+1+1);let q8:=(i*10+1+1+1);let q9:=(i*10+1+1+1+1);let bE:=(St.fF (List.drop i L) (List.drop i M));let aM:=(i*10+1+1);(decide ((i:Int)<(L.length:Int))=true->((0:Int)<=(i:Int)/\i*10<q4.length)/\i*10+10<=q4.length/\(PV.int (0:Int)).like (q4.getD (i*10) (PV.bool false))=true/\(PV.int (0:Int)).like (q4.getD (i*10+1) (PV.bool false))=true/\(PV.str (ByteArray.mk #[])).like (q4.getD aM (PV.bool false))=true/\(PV.strs []).like (q4.getD q8 (PV.bool false))=true/\(PV.int (0:Int)).like (q4.getD q9 (PV.bool false))=true/\(PV.int (0:Int)).like (q4.getD q7 (PV.bool false))=true/\(PV.str (ByteArray.mk #[])).like (q4.getD q6 (PV.bool false))=true/\(PV.aW (4:Nat) []).like (q4.getD q3 (PV.bool false))=true/\(PV.aW (10:Nat) []).like (q4.getD q2 (PV.bool false))=true/\(PV.aW (10:Nat) []).like (q4.getD q1 (PV.bool false))=true/\((0:Int)<=(i:Int)/\i*10<q5.length)/\i*10+10<=q5.length/\(PV.int (0:Int)).like (q5.getD (i*10) (PV.bool false))=true/\(PV.int (0:Int)).like (q5.getD (i*10+1) (PV.bool false))=true/\(PV.str (ByteArray.mk #[])).like (q5.getD aM (PV.bool false))=true/\(PV.strs []).like (q5.getD q8 (PV.bool false))=true/\(PV.int (0:Int)).like (q5.getD q9 (PV.bool false))=true/\(PV.int (0:Int)).like (q5.getD q7 (PV.bool false))=true/\(PV.str (ByteArray.mk #[])).like (q5.getD q6 (PV.bool false))=true/\(PV.aW (4:Nat) []).like (q5.getD q3 (PV.bool false))=true/\(PV.aW (10:Nat) []).like (q5.getD q2 (PV.bool false))=true/\(PV.aW (10:Nat) []).like (q5.getD q1 (PV.bool false))=true/\ST2 (q4.getD q8 (PV.bool false)).iK (q5.getD q8 (PV.bool false)).iK (q4.getD q3 (PV.bool false)).aE (q5.getD q3 (PV.bool false)).aE (q4.getD q2 (PV.bool false)).aE (q5.getD q2 (PV.bool false)).aE (q4.getD q1 (PV.bool false)).aE (q5.getD q1 (PV.bool false)).aE n/\((!(wX (q4.getD (i*10) (PV.bool false)).asInt (q4.getD aM (PV.bool false)).bN (q4.getD q8 (PV.bool false)).iK (q4.getD q9 (PV.bool false)).asInt (q4.getD q7 (PV.bool false)).asInt (q4.getD q6 (PV.bool false)).bN (q4.getD q3 (PV.bool false)).aE (q4.getD q2 (PV.bool false)).aE (q4.getD q1 (PV.bool false)).aE).jR (wX (q5.getD (i*10) (PV.bool false)).asInt (q5.getD aM (PV.bool false)).bN (q5.getD q8 (PV.bool false)).iK (q5.getD q9 (PV.bool false)).asInt (q5.getD q7 (PV.bool false)).asInt (q5.getD q6 (PV.bool false)).bN (q5.getD q3 (PV.bool false)).aE (q5.getD q2 (PV.bool false)).aE (q5.getD q1 (PV.bool false)).aE))=true->ax [vB false]=bB bE/\([]:List Ob)=[])/\((!(wX (q4.getD (i*10) (PV.bool false)).asInt (q4.getD aM (PV.bool false)).bN (q4.getD q8 (PV.bool false)).iK (q4.getD q9 (PV.bool false)).asInt (q4.getD q7 (PV.bool false)).asInt (q4.getD q6 (PV.bool false)).bN (q4.getD q3 (PV.bool false)).aE (q4.getD q2 (PV.bool false)).aE (q4.getD q1 (PV.bool false)).aE).jR (wX (q5.getD (i*10) (PV.bool false)).asInt (q5.getD aM (PV.bool false)).bN (q5.getD q8 (PV.bool false)).iK (q5.getD q9 (PV.bool false)).asInt (q5.getD q7 (PV.bool false)).asInt (q5.getD q6 (PV.bool false)).bN (q5.getD q3 (PV.bool false)).aE (q5.getD q2 (PV.bool false)).aE (q5.getD q1 (PV.bool false)).aE))=false->aG (sSq n) (aV (bB bE) []) [0,1,0,1,1] (fr [(1,aP (W.rs (10:Nat) q5)),(2,aP (W.func 16 [])),(15,aP (W.rs (10:Nat) q4)),(16,nI (L.length:Int)),(17,nI (IntKind.i64.wrap ((i:Int)+1)))]) (af.ofList [])))/\(decide ((i:Int)<(L.length:Int))=false->ax [vB true]=bB bE/\([]:List Ob)=[])) (by kernel_rfl)
   try simp only [sL]
   have bO:=St.jd L
   refine ⟨fun h1=>?_,fun h1=>?_⟩
   . have h1:i<L.length:=by omega
     have h2:i<M.length:=by omega
     obtain ⟨e0,e1,e2,e3,e4,e5,e6,e7,e8,e9⟩:=Dj h1
     obtain ⟨f0,f1,f2,f3,f4,f5,f6,f7,f8,f9⟩:=Dj h2
     rw [e0,e1,e2,e3,e4,e5,e6,e7,e8,e9,f0,f1,f2,f3,f4,f5,f6,f7,f8,f9,Mt,Mt,VE,wrap64 (n:=(i:Int)+1) (by omega) (by omega),List.drop_eq_getElem_cons h1,List.drop_eq_getElem_cons h2,St.nC]
     have m1:=St.je (List.getElem_mem h1)
     have m2:=St.je (List.getElem_mem h2)
     obtain ⟨a1,a2,a3⟩:=(St.FX _).1 (St.Dg p1 (List.getElem_mem h1))
     obtain ⟨b1,b2,b3⟩:=(St.FX _).1 (St.Dg p2 (List.getElem_mem h2))
     have z1:=St.fE L[i]
     have z2:=St.fE M[i]
     have y1:=Ex.fE L[i].e
     have y2:=Ex.fE M[i].e
     have g1:i*10+10<=(St.aj L).length:=by rw [St.dD];omega
     have g2:i*10+10<=(St.aj M).length:=by rw [St.dD];omega
     have hS:ST2 (PV.iK (.strs L[i].params)) (PV.iK (.strs M[i].params)) (PV.aE (.aW 4 (Ex.aj L[i].e.l))) (PV.aE (.aW 4 (Ex.aj M[i].e.l))) (PV.aE (.aW 10 (St.aj L[i].body))) (PV.aE (.aW 10 (St.aj M[i].body))) (PV.aE (.aW 10 (St.aj L[i].els))) (PV.aE (.aW 10 (St.aj M[i].els))) n :=
      ⟨⟨by show L[i].params.length<=_;omega,by show M[i].params.length<=_;omega⟩,Da (by omega) (by omega) (by omega),Dn a2 b2 (by omega) (by omega) (by omega),Dn a3 b3 (by omega) (by omega) (by omega)⟩
     refine ⟨⟨by omega,by omega⟩,g1,rfl,rfl,rfl,rfl,rfl,rfl,rfl,rfl,rfl,rfl,⟨by omega,by omega⟩,g2,rfl,rfl,rfl,rfl,rfl,rfl,rfl,rfl,rfl,rfl,hS,fun hf=>?_,fun ht=>?_⟩
     . rw [hf];rfl
     . rw [ht,Bool.true_and]
       cases j with
       | zero=>omega
       | succ j=>exact Mu n h L M he p1 p2 hL hl hm j (i+1) (by omega) (by omega)
   . rw [List.drop_eq_nil_of_le (by omega),List.drop_eq_nil_of_le (by omega),St.uO];rfl
noncomputable def cSq (n:Nat):cQ:={ cw:=[],f:=fun args ai=>match args,ai with
 | [.p (.c (.rs q l)),.p (.c (.rs q' l')),.p (.c (.func f []))],[]=>bif Nat.beq q 10&&Nat.beq q' 10&&Nat.beq f 16 then some (.p (wW l l' (n+1)),bB (St.fF (cG l) (cG l')),[]) else none
 | _,_=>none }
theorem cSq_ok {n:Nat} (h:Dp n):bF Tryz.prog 15 (cSq n):=by
 refine ⟨by kernel_rfl,fun args ai c r aU e hc=>?_⟩
 simp only [cSq] at e
 split at e
 . obtain ⟨hb,e1⟩:=ah.ay e
   clear e
   simp only [Bool.and_eq_true,Nat.beq_eq] at hb
   obtain ⟨⟨rfl,rfl⟩,rfl⟩:=hb
   cases e1
   obtain ⟨⟨L,rfl⟩,⟨M,rfl⟩,p1,p2,h2,h3,h4⟩:=hc
   rw [cZ] at p1 p2 h2 h3 h4
   rw [cZ,cZ]
   refine bh (aJ:=[([0,1,0,1,1],[1,2,15,16,17])]) (Sk h) Tryz.func15 (by kernel_rfl) (ak:=0) rfl (by kernel_rfl) 200 ?_
   apply of_eq (q:=let q1:=decide ((↑((St.aj L).length / 10):Int)=(↑((St.aj M).length / 10):Int));((!q1)=true->ax [vB false]=bB (St.fF L M)/\([]:List Ob)=[])/\((!q1)=false->aG (cX Tryz.prog (gSq n) Tryz.f15 (0:Nat) [([0,1,0,1,1],[1,2,15,16,17])]) (aV (bB (St.fF L M)) []) [0,1,0,1,1] (fr [(1,aP (W.rs (10:Nat) (St.aj M))),(2,aP (W.func 16 [])),(15,aP (W.rs (10:Nat) (St.aj L))),(16,nI (↑((St.aj L).length / 10):Int)),(17,nI (0))]) (af.ofList []))) (by kernel_rfl)
   try simp only [sL]
   rw [C5,C5]
   refine ⟨fun hn=>?_,fun hn=>?_⟩
   . rw [St.uP _ _ (by omega)];rfl
   . exact Mu n h L M (by omega) p1 p2 (by omega) h3 h4 (L.length-0) 0 rfl (by omega)
 . cases e
theorem YS (n:Nat) (h:Dp n):Dp (n+1):=by
 intro L M p1 p2 hL hl hm
 refine bh (aJ:=[]) (ar (cSq_ok h) aF) Tryz.func8 (by kernel_rfl) (ak:=0) rfl (by kernel_rfl) 200 ?_
 apply of_eq (q:=wW (St.aj L) (St.aj M) (n+1)/\ax [vB (St.fF (cG (St.aj L)) (cG (St.aj M)))]=bB (St.fF L M)/\([]:List Ob)=[]) (by kernel_rfl)
 try simp only [sL]
 rw [cZ,cZ]
 exact ⟨Dn p1 p2 hL hl hm,rfl⟩
theorem Sl:∀ n,Dp n
 | 0=>fun L M _ _ h=>by omega
 | n+1=>YS n (Sl n)
abbrev Sm (T:List Tok):A:=.p (.c (.rs 4 (aA T)))
noncomputable def J2:aX:=cX Tryz.prog [] Tryz.f6 0 [([0,1,0,1,1],[0,1,2,7,8]),([0,0,1,1,1,0,0,1,0,0,1,0,1,1],[0,1,2,7,8,9,10])]
abbrev JoAt (s:ByteArray) (T:List Tok) (bt:List ByteArray) (R:ByteArray) (i:Nat) (acc:ByteArray):Prop:=aG J2 (aV (sS R) []) [0,1,0,1,1] (fr [(0,sS s),(1,Sm T),(2,lC bt),(7,sS acc),(8,nI i)]) (.ofList [])
theorem Xa (s:ByteArray) (T:List Tok) (bt:List ByteArray) (R:ByteArray) (i:Nat) (acc:ByteArray) (e p b:Nat) (hi:i<T.length) (hT:T.length<=1000000) (hat:T[i].at_=(p:Nat)) (he:e<=s.size) (hs:s.size<=1000000) (hx:T[i].text.size<=1000000) (hb:bt.length≠0) (hacc:acc.size<=1000000000000000) (sK:∀ x∈bt,x.size<=100)
 (K:JoAt s T bt R (i+1) (acc++s.extract p b++bt.getD (i % bt.length) eS)):∀ (j a:Nat),j=e-a->p<=a->a<=e->tO s e (decide (T[i].kind=4)) ((p:Int)+(T[i].text.size:Int)) a=b->
 aG J2 (aV (sS R) []) [0,0,1,1,1,0,0,1,0,0,1,0,1,1] (fr [(0,sS s),(1,Sm T),(2,lC bt),(7,sS acc),(8,nI i),(9,nI e),(10,nI a)]) (.ofList [])
 | j, a, hj, hpa, hae, hE => by
   refine bZ aF (by kernel_rfl) 200 ?_
   apply of_eq (q:=let q5:=decide (bn s a=32);let q9:=(aA T);let bE:=(bt.length:Int);let aM:=(PV.int (0:Int)).like (q9.getD (i*4+3) (PV.bool false))=true;let bg:=(0:Int)<=(i:Int);let bV:=decide (bn s a=10);let cN:=(a:Int);let q4:=(bif q5 then true else bV)=false;let q6:=decide (cN<=IntKind.i64.wrap ((q9.getD (i*4+3) (PV.bool false)).asInt+(↑(q9.getD (i*4+1) (PV.bool false)).bN.size:Int)));let q7:=decide (cN<(e:Int));let q8:=decide ((q9.getD (i*4+0) (PV.bool false)).asInt=4);let q1:=(bif q7 then !bif bif q5 then true else bV then true else decide (bn s a=35) else false)=false;let q2:=(bif q7 then q8 else false)=true;let q3:=q7=true;(q3->q3)/\(q3->q3)/\(q3->(0:Int)<=cN/\cN<(s.size:Int))/\(q3->q3)/\(q3->q3)/\(q3/\q5=false->q3/\q5=false)/\(q3/\q5=false->q3/\q5=false)/\(q3/\q5=false->(0:Int)<=cN/\cN<(s.size:Int))/\(q3/\q5=false->q3/\q5=false)/\(q3->q3)/\(q3->q5=false->q3/\q5=false)/\(q3->q3)/\(q3/\q4->q3/\q4)/\(q3/\q4->q3/\q4)/\(q3/\q4->(0:Int)<=cN/\cN<(s.size:Int))/\(q3/\q4->q3/\q4)/\(q3->q3)/\(q3->q4->q3/\q4)/\(q3->q3)/\(q3->q3)/\(q1->q1)/\(q1->q1)/\(q1->q1)/\(q1/\q3->q1/\q3)/\(q1/\q3->q1/\q3)/\(q1/\q3->bg/\i*4<q9.length)/\(q1/\q3->q1/\q3)/\(q1/\q3->q1/\q3)/\(q1/\q3->i*4+0<q9.length)/\(q1/\q3->(PV.int (0:Int)).like (q9.getD (i*4+0) (PV.bool false))=true)/\(q1/\q3->q1/\q3)/\(q1->q1)/\(q1->q3->q1/\q3)/\(q1->q1)/\(q1/\q2->q1/\q2)/\(q1/\q2->q1/\q2)/\(q1/\q2->bg/\i*4<q9.length)/\(q1/\q2->q1/\q2)/\(q1/\q2->q1/\q2)/\(q1/\q2->i*4+3<q9.length)/\(q1/\q2->aM)/\(q1/\q2->q1/\q2)/\(q1/\q2->q1/\q2)/\(q1/\q2->bg/\i*4<q9.length)/\(q1/\q2->q1/\q2)/\(q1/\q2->q1/\q2)/\(q1/\q2->i*4+1<q9.length)/\(q1/\q2->(PV.str (ByteArray.mk #[])).like (q9.getD (i*4+1) (PV.bool false))=true)/\(q1/\q2->q1/\q2)/\(q1/\q2->q1/\q2)/\(q1/\q2->q1/\q2)/\(q1/\q2->q1/\q2)/\(q1/\q2->q1/\q2)/\(q1->q1)/\(q1->q2->q1/\q2)/\(q1->q1)/\((bif bif q7 then !bif bif q5 then true else bV then true else decide (bn s a=35) else false then true else bif bif q7 then q8 else false then q6 else false)=true->aG J2 (aV (sS R) []) [0,0,1,1,1,0,0,1,0,0,1,0,1,1] (fr [(0,aP (W.str s)),(1,aP (W.rs (4:Nat) q9)),(2,aP (W.rd D.str bt)),(7,aP (W.str acc)),(8,nI (i:Int)),(9,nI (e:Int)),(10,nI (IntKind.i64.wrap (cN+1)))]) (af.ofList []))/\((bif bif q7 then !bif bif q5 then true else bV then true else decide (bn s a=35) else false then true else bif bif q7 then q8 else false then q6 else false)=false->(bg/\i*4<q9.length)/\i*4+3<q9.length/\aM/\((0:Int)<=(q9.getD (i*4+3) (PV.bool false)).asInt/\(q9.getD (i*4+3) (PV.bool false)).asInt<=cN/\cN<=(s.size:Int))/\acc.size+(s.extract (q9.getD (i*4+3) (PV.bool false)).asInt.toNat a).size<=9223372036854775807/\bE≠(0:Int)/\((0:Int)<=(i:Int).tmod bE/\(i:Int).tmod bE<bE)/\((i:Int).tmod bE).toNat<bt.length/\(acc++s.extract (q9.getD (i*4+3) (PV.bool false)).asInt.toNat a).size+(bt.getD ((i:Int).tmod bE).toNat (ByteArray.mk #[])).size<=9223372036854775807/\aG J2 (aV (sS R) []) [0,1,0,1,1] (fr [(0,aP (W.str s)),(1,aP (W.rs (4:Nat) q9)),(2,aP (W.rd D.str bt)),(7,aP (W.str (acc++s.extract (q9.getD (i*4+3) (PV.bool false)).asInt.toNat a++bt.getD ((i:Int).tmod bE).toNat (ByteArray.mk #[])))),(8,nI (IntKind.i64.wrap ((i:Int)+1)))]) (af.ofList []))) (by kernel_rfl)
   try simp only [sL]
   have f0:(aA T).getD (i*4+0) (.bool false)=.int T[i].kind:=iW hi 0 (by omega)
   have f1:(aA T).getD (i*4+1) (.bool false)=.str T[i].text:=iW hi 1 (by omega)
   have f3:(aA T).getD (i*4+3) (.bool false)=.int T[i].at_:=iW hi 3 (by omega)
   have hl:(aA T).length=T.length*4:=j8 T
   have hw:IntKind.i64.wrap ((PV.int T[i].at_).asInt+((PV.str T[i].text).bN.size:Int))=(p:Int)+(T[i].text.size:Int):=by
    show IntKind.i64.wrap (T[i].at_+(T[i].text.size:Int))=_
    rw [hat,wrap64 (by omega) (by omega)]
   have hm:(i:Int).tmod (bt.length:Int)=((i % bt.length:Nat):Int):=rfl
   have hml:i % bt.length<bt.length:=Nat.mod_lt _ (by omega)
   rw [f0,f1,f3,hw,hm]
   have key:(a<e/\(blk (bn s a)=false∨decide (T[i].kind=4)=true/\(a:Int)<=(p:Int)+(T[i].text.size:Int)))↔((a:Int)<(e:Int)/\(¬ bn s a=32/\¬ bn s a=10)/\¬ bn s a=35∨((a:Int)<(e:Int)/\(PV.int T[i].kind).asInt=4)/\(a:Int)<=(p:Int)+(T[i].text.size:Int)):=by
    have hk:(PV.int T[i].kind).asInt=T[i].kind:=rfl
    unfold blk
    rw [hk,Bool.or_eq_false_iff,Bool.or_eq_false_iff,decide_eq_false_iff_not,decide_eq_false_iff_not,decide_eq_false_iff_not,decide_eq_true_eq]
    omega
   refine ⟨fun h=>by omega,fun h=>by omega,fun h1 h2=>⟨h1,h2⟩,fun h=>by omega,fun h1 h2=>⟨h1,h2⟩,fun _=>⟨by omega,by omega⟩,fun _=>by omega,fun _=>rfl,fun h1 h2=>⟨h1,h2⟩,fun _=>⟨by omega,by omega⟩,fun _=>by omega,fun _=>rfl,fun _=>⟨by omega,by omega⟩,fun _=>by omega,fun _=>rfl,fun h1 h2=>⟨h1,h2⟩,fun h=>?_,fun h=>?_⟩
   . have h:=key.2 h
     rw [JY h] at hE
     rw [wrap64 (n:=(a:Int)+1) (by omega) (by omega)]
     cases j with
     | zero=>omega
     | succ j=>exact Xa s T bt R i acc e p b hi hT hat he hs hx hb hacc sK K j (a+1) (by omega) (by omega) (by omega) hE
   . have hn:¬ (a<e/\(blk (bn s a)=false∨decide (T[i].kind=4)=true/\(a:Int)<=(p:Int)+(T[i].text.size:Int))):=by
      rw [key]
      have hk:(PV.int T[i].kind).asInt=T[i].kind:=rfl
      rw [hk] at h ⊢
      omega
     rw [Ml hn] at hE
     subst hE
     have hp:(PV.int T[i].at_).asInt=(p:Nat):=hat
     have hz:(s.extract p a).size<=1000000:=by rw [ByteArray.size_extract];omega
     have hg:(bt.getD (i % bt.length) eS).size<=100:=by
      rw [List.getD_eq_getElem?_getD,List.getElem?_eq_getElem hml]
      exact sK _ (List.getElem_mem hml)
     rw [hp,Int.toNat_natCast,Int.toNat_natCast,wrap64 (n:=(i:Int)+1) (by omega) (by omega)]
     refine ⟨⟨by omega,by omega⟩,by omega,rfl,⟨by omega,by omega,by omega⟩,by omega,by omega,⟨by omega,by omega⟩,hml,?_,K⟩
     rw [aY]
     show _+(bt.getD (i % bt.length) eS).size<=_
     omega
theorem VF {s:ByteArray} (hs:s.size<=1000000) {a:Nat} (_h:a<s.size) (b:Nat):(bS s b).t.text.size<=1000000:=by
 have hx:∀ x y,(s.extract x y).size<=1000000:=fun x y=>by rw [ByteArray.size_extract];omega
 have h0:eS.size<=1000000:=Nat.zero_le _
 unfold bS
 split
 . unfold j9;split
   . exact hx _ _
   . split <;> exact hx _ _
 . split
   . unfold l8;split
     . exact h0
     . split <;> exact h0
   . split
     . unfold nA;split
       . exact h0
       . split <;> exact hx _ _
     . rw [JT];split
       . exact hx _ _
       . split
         . exact hx _ _
         . exact h0
def FZ (s:ByteArray) (T:List Tok):Prop:=∀ i (h:i<T.length),∃ p:Nat,T[i].at_=(p:Nat)/\p<oJ s (T.drop (i+1))/\oJ s (T.drop (i+1))<=s.size/\T[i].text.size<=1000000
theorem Sn (s : ByteArray) (T : List Tok) (bt : List ByteArray) (R : ByteArray) (hP : FZ s T) (hT : T.length ≤ 1000000) (hs : s.size ≤ 1000000) (hb : bt.length ≠ 0) (sK : ∀ x ∈ bt, x.size ≤ 100) : ∀ (j i : Nat) (acc : ByteArray), j = T.length - i → i ≤ T.length → acc.size ≤ i * 1000200 → R = acc ++ jn s bt i (T.drop i) → JoAt s T bt R i acc
 | j, i, acc, hj, hi, ha, hR => by
   refine bZ aF (by kernel_rfl) 200 ?_
   apply of_eq (q:=let q0:=IntKind.i64.wrap;let q1:=(q0 ((i:Int)+1));let q4:=(aA T);let q2:=(↑(q4.length / 4):Int);let q3:=(PV.int (0:Int)).like (q4.getD (i*4+3) (PV.bool false))=true;(decide ((i:Int)<q2)=true->(decide (q0 ((i:Int)+1)<q2)=true->((0:Int)<=q0 ((i:Int)+1)/\q1.toNat*4<q4.length)/\q1.toNat*4+3<q4.length/\(PV.int (0:Int)).like (q4.getD (q1.toNat*4+3) (PV.bool false))=true/\((0:Int)<=(i:Int)/\i*4<q4.length)/\i*4+3<q4.length/\q3/\aG J2 (aV (sS R) []) [0,0,1,1,1,0,0,1,0,0,1,0,1,1] (fr [(0,aP (W.str s)),(1,aP (W.rs (4:Nat) q4)),(2,aP (W.rd D.str bt)),(7,aP (W.str acc)),(8,nI (i:Int)),(9,nI (q4.getD (q1.toNat*4+3) (PV.bool false)).asInt),(10,nI (q4.getD (i*4+3) (PV.bool false)).asInt)]) (af.ofList []))/\(decide (q0 ((i:Int)+1)<q2)=false->((0:Int)<=(i:Int)/\i*4<q4.length)/\i*4+3<q4.length/\q3/\aG J2 (aV (sS R) []) [0,0,1,1,1,0,0,1,0,0,1,0,1,1] (fr [(0,aP (W.str s)),(1,aP (W.rs (4:Nat) q4)),(2,aP (W.rd D.str bt)),(7,aP (W.str acc)),(8,nI (i:Int)),(9,nI (s.size:Int)),(10,nI (q4.getD (i*4+3) (PV.bool false)).asInt)]) (af.ofList [])))/\(decide ((i:Int)<q2)=false->ax [V.c (W.str acc)]=sS R/\([]:List Ob)=[])) (by kernel_rfl)
   try simp only [sL]
   have hl:(aA T).length=T.length*4:=j8 T
   have hd4:(aA T).length / 4=T.length:=by omega
   rw [hd4,wrap64 (n:=(i:Int)+1) (by omega) (by omega)]
   refine ⟨fun h1=>?_,fun h1=>?_⟩
   . have h1:i<T.length:=by omega
     obtain ⟨p,hat,hpe,hes,htx⟩:=hP i h1
     have f3:(aA T).getD (i*4+3) (.bool false)=.int T[i].at_:=iW h1 3 (by omega)
     have hp:(PV.int T[i].at_).asInt=(p:Nat):=hat
     rw [List.drop_eq_getElem_cons h1,jn,hat,Int.toNat_natCast] at hR
     have go:∀ e:Nat,e=oJ s (T.drop (i+1))->aG J2 (aV (sS R) []) [0,0,1,1,1,0,0,1,0,0,1,0,1,1] (fr [(0,sS s),(1,Sm T),(2,lC bt),(7,sS acc),(8,nI i),(9,nI e),(10,nI p)]) (.ofList []):=by
      rintro e rfl
      have hml:i % bt.length<bt.length:=Nat.mod_lt _ (by omega)
      have hg:(bt.getD (i % bt.length) eS).size<=100:=by
       rw [List.getD_eq_getElem?_getD,List.getElem?_eq_getElem hml]
       exact sK _ (List.getElem_mem hml)
      refine Xa s T bt R i acc _ p _ h1 hT hat hes hs htx hb (by omega) sK ?_ (oJ s (T.drop (i+1))-p) p rfl (Nat.le_refl _) (by omega) rfl
      cases j with
      | zero=>omega
      | succ j =>
        refine Sn s T bt R hP hT hs hb sK j (i+1) _ (by omega) (by omega) ?_ ?_
        . rw [aY,aY,ByteArray.size_extract];omega
        . rw [hR];simp only [ByteArray.append_assoc]
     rw [f3,hp]
     refine ⟨fun h2=>?_,fun h2=>?_⟩
     . have h2:i+1<T.length:=by omega
       obtain ⟨p',hat',_,_,_⟩:=hP (i+1) h2
       have f3':(aA T).getD (((i:Int)+1).toNat*4+3) (.bool false)=.int T[i+1].at_:=iW h2 3 (by omega)
       have hp':(PV.int T[i+1].at_).asInt=(p':Nat):=hat'
       rw [f3',hp']
       refine ⟨⟨by omega,by omega⟩,by omega,rfl,⟨by omega,by omega⟩,by omega,rfl,go p' ?_⟩
       rw [List.drop_eq_getElem_cons h2]
       show p'=T[i+1].at_.toNat
       rw [hat'];rfl
     . refine ⟨⟨by omega,by omega⟩,by omega,rfl,go s.size ?_⟩
       rw [List.drop_eq_nil_of_le (by omega)];rfl
   . have e:acc++eS=acc:=ByteArray.append_empty
     rw [List.drop_eq_nil_of_le (by omega),jn,e] at hR
     rw [hR];rfl
theorem OC (s:ByteArray) (T:List Tok) (bt:List ByteArray) (hP:FZ s T) (hT:T.length<=1000000) (hs:s.size<=1000000) (hb:bt.length≠0) (sK:∀ x∈bt,x.size<=100):bq Tryz.prog 6 [sS s,Sm T,lC bt] [] (sS (jn s bt 0 T)) []:=by
 refine bh (aJ:=[([0,1,0,1,1],[0,1,2,7,8]),([0,0,1,1,1,0,0,1,0,0,1,0,1,1],[0,1,2,7,8,9,10])]) aF Tryz.func6 (by kernel_rfl) (ak:=0) rfl (by kernel_rfl) 200 ?_
 apply of_eq (q:=aG (cX Tryz.prog [] Tryz.f6 (0:Nat) [([0,1,0,1,1],[0,1,2,7,8]),([0,0,1,1,1,0,0,1,0,0,1,0,1,1],[0,1,2,7,8,9,10])]) (aV (sS (jn s bt (0:Nat) T)) []) [0,1,0,1,1] (fr [(0,aP (W.str s)),(1,aP (W.rs (4:Nat) (aA T))),(2,aP (W.rd D.str bt)),(7,aP (W.str (ByteArray.mk #[]))),(8,nI (0))]) (af.ofList [])) (by kernel_rfl)
 try simp only [sL,Int.reduceEq,Int.reduceNe,Nat.reduceAdd]
 refine Sn s T bt _ hP hT hs hb sK (T.length-0) 0 eS rfl (by omega) (Nat.zero_le _) ?_
 have e:eS++jn s bt 0 T=jn s bt 0 T:=ByteArray.empty_append
 rw [List.drop_zero,e]
theorem Sq {s:ByteArray} (hs:s.size<=1000000):∀ (ts:List Tok) (i0:Nat),Lx s i0 ts->FZ s ts/\(∀ t∈ts,(i0:Int)<=t.at_):=by
 intro ts
 induction ts with
 | nil=>exact fun i0 _=>⟨fun i h=>absurd h (Nat.not_lt_zero _),fun t h=>by cases h⟩
 | cons t ts ih =>
   intro i0 h
   obtain ⟨a,n,h0,h1,h2,h3,_,_,he,hE,rfl,hx⟩:=Dl h t ts rfl
   obtain ⟨ih1,ih2⟩:=ih (a+n) hx
   have nO:a<oJ s ts/\oJ s ts<=s.size:=by
    cases ts with
    | nil=>exact ⟨h1,Nat.le_refl _⟩
    | cons u us =>
      obtain ⟨a',n',g1,g2,_,_,_,_,_,_,g3,_⟩:=Dl hx u us rfl
      show a<u.at_.toNat/\u.at_.toNat<=s.size
      rw [g3,uR];omega
   refine ⟨fun i hi=>?_,fun t ht=>?_⟩
   . cases i with
     | zero =>
       refine ⟨a,uR s a,nO.1,nO.2,?_⟩
       have hb:=Fy h2 h3 he hE
       exact VF hs h1 a
     | succ i=>exact ih1 i (by simpa using hi)
   . rcases List.mem_cons.1 ht with rfl | ht
     . rw [uR];omega
     . have:=ih2 t ht;omega
theorem jL:nJ.pk:=by rw [nJ,St.pk];exact ⟨Nat.zero_le _,St.gR,St.gR⟩
theorem Af {k n:Int} {t:ByteArray} {p:List ByteArray} {e:Ex} {b c:List St} (hp:p.length<=20001) (hb:St.gF b) (hc:St.gF c):(St.mk k n t p e b c).pk:=(St.pk_mk ..).2 ⟨hp,hb,hc⟩
theorem BZ {l:List St} {x:St} (h:St.gF l) (hx:x.pk):St.gF (l++[x]):=by
 induction l with
 | nil=>rw [List.nil_append,St.rZ];exact ⟨hx,St.gR⟩
 | cons y l ih =>
   rw [St.rZ] at h
   rw [List.cons_append,St.rZ]
   exact ⟨h.1,ih h.2⟩
section
variable {s:ByteArray} {l:List Tok}
theorem Mv:∀ (k:Nat) (acc:List ByteArray) (i:Int),(oR s l k acc i).v.length<=acc.length+k
 | 0,acc,i=>Nat.le_refl _
 | k + 1, acc, i => by
   unfold oR
   cases kf s l acc i with
   | some q=>show acc.length<=_;omega
   | none =>
     show (bif _ then _ else _:XR (List ByteArray)).v.length<=_
     cases aL l (i+1) ku with
     | true=>show (acc++[_]).length<=_;rw [List.length_append,List.length_singleton];omega
     | false =>
       simp only [cond_false]
       cases aL l (i+1) yQ with
       | true =>
         have:=Mv k (acc++[(bC l i).text]) (i+1+1)
         rw [List.length_append,List.length_singleton] at this
         simp only [cond_true]
         omega
       | false=>show acc.length<=_;omega
theorem Sr {k n:Int} {q:XR Ex}:(oP k n q).v.pk:=by
 unfold oP
 cases q.die with
 | true=>exact jL
 | false=>exact Af (Nat.zero_le _) St.gR St.gR
theorem YT {n:Int} {t:ByteArray} {q:XR Ex}:(mo n t q).v.pk:=by
 unfold mo
 cases q.die with
 | true=>exact jL
 | false=>exact Af (Nat.zero_le _) St.gR St.gR
variable {bl:nR} (B:∀ i,St.gF (bl i).v)
include B
theorem Sv {k n:Int} {t:ByteArray} {q:XR Ex}:(oQ bl k n t q).v.pk:=by
 unfold oQ
 cases q.die with
 | true=>exact jL
 | false =>
   simp only [cond_false]
   cases (bl q.i).die with
   | true=>exact jL
   | false=>exact Af (Nat.zero_le _) (B _) St.gR
theorem ifF_pk {n:Int} {q:XR Ex}:(qH l bl n q).v.pk:=by
 unfold qH
 cases q.die with
 | true=>exact jL
 | false =>
   simp only [cond_false]
   cases (bl q.i).die with
   | true=>exact jL
   | false =>
     simp only [cond_false]
     cases aL l (bl q.i).i IY with
     | false=>exact Af (Nat.zero_le _) (B _) St.gR
     | true =>
       simp only [cond_true]
       cases (bl ((bl q.i).i+1)).die with
       | true=>exact jL
       | false=>exact Af (Nat.zero_le _) (B _) (B _)
theorem Sw (ins:Bool) (i:Int):(kQ s l bl ins i).v.pk:=by
 unfold kQ
 cases aL l i IX with
 | true=>exact Sr
 | false =>
 simp only [cond_false]
 cases aL l i QU with
 | true=>exact ifF_pk B
 | false =>
 simp only [cond_false]
 cases aL l i IZ with
 | true=>exact Sv B
 | false =>
 simp only [cond_false]
 cases aL l i I4 with
 | true =>
   simp only [cond_true]
   cases fP l (i+1) with
   | false=>exact jL
   | true =>
     simp only [cond_true]
     cases aL l (i+1+1) QV with
     | true=>exact Sv B
     | false=>exact jL
 | false =>
 simp only [cond_false]
 cases ins&&aL l i I5 with
 | true=>exact Sr
 | false =>
 simp only [cond_false]
 cases fP l i with
 | false=>exact jL
 | true =>
   simp only [cond_true]
   cases aL l (i+1) QW with
   | true=>exact YT
   | false=>exact jL
omit B in
theorem Sx {st:Int->XR St} (S:∀ i,(st i).v.pk):∀ (k:Nat) (acc:List St) (i:Int),St.gF acc->St.gF (qh s l st k acc i).v
 | 0,acc,i,ha=>ha
 | k + 1, acc, i, ha => by
   unfold qh
   cases aL l i QY with
   | true=>exact ha
   | false =>
     simp only [cond_false]
     cases (st i).die with
     | true=>exact ha
     | false=>exact Sx S k _ _ (BZ ha (S i))
omit B in
theorem OD (ins:Bool):∀ (n:Nat) (i:Int),St.gF (iE s l ins n i).v
 | 0,i=>St.gR
 | n+1,i=>by
   show St.gF (wS s l (kQ s l (iE s l ins n) ins) i).v
   unfold wS
   cases aL l i QX with
   | true=>exact Sx (fun i=>Sw (OD ins n) ins i) _ _ _ St.gR
   | false=>exact St.gR
theorem dfF_pk (hl : l.length ≤ 20000) (ns : List ByteArray) (n i : Int) : (iL s l bl ns n i).v.pk := by
 unfold iL
 cases kf s l ns i with
 | some q=>exact jL
 | none =>
   show (bif _ then _ else _:XR St).v.pk
   cases aL l (i+1) mV with
   | false=>exact jL
   | true =>
     simp only [cond_true]
     have key:∀ q:XR (List ByteArray),q.v.length<=20001->(nS bl n (bC l i).text q).v.pk:=by
      intro q hq
      unfold nS
      cases q.die with
      | true=>exact jL
      | false =>
        simp only [cond_false]
        cases (bl q.i).die with
        | true=>exact jL
        | false=>exact Af hq (B _) St.gR
     refine key _ ?_
     cases aL l (i+1+1) ku with
     | true=>exact Nat.zero_le _
     | false =>
       have:=Mv (s:=s) (l:=l) (l.length+1) [] (i+1+1)
       simp only [cond_false]
       simp only [List.length_nil] at this
       omega
omit B in
theorem J3 (hl:l.length<=20000):∀ (k:Nat) (acc:List St) (ns:List ByteArray) (i:Int),St.gF acc->St.gF (qi s l k acc ns i).v.1
 | 0,acc,ns,i,ha=>ha
 | k + 1, acc, ns, i, ha => by
   unfold qi
   cases decide (i<(l.length:Int)) with
   | false=>exact ha
   | true =>
     simp only [cond_true]
     cases aL l i I6 with
     | true =>
       simp only [cond_true]
       cases (iL s l (bT s l) ns (iA s l i) (i+1)).die with
       | true=>exact ha
       | false=>exact J3 hl k _ _ _ (BZ ha (dfF_pk (fun i=>OD _ _ i) hl _ _ _))
     | false =>
       simp only [cond_false]
       cases (sT s l i).die with
       | true=>exact ha
       | false=>exact J3 hl k _ _ _ (BZ ha (Sw (fun i=>OD _ _ i) _ _))
end
theorem Sy (s:ByteArray):St.gF (gE s).1:=by
 have hl:(tks s).length<=20000:=kr s
 have hr : St.gF (eX s).1 := by
  unfold eX
  split
  . cases (cU s (tks s)).die with
    | true=>exact St.gR
    | false =>
      simp only [cond_false]
      cases decide ((cU s (tks s)).i<((tks s).length:Int)) with
      | true=>exact St.gR
      | false=>exact J3 hl _ _ _ _ St.gR
  . exact St.gR
 unfold gE
 cases decide ((eX s).2.1=0)&&kg (eX s).1 with
 | true=>exact St.gR
 | false=>exact hr
theorem Mw (s:ByteArray):St.aI (gE s).1<=20000:=by
 unfold gE
 cases decide ((eX s).2.1=0)&&kg (eX s).1 with
 | true=>show St.aI []<=_;rw [St.dH];omega
 | false=>exact LM s
theorem VG (s:ByteArray):bq Tryz.prog 4 [sS s] [] (.bG [.c (.rs 4 (aA (tks s))),fV (cg s).2.1 (cg s).2.2]) []:=by
 by_cases hs:s.size<=1000000
 . exact Fp s hs
 . refine sP (aJ:=[]) (eN:=[]) (fz:=[some .pv,none]) La Tryz.func4 (by kernel_rfl) (ak:=0) rfl (by kernel_rfl) 100 ?_
   apply of_eq (q:=let q1:=(bL s s.size (0:Nat));let q2:=V.c (W.rs (4:Nat) (List.take ((0:Nat)*4) (List.drop (0:Nat) [])));let q3:=V.c (W.rs (4:Nat) (aA (tks s)));(decide ((20000:Int)<(s.size:Int))=true->(0:Nat)+0*4<=0/\ax [q2,V.agg [wI (4),wI (20000)]]=A.bG [q3,fV (cg s).snd.fst (cg s).snd.snd]/\([]:List Ob)=[])/\(decide ((20000:Int)<(s.size:Int))=false->s.size<=20000/\((!decide (q1.snd.fst=0))=true->(0:Nat)+0*4<=0/\ax [q2,V.agg [wI q1.snd.fst,wI q1.snd.snd]]=A.bG [q3,fV (cg s).snd.fst (cg s).snd.snd]/\([]:List Ob)=[])/\((!decide (q1.snd.fst=0))=false->(0:Nat)+q1.fst.length*4<=(aA q1.fst).length/\ax [V.c (W.rs (4:Nat) (List.take (q1.fst.length*4) (List.drop (0:Nat) (aA q1.fst)))),V.agg [wI q1.snd.fst,wI q1.snd.snd]]=A.bG [q3,fV (cg s).snd.fst (cg s).snd.snd]/\([]:List Ob)=[]))) (by kernel_rfl)
   try simp only [sL]
   have e:cg s=([],4,20000):=by unfold cg;rw [if_pos (by omega)]
   have et:tks s=[]:=by show kI (cg s)=_;rw [e];rfl
   rw [e,et]
   exact ⟨fun _=>rfl,fun h=>by omega⟩
def Sz:cQ:=jh .str fun s=>(.t,.bG [.c (.rs 4 (aA (tks s))),fV (cg s).2.1 (cg s).2.2],[])
theorem SA:bF Tryz.prog 4 Sz:=eU (by kernel_rfl) fun s _=>VG s
def SB:cQ:=DQ (.t,bB true,[])
theorem SC:bF Tryz.prog 5 SB:=zJ (by kernel_rfl) fun _=>RZ (Sh wV (by decide))
noncomputable def Xb:cQ:=jh .str fun s=>(.p (ByteArray.size s<=1000000),.bG [.c (.rs 10 (St.aj (gE s).1)),fV (gE s).2.1 (gE s).2.2],[])
theorem VH:bF Tryz.prog 7 Xb:=eU (by kernel_rfl) fun s h=>Fq s (Sh s h) h
def tQ:List ByteArray:=[sep1,sep2,tP,Oy,Oz]
def OE (bt:List ByteArray):Prop:=∃ k,1<=k/\k<=5/\bt=tQ.take k
def cJo:cQ:={ cw:=[],f:=fun args ai=>match args,ai with
 | [x,.p (.c (.rs q l)),y],[]=>match rJ .str x,rJ dS y with
   | some s,some bt=>bif Nat.beq q 4 then some (.p ((cg s).2.1=0/\l=aA (tks s)/\ByteArray.size s<=3000/\OE bt),sS (jn s bt 0 (tks s)),[]) else none
   | _,_=>none
 | _,_=>none }
theorem cJo_ok:bF Tryz.prog 6 cJo:=by
 refine ⟨by kernel_rfl,fun args ai c r aU e hc=>?_⟩
 simp only [cJo] at e
 split at e
 . split at e
   . rename_i s bt hx hy
     obtain ⟨hb,e1⟩:=ah.ay e
     clear e
     cases Nat.eq_of_beq_eq_true hb
     cases e1
     obtain ⟨h0,rfl,hs,k,hk1,hk2,rfl⟩:=hc
     have hL:=J0 h0
     rw [<-uT h0] at hL
     have hP:=(Sq (by omega) _ _ hL).1
     have hl:(tks s).length<=20000:=kr s
     have:=OC s (tks s) (tQ.take k) hP (by omega) (by omega) ?_ ?_
     . exact bq.args this fun η Z vs hv=>match vs,hv with | [_,_,_],⟨a,b,d⟩=>⟨jb hx a,b,jb hy d.1,d.2⟩
     . rw [List.length_take];show min k 5≠0;omega
     . intro x hx
       have hx:=List.mem_of_mem_take hx
       have key:∀ x∈tQ,x.size<=100:=by decide
       exact key x hx
   . cases e
 . cases e
noncomputable def gBk:bY:=[(4,Sz),(5,SB),(6,cJo),(7,Xb),(8,W7 1000001)]
theorem SE:aZ Tryz.prog gBk:=ar SA (ar SC (ar cJo_ok (ar VH (ar (Sj (Sl _)) aF))))
theorem bet_ok:∀ x∈tQ,qR x:=by
 intro x hx
 unfold tQ at hx
 simp only [List.mem_cons,List.not_mem_nil,or_false] at hx
 rcases hx with rfl | rfl | rfl | rfl | rfl
 . exact YK
 . exact YL
 . exact YO
 . exact YM
 . exact YN
theorem SF {s:ByteArray} (h0:(cg s).2.1=0) (hs:s.size<=3000) {bt:List ByteArray} (hk:∃ k,1<=k/\k<=5/\bt=tQ.take k) :
 (20000<((jn s bt 0 (tks s)).size:Int)->ax [V.c (W.bool true)]=bB true)/\(((jn s bt 0 (tks s)).size:Int)<=20000->s.size<=1000000/\(jn s bt 0 (tks s)).size<=1000000/\
  ((gE s).2.1=(gE (jn s bt 0 (tks s))).2.1->wW (St.aj (gE s).1) (St.aj (gE (jn s bt 0 (tks s))).1) 1000001)/\
  ax [V.c (W.bool (decide ((gE s).2.1=(gE (jn s bt 0 (tks s))).2.1)&&St.fF (cG (St.aj (gE s).1)) (cG (St.aj (gE (jn s bt 0 (tks s))).1))&&true))]=bB true):=by
 obtain ⟨k,hk1,hk2,rfl⟩:=hk
 refine ⟨fun _=>rfl,fun hJ=>⟨by omega,by omega,fun _=>?_,?_⟩⟩
 . have a:=Mw s
   have b:=Mw (jn s (tQ.take k) 0 (tks s))
   exact Dn (Sy _) (Sy _) (by omega) (by omega) (by omega)
 . have hne:tQ.take k≠[]:=by
    intro e
    have:=congrArg List.length e
    rw [List.length_take] at this
    have h5:tQ.length=5:=rfl
    simp only [List.length_nil] at this
    omega
   have hl:=OA (bt:=tQ.take k) (fun x hx=>bet_ok x (List.mem_of_mem_take hx)) hne h0 (by rw [<-uT h0];omega)
   rw [<-uT h0] at hl
   rw [cZ,cZ,decide_eq_true hl.1.symm,(St.pI _ _).2 hl.2.symm];rfl
noncomputable def sBk:aX:=cX Tryz.prog gBk Tryz.f3 0 [([0,1,0,1,1,1],[0,1,5,7])]
theorem Mx (s : ByteArray) (n : Int) (h0 : (cg s).2.1 = 0) (hs : s.size ≤ 3000) (hP : FZ s (tks s)) : ∀ (j i : Nat), j = (tks s).length - i → i ≤ (tks s).length → aG sBk (aV (bB true) []) [0, 1, 0, 1, 1, 1] (fr [(0, sS s), (1, nI n), (5, Sm (tks s)), (7, nI i)]) (.ofList [])
 | j, i, hj, hi => by
   refine bZ SE (by kernel_rfl) 400 ?_
   apply of_eq (q:=let q0:=IntKind.i64.wrap;let q9:=((1:Int)+q0 (((q0 (n.tmod (10:Int)+10)).tmod (10:Int)).tdiv (2:Int)));let bE:=(aA (tks s));let bV:=decide ((s.size:Int)<=(bE.getD (i*4+3) (PV.bool false)).asInt);let dx:=(32:UInt8);let eO:=(St.aj (gE s).fst);let dO:=(0:Int);let bW:=([]:List Ob)=[];let d9:=(10:UInt8);let cL:=(i:Int);let q1:=(List.take (q0 q9-0).toNat (List.drop ((0:Nat)+0*1) [ByteArray.mk #[dx],ByteArray.mk #[d9],ByteArray.mk #[dx,(35:UInt8),dx,(120:UInt8),dx,(59:UInt8),dx,(125:UInt8),dx,(34:UInt8),d9],ByteArray.mk #[dx,dx],ByteArray.mk #[d9,d9]]));let q4:=decide ((bE.getD (i*4+3) (PV.bool false)).asInt<0);let q5:=decide (dO<cL)=true;let q7:=(List.take (5:Nat) (List.drop (0:Nat) [ByteArray.mk #[dx],ByteArray.mk #[d9],ByteArray.mk #[dx,(35:UInt8),dx,(120:UInt8),dx,(59:UInt8),dx,(125:UInt8),dx,(34:UInt8),d9],ByteArray.mk #[dx,dx],ByteArray.mk #[d9,d9]]));let aM:=(jn s q1 (0:Nat) (tks s));let cN:=(PV.int dO).like (bE.getD (i*4+3) (PV.bool false))=true;let bP:=q4=false;let dX:=(q0 (cL-1));let q2:=(bif q4 then true else bV)=false;let q3:=(jn s q7 (0:Nat) (tks s));let q6:=decide ((gE s).snd.fst=(gE aM).snd.fst);let q8:=decide ((gE s).snd.fst=(gE q3).snd.fst);let bg:=decide ((bE.getD (i*4+3) (PV.bool false)).asInt<=(bE.getD (dX.toNat*4+3) (PV.bool false)).asInt);let fu:=(bif q6 then St.fF (cG eO) (cG (St.aj (gE aM).fst)) else false)=true;let eP:=(bif q8 then St.fF (cG eO) (cG (St.aj (gE q3).fst)) else false)=true;(decide (cL<(↑(bE.length / 4):Int))=true->(dO<=cL/\i*4<bE.length)/\i*4+3<bE.length/\cN/\(bP->bP)/\(bP->bP)/\(bP->dO<=cL/\i*4<bE.length)/\(bP->bP)/\(bP->bP)/\(bP->i*4+3<bE.length)/\(bP->cN)/\(bP->bP)/\(bP->bP)/\(bP->bP)/\(bP->bP)/\(q2->q2)/\(q2->q2)/\(q2/\q5->q2/\q5)/\(q2/\q5->q2/\q5)/\(q2/\q5->dO<=cL/\i*4<bE.length)/\(q2/\q5->q2/\q5)/\(q2/\q5->q2/\q5)/\(q2/\q5->i*4+3<bE.length)/\(q2/\q5->cN)/\(q2/\q5->q2/\q5)/\(q2/\q5->q2/\q5)/\(q2/\q5->q2/\q5)/\(q2/\q5->dO<=q0 (cL-1)/\dX.toNat*4<bE.length)/\(q2/\q5->q2/\q5)/\(q2/\q5->q2/\q5)/\(q2/\q5->dX.toNat*4+3<bE.length)/\(q2/\q5->(PV.int dO).like (bE.getD (dX.toNat*4+3) (PV.bool false))=true)/\(q2/\q5->q2/\q5)/\(q2/\q5->q2/\q5)/\(q2->q2)/\(q2->q5->q2/\q5)/\(q2->q2)/\((bif bif q4 then true else bV then true else bif decide (dO<cL) then bg else false)=true->ax [vB false]=bB true/\bW)/\((bif bif q4 then true else bV then true else bif decide (dO<cL) then bg else false)=false->aG sBk (aV (bB true) []) [0,1,0,1,1,1] (fr [(0,aP (W.str s)),(1,nI n),(5,aP (W.rs (4:Nat) bE)),(7,nI (q0 (cL+1)))]) (af.ofList [])))/\(decide (cL<(↑(bE.length / 4):Int))=false->(2:Int)≠dO/\(decide (n.tmod (2:Int)=0)=true->(10:Int)≠dO/\(10:Int)≠dO/\(2:Int)≠dO/\(dO<=0/\dO<=q0 q9/\q0 q9<=(↑(5:Nat):Int))/\(0:Nat)+0*1+(q0 q9-0).toNat<=5/\((cg s).snd.fst=0/\aA (tks s)=aA (tks s)/\s.size<=3000/\OE q1)/\(decide ((20000:Int)<(↑aM.size:Int))=true->ax [vB true]=bB true/\bW)/\(decide ((20000:Int)<(↑aM.size:Int))=false->s.size<=1000000/\aM.size<=1000000/\(q6=true->q6=true)/\(q6=true->q6=true)/\(q6=true->wW eO (St.aj (gE aM).fst) (1000001:Nat))/\(q6=true->q6=true)/\(fu->fu)/\ax [vB (bif bif q6 then St.fF (cG eO) (cG (St.aj (gE aM).fst)) else false then true else false)]=bB true/\bW))/\(decide (n.tmod (2:Int)=0)=false->(0:Nat)+5<=5/\((cg s).snd.fst=0/\aA (tks s)=aA (tks s)/\s.size<=3000/\OE q7)/\(decide ((20000:Int)<(↑q3.size:Int))=true->ax [vB true]=bB true/\bW)/\(decide ((20000:Int)<(↑q3.size:Int))=false->s.size<=1000000/\q3.size<=1000000/\(q8=true->q8=true)/\(q8=true->q8=true)/\(q8=true->wW eO (St.aj (gE q3).fst) (1000001:Nat))/\(q8=true->q8=true)/\(eP->eP)/\ax [vB (bif bif q8 then St.fF (cG eO) (cG (St.aj (gE q3).fst)) else false then true else false)]=bB true/\bW)))) (by kernel_rfl)
   try simp only [sL,Int.reduceEq]
   have hl:(aA (tks s)).length=(tks s).length*4:=j8 _
   have hd4:(aA (tks s)).length / 4=(tks s).length:=by omega
   have hT:(tks s).length<=20000:=kr s
   rw [hd4]
   refine ⟨fun h1=>?_,fun h1=>?_⟩
   . have h1:i<(tks s).length:=by omega
     obtain ⟨p,hat,hpe,hes,htx⟩:=hP i h1
     have f3:(aA (tks s)).getD (i*4+3) (.bool false)=.int (tks s)[i].at_:=iW h1 3 (by omega)
     have hp:(PV.int (tks s)[i].at_).asInt=(p:Nat):=hat
     have Xc:0<i->∃ p':Nat,(aA (tks s)).getD ((IntKind.i64.wrap ((i:Int)-1)).toNat*4+3) (.bool false)=.int (p':Nat)/\p'<p:=by
      intro hi0
      have h2:i-1<(tks s).length:=by omega
      obtain ⟨p',hat',J4,_,_⟩:=hP (i-1) h2
      refine ⟨p',?_,?_⟩
      . rw [wrap64 (by omega) (by omega),show ((i:Int)-1).toNat=i-1 by omega,<-hat']
        exact iW h2 3 (by omega)
      . rw [show i-1+1=i by omega,List.drop_eq_getElem_cons h1] at J4
        have J4:p'<(tks s)[i].at_.toNat:=J4
        rw [hat] at J4
        exact J4
     have hw:0<i->IntKind.i64.wrap ((i:Int)-1)=((i-1:Nat):Int):=fun hi0=>by rw [wrap64 (by omega) (by omega)];omega
     rw [f3,hp,wrap64 (n:=(i:Int)+1) (by omega) (by omega)]
     refine ⟨⟨by omega,by omega⟩,by omega,rfl,fun _=>⟨by omega,by omega⟩,fun _=>by omega,fun _=>rfl,fun _=>⟨by omega,by omega⟩,fun _=>by omega,fun _=>rfl,fun h=>?_,fun h=>?_,fun h=>?_,fun a b=>⟨a,b⟩,fun h=>?_,fun h=>?_⟩
     . rw [hw (by omega)];omega
     . rw [hw (by omega)];omega
     . obtain ⟨p',e,_⟩:=Xc (by omega)
       rw [e];rfl
     . exfalso
       rcases h with (h | h) | ⟨h,h'⟩
       . omega
       . omega
       . obtain ⟨p',e,hlt⟩:=Xc (by omega)
         rw [e] at h'
         have h':(p:Int)<=(p':Int):=h'
         omega
     . cases j with
       | zero=>omega
       | succ j=>exact Mx s n h0 hs hP j (i+1) (by omega) (by omega)
   . have hm:(n.tmod 10).natAbs<10:=by rw [Int.natAbs_tmod];exact Nat.mod_lt _ (by decide)
     have e1:IntKind.i64.wrap (n.tmod 10+10)=n.tmod 10+10:=wrap64 (by omega) (by omega)
     have e2:(n.tmod 10+10).tmod 10=(n.tmod 10+10) % 10:=Int.tmod_eq_emod_of_nonneg (by omega)
     have e3:((n.tmod 10+10) % 10).tdiv 2=((n.tmod 10+10) % 10) / 2:=Int.tdiv_eq_ediv_of_nonneg (by omega)
     have e4:IntKind.i64.wrap (((n.tmod 10+10) % 10) / 2)=((n.tmod 10+10) % 10) / 2:=wrap64 (by omega) (by omega)
     have e5:IntKind.i64.wrap (1+((n.tmod 10+10) % 10) / 2)=1+((n.tmod 10+10) % 10) / 2:=wrap64 (by omega) (by omega)
     rw [e1,e2,e3,e4,e5]
     refine ⟨fun _=>⟨⟨by omega,by omega⟩,by omega,⟨h0,hs,_,?_,?_,rfl⟩,SF h0 hs ⟨_,?_,?_,rfl⟩⟩,fun _=>⟨⟨h0,hs,5,by omega,by omega,rfl⟩,SF h0 hs ⟨5,by omega,by omega,rfl⟩⟩⟩
     all_goals omega
theorem OG (s:ByteArray) (n:Int):bq Tryz.prog 3 [sS s,nI n] [] (bB true) []:=by
 refine bh (aJ:=[([0,1,0,1,1,1],[0,1,5,7])]) SE Tryz.func3 (by kernel_rfl) (ak:=0) rfl (by kernel_rfl) 400 ?_
 apply of_eq (q:=let q1:=decide ((3000:Int)<(s.size:Int));(q1=false->q1=false)/\(q1=false->q1=false)/\(q1=false->q1=false)/\((bif q1 then true else !decide ((cg s).snd.fst=0))=true->ax [vB true]=bB true/\([]:List Ob)=[])/\((bif q1 then true else !decide ((cg s).snd.fst=0))=false->aG (cX Tryz.prog gBk Tryz.f3 (0:Nat) [([0,1,0,1,1,1],[0,1,5,7])]) (aV (bB true) []) [0,1,0,1,1,1] (fr [(0,aP (W.str s)),(1,nI n),(5,aP (W.rs (4:Nat) (aA (tks s)))),(7,nI (0))]) (af.ofList []))) (by kernel_rfl)
 try simp only [sL]
 refine ⟨fun _=>rfl,fun h=>?_⟩
 have h0:(cg s).2.1=0:=h.2
 have hs:s.size<=3000:=by omega
 have hL:=J0 h0
 rw [<-uT h0] at hL
 exact Mx s n h0 hs (Sq (by omega) _ _ hL).1 ((tks s).length-0) 0 rfl (by omega)
theorem OH:zQ (fun args=>bq Tryz.prog 3 args [] (dat .bool true) []) [.str,.int .i64] []:=fun s _ n _=>OG s n
end Go.Proofs.YtelpmhfdbdihfaaGreatDoor
