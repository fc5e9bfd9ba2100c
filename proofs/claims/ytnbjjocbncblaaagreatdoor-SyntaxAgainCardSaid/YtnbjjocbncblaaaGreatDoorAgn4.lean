/- Programs that are equal but for lines: the program's Same. -/
import Derived.Test.YtnbjjocbncblaaaGreatDoorBlank1
import Derived.Test.YtnbjjocbncblaaaGreatDoorAgn3
import Derived.Test.YtnbjjocbncblaaaGreatDoorLoom4
namespace Go.Proofs.YtnbjjocbncblaaaGreatDoor
open Go.aN Go.RowKit
set_option maxRecDepth 100000
noncomputable def sEq:bg:=dK Tryz.prog [] Tryz.f44 0 [([0,1,0,1,1],[0,1,12,13])]
theorem Nz(l m:List ByteArray)(hl:l.length<=1000000/\m.length=l.length):∀(k i:Nat),k=l.length-i->i<=l.length->aJ sEq (aW (bB (decide (l.drop i=m.drop i))) []) [0,1,0,1,1] (fr [(0,pq l),(1,pq m),(12,nI l.length),(13,nI i)]) (.ofList [])
 | k, i, hk, hi => by
   refine ct aD (by kernel_rfl) 100 ?_;apply of_eq (q:=let q1:=decide (List.drop i l=List.drop i m);let q2:=decide (l.getD i (ByteArray.mk #[])=m.getD i (ByteArray.mk #[]));(decide ((i:Int)<(l.length:Int))=true->((0:Int)<=(i:Int)/\(i:Int)<(l.length:Int))/\i<l.length/\((0:Int)<=(i:Int)/\(i:Int)<(m.length:Int))/\i<m.length/\((!q2)=true->ax [vB false]=bB (q1)/\([]:List Ob)=[])/\((!q2)=false->aJ sEq (aW (bB (q1)) []) [0,1,0,1,1] (fr [(0,aP (W.rd D.str l)),(1,aP (W.rd D.str m)),(12,nI (l.length:Int)),(13,nI (IntKind.i64.wrap ((i:Int)+1)))]) (af.ofList [])))/\(decide ((i:Int)<(l.length:Int))=false->ax [vB true]=bB (q1)/\([]:List Ob)=[])) (by kernel_rfl)
   try simp only[sL]
   obtain⟨hl1,hl2⟩:=hl;refine⟨fun h=>⟨by omega,by omega,by omega,by omega,fun h1=>?_,fun h1=>?_⟩,fun h=>?_⟩;rw[decide_eq_false];rfl;intro e;rw[List.drop_eq_getElem_cons (l:=l) (i:=i) (by omega),List.drop_eq_getElem_cons (l:=m) (i:=i) (by omega)] at e;apply h1;rw[List.getD_eq_getElem?_getD,List.getElem?_eq_getElem (by omega),List.getD_eq_getElem?_getD,List.getElem?_eq_getElem (by omega)];exact(List.cons.inj e).1
   . rw[wrap64 (by omega) (by omega)];have e:decide (l.drop i=m.drop i)=decide (l.drop (i+1)=m.drop (i+1)):=by
      rw[List.drop_eq_getElem_cons (l:=l) (i:=i) (by omega),List.drop_eq_getElem_cons (l:=m) (i:=i) (by omega)];rw[List.getD_eq_getElem?_getD,List.getElem?_eq_getElem (by omega),List.getD_eq_getElem?_getD,List.getElem?_eq_getElem (by omega)] at h1;have h1:l[i]=m[i]:=h1;rw[h1];exact decide_eq_decide.2 ⟨fun e=>(List.cons.inj e).2,fun e=>by rw[e]⟩
     rw[e];cases k with
     | zero=>omega
     | succ k=>exact Nz l m ⟨hl1,hl2⟩ k (i+1) (by omega) (by omega)
   rw[List.drop_eq_nil_of_le (by omega),List.drop_eq_nil_of_le (by omega)];rfl
theorem eqs_sem(l m:List ByteArray)(hl:l.length<=1000000/\m.length<=1000000):br Tryz.prog 44 [pq l,pq m] [] (bB (decide (l=m))) []:=by
 refine bn (aK:=[([0,1,0,1,1],[0,1,12,13])]) aD Tryz.func44 (by kernel_rfl) (aj:=0) rfl (by kernel_rfl) 100 ?_;apply of_eq (q:=((!decide ((l.length:Int)=(m.length:Int)))=true->ax [vB false]=bB (decide (l=m))/\([]:List Ob)=[])/\((!decide ((l.length:Int)=(m.length:Int)))=false->aJ (dK Tryz.prog [] Tryz.f44 (0:Nat) [([0,1,0,1,1],[0,1,12,13])]) (aW (bB (decide (l=m))) []) [0,1,0,1,1] (fr [(0,aP (W.rd D.str l)),(1,aP (W.rd D.str m)),(12,nI (l.length:Int)),(13,nI (0))]) (af.ofList []))) (by kernel_rfl)
 try simp only[sL]
 refine⟨fun h=>?_,fun h=>?_⟩;rw[decide_eq_false (by rintro rfl;exact h rfl)];rfl;have:=Nz l m ⟨hl.1,by omega⟩ _ 0 rfl (by omega);rw[List.drop_zero,List.drop_zero] at this;exact this
def c_eqs:cV:=zy dS dS fun l m=>(.p (List.length (α:=ByteArray) l<=1000000/\List.length (α:=ByteArray) m<=1000000),bB (decide ((show List ByteArray from l)=m)),[])
theorem Zu:bt Tryz.prog 44 c_eqs:=r9 (by kernel_rfl) fun l m h=>eqs_sem l m h
mutual
def St.lI:St->St->Bool
 | .mk k _ t p e b c,.mk k' _ t' p' e' b' c'=>decide (k=k')&&decide (t=t')&&decide (p=p')&&e.lI e'&&St.gN b b'&&St.gN c c'
def St.gN:List St->List St->Bool
 | [],[]=>true
 | a::l,b::m=>a.lI b&&St.gN l m
 | _,_=>false
end
theorem St.WA(a b:St):a.lI b=(decide (a.k=b.k)&&decide (a.name=b.name)&&decide (a.params=b.params)&&a.e.lI b.e&&St.gN a.body b.body&&St.gN a.els b.els):=by cases a;cases b;rw[St.lI];rfl
theorem St.yj:St.gN [] []=true:=by rw[St.gN]
theorem St.ql(a b:St)(l m:List St):St.gN (a::l) (b::m)=(a.lI b&&St.gN l m):=by rw[St.gN]
theorem St.yp:∀(l m:List St),l.length≠m.length->St.gN l m=false
 | [],[],h=>absurd rfl h
 | [],b::m,_=>by rw[St.gN]<;>simp
 | a::l,[],_=>by rw[St.gN]<;>simp
 | a::l,b::m,h=>by
   rw[St.ql,St.yp l m (fun e=>h (by simp[e])),Bool.and_false]
mutual
theorem St.uw:∀(a b:St),a.lI b=true↔a.un=b.un
 | .mk k n t p e b c,.mk k' n' t' p' e' b' c'=>by
   rw[St.lI,Bool.and_eq_true,Bool.and_eq_true,Bool.and_eq_true,Bool.and_eq_true,Bool.and_eq_true,St.sy b b',St.sy c c',Ex.uw,decide_eq_true_eq,decide_eq_true_eq,decide_eq_true_eq,St.un,St.un,St.mk.injEq];simp[and_assoc]
theorem St.sy:∀(l m:List St),St.gN l m=true↔St.fO l=St.fO m
 | [],[]=>by simp[St.yj]
 | [],b::m=>by rw[St.gN,St.fO,St.fO]<;>simp
 | a::l,[]=>by rw[St.gN,St.fO,St.fO]<;>simp
 | a::l,b::m=>by rw[St.ql,Bool.and_eq_true,St.uw a b,St.sy l m,St.fO,St.fO,List.cons.injEq]
end
def D1(l m:List PV)(n:Nat):Prop:=(∃ L,l=St.ak L)/\(∃ M,m=St.ak M)/\St.gZ (cW l)/\St.gZ (cW m)/\St.aH (cW l)<n/\St.aH (cW l)<=1000000/\St.aH (cW m)<=1000000
theorem Gn{L M:List St}{n:Nat}(p1:St.gZ L)(p2:St.gZ M)(h1:St.aH L<n)(h2:St.aH L<=1000000)(h3:St.aH M<=1000000):D1 (St.ak L) (St.ak M) n:=by
 unfold D1;rw[dB,dB];exact⟨⟨_,rfl⟩,⟨_,rfl⟩,p1,p2,h1,h2,h3⟩
noncomputable def cSm(n:Nat):cV:={ cC:=[],f:=fun args ai=>match args,ai with
 | [.p (.c (.rs q l)),.p (.c (.rs q' l'))],[]=>bif Nat.beq q 10&&Nat.beq q' 10 then some (.p (D1 l l' n),bB (St.gN (cW l) (cW l')),[]) else none
 | _,_=>none }
def Gp(n:Nat):Prop:=∀(L M:List St),St.gZ L->St.gZ M->St.aH L<n->St.aH L<=1000000->St.aH M<=1000000->br Tryz.prog 8 [ot L,ot M] [] (bB (St.gN L M)) []
theorem WB{n:Nat}(h:Gp n):bt Tryz.prog 8 (cSm n):=by
 refine⟨by kernel_rfl,fun args ai c r aV e hc=>?_⟩;simp only[cSm] at e;split at e;obtain⟨hb,e1⟩:=ah.ay e;clear e;simp only[Bool.and_eq_true,Nat.beq_eq] at hb;obtain⟨rfl,rfl⟩:=hb;cases e1;obtain⟨⟨L,rfl⟩,⟨M,rfl⟩,p1,p2,h2,h3,h4⟩:=hc;rw[dB] at p1 p2 h2 h3 h4;rw[dB,dB];exact h _ _ p1 p2 h2 h3 h4;cases e
noncomputable def Aq(k:Int)(t:ByteArray)(p:List ByteArray)(ek en:Int)(et:ByteArray)(el b c:List PV):St:=.mk k 0 t p (.mk ek en et (bZ el)) (cW b) (cW c)
def ST2(p p':List ByteArray)(el JQ b b' c c':List PV)(n:Nat):Prop:=(p.length<=1000000/\p'.length<=1000000)/\DR el JQ 1000001/\D1 b b' n/\D1 c c' n
noncomputable def cSs(n:Nat):cV:={ cC:=[],f:=fun args ai=>match args,ai with
 | [.p (.agg [.int .i64 k,.int .i64 _,.str t,.rd .str p,.int .i64 ek,.int .i64 en,.str et,.rs q el,.rs qb b,.rs qc c]),.p (.agg [.int .i64 k',.int .i64 _,.str t',.rd .str p',.int .i64 ek',.int .i64 en',.str et',.rs q' JQ,.rs qb' b',.rs qc' c'])],[] =>
   bif Nat.beq q 4&&Nat.beq q' 4&&(Nat.beq qb 10&&Nat.beq qb' 10&&(Nat.beq qc 10&&Nat.beq qc' 10)) then some (.p (ST2 p p' el JQ b b' c c' n),bB ((Aq k t p ek en et el b c).lI (Aq k' t' p' ek' en' et' JQ b' c')),[]) else none
 | _,_=>none }
noncomputable def gSs(n:Nat):bX:=[(44,c_eqs),(45,cXe 1000001),(8,cSm n)]
theorem gSs_ok{n:Nat}(h:Gp n):bh Tryz.prog (gSs n):=aq Zu (aq (VL (MW _)) (aq (WB h) aD))
theorem cSs_ok{n:Nat}(h:Gp n):bt Tryz.prog 19 (cSs n):=by
 refine⟨by kernel_rfl,fun args ai c r aV e hc=>?_⟩;simp only[cSs] at e;split at e;rename_i k ln t p ek en et q el qb b qc cc k' ln' t' p' ek' en' et' q' JQ qb' b' qc' cc';obtain⟨hb,e1⟩:=ah.ay e;clear e;simp only[Bool.and_eq_true,Nat.beq_eq] at hb;obtain⟨⟨rfl,rfl⟩,⟨rfl,rfl⟩,rfl,rfl⟩:=hb;cases e1;obtain⟨⟨hp,hp'⟩,hX,hB,hC⟩:=hc;refine bn (aK:=[]) (gSs_ok h) Tryz.func19 (by kernel_rfl) (aj:=0) rfl (by kernel_rfl) 400 ?_;apply of_eq (q:=let q6:=decide (k=k');let q7:=(Ex.mk ek' en' et' (bZ JQ));let q1:=(bif bif bif bif q6 then decide (t=t') else false then decide (p=p') else false then(Ex.mk ek en et (bZ el)).lI q7 else false then St.gN (cW b) (cW b') else false)=true;let q2:=(bif bif bif q6 then decide (t=t') else false then decide (p=p') else false then(Ex.mk ek en et (bZ el)).lI q7 else false)=true;let q3:=(bif bif q6 then decide (t=t') else false then decide (p=p') else false)=true;let q4:=(bif q6 then decide (t=t') else false)=true;let q5:=q6=true;(q5->q5)/\(q5->q5)/\(q5->q5)/\(q5->q5)/\(q5->q5)/\(q4->q4)/\(q4->q4)/\(q4->q4)/\(q4->q4)/\(q4->p.length<=1000000/\p'.length<=1000000)/\(q4->q4)/\(q3->q3)/\(q3->q3)/\(q3->q3)/\(q3->q3)/\(q3->DR el JQ (1000001:Nat))/\(q3->q3)/\(q2->q2)/\(q2->q2)/\(q2->q2)/\(q2->q2)/\(q2->D1 b b' n)/\(q2->q2)/\(q1->q1)/\(q1->q1)/\(q1->q1)/\(q1->q1)/\(q1->D1 cc cc' n)/\(q1->q1)/\ax [vB (bif bif bif bif bif q6 then decide (t=t') else false then decide (p=p') else false then(Ex.mk ek en et (bZ el)).lI q7 else false then St.gN (cW b) (cW b') else false then St.gN (cW cc) (cW cc') else false)]=bB ((Aq k t p ek en et el b cc).lI (Aq k' t' p' ek' en' et' JQ b' cc'))/\([]:List Ob)=[]) (by kernel_rfl)
 try simp only[sL]
 exact⟨fun _=>⟨hp,hp'⟩,fun _=>hX,fun _=>hB,fun _=>hC,by rw[Aq,Aq,St.lI];rfl⟩;cases e
noncomputable def gSq(n:Nat):bX:=[(19,cSs n)]
theorem WC{n:Nat}(h:Gp n):bh Tryz.prog (gSq n):=aq (cSs_ok h) aD
abbrev fnSs:A:=.p (.c (.func 19 []))
noncomputable def sSq(n:Nat):bg:=eG Tryz.prog (gSq n) Tryz.f18 0 [([0,1,0,1,1],[1,2,15,16,17])] [] []
theorem Qr(x:St):Aq (PV.asInt (.int x.k)) (PV.bN (.str x.name)) (PV.jI (.strs x.params)) (PV.asInt (.int x.e.k)) (PV.asInt (.int x.e.n)) (PV.bN (.str x.e.t)) (PV.aG (.aZ 4 (Ex.ak x.e.l))) (PV.aG (.aZ 10 (St.ak x.body))) (PV.aG (.aZ 10 (St.ak x.els)))=.mk x.k 0 x.name x.params x.e x.body x.els:=by
 have h1:bZ (PV.aG (.aZ 4 (Ex.ak x.e.l)))=x.e.l:=dG _;have h2:cW (PV.aG (.aZ 10 (St.ak x.body)))=x.body:=dB _;have h3:cW (PV.aG (.aZ 10 (St.ak x.els)))=x.els:=dB _;rw[Aq,h1,h2,h3];have:Ex.mk (PV.asInt (.int x.e.k)) (PV.asInt (.int x.e.n)) (PV.bN (.str x.e.t)) x.e.l=x.e:=x.e.eta;rw[this];rfl
theorem Zv(a b:St):(St.mk a.k 0 a.name a.params a.e a.body a.els).lI (.mk b.k 0 b.name b.params b.e b.body b.els)=a.lI b:=by rw[St.WA,St.WA a b];rfl
theorem Qs(n:Nat)(h:Gp n)(L M:List St)(he:L.length=M.length)(p1:St.gZ L)(p2:St.gZ M)(hL:St.aH L<=n)(hl:St.aH L<=1000000)(hm:St.aH M<=1000000):∀(j i:Nat),j=L.length-i->i<=L.length->
 aJ (sSq n) (aW (bB (St.gN (L.drop i) (M.drop i))) []) [0,1,0,1,1] (fr [(1,ot M),(2,fnSs),(15,ot L),(16,nI L.length),(17,nI i)]) (.ofList [])
 | j, i, hj, hi => by
   refine ct (WC h) (by kernel_rfl) 400 ?_;apply of_eq (q:=let q1:=(i*10+1+1+1+1+1+1+1+1+1);let q2:=(i*10+1+1+1+1+1+1+1+1);let q3:=(i*10+1+1+1+1+1+1+1);let q4:=(St.ak L);let q5:=(St.ak M);let q6:=(i*10+1+1+1+1+1+1);let q7:=(i*10+1+1+1+1+1);let q8:=(i*10+1+1+1);let q9:=(i*10+1+1+1+1);let bM:=(St.gN (List.drop i L) (List.drop i M));let aQ:=(i*10+1+1);(decide ((i:Int)<(L.length:Int))=true->((0:Int)<=(i:Int)/\i*10<q4.length)/\i*10+10<=q4.length/\(PV.int (0:Int)).like (q4.getD (i*10) (PV.bool false))=true/\(PV.int (0:Int)).like (q4.getD (i*10+1) (PV.bool false))=true/\(PV.str (ByteArray.mk #[])).like (q4.getD aQ (PV.bool false))=true/\(PV.strs []).like (q4.getD q8 (PV.bool false))=true/\(PV.int (0:Int)).like (q4.getD q9 (PV.bool false))=true/\(PV.int (0:Int)).like (q4.getD q7 (PV.bool false))=true/\(PV.str (ByteArray.mk #[])).like (q4.getD q6 (PV.bool false))=true/\(PV.aZ (4:Nat) []).like (q4.getD q3 (PV.bool false))=true/\(PV.aZ (10:Nat) []).like (q4.getD q2 (PV.bool false))=true/\(PV.aZ (10:Nat) []).like (q4.getD q1 (PV.bool false))=true/\((0:Int)<=(i:Int)/\i*10<q5.length)/\i*10+10<=q5.length/\(PV.int (0:Int)).like (q5.getD (i*10) (PV.bool false))=true/\(PV.int (0:Int)).like (q5.getD (i*10+1) (PV.bool false))=true/\(PV.str (ByteArray.mk #[])).like (q5.getD aQ (PV.bool false))=true/\(PV.strs []).like (q5.getD q8 (PV.bool false))=true/\(PV.int (0:Int)).like (q5.getD q9 (PV.bool false))=true/\(PV.int (0:Int)).like (q5.getD q7 (PV.bool false))=true/\(PV.str (ByteArray.mk #[])).like (q5.getD q6 (PV.bool false))=true/\(PV.aZ (4:Nat) []).like (q5.getD q3 (PV.bool false))=true/\(PV.aZ (10:Nat) []).like (q5.getD q2 (PV.bool false))=true/\(PV.aZ (10:Nat) []).like (q5.getD q1 (PV.bool false))=true/\ST2 (q4.getD q8 (PV.bool false)).jI (q5.getD q8 (PV.bool false)).jI (q4.getD q3 (PV.bool false)).aG (q5.getD q3 (PV.bool false)).aG (q4.getD q2 (PV.bool false)).aG (q5.getD q2 (PV.bool false)).aG (q4.getD q1 (PV.bool false)).aG (q5.getD q1 (PV.bool false)).aG n/\((!(Aq (q4.getD (i*10) (PV.bool false)).asInt (q4.getD aQ (PV.bool false)).bN (q4.getD q8 (PV.bool false)).jI (q4.getD q9 (PV.bool false)).asInt (q4.getD q7 (PV.bool false)).asInt (q4.getD q6 (PV.bool false)).bN (q4.getD q3 (PV.bool false)).aG (q4.getD q2 (PV.bool false)).aG (q4.getD q1 (PV.bool false)).aG).lI (Aq (q5.getD (i*10) (PV.bool false)).asInt (q5.getD aQ (PV.bool false)).bN (q5.getD q8 (PV.bool false)).jI (q5.getD q9 (PV.bool false)).asInt (q5.getD q7 (PV.bool false)).asInt (q5.getD q6 (PV.bool false)).bN (q5.getD q3 (PV.bool false)).aG (q5.getD q2 (PV.bool false)).aG (q5.getD q1 (PV.bool false)).aG))=true->ax [vB false]=bB bM/\([]:List Ob)=[])/\((!(Aq (q4.getD (i*10) (PV.bool false)).asInt (q4.getD aQ (PV.bool false)).bN (q4.getD q8 (PV.bool false)).jI (q4.getD q9 (PV.bool false)).asInt (q4.getD q7 (PV.bool false)).asInt (q4.getD q6 (PV.bool false)).bN (q4.getD q3 (PV.bool false)).aG (q4.getD q2 (PV.bool false)).aG (q4.getD q1 (PV.bool false)).aG).lI (Aq (q5.getD (i*10) (PV.bool false)).asInt (q5.getD aQ (PV.bool false)).bN (q5.getD q8 (PV.bool false)).jI (q5.getD q9 (PV.bool false)).asInt (q5.getD q7 (PV.bool false)).asInt (q5.getD q6 (PV.bool false)).bN (q5.getD q3 (PV.bool false)).aG (q5.getD q2 (PV.bool false)).aG (q5.getD q1 (PV.bool false)).aG))=false->aJ (sSq n) (aW (bB bM) []) [0,1,0,1,1] (fr [(1,aP (W.rs (10:Nat) q5)),(2,aP (W.func 19 [])),(15,aP (W.rs (10:Nat) q4)),(16,nI (L.length:Int)),(17,nI (IntKind.i64.wrap ((i:Int)+1)))]) (af.ofList [])))/\(decide ((i:Int)<(L.length:Int))=false->ax [vB true]=bB bM/\([]:List Ob)=[])) (by kernel_rfl)
   try simp only[sL]
   have bE:=St.jM L;refine⟨fun h1=>?_,fun h1=>?_⟩;have h1:i<L.length:=by omega
   have h2:i<M.length:=by omega
   obtain⟨e0,e1,e2,e3,e4,e5,e6,e7,e8,e9⟩:=FU h1;obtain⟨f0,f1,f2,f3,f4,f5,f6,f7,f8,f9⟩:=FU h2;rw[e0,e1,e2,e3,e4,e5,e6,e7,e8,e9,f0,f1,f2,f3,f4,f5,f6,f7,f8,f9,Qr,Qr,Zv,wrap64 (n:=(i:Int)+1) (by omega) (by omega),List.drop_eq_getElem_cons h1,List.drop_eq_getElem_cons h2,St.ql];have m1:=St.jN (List.getElem_mem h1);have m2:=St.jN (List.getElem_mem h2);obtain⟨a1,a2,a3⟩:=(St.FP _).1 (St.Cg p1 (List.getElem_mem h1));obtain⟨b1,b2,b3⟩:=(St.FP _).1 (St.Cg p2 (List.getElem_mem h2));have z1:=St.fE L[i];have z2:=St.fE M[i];have y1:=Ex.fE L[i].e;have y2:=Ex.fE M[i].e;have g1:i*10+10<=(St.ak L).length:=by rw[St.dQ];omega
   have g2:i*10+10<=(St.ak M).length:=by rw[St.dQ];omega
   have hS:ST2 (PV.jI (.strs L[i].params)) (PV.jI (.strs M[i].params)) (PV.aG (.aZ 4 (Ex.ak L[i].e.l))) (PV.aG (.aZ 4 (Ex.ak M[i].e.l))) (PV.aG (.aZ 10 (St.ak L[i].body))) (PV.aG (.aZ 10 (St.ak M[i].body))) (PV.aG (.aZ 10 (St.ak L[i].els))) (PV.aG (.aZ 10 (St.ak M[i].els))) n :=
    ⟨⟨by show L[i].params.length<=_;omega,by show M[i].params.length<=_;omega⟩,FK (by omega) (by omega) (by omega),Gn a2 b2 (by omega) (by omega) (by omega),Gn a3 b3 (by omega) (by omega) (by omega)⟩
   refine⟨⟨by omega,by omega⟩,g1,rfl,rfl,rfl,rfl,rfl,rfl,rfl,rfl,rfl,rfl,⟨by omega,by omega⟩,g2,rfl,rfl,rfl,rfl,rfl,rfl,rfl,rfl,rfl,rfl,hS,fun hf=>?_,fun ht=>?_⟩;rw[hf];rfl
   . rw[ht,Bool.true_and];cases j with
     | zero=>omega
     | succ j=>exact Qs n h L M he p1 p2 hL hl hm j (i+1) (by omega) (by omega)
   rw[List.drop_eq_nil_of_le (by omega),List.drop_eq_nil_of_le (by omega),St.yj];rfl
noncomputable def cSq(n:Nat):cV:={ cC:=[],f:=fun args ai=>match args,ai with
 | [.p (.c (.rs q l)),.p (.c (.rs q' l')),.p (.c (.func f []))],[]=>bif Nat.beq q 10&&Nat.beq q' 10&&Nat.beq f 19 then some (.p (D1 l l' (n+1)),bB (St.gN (cW l) (cW l')),[]) else none
 | _,_=>none }
theorem cSq_ok{n:Nat}(h:Gp n):bt Tryz.prog 18 (cSq n):=by
 refine⟨by kernel_rfl,fun args ai c r aV e hc=>?_⟩;simp only[cSq] at e;split at e;obtain⟨hb,e1⟩:=ah.ay e;clear e;simp only[Bool.and_eq_true,Nat.beq_eq] at hb;obtain⟨⟨rfl,rfl⟩,rfl⟩:=hb;cases e1;obtain⟨⟨L,rfl⟩,⟨M,rfl⟩,p1,p2,h2,h3,h4⟩:=hc;rw[dB] at p1 p2 h2 h3 h4;rw[dB,dB];refine bn (aK:=[([0,1,0,1,1],[1,2,15,16,17])]) (WC h) Tryz.func18 (by kernel_rfl) (aj:=0) rfl (by kernel_rfl) 200 ?_;apply of_eq (q:=let q1:=decide ((↑((St.ak L).length/10):Int)=(↑((St.ak M).length/10):Int));((!q1)=true->ax [vB false]=bB (St.gN L M)/\([]:List Ob)=[])/\((!q1)=false->aJ (dK Tryz.prog (gSq n) Tryz.f18 (0:Nat) [([0,1,0,1,1],[1,2,15,16,17])]) (aW (bB (St.gN L M)) []) [0,1,0,1,1] (fr [(1,aP (W.rs (10:Nat) (St.ak M))),(2,aP (W.func 19 [])),(15,aP (W.rs (10:Nat) (St.ak L))),(16,nI (↑((St.ak L).length/10):Int)),(17,nI (0))]) (af.ofList []))) (by kernel_rfl)
 try simp only[sL]
 rw[FG,FG];refine⟨fun hn=>?_,fun hn=>?_⟩;rw[St.yp _ _ (by omega)];rfl;exact Qs n h L M (by omega) p1 p2 (by omega) h3 h4 (L.length-0) 0 rfl (by omega);cases e
theorem sm_step(n:Nat)(h:Gp n):Gp (n+1):=by
 intro L M p1 p2 hL hl hm;refine bn (aK:=[]) (aq (cSq_ok h) aD) Tryz.func8 (by kernel_rfl) (aj:=0) rfl (by kernel_rfl) 200 ?_;apply of_eq (q:=D1 (St.ak L) (St.ak M) (n+1)/\ax [vB (St.gN (cW (St.ak L)) (cW (St.ak M)))]=bB (St.gN L M)/\([]:List Ob)=[]) (by kernel_rfl)
 try simp only[sL]
 rw[dB,dB];exact⟨Gn p1 p2 hL hl hm,rfl⟩
theorem WD:∀ n,Gp n
 | 0=>fun L M _ _ h=>by omega
 | n+1=>sm_step n (WD n)
theorem lC:pS.pk:=by rw[pS,St.pk];exact⟨Nat.zero_le _,St.iQ,St.iQ⟩
theorem Db{k n:Int}{t:ByteArray}{p:List ByteArray}{e:Ex}{b c:List St}(hp:p.length<=20001)(hb:St.gZ b)(hc:St.gZ c):(St.mk k n t p e b c).pk:=(St.pk_mk ..).2 ⟨hp,hb,hc⟩
theorem EF{l:List St}{x:St}(h:St.gZ l)(hx:x.pk):St.gZ (l++[x]):=by
 induction l with
 | nil=>rw[List.nil_append,St.vA];exact⟨hx,St.iQ⟩
 | cons y l ih =>
   rw[St.vA] at h;rw[List.cons_append,St.vA];exact⟨h.1,ih h.2⟩
section
variable {s:ByteArray} {l:List Tok}
theorem Qt:∀(k:Nat)(acc:List ByteArray)(i:Int),(mr s l k acc i).v.length<=acc.length+k
 | 0,acc,i=>Nat.le_refl _
 | k + 1, acc, i => by
   unfold mr;cases lH s l acc i with
   | some q=>show acc.length<=_;omega
   | none =>
     show (bif _ then _ else _:XR (List ByteArray)).v.length<=_;cases aA l (i+1) dx with
     | true=>show (acc++[_]).length<=_;rw[List.length_append,List.length_singleton];omega
     | false =>
       simp only[cond_false];cases aA l (i+1) jL with
       | true =>
         have:=Qt k (acc++[(aM l i).text]) (i+1+1);rw[List.length_append,List.length_singleton] at this;simp only[cond_true];omega
       | false=>show acc.length<=_;omega
theorem WE{k n:Int}{q:XR Ex}:(qG k n q).v.pk:=by
 unfold qG;cases q.die with
 | true=>exact lC
 | false=>exact Db (Nat.zero_le _) St.iQ St.iQ
theorem setF_pk{n:Int}{t:ByteArray}{q:XR Ex}:(ny n t q).v.pk:=by
 unfold ny;cases q.die with
 | true=>exact lC
 | false=>exact Db (Nat.zero_le _) St.iQ St.iQ
variable {bl:oH} (B:∀ i,St.gZ (bl i).v)
include B
theorem WG{k n:Int}{t:ByteArray}{q:XR Ex}:(oh bl k n t q).v.pk:=by
 unfold oh;cases q.die with
 | true=>exact lC
 | false =>
   simp only[cond_false];cases (bl q.i).die with
   | true=>exact lC
   | false=>exact Db (Nat.zero_le _) (B _) St.iQ
theorem ifF_pk{n:Int}{q:XR Ex}:(pE l bl n q).v.pk:=by
 unfold pE;cases q.die with
 | true=>exact lC
 | false =>
   simp only[cond_false];cases (bl q.i).die with
   | true=>exact lC
   | false =>
     simp only[cond_false];cases aA l (bl q.i).i mH with
     | false=>exact Db (Nat.zero_le _) (B _) St.iQ
     | true =>
       simp only[cond_true];cases (bl ((bl q.i).i+1)).die with
       | true=>exact lC
       | false=>exact Db (Nat.zero_le _) (B _) (B _)
theorem WH(ins:Bool)(i:Int):(iZ s l bl ins i).v.pk:=by
 unfold iZ;cases aA l i oG with
 | true=>exact WE
 | false =>
 simp only[cond_false];cases aA l i vk with
 | true=>exact ifF_pk B
 | false =>
 simp only[cond_false];cases aA l i rD with
 | true=>exact WG B
 | false =>
 simp only[cond_false];cases aA l i sw with
 | true =>
   simp only[cond_true];cases eY l (i+1) with
   | false=>exact lC
   | true =>
     simp only[cond_true];cases aA l (i+1+1) wm with
     | true=>exact WG B
     | false=>exact lC
 | false =>
 simp only[cond_false];cases ins&&aA l i tP with
 | true=>exact WE
 | false =>
 simp only[cond_false];cases eY l i with
 | false=>exact lC
 | true =>
   simp only[cond_true];cases aA l (i+1) yd with
   | true=>exact setF_pk
   | false=>exact lC
omit B in
theorem WI{st:Int->XR St}(S:∀ i,(st i).v.pk):∀(k:Nat)(acc:List St)(i:Int),St.gZ acc->St.gZ (ol s l st k acc i).v
 | 0,acc,i,ha=>ha
 | k + 1, acc, i, ha => by
   unfold ol;cases aA l i mI with
   | true=>exact ha
   | false =>
     simp only[cond_false];cases (st i).die with
     | true=>exact ha
     | false=>exact WI S k _ _ (EF ha (S i))
omit B in
theorem SZ(ins:Bool):∀(n:Nat)(i:Int),St.gZ (gM s l ins n i).v
 | 0,i=>St.iQ
 | n+1,i=>by
   show St.gZ (t6 s l (iZ s l (gM s l ins n) ins) i).v;unfold t6;cases aA l i pX with
   | true=>exact WI (fun i=>WH (SZ ins n) ins i) _ _ _ St.iQ
   | false=>exact St.iQ
theorem dfF_pk(hl : l.length ≤ 20000)(ns : List ByteArray)(n i : Int) : (iM s l bl ns n i).v.pk := by
 unfold iM;cases lH s l ns i with
 | some q=>exact lC
 | none =>
   show (bif _ then _ else _:XR St).v.pk;cases aA l (i+1) eH with
   | false=>exact lC
   | true =>
     simp only[cond_true];have key:∀ q:XR (List ByteArray),q.v.length<=20001->(l6 bl n (aM l i).text q).v.pk:=by
      intro q hq;unfold l6;cases q.die with
      | true=>exact lC
      | false =>
        simp only[cond_false];cases (bl q.i).die with
        | true=>exact lC
        | false=>exact Db hq (B _) St.iQ
     refine key _ ?_;cases aA l (i+1+1) dx with
     | true=>exact Nat.zero_le _
     | false =>
       have:=Qt (s:=s) (l:=l) (l.length+1) [] (i+1+1);simp only[cond_false];simp only[List.length_nil] at this;omega
omit B in
theorem NA(hl:l.length<=20000):∀(k:Nat)(acc:List St)(ns:List ByteArray)(i:Int),St.gZ acc->St.gZ (mK s l k acc ns i).v.1
 | 0,acc,ns,i,ha=>ha
 | k + 1, acc, ns, i, ha => by
   unfold mK;cases decide (i<(l.length:Int)) with
   | false=>exact ha
   | true =>
     simp only[cond_true];cases aA l i qk with
     | true =>
       simp only[cond_true];cases (iM s l (bT s l) ns (fG s l i) (i+1)).die with
       | true=>exact ha
       | false=>exact NA hl k _ _ _ (EF ha (dfF_pk (fun i=>SZ _ _ i) hl _ _ _))
     | false =>
       simp only[cond_false];cases (sT s l i).die with
       | true=>exact ha
       | false=>exact NA hl k _ _ _ (EF ha (WH (fun i=>SZ _ _ i) _ _))
end
theorem NC(s:ByteArray):St.gZ (iC s).1:=by
 have hl:(tks s).length<=20000:=oI s;have hr : St.gZ (fD s).1 := by
  unfold fD;split
  . cases (dr s (tks s)).die with
    | true=>exact St.iQ
    | false =>
      simp only[cond_false];cases decide ((dr s (tks s)).i<((tks s).length:Int)) with
      | true=>exact St.iQ
      | false=>exact NA hl _ _ _ _ St.iQ
  exact St.iQ
 unfold iC;cases decide ((fD s).2.1=0)&&jS (fD s).1 with
 | true=>exact St.iQ
 | false=>exact hr
theorem Ii(s:ByteArray):St.aH (iC s).1<=20000:=by
 unfold iC;cases decide ((fD s).2.1=0)&&jS (fD s).1 with
 | true=>show St.aH []<=_;rw[St.dX];omega
 | false=>exact Pz s
theorem sortS:Gm 78:=fun blk off cap zs w hH hb hz=>Tryz.slices_Sort_string blk off cap zs w hH hb hz
def WJ:cV:=GS (.t,bB true,[])
theorem WK:bt Tryz.prog 4 WJ:=CM (by kernel_rfl) fun _=>Wb (FZ Ap (by decide))
noncomputable def c_par:cV:=kE .str fun s=>(.p (ByteArray.size s<=1000000),.bG [.c (.rs 10 (St.ak (iC s).1)),fV (iC s).2.1 (iC s).2.2],[])
theorem Zw:bt Tryz.prog 5 c_par:=fJ (by kernel_rfl) fun s h=>JC s (FZ s h) h
noncomputable def gAgn:bX:=[(5,c_par),(6,cTx qL),(7,Sx qL),(8,cSm 1000001),(4,WJ)]
theorem gAgn_ok:bh Tryz.prog gAgn:=aq Zw (aq (V9 (Qq sortS)) (aq (P5 (Qq sortS)) (aq (WB (WD _)) (aq WK aD))))
theorem WL(s:ByteArray):(∀ x∈(iC s).1,qL x.params)/\qL (eO (iC s).1):=by
 have hk:=NC s;have hz:=Ii s;refine⟨fun x hx=>?_,?_⟩;have:=((St.FP x).1 (St.Cg hk hx)).1;show x.params.length<=100000;omega;have h1:(eO (iC s).1).length<=(iC s).1.length:=by
  unfold eO;rw[List.length_map];exact List.length_filter_le _ _
 have h2:=St.jM (iC s).1;show (eO (iC s).1).length<=100000;omega
theorem S5(s:ByteArray):br Tryz.prog 3 [sS s] [] (bB true) []:=by
 refine bn (aK:=[]) gAgn_ok Tryz.func3 (by kernel_rfl) (aj:=0) rfl (by kernel_rfl) 400 ?_;apply of_eq (q:=let dO:=decide ((0:Int)<=(iC s).snd.snd);let fM:=(St.ak (iC s).fst);let q1:=(cW fM);let q5:=decide ((↑(fM.length/10):Int)=0);let bM:=decide (oJ q1=0);let bp:=(bif bif q5 then dO else false then decide ((iC s).snd.snd<=(s.size:Int)) else false)=true;let bW:=decide ((gU q1).snd=0);let bY:=(iC (gU q1).fst);let q4:=(bif q5 then dO else false)=true;let q6:=(cW (St.ak bY.fst));let q8:=(bif bM then bW else false)=true;let aQ:=decide (bY.snd.fst=0);let eC:=decide ((gU q6).snd=0);let q2:=(bif bif bif bif bM then bW else false then aQ else false then eC else false then St.gN q1 q6 else false)=true;let q3:=(bif bif bif bM then bW else false then aQ else false then eC else false)=true;let q7:=(bif bif bM then bW else false then aQ else false)=true;let q9:=(bif bif bif bif bif bM then bW else false then aQ else false then eC else false then St.gN q1 q6 else false then decide ((gU q1).fst=(gU q6).fst) else false)=true;(decide ((3000:Int)<(s.size:Int))=true->ax [vB true]=bB true/\([]:List Ob)=[])/\(decide ((3000:Int)<(s.size:Int))=false->s.size<=1000000/\((!decide ((iC s).snd.fst=0))=true->(q5=true->q5=true)/\(q5=true->q5=true)/\(q5=true->q5=true)/\(q4->q4)/\(q4->q4)/\(q4->q4)/\(q4->q4)/\(q4->q4)/\(bp->bp)/\ax [vB (bif bif bif q5 then dO else false then decide ((iC s).snd.snd<=(s.size:Int)) else false then true else false)]=bB true/\([]:List Ob)=[])/\((!decide ((iC s).snd.fst=0))=false->((∃ L,St.ak (iC s).fst=St.ak L)/\(∀(x:St),x∈cW fM->qL x.params)/\qL (eO q1)/\St.gZ q1/\St.aH q1<=100000)/\(decide ((gU q1).snd=4)=true->ax [vB true]=bB true/\([]:List Ob)=[])/\(decide ((gU q1).snd=4)=false->(gU q1).fst.size<=1000000/\((∃ L,St.ak bY.fst=St.ak L)/\(∀(x:St),x∈cW (St.ak bY.fst)->qL x.params)/\qL (eO q6)/\St.gZ q6/\St.aH q6<=100000)/\((∃ L,St.ak (iC s).fst=St.ak L)/\(∀(x:St),x∈cW fM->qL x.params)/\qL (eO q1)/\St.gZ q1/\St.aH q1<=1000000)/\(bM=true->bM=true)/\(bM=true->bM=true)/\(q8->q8)/\(q8->q8)/\(q8->q8)/\(q7->q7)/\(q7->q7)/\(q3->q3)/\(q3->q3)/\(q3->D1 fM (St.ak bY.fst) (1000001:Nat))/\(q3->q3)/\(q2->q2)/\(q2->q2)/\(q2->q2)/\(q9->q9)/\ax [vB (bif bif bif bif bif bif bM then bW else false then aQ else false then eC else false then St.gN q1 q6 else false then decide ((gU q1).fst=(gU q6).fst) else false then true else false)]=bB true/\([]:List Ob)=[])))) (by kernel_rfl)
 try simp only[sL]
 refine⟨fun _=>rfl,fun hs=>⟨by omega,fun hb=>?_,fun h=>?_⟩⟩;obtain⟨b1,b2,b3⟩:=paS_bad (by omega) hb;rw[b1,St.cg,decide_eq_true b2,decide_eq_true b3];rfl;have hx:=paS_ok (by omega) h;have hsh:=WL s;have hpk:=NC s;have hsz:=Ii s;rw[dB];generalize (iC s).1=L at hx hsh hpk hsz ⊢;have hT:=Wy hx;refine⟨⟨⟨_,rfl⟩,hsh.1,hsh.2,hpk,by omega⟩,fun _=>rfl,fun h4=>?_⟩;have hz:(fF L).size<=20000:=by
  by_cases hz:20000<(fF L).size;rw[hT,decide_eq_true hz] at h4;exact absurd rfl h4;omega
 have hT2:gU L=(fF L,0):=by rw[hT,decide_eq_false (by omega)];rfl
 have t1:(gU L).1=fF L:=by rw[hT2]
 have t2:(gU L).2=0:=by rw[hT2]
 obtain⟨M,m1,m2,m3⟩:=Wx hx hz;have hM:=pok_pax m1;have e1:(iC (fF L)).1=M:=by rw[hM]
 have e2:(iC (fF L)).2.1=0:=by rw[hM]
 have hTM:gU M=(fF L,0):=by rw[Wy m1,m3,decide_eq_false (by omega)];rfl
 have t3:(gU M).1=fF L:=by rw[hTM]
 have t4:(gU M).2=0:=by rw[hTM]
 have Zx:=WL (fF L);have Zy:=NC (fF L);have hszM:=Ii (fF L);rw[e1] at Zx Zy hszM;rw[t1,t2,e1,e2,dB,t3,t4,(Ig hx).1];refine⟨by omega,⟨⟨_,rfl⟩,Zx.1,Zx.2,Zy,by omega⟩,⟨⟨_,rfl⟩,hsh.1,hsh.2,hpk,by omega⟩,fun _=>Gn hpk Zy (by omega) (by omega) (by omega),?_⟩;rw[(St.sy L M).2 m2.symm,decide_eq_true rfl,decide_eq_true rfl];rfl
theorem S6:CS (fun args=>br Tryz.prog 3 args [] (dat .bool true) []) [.str] []:=fun s _=>S5 s
end Go.Proofs.YtnbjjocbncblaaaGreatDoor
