/- Names, and which expressions are valid. -/
import Derived.Test.YtaplgnhojknpiaaGreatDoorPars2
import Derived.Test.YtaplgnhojknpiaaGreatDoorShelf1
import Derived.Lib.ItoaLen
namespace Go.Proofs.YtaplgnhojknpiaaGreatDoor
open Go.aU Go.RowKit
set_option maxRecDepth 100000
theorem nm1_sem(c:Int):bp Tryz.prog 110 [Ay c] [] (bB (eN c)) []:=by
 refine bh (aK:=[]) Un Tryz.func110 (by kernel_rfl) (au:=0) rfl (by kernel_rfl) 100 ?_;apply of_eq (q:=let q1:=(bif fK c then true else di c)=false;(fK c=false->fK c=false)/\(fK c=false->fK c=false)/\(q1->q1)/\(q1->q1)/\aq [vB (bif bif fK c then true else di c then true else decide (c=95))]=bB (eN c)/\([]:List Ob)=[]) (by kernel_rfl)
 try simp only[sL]
 first|rfl|exact⟨by omega,rfl⟩|exact ?a
def c_nm1:cO:=iU (.int .u8) fun c=>(.t,bB (eN c),[])
theorem Yq:bq Tryz.prog 110 c_nm1:=eB (by kernel_rfl) fun c _=>nm1_sem c
theorem fi2_sem(c:Int):bp Tryz.prog 103 [Ay c] [] (bB (eF c)) []:=by
 refine bh (aK:=[]) aE Tryz.func103 (by kernel_rfl) (au:=0) rfl (by kernel_rfl) 100 ?_;apply of_eq (q:=let q2:=decide ((32:Int)<=c);let q1:=(bif q2 then decide (c<=126) else false)=true;(q2=true->q2=true)/\(q2=true->q2=true)/\(q1->q1)/\(q1->q1)/\aq [vB (bif bif q2 then decide (c<=126) else false then !decide (c=34) else false)]=bB (eF c)/\([]:List Ob)=[]) (by kernel_rfl)
 try simp only[sL]
 first|rfl|exact⟨by omega,rfl⟩|exact ?a
def c_fi2:cO:=iU (.int .u8) fun c=>(.t,bB (eF c),[])
theorem Yr:bq Tryz.prog 103 c_fi2:=eB (by kernel_rfl) fun c _=>fi2_sem c
noncomputable def LW:bX:=[(110,c_nm1)]
theorem Ik:bg Tryz.prog LW:=ai Yq aE
noncomputable def Vo:aZ:=cT Tryz.prog LW Tryz.f102 0 [([0,0,1],[0,1,2])]
theorem yR(s:ByteArray)(hs:s.size<=1000000):∀(k i:Nat),k=s.size-i->i<=s.size->ax Vo (aG (nI (bn eN s i)) []) [0,0,1] (fr [(0,sS s),(1,nI i),(2,p9 110)]) (.ofList [])
 | k,i,hk,hi=>by
   refine bD Ik (by kernel_rfl) 100 ?_;apply of_eq (q:=let q2:=decide ((i:Int)<(s.size:Int));let q1:=q2=true;(q1->q1)/\(q1->q1)/\(q1->(0:Int)<=(i:Int)/\(i:Int)<(s.size:Int))/\(q1->q1)/\(q1->q1)/\(q1->q1)/\((bif q2 then eN (bV s i) else false)=true->ax Vo (aG (nI (↑(bn eN s i):Int)) []) [0,0,1] (fr [(0,aP (W.str s)),(1,nI (IntKind.i64.wrap ((i:Int)+1))),(2,aP (W.func 110 []))]) (af.ofList []))/\((bif q2 then eN (bV s i) else false)=false->aq [vI (i:Int)]=nI (↑(bn eN s i):Int)/\([]:List Ob)=[])) (by kernel_rfl)
   try simp only[sL]
   refine⟨fun h=>by omega,fun h=>?_,fun h=>?_⟩
   . have hi1:i<s.size:=by omega
     rw[wrap64 (by omega) (by omega),iy ⟨hi1,h.2⟩];cases k with
     | zero=>omega
     | succ k=>exact yR s hs k (i+1) (by omega) (by omega)
   rw[kM (by rintro⟨h1,h2⟩;rw[h (by omega)] at h2;cases h2)];rfl
theorem Ys(s:ByteArray)(i:Int)(h:s.size<=1000000/\0<=i/\i<=s.size):bp Tryz.prog 102 [sS s,nI i,p9 110] [] (nI (bn eN s i.toNat)) []:=by
 obtain⟨hs,h0,h1⟩:=h;obtain⟨n,rfl⟩:∃ n:Nat,i=n:=⟨i.toNat,by omega⟩;rw[Int.toNat_natCast];refine bh (aK:=[([0,0,1],[0,1,2])]) Ik Tryz.func102 (by kernel_rfl) (au:=0) rfl (by kernel_rfl) 100 ?_;apply of_eq (q:=ax (cT Tryz.prog LW Tryz.f102 (0:Nat) [([0,0,1],[0,1,2])]) (aG (nI (↑(bn eN s n):Int)) []) [0,0,1] (fr [(0,aP (W.str s)),(1,nI (n:Int)),(2,aP (W.func 110 []))]) (af.ofList [])) (by kernel_rfl)
 try simp only[sL,Int.reduceEq,Int.reduceNe,Nat.reduceAdd]
 exact yR s hs _ n rfl (by omega)
noncomputable def LX:bX:=[(103,c_fi2)]
theorem Il:bg Tryz.prog LX:=ai Yr aE
noncomputable def Vp:aZ:=cT Tryz.prog LX Tryz.f102 0 [([0,0,1],[0,1,2])]
theorem yS(s:ByteArray)(hs:s.size<=1000000):∀(k i:Nat),k=s.size-i->i<=s.size->ax Vp (aG (nI (bn eF s i)) []) [0,0,1] (fr [(0,sS s),(1,nI i),(2,p9 103)]) (.ofList [])
 | k,i,hk,hi=>by
   refine bD Il (by kernel_rfl) 100 ?_;apply of_eq (q:=let q2:=decide ((i:Int)<(s.size:Int));let q1:=q2=true;(q1->q1)/\(q1->q1)/\(q1->(0:Int)<=(i:Int)/\(i:Int)<(s.size:Int))/\(q1->q1)/\(q1->q1)/\(q1->q1)/\((bif q2 then eF (bV s i) else false)=true->ax Vp (aG (nI (↑(bn eF s i):Int)) []) [0,0,1] (fr [(0,aP (W.str s)),(1,nI (IntKind.i64.wrap ((i:Int)+1))),(2,aP (W.func 103 []))]) (af.ofList []))/\((bif q2 then eF (bV s i) else false)=false->aq [vI (i:Int)]=nI (↑(bn eF s i):Int)/\([]:List Ob)=[])) (by kernel_rfl)
   try simp only[sL]
   refine⟨fun h=>by omega,fun h=>?_,fun h=>?_⟩
   . have hi1:i<s.size:=by omega
     rw[wrap64 (by omega) (by omega),iy ⟨hi1,h.2⟩];cases k with
     | zero=>omega
     | succ k=>exact yS s hs k (i+1) (by omega) (by omega)
   rw[kM (by rintro⟨h1,h2⟩;rw[h (by omega)] at h2;cases h2)];rfl
theorem Yt(s:ByteArray)(i:Int)(h:s.size<=1000000/\0<=i/\i<=s.size):bp Tryz.prog 102 [sS s,nI i,p9 103] [] (nI (bn eF s i.toNat)) []:=by
 obtain⟨hs,h0,h1⟩:=h;obtain⟨n,rfl⟩:∃ n:Nat,i=n:=⟨i.toNat,by omega⟩;rw[Int.toNat_natCast];refine bh (aK:=[([0,0,1],[0,1,2])]) Il Tryz.func102 (by kernel_rfl) (au:=0) rfl (by kernel_rfl) 100 ?_;apply of_eq (q:=ax (cT Tryz.prog LX Tryz.f102 (0:Nat) [([0,0,1],[0,1,2])]) (aG (nI (↑(bn eF s n):Int)) []) [0,0,1] (fr [(0,aP (W.str s)),(1,nI (n:Int)),(2,aP (W.func 103 []))]) (af.ofList [])) (by kernel_rfl)
 try simp only[sL,Int.reduceEq,Int.reduceNe,Nat.reduceAdd]
 exact yS s hs _ n rfl (by omega)
def ES:cO:={ cE:=[],f:=fun args ak=>match args,ak with
 | [x,y,.p (.c (.func f []))],[]=>match wE .str x,wE (.int .i64) y with
   | some s,some i =>
     bif Nat.beq f 110 then some (.p (ByteArray.size s<=1000000/\0<=(i:Int)/\(i:Int)<=ByteArray.size s),nI (bn eN s (Int.toNat i)),[]) else
     bif Nat.beq f 103 then some (.p (ByteArray.size s<=1000000/\0<=(i:Int)/\(i:Int)<=ByteArray.size s),nI (bn eF s (Int.toNat i)),[]) else none
   | _,_=>none
 | _,_=>none }
theorem Im:bq Tryz.prog 102 ES:=by
 refine⟨by kernel_rfl,fun args ak c r aX e hc=>?_⟩;simp only[ES] at e;split at e;rename_i x y f;split at e
 . rename_i s i hx hy
   have key:∀(g:Nat)(p:Int->Bool),(∀(s:ByteArray)(i:Int),(s.size<=1000000/\0<=i/\i<=s.size)->bp Tryz.prog 102 [sS s,nI i,p9 g] [] (nI (bn p s i.toNat)) [])->f=g->
    some ((Cd.p (ByteArray.size s<=1000000/\0<=(i:Int)/\(i:Int)<=ByteArray.size s)),nI (bn p s (Int.toNat i)),([]:List Ob))=some (c,r,aX)->bp Tryz.prog 102 [x,y,p9 f] [] r aX:=by
    rintro g p hg rfl e;cases e;exact bp.args (hg s i hc) fun η Z vs hv=>match vs,hv with | [_,_,_],⟨a,b,d⟩=>⟨kL hx a,kL hy b,d⟩
   cases h1:Nat.beq f 110 with
   | true=>rw[h1] at e;exact key _ _ Ys (Nat.eq_of_beq_eq_true h1) e
   | false =>
   rw[h1] at e;cases h2:Nat.beq f 103 with
   | true=>rw[h2] at e;exact key _ _ Yt (Nat.eq_of_beq_eq_true h2) e
   | false=>rw[h2] at e;cases e
 cases e;cases e
def eD(s:ByteArray):Bool:=!decide (s=eS)&&decide ((s.size:Int)<=20)&&fK (bV s 0)&&!dm nk s&&decide ((bn eN s 0:Int)=s.size)
noncomputable def gNm:bX:=[(108,xZ),(109,Rh),(106,EI),(102,ES)]
theorem gNm_ok:bg Tryz.prog gNm:=ai vJ (ai K2 (ai Az (ai Im aE)))
theorem Yu(s:ByteArray):bp Tryz.prog 87 [sS s] [] (bB (eD s)) []:=by
 refine bh (aK:=[]) gNm_ok Tryz.func87 (by kernel_rfl) (au:=0) rfl (by kernel_rfl) 200 ?_;apply of_eq (q:=let q3:=decide (s=ByteArray.mk #[]);let q4:=decide ((20:Int)<(s.size:Int));let q1:=(bif bif q3 then true else q4 then true else !fK (bV s (0:Nat)))=false;let q2:=(bif q3 then true else q4)=false;(q3=false->q3=false)/\(q3=false->q3=false)/\(q3=false->q3=false)/\(q2->q2)/\(q2->(0:Int)<=0/\(0:Int)<(s.size:Int))/\(q2->q2)/\(q2->q2)/\(q2->q2)/\(q1->q1)/\(q1->q1)/\(q1->(13:Nat)<=1000000)/\(q1->q1)/\((bif bif bif q3 then true else q4 then true else !fK (bV s (0:Nat)) then true else dm nk s)=true->aq [vB false]=bB (eD s)/\([]:List Ob)=[])/\((bif bif bif q3 then true else q4 then true else !fK (bV s (0:Nat)) then true else dm nk s)=false->(s.size<=1000000/\(0:Int)<=0/\(0:Int)<=(s.size:Int))/\aq [vB (decide ((↑(bn eN s (0:Nat)):Int)=(s.size:Int)))]=bB (eD s)/\([]:List Ob)=[])) (by kernel_rfl)
 try simp only[sL]
 refine⟨fun h=>?_,fun _=>by omega,fun h=>?_,fun h=>?_⟩;have:s.size≠0:=by
  intro h0;apply h.1;obtain⟨d⟩:=s;have:d=#[]:=Array.eq_empty_of_size_eq_zero h0;rw[this]
 omega;unfold eD;rcases h with ((h|h)|h)|h;rw[decide_eq_true h];rfl;rw[decide_eq_false (p:=(s.size:Int)<=20) (by omega),Bool.and_false];rfl;rw[h,Bool.and_false];rfl;rw[h,Bool.not_true,Bool.and_false];rfl;refine⟨⟨by omega,by omega⟩,?_⟩;unfold eD;rw[decide_eq_false h.1.1.1,decide_eq_true h.1.1.2,h.1.2,h.2];rfl
def ET:cO:=iU .str fun s=>(.t,bB (eD s),[])
theorem A2:bq Tryz.prog 87 ET:=eB (by kernel_rfl) fun s _=>Yu s
mutual
def Ex.EU:Ex->Ex->Bool
 | .mk k n t l,.mk k' n' t' l'=>decide (k=k')&&decide (n=n')&&decide (t=t')&&Ex.sI l l'
def Ex.sI:List Ex->List Ex->Bool
 | [],[]=>true
 | a::l,b::m=>a.EU b&&Ex.sI l m
 | _,_=>false
end
theorem Ex.eqL_nil:Ex.sI [] []=true:=by rw[Ex.sI]
theorem Ex.LY(a b:Ex)(l m:List Ex):Ex.sI (a::l) (b::m)=(a.EU b&&Ex.sI l m):=by rw[Ex.sI]
theorem Ex.O8:∀(l m:List Ex),l.length≠m.length->Ex.sI l m=false
 | [],[],h=>absurd rfl h
 | [],b::m,_=>by rw[Ex.sI]<;>simp
 | a::l,[],_=>by rw[Ex.sI]<;>simp
 | a::l,b::m,h=>by
   rw[Ex.LY,Ex.O8 l m (fun e=>h (by simp[e])),Bool.and_false]
theorem Ex.eta(e:Ex):Ex.mk e.k e.n e.t e.l=e:=by cases e;rfl
theorem Ex.vM(e:Ex):Ex.mk (PV.asInt (.int e.k)) (PV.asInt (.int e.n)) (PV.bM (.str e.t)) (cj (PV.aB (.aH 4 (Ex.ah e.l))))=e:=by
 have:cj (PV.aB (.aH 4 (Ex.ah e.l)))=e.l:=dz _;rw[this];exact e.eta
abbrev CQ(k m:Int)(t:ByteArray)(l:List PV):A:=.p (.agg [.int .i64 k,.int .i64 m,.str t,.rs 4 l])
abbrev rsX(L:List Ex):A:=.p (.c (.rs 4 (Ex.ah L)))
def Io(l m:List PV)(n:Nat):Prop:=(∃ L,l=Ex.ah L)/\(∃ M,m=Ex.ah M)/\Ex.aD (cj l)<n/\Ex.aD (cj l)<=1000000/\Ex.aD (cj m)<=1000000
theorem LZ{L M:List Ex}{n:Nat}(h1:Ex.aD L<n)(h2:Ex.aD L<=1000000)(h3:Ex.aD M<=1000000):Io (Ex.ah L) (Ex.ah M) n:=by
 unfold Io;rw[dz,dz];exact⟨⟨_,rfl⟩,⟨_,rfl⟩,h1,h2,h3⟩
noncomputable def cXe(n:Nat):cO:={ cE:=[],f:=fun args ak=>match args,ak with
 | [.p (.agg [.int .i64 k,.int .i64 m,.str t,.rs q l]),.p (.agg [.int .i64 k',.int .i64 m',.str t',.rs q' l'])],[]=>bif Nat.beq q 4&&Nat.beq q' 4 then some (.p (Io l l' n),bB ((Ex.mk k m t (cj l)).EU (.mk k' m' t' (cj l'))),[]) else none
 | _,_=>none }
def L5(n:Nat):Prop:=∀(k m:Int)(t:ByteArray)(L:List Ex)(k' m':Int)(t':ByteArray)(M:List Ex),Ex.aD L<n->Ex.aD L<=1000000->Ex.aD M<=1000000->bp Tryz.prog 112 [CQ k m t (Ex.ah L),CQ k' m' t' (Ex.ah M)] [] (bB ((Ex.mk k m t L).EU (.mk k' m' t' M))) []
theorem cXe_ok{n:Nat}(h:L5 n):bq Tryz.prog 112 (cXe n):=by
 refine⟨by kernel_rfl,fun args ak c r aX e hc=>?_⟩;simp only[cXe] at e;split at e;obtain⟨hb,e1⟩:=aj.aC e;clear e;simp only[Bool.and_eq_true,Nat.beq_eq] at hb;obtain⟨rfl,rfl⟩:=hb;cases e1;obtain⟨⟨L,rfl⟩,⟨M,rfl⟩,h2,h3,h4⟩:=hc;rw[dz] at h2 h3 h4;rw[dz,dz];exact h _ _ _ _ _ _ _ _ h2 h3 h4;cases e
noncomputable def gXe(n:Nat):bX:=[(112,cXe n)]
theorem L6{n:Nat}(h:L5 n):bg Tryz.prog (gXe n):=ai (cXe_ok h) aE
abbrev fnXe:A:=.p (.c (.func 112 []))
noncomputable def sXe(n:Nat):aZ:=ct Tryz.prog (gXe n) Tryz.f134 0 [([0,1,0,1,1],[1,2,15,16,17])] [] []
theorem O9(n:Nat)(h:L5 n)(L M:List Ex)(he:L.length=M.length)(hL:Ex.aD L<=n)(hl:Ex.aD L<=1000000)(hm:Ex.aD M<=1000000):∀(j i:Nat),j=L.length-i->i<=L.length->
 ax (sXe n) (aG (bB (Ex.sI (L.drop i) (M.drop i))) []) [0,1,0,1,1] (fr [(1,rsX M),(2,fnXe),(15,rsX L),(16,nI L.length),(17,nI i)]) (.ofList [])
 | j,i,hj,hi=>by
   refine bD (L6 h) (by kernel_rfl) 200 ?_;apply of_eq (q:=let q1:=(i*4+1+1+1);let q2:=(Ex.ah L);let q3:=(Ex.ah M);let q4:=(Ex.sI (List.drop i L) (List.drop i M));let q5:=(i*4+1+1);(decide ((i:Int)<(L.length:Int))=true->((0:Int)<=(i:Int)/\i*4<q2.length)/\i*4+4<=q2.length/\(PV.int (0:Int)).like (q2.getD (i*4) (PV.bool false))=true/\(PV.int (0:Int)).like (q2.getD (i*4+1) (PV.bool false))=true/\(PV.str (ByteArray.mk #[])).like (q2.getD q5 (PV.bool false))=true/\(PV.aH (4:Nat) []).like (q2.getD q1 (PV.bool false))=true/\((0:Int)<=(i:Int)/\i*4<q3.length)/\i*4+4<=q3.length/\(PV.int (0:Int)).like (q3.getD (i*4) (PV.bool false))=true/\(PV.int (0:Int)).like (q3.getD (i*4+1) (PV.bool false))=true/\(PV.str (ByteArray.mk #[])).like (q3.getD q5 (PV.bool false))=true/\(PV.aH (4:Nat) []).like (q3.getD q1 (PV.bool false))=true/\Io (q2.getD q1 (PV.bool false)).aB (q3.getD q1 (PV.bool false)).aB n/\((!(Ex.mk (q2.getD (i*4) (PV.bool false)).asInt (q2.getD (i*4+1) (PV.bool false)).asInt (q2.getD q5 (PV.bool false)).bM (cj (q2.getD q1 (PV.bool false)).aB)).EU (Ex.mk (q3.getD (i*4) (PV.bool false)).asInt (q3.getD (i*4+1) (PV.bool false)).asInt (q3.getD q5 (PV.bool false)).bM (cj (q3.getD q1 (PV.bool false)).aB)))=true->aq [vB false]=bB q4/\([]:List Ob)=[])/\((!(Ex.mk (q2.getD (i*4) (PV.bool false)).asInt (q2.getD (i*4+1) (PV.bool false)).asInt (q2.getD q5 (PV.bool false)).bM (cj (q2.getD q1 (PV.bool false)).aB)).EU (Ex.mk (q3.getD (i*4) (PV.bool false)).asInt (q3.getD (i*4+1) (PV.bool false)).asInt (q3.getD q5 (PV.bool false)).bM (cj (q3.getD q1 (PV.bool false)).aB)))=false->ax (sXe n) (aG (bB q4) []) [0,1,0,1,1] (fr [(1,aP (W.rs (4:Nat) q3)),(2,aP (W.func 112 [])),(15,aP (W.rs (4:Nat) q2)),(16,nI (L.length:Int)),(17,nI (IntKind.i64.wrap ((i:Int)+1)))]) (af.ofList [])))/\(decide ((i:Int)<(L.length:Int))=false->aq [vB true]=bB q4/\([]:List Ob)=[])) (by kernel_rfl)
   try simp only[sL]
   have bS:=Ex.ig L;refine⟨fun h1=>?_,fun h1=>?_⟩;have h1:i<L.length:=by omega
   have h2:i<M.length:=by omega
   rw[yO h1,su h1,yP h1,yQ h1,yO h2,su h2,yP h2,yQ h2,Ex.vM,Ex.vM,wrap64 (n:=(i:Int)+1) (by omega) (by omega),List.drop_eq_getElem_cons h1,List.drop_eq_getElem_cons h2,Ex.LY];have m1:=Ex.iE (List.getElem_mem h1);have m2:=Ex.iE (List.getElem_mem h2);rw[Ex.fe] at m1 m2;have g1:i*4+4<=(Ex.ah L).length:=by rw[Ex.cI];omega
   have g2:i*4+4<=(Ex.ah M).length:=by rw[Ex.cI];omega
   have hX:Io (PV.aH 4 (Ex.ah L[i].l)).aB (PV.aH 4 (Ex.ah M[i].l)).aB n:=LZ (by omega) (by omega) (by omega);refine⟨⟨by omega,by omega⟩,g1,rfl,rfl,rfl,rfl,⟨by omega,by omega⟩,g2,rfl,rfl,rfl,rfl,hX,fun hf=>?_,fun ht=>?_⟩;rw[hf];rfl
   . rw[ht,Bool.true_and];cases j with
     | zero=>omega
     | succ j=>exact O9 n h L M he hL hl hm j (i+1) (by omega) (by omega)
   rw[List.drop_eq_nil_of_le (by omega),List.drop_eq_nil_of_le (by omega),Ex.eqL_nil];rfl
noncomputable def cEqf(n:Nat):cO:={ cE:=[],f:=fun args ak=>match args,ak with
 | [.p (.c (.rs q l)),.p (.c (.rs q' l')),.p (.c (.func f []))],[]=>bif Nat.beq q 4&&Nat.beq q' 4&&Nat.beq f 112 then some (.p (Io l l' (n+1)),bB (Ex.sI (cj l) (cj l')),[]) else none
 | _,_=>none }
theorem cEqf_ok{n:Nat}(h:L5 n):bq Tryz.prog 134 (cEqf n):=by
 refine⟨by kernel_rfl,fun args ak c r aX e hc=>?_⟩;simp only[cEqf] at e;split at e;obtain⟨hb,e1⟩:=aj.aC e;clear e;simp only[Bool.and_eq_true,Nat.beq_eq] at hb;obtain⟨⟨rfl,rfl⟩,rfl⟩:=hb;cases e1;obtain⟨⟨L,rfl⟩,⟨M,rfl⟩,h2,h3,h4⟩:=hc;rw[dz] at h2 h3 h4;rw[dz,dz];refine bh (aK:=[([0,1,0,1,1],[1,2,15,16,17])]) (L6 h) Tryz.func134 (by kernel_rfl) (au:=0) rfl (by kernel_rfl) 200 ?_;apply of_eq (q:=let q1:=decide ((↑((Ex.ah L).length/4):Int)=(↑((Ex.ah M).length/4):Int));((!q1)=true->aq [vB false]=bB (Ex.sI L M)/\([]:List Ob)=[])/\((!q1)=false->ax (cT Tryz.prog (gXe n) Tryz.f134 (0:Nat) [([0,1,0,1,1],[1,2,15,16,17])]) (aG (bB (Ex.sI L M)) []) [0,1,0,1,1] (fr [(1,aP (W.rs (4:Nat) (Ex.ah M))),(2,aP (W.func 112 [])),(15,aP (W.rs (4:Nat) (Ex.ah L))),(16,nI (↑((Ex.ah L).length/4):Int)),(17,nI (0))]) (af.ofList []))) (by kernel_rfl)
 try simp only[sL]
 rw[Ii,Ii];refine⟨fun hn=>?_,fun hn=>?_⟩;rw[Ex.O8 _ _ (by omega)];rfl;exact O9 n h L M (by omega) (by omega) h3 h4 (L.length-0) 0 rfl (by omega);cases e
theorem xe_step(n:Nat)(h:L5 n):L5 (n+1):=by
 intro k m t L k' m' t' M hL hl hm;refine bh (aK:=[]) (ai (cEqf_ok h) aE) Tryz.func112 (by kernel_rfl) (au:=0) rfl (by kernel_rfl) 200 ?_;apply of_eq (q:=let q1:=(bif bif decide (k=k') then decide (m=m') else false then decide (t=t') else false)=true;let q2:=(bif decide (k=k') then decide (m=m') else false)=true;let q3:=decide (k=k')=true;(q3->q3)/\(q3->q3)/\(q3->q3)/\(q3->q3)/\(q3->q3)/\(q2->q2)/\(q2->q2)/\(q2->q2)/\(q2->q2)/\(q2->q2)/\(q1->q1)/\(q1->q1)/\(q1->q1)/\(q1->q1)/\(q1->Io (Ex.ah L) (Ex.ah M) (n+1))/\(q1->q1)/\aq [vB (bif bif bif decide (k=k') then decide (m=m') else false then decide (t=t') else false then Ex.sI (cj (Ex.ah L)) (cj (Ex.ah M)) else false)]=bB ((Ex.mk k m t L).EU (Ex.mk k' m' t' M))/\([]:List Ob)=[]) (by kernel_rfl)
 try simp only[sL]
 rw[dz,dz];exact⟨fun _=>LZ hL hl hm,rfl⟩
theorem Vq:∀ n,L5 n
 | 0=>fun k m t L _ _ _ _ h=>by omega
 | n+1=>xe_step n (Vq n)
def oF(e:Ex):Bool:=e.EU (.mk 0 0 eS [])
theorem Yv(k m:Int)(t:ByteArray)(L:List Ex)(hl:Ex.aD L<=1000000):bp Tryz.prog 88 [CQ k m t (Ex.ah L)] [] (bB (oF (.mk k m t L))) []:=by
 refine bh (aK:=[]) (L6 (Vq 1000001)) Tryz.func88 (by kernel_rfl) (au:=0) rfl (by kernel_rfl) 200 ?_;apply of_eq (q:=Io (Ex.ah L) [] (1000001:Nat)/\aq [vB ((Ex.mk k m t (cj (Ex.ah L))).EU (Ex.mk (0:Int) (0:Int) (ByteArray.mk #[]) (cj [])))]=bB (oF (Ex.mk k m t L))/\([]:List Ob)=[]) (by kernel_rfl)
 try simp only[sL]
 have h:=LZ (L:=L) (M:=[]) (n:=1000001) (by omega) hl (by rw[Ex.dX];omega);rw[Ex.bJ] at h;have e0:cj []=[]:=by have:=dz [];rwa [Ex.bJ] at this
 rw[dz,e0];exact⟨h,rfl⟩
noncomputable def RO:cO:={ cE:=[],f:=fun args ak=>match args,ak with
 | [.p (.agg [.int .i64 k,.int .i64 m,.str t,.rs q l])],[]=>bif Nat.beq q 4 then some (.p ((∃ L,l=Ex.ah L)/\Ex.aD (cj l)<=1000000),bB (oF (Ex.mk k m t (cj l))),[]) else none
 | _,_=>none }
theorem Yw:bq Tryz.prog 88 RO:=by
 refine⟨by kernel_rfl,fun args ak c r aX e hc=>?_⟩;simp only[RO] at e;split at e;obtain⟨hb,e1⟩:=aj.aC e;clear e;cases Nat.eq_of_beq_eq_true hb;cases e1;obtain⟨⟨L,rfl⟩,h2⟩:=hc;rw[dz] at h2 ⊢;exact Yv _ _ _ _ h2;cases e
abbrev CR:Ob:=⟨65,[.c (.mp 1)]⟩
def tX(k n:Int)(t:ByteArray)(len:Nat):Bool :=
 bif decide (k=1) then decide (0<=n)&&decide (n<=1000000000000000)&&decide ((len:Int)=0)&&decide (t=eS) else
 bif decide (k=2) then decide ((t.size:Int)<=200)&&decide ((bn eF t 0:Int)=t.size)&&decide ((len:Int)=0)&&decide (n=0) else
 bif decide (k=3) then(decide (n=0)||decide (n=1))&&decide ((len:Int)=0)&&decide (t=eS) else
 bif decide (k=4) then eD t&&decide ((len:Int)=0)&&decide (n=0) else
 bif decide (k=5) then decide (n=0)&&decide (t=eS) else
 bif decide (k=6) then eD t&&decide (n=0) else
 bif decide (k=7) then decide ((len:Int)=2)&&decide (n=0)&&decide (t=eS) else
 bif decide (k=8) then(decide (t=vK)||decide (t=AK))&&decide ((len:Int)=1)&&decide (n=0) else
 bif decide (k=9) then decide (0<qN t)&&decide ((len:Int)=2)&&decide (n=0) else false
mutual
def Ex.fin:Ex->Bool
 | .mk k n t l=>Ex.jV l&&tX k n t l.length
def Ex.jV:List Ex->Bool
 | []=>true
 | e::l=>e.fin&&Ex.jV l
end
theorem Ex.fin_eq(e:Ex):e.fin=(Ex.jV e.l&&tX e.k e.n e.t e.l.length):=by cases e;rw[Ex.fin];rfl
theorem Ex.Yx:Ex.jV []=true:=by rw[Ex.jV]
theorem Ex.A3(e:Ex)(l:List Ex):Ex.jV (e::l)=(e.fin&&Ex.jV l):=by rw[Ex.jV]
def Ex.bad:List Ex->Int->Int
 | [],_=>-1
 | e::l,i=>bif e.fin then Ex.bad l (i+1) else i
theorem Ex.Pa:∀(l:List Ex)(i:Int),0<=i->decide (0<=Ex.bad l i)=!Ex.jV l
 | [],i,_=>by rw[Ex.Yx];rfl
 | e::l,i,h=>by
   rw[Ex.A3,Ex.bad];cases e.fin with
   | true=>rw[cond_true,Bool.true_and];exact Ex.Pa l (i+1) (by omega)
   | false=>rw[cond_false,decide_eq_true h];rfl
def uV(l:List PV)(n:Nat):Prop:=(∃ L,l=Ex.ah L)/\Ex.aD (cj l)<n/\Ex.aD (cj l)<=1000000
theorem A4{L:List Ex}{n:Nat}(h1:Ex.aD L<n)(h2:Ex.aD L<=1000000):uV (Ex.ah L) n:=by
 unfold uV;rw[dz];exact⟨⟨_,rfl⟩,h1,h2⟩
noncomputable def RP(n:Nat):cO:={ cE:=[false,true],f:=fun args ak=>match args,ak with
 | [.p (.agg [.int .i64 k,.int .i64 m,.str t,.rs q l]),.p (.c (.mp 0))],[o]=>bif Nat.beq q 4 then some (.p (o=bH/\uV l n),bB (Ex.mk k m t (cj l)).fin,[o]) else none
 | _,_=>none }
abbrev rR:A:=.p (.c (.mp 0))
def vN(n:Nat):Prop:=∀(k m:Int)(t:ByteArray)(L:List Ex),Ex.aD L<n->Ex.aD L<=1000000->bp Tryz.prog 68 [CQ k m t (Ex.ah L),rR] [bH] (bB (Ex.mk k m t L).fin) [bH]
theorem Gn{n:Nat}(h:vN n):bq Tryz.prog 68 (RP n):=by
 refine⟨by kernel_rfl,fun args ak c r aX e hc=>?_⟩;simp only[RP] at e;split at e;obtain⟨hb,e1⟩:=aj.aC e;clear e;cases Nat.eq_of_beq_eq_true hb;cases e1;obtain⟨rfl,⟨L,rfl⟩,h2,h3⟩:=hc;rw[dz] at h2 h3 ⊢;exact h _ _ _ _ h2 h3;cases e
abbrev fnF1:A:=.p (.c (.func 101 [(0,0)]))
noncomputable def cF1(n:Nat):cO:={ cE:=[false,true],f:=fun args ak=>match args,ak with
 | [.p (.agg [.int .i64 k,.int .i64 m,.str t,.rs q l]),.p (.c (.ptr 0 0))],[⟨ty,[.c (.mp 1)]⟩,o]=>bif Nat.beq q 4&&Nat.beq ty 65 then some (.p (o=bH/\uV l n),bB (!(Ex.mk k m t (cj l)).fin),[CR,o]) else none
 | _,_=>none }
theorem cF1_ok{n:Nat}(h:vN n):bq Tryz.prog 101 (cF1 n):=by
 refine⟨by kernel_rfl,fun args ak c r aX e hc=>?_⟩;simp only[cF1] at e;split at e;rename_i k m t q l ty o;obtain⟨hb,e1⟩:=aj.aC e;clear e;simp only[Bool.and_eq_true,Nat.beq_eq] at hb;obtain⟨rfl,rfl⟩:=hb;cases e1;obtain⟨rfl,⟨L,rfl⟩,h2,h3⟩:=hc;rw[dz] at h2 h3 ⊢;refine bh (aK:=[]) (ai (Gn h) aE) Tryz.func101 (by kernel_rfl) (au:=2) rfl (by kernel_rfl) 200 ?_;apply of_eq (q:=(Ob.mk 65 [Fd.m D.str (D.int .i64) cK]=bH/\uV (Ex.ah L) n)/\aq [V.c (W.bool !(Ex.mk k m t (cj (Ex.ah L))).fin)]=bB !(Ex.mk k m t L).fin/\[Ob.mk 65 [Fd.c (W.mp (1:Nat))],Ob.mk 65 [Fd.m D.str (D.int .i64) cK]]=[CR,bH]) (by kernel_rfl)
 try simp only[sL]
 rw[dz];exact⟨A4 h2 h3,rfl⟩;cases e
noncomputable def gF1(n:Nat):bX:=[(101,cF1 n)]
theorem Vr{n:Nat}(h:vN n):bg Tryz.prog (gF1 n):=ai (cF1_ok h) aE
noncomputable def sIxE(n:Nat):aZ:=ct Tryz.prog (gF1 n) Tryz.f121 2 [([0,1,0,1],[0,1,7,8])] [] []
theorem L7(n:Nat)(h:vN n)(L:List Ex)(hL:Ex.aD L<=n)(hl:Ex.aD L<=1000000):∀(j i:Nat),j=L.length-i->i<=L.length->
 ax (sIxE n) (aG (nI (Ex.bad (L.drop i) i)) [CR,bH]) [0,1,0,1] (fr [(0,rsX L),(1,fnF1),(7,nI L.length),(8,nI i)]) (.ofList [CR,bH])
 | j,i,hj,hi=>by
   refine bD (Vr h) (by kernel_rfl) 200 ?_;apply of_eq (q:=let q1:=[Ob.mk 65 [Fd.c (W.mp (1:Nat))],Ob.mk 65 [Fd.m D.str (D.int .i64) cK]]=[CR,bH];let q2:=(Ex.ah L);let q3:=(Ex.bad (List.drop i L) (i:Int));(decide ((i:Int)<(L.length:Int))=true->((0:Int)<=(i:Int)/\i*4<q2.length)/\i*4+4<=q2.length/\(PV.int (0:Int)).like (q2.getD (i*4) (PV.bool false))=true/\(PV.int (0:Int)).like (q2.getD (i*4+1) (PV.bool false))=true/\(PV.str (ByteArray.mk #[])).like (q2.getD (i*4+1+1) (PV.bool false))=true/\(PV.aH (4:Nat) []).like (q2.getD (i*4+1+1+1) (PV.bool false))=true/\(Ob.mk 65 [Fd.m D.str (D.int .i64) cK]=bH/\uV (q2.getD (i*4+1+1+1) (PV.bool false)).aB n)/\((!(Ex.mk (q2.getD (i*4) (PV.bool false)).asInt (q2.getD (i*4+1) (PV.bool false)).asInt (q2.getD (i*4+1+1) (PV.bool false)).bM (cj (q2.getD (i*4+1+1+1) (PV.bool false)).aB)).fin)=true->aq [vI (i:Int)]=nI q3/\q1)/\((!(Ex.mk (q2.getD (i*4) (PV.bool false)).asInt (q2.getD (i*4+1) (PV.bool false)).asInt (q2.getD (i*4+1+1) (PV.bool false)).bM (cj (q2.getD (i*4+1+1+1) (PV.bool false)).aB)).fin)=false->ax (sIxE n) (aG (nI q3) [CR,bH]) [0,1,0,1] (fr [(0,aP (W.rs (4:Nat) q2)),(1,aP (W.func 101 [(0,(0:Nat))])),(7,nI (L.length:Int)),(8,nI (IntKind.i64.wrap ((i:Int)+1)))]) (af.ofList [Ob.mk 65 [Fd.c (W.mp (1:Nat))],Ob.mk 65 [Fd.m D.str (D.int .i64) cK]])))/\(decide ((i:Int)<(L.length:Int))=false->aq [vI (-1)]=nI q3/\q1)) (by kernel_rfl)
   try simp only[sL]
   have bS:=Ex.ig L;refine⟨fun h1=>?_,fun h1=>?_⟩;have h1:i<L.length:=by omega
   rw[yO h1,su h1,yP h1,yQ h1,Ex.vM,wrap64 (n:=(i:Int)+1) (by omega) (by omega),List.drop_eq_getElem_cons h1,Ex.bad];have m1:=Ex.iE (List.getElem_mem h1);rw[Ex.fe] at m1;have g1:i*4+4<=(Ex.ah L).length:=by rw[Ex.cI];omega
   have hX:uV (PV.aH 4 (Ex.ah L[i].l)).aB n:=A4 (by omega) (by omega);refine⟨⟨by omega,by omega⟩,g1,rfl,rfl,rfl,rfl,hX,fun hf=>?_,fun ht=>?_⟩;rw[hf];rfl
   . rw[ht,cond_true];cases j with
     | zero=>omega
     | succ j=>exact L7 n h L hL hl j (i+1) (by omega) (by omega)
   rw[List.drop_eq_nil_of_le (by omega)];rfl
noncomputable def cIxE(n:Nat):cO:={ cE:=[false,true],f:=fun args ak=>match args,ak with
 | [.p (.c (.rs q l)),.p (.c (.func f [(0,0)]))],[⟨ty,[.c (.mp 1)]⟩,o]=>bif Nat.beq q 4&&Nat.beq f 101&&Nat.beq ty 65 then some (.p (o=bH/\uV l (n+1)),nI (Ex.bad (cj l) 0),[CR,o]) else none
 | _,_=>none }
theorem cIxE_ok{n:Nat}(h:vN n):bq Tryz.prog 121 (cIxE n):=by
 refine⟨by kernel_rfl,fun args ak c r aX e hc=>?_⟩;simp only[cIxE] at e;split at e;obtain⟨hb,e1⟩:=aj.aC e;clear e;simp only[Bool.and_eq_true,Nat.beq_eq] at hb;obtain⟨⟨rfl,rfl⟩,rfl⟩:=hb;cases e1;obtain⟨rfl,⟨L,rfl⟩,h2,h3⟩:=hc;rw[dz] at h2 h3 ⊢;refine bh (aK:=[([0,1,0,1],[0,1,7,8])]) (Vr h) Tryz.func121 (by kernel_rfl) (au:=2) rfl (by kernel_rfl) 200 ?_;apply of_eq (q:=ax (cT Tryz.prog (gF1 n) Tryz.f121 (2:Nat) [([0,1,0,1],[0,1,7,8])]) (aG (nI (Ex.bad L (0:Int))) [CR,bH]) [0,1,0,1] (fr [(0,aP (W.rs (4:Nat) (Ex.ah L))),(1,aP (W.func 101 [(0,(0:Nat))])),(7,nI (↑((Ex.ah L).length/4):Int)),(8,nI (0))]) (af.ofList [Ob.mk 65 [Fd.c (W.mp (1:Nat))],Ob.mk 65 [Fd.m D.str (D.int .i64) cK]])) (by kernel_rfl)
 try simp only[sL,Int.reduceEq,Int.reduceNe,Nat.reduceAdd]
 rw[Ii];exact L7 n h L (by omega) h3 (L.length-0) 0 rfl (by omega);cases e
noncomputable def Yy(n:Nat):cO:={ cE:=[false,true],f:=fun args ak=>match args,ak with
 | [.p (.c (.rs q l)),.p (.c (.func f [(0,0)]))],[⟨ty,[.c (.mp 1)]⟩,o]=>bif Nat.beq q 4&&Nat.beq f 101&&Nat.beq ty 65 then some (.p (o=bH/\uV l (n+1)),bB (!Ex.jV (cj l)),[CR,o]) else none
 | _,_=>none }
theorem cCfE_ok{n:Nat}(h:vN n):bq Tryz.prog 100 (Yy n):=by
 refine⟨by kernel_rfl,fun args ak c r aX e hc=>?_⟩;simp only[Yy] at e;split at e;rename_i q l f ty o;obtain⟨hb,e1⟩:=aj.aC e;clear e;simp only[Bool.and_eq_true,Nat.beq_eq] at hb;obtain⟨⟨rfl,rfl⟩,rfl⟩:=hb;cases e1;obtain⟨rfl,hX⟩:=hc;refine bh (aK:=[]) (ai (cIxE_ok h) aE) Tryz.func100 (by kernel_rfl) (au:=2) rfl (by kernel_rfl) 200 ?_;apply of_eq (q:=(Ob.mk 65 [Fd.m D.str (D.int .i64) cK]=bH/\uV l (n+1))/\aq [vB (decide ((0:Int)<=Ex.bad (cj l) (0:Int)))]=bB !Ex.jV (cj l)/\[Ob.mk 65 [Fd.c (W.mp (1:Nat))],Ob.mk 65 [Fd.m D.str (D.int .i64) cK]]=[CR,bH]) (by kernel_rfl)
 try simp only[sL]
 rw[<-Ex.Pa _ 0 (by omega)];exact⟨hX,rfl⟩;cases e
noncomputable def gFi(n:Nat):bX:=[(100,Yy n),(102,ES),(87,ET)]
theorem gFi_ok{n:Nat}(h:vN n):bg Tryz.prog (gFi n):=ai (cCfE_ok h) (ai Im (ai A2 aE))
theorem Yz(n:Nat)(h:vN n):vN (n+1):=by
 intro k m t L hL hl;refine bh (aK:=[]) (gFi_ok h) Tryz.func68 (by kernel_rfl) (au:=1) rfl (by kernel_rfl) 400 ?_;apply of_eq (q:=let q1:=(↑((Ex.ah L).length/4):Int);let q2:=decide (t=ByteArray.mk #[(110:UInt8),(111:UInt8),(116:UInt8)]);let q4:=decide ((0:Int)<eJ D.str (D.int .i64) cK t);let q7:=decide (t=ByteArray.mk #[(45:UInt8)]);let q9:=decide ((t.size:Int)<=200);let aI:=decide (m=0);let aY:=(bif bif bif q7 then true else q2 then decide (q1=1) else false then aI else false)=true;let bt:=(R1.pure (Cd.t.and Cd.t) (aP (W.str t))).v=(R1.pure (Cd.t.and Cd.t) (aP (W.str t))).v;let cB:=[Ob.mk 65 [Fd.m D.str (D.int .i64) cK]]=[bH];let cL:=(bif bif q7 then true else q2 then decide (q1=1) else false)=true;let cG:=decide ((↑(bn eF t (0:Nat)):Int)=(t.size:Int));let dG:=(bif aI then true else decide (m=1))=true;let d9:=decide ((0:Int)<=m);let dH:=(bif q9 then cG else false)=true;let dN:=(bif q7 then true else q2)=true;let eC:=decide (q1=q1);let eO:=decide (q1=2);let ep:=decide (q1=0);let gT:=(Ex.mk k m t L);let dO:=q9=true;let fX:=eD t=true;let gJ:=decide (m<=1000000000000000);let iR:=decide (t=ByteArray.mk #[]);let mq:=A.cond (dO) (V.c (W.str t))=A.cond (dO) (V.c (W.str t));let q3:=(bif bif bif q9 then cG else false then ep else false then aI else false)=true;let q5:=(bif bif q9 then cG else false then ep else false)=true;let q6:=(bif bif bif d9 then gJ else false then ep else false then decide (m=m) else false)=true;let q8:=(bif bif bif aI then true else decide (m=1) then ep else false then decide (m=m) else false)=true;let aT:=(bif bif d9 then gJ else false then ep else false)=true;let cu:=(bif bif aI then true else decide (m=1) then ep else false)=true;let cF:=(bif bif eD t then eC else false then aI else false)=true;let bw:=(bif bif eD t then ep else false then aI else false)=true;let cn:=(bif bif q4 then eO else false then aI else false)=true;let dD:=(bif d9 then gJ else false)=true;let bF:=(bif eD t then eC else false)=true;let cQ:=(bif eD t then ep else false)=true;let cg:=(bif eC then aI else false)=true;let eH:=(bif eO then aI else false)=true;let cN:=(bif q4 then eO else false)=true;(Ob.mk 65 [Fd.m D.str (D.int .i64) cK]=bH/\uV (Ex.ah L) (n+1))/\((!Ex.jV (cj (Ex.ah L)))=true->aq [vB false]=bB gT.fin/\cB)/\((!Ex.jV (cj (Ex.ah L)))=false->(decide (k=1)=true->(d9=true->d9=true)/\(d9=true->d9=true)/\(d9=true->d9=true)/\(dD->dD)/\(dD->dD)/\(dD->dD)/\(aT->aT)/\(aT->aT)/\(aT->aT)/\(aT->aT)/\(q6->q6)/\(q6->q6)/\(q6->q6)/\(q6->q6)/\aq [vB (bif bif bif bif d9 then gJ else false then ep else false then decide (m=m) else false then iR else false)]=bB gT.fin/\cB)/\(decide (k=1)=false->(decide (k=2)=true->(dO->dO)/\(dO->dO)/\(dO->t.size<=1000000/\(0:Int)<=0/\(0:Int)<=(t.size:Int))/\(dO->dO)/\(dO->dO)/\(dO->dO)/\(dO->dO)/\(dO->dO)/\(dO->dO)/\mq/\(dO->dO)/\mq/\bt/\bt/\(dH->dH)/\(dH->dH)/\(dH->dH)/\(q5->q5)/\(q5->q5)/\(q5->q5)/\(q5->q5)/\(q3->q3)/\(q3->q3)/\(q3->q3)/\(q3->q3)/\aq [vB (bif bif bif bif q9 then cG else false then ep else false then aI else false then decide (t=t) else false)]=bB gT.fin/\cB)/\(decide (k=2)=false->(decide (k=3)=true->(aI=false->aI=false)/\(aI=false->aI=false)/\(aI=false->aI=false)/\(dG->dG)/\(dG->dG)/\(dG->dG)/\(cu->cu)/\(cu->cu)/\(cu->cu)/\(cu->cu)/\(q8->q8)/\(q8->q8)/\(q8->q8)/\(q8->q8)/\aq [vB (bif bif bif bif aI then true else decide (m=1) then ep else false then decide (m=m) else false then iR else false)]=bB gT.fin/\cB)/\(decide (k=3)=false->(decide (k=4)=true->bt/\bt/\(fX->fX)/\(fX->fX)/\(fX->fX)/\(cQ->cQ)/\(cQ->cQ)/\(cQ->cQ)/\(cQ->cQ)/\(bw->bw)/\(bw->bw)/\(bw->bw)/\(bw->bw)/\aq [vB (bif bif bif eD t then ep else false then aI else false then decide (t=t) else false)]=bB gT.fin/\cB)/\(decide (k=4)=false->(decide (k=5)=true->(eC=true->eC=true)/\(eC=true->eC=true)/\(eC=true->eC=true)/\(eC=true->eC=true)/\(cg->cg)/\(cg->cg)/\(cg->cg)/\(cg->cg)/\aq [vB (bif bif eC then aI else false then iR else false)]=bB gT.fin/\cB)/\(decide (k=5)=false->(decide (k=6)=true->bt/\bt/\(fX->fX)/\(fX->fX)/\(fX->fX)/\(bF->bF)/\(bF->bF)/\(bF->bF)/\(bF->bF)/\(cF->cF)/\(cF->cF)/\(cF->cF)/\(cF->cF)/\aq [vB (bif bif bif eD t then eC else false then aI else false then decide (t=t) else false)]=bB gT.fin/\cB)/\(decide (k=6)=false->(decide (k=7)=true->(eO=true->eO=true)/\(eO=true->eO=true)/\(eO=true->eO=true)/\(eO=true->eO=true)/\(eH->eH)/\(eH->eH)/\(eH->eH)/\(eH->eH)/\aq [vB (bif bif eO then aI else false then iR else false)]=bB gT.fin/\cB)/\(decide (k=7)=false->(decide (k=8)=true->(q7=false->q7=false)/\(q7=false->q7=false)/\(q7=false->q7=false)/\(dN->dN)/\(dN->dN)/\(dN->dN)/\(cL->cL)/\(cL->cL)/\(cL->cL)/\(cL->cL)/\(aY->aY)/\(aY->aY)/\(aY->aY)/\(aY->aY)/\aq [vB (bif bif bif bif q7 then true else q2 then decide (q1=1) else false then aI else false then decide (t=t) else false)]=bB gT.fin/\cB)/\(decide (k=8)=false->(decide (k=9)=true->bt/\bt/\(q4=true->q4=true)/\(q4=true->q4=true)/\(q4=true->q4=true)/\(cN->cN)/\(cN->cN)/\(cN->cN)/\(cN->cN)/\(cn->cn)/\(cn->cn)/\(cn->cn)/\(cn->cn)/\aq [vB (bif bif bif q4 then eO else false then aI else false then decide (t=t) else false)]=bB gT.fin/\cB)/\(decide (k=9)=false->aq [vB false]=bB gT.fin/\cB))))))))))) (by kernel_rfl)
 try simp only[sL]
 rw[dz,Ii,IZ,Ex.fin_eq];simp only[decide_true,Bool.and_true,Bool.true_and];refine⟨A4 (by omega) hl,fun hf=>by show _=bB (Ex.jV L&&_);rw[hf];rfl,fun ht=>?_⟩;show _/\_;have hE:(Ex.jV (Ex.mk k m t L).l&&tX (Ex.mk k m t L).k (Ex.mk k m t L).n (Ex.mk k m t L).t (Ex.mk k m t L).l.length)=tX k m t L.length:=by
  show (Ex.jV L&&_)=_;rw[ht];rfl
 rw[hE];refine⟨fun h=>by subst h;rfl,fun h1=>⟨fun h=>by subst h;exact⟨fun h=>⟨by omega,by omega⟩,rfl⟩,fun h2=>⟨fun h=>by subst h;rfl,fun h3=>⟨fun h=>by subst h;rfl,fun h4=>⟨fun h=>by subst h;rfl,fun h5=>⟨fun h=>by subst h;rfl,fun h6=>⟨fun h=>by subst h;rfl,fun h7=>⟨fun h=>by subst h;rfl,fun h8=>⟨fun h=>by subst h;rfl,fun h9=>?_⟩⟩⟩⟩⟩⟩⟩⟩⟩;unfold tX;rw[decide_eq_false h1,decide_eq_false h2,decide_eq_false h3,decide_eq_false h4,decide_eq_false h5,decide_eq_false h6,decide_eq_false h7,decide_eq_false h8,decide_eq_false h9];rfl
theorem Gp:∀ n,vN n
 | 0=>fun k m t L h=>by omega
 | n+1=>Yz n (Gp n)
def cZ(xs:List ByteArray)(sep:ByteArray):ByteArray:=⟨(Lib.join (xs.map (·.data.toList)) sep.data.toList).toArray⟩
theorem L8{P:Program}{f:FuncId}{args:List A}{d:D}{y:d.ty}(h:∀(base:Nat) (η:Eta) (Z:av) (w:World) vs,Go.aU.St base η Z (.ofList []) w->aO (cH η Z) args vs->Calls P f vs.toArray w fun e w'=>∃ u,e=.returned u/\(∀ Z:av,cM Z d y u)/\Below w.heap.size w w'):bp P f args [] (dat d y) [] :=
 Am fun base η Z w vs R hvs _=>h base η Z w vs R hvs
theorem YA(xs : List ByteArray)(sep : ByteArray)(h : xs.length ≤ 1000000 ∧ (cZ xs sep).size ≤ 10000000000000) : bp Tryz.prog 35 [jA xs, sS sep] [] (sS (cZ xs sep)) [] :=
 L8 (d := .str) (y := cZ xs sep) fun base η Z w vs R hvs => by
  match vs,hvs with
  | [v, s], ⟨⟨_, h1⟩, ⟨_, h2⟩, _⟩ =>
    have h2:s=.string sep:=h2;subst h2;obtain⟨a,len,c,rfl,hl,hc,hx⟩:=ay.rd h1;subst hl;by_cases h0:xs=[];subst h0;exact(Tryz.strings_Join_none a c sep w).mono fun e w' ⟨he,hw⟩=>⟨_,he,fun _=>rfl,hw▸Below.refl _ _⟩;rcases hx with hx|⟨b,off,cells,rfl,hb,hd⟩;exact absurd hx h0;obtain⟨ty,fz,hw⟩:=R.zs b cells hb;refine(Tryz.strings_Join b off c xs sep w (fun j x hj=>?_) (dF hw) (by omega) hc ?_).mono fun e w' ⟨he,hB⟩=>⟨_,he,fun _=>rfl,hB⟩;obtain⟨u,e1,e2⟩:=hd j x hj;have e2:u=.string x:=e2;subst e2;simp[World.cell?,hw,e1];have:=h.2;have e:(cZ xs sep).size=(Lib.join (xs.map (·.data.toList)) sep.data.toList).length:=by simp[cZ,ByteArray.size]
    omega
def Ja:cO:=vH dS .str fun xs sep=>(.p (List.length (α:=ByteArray) xs<=1000000/\(cZ xs sep).size<=10000000000000),sS (cZ xs sep),[])
theorem DB:bq Tryz.prog 35 Ja:=o9 (by kernel_rfl) fun xs s h=>YA xs s h
def L9(n:Int):ByteArray:=⟨(Lib.itoa n).toArray⟩
theorem YB {Z:av} (hK:gq Tryz.prog Z) {base:Nat} {η:Eta} {S:af} {w:World} (R:Go.aU.St base η Z S w):Lib.TabIs Tryz.prog w "internal/strconv.uint64pow10" .u64 Lib.pow10Tab:=by
 obtain⟨g,hg⟩:∃ g,Tryz.prog.globalNamed "internal/strconv.uint64pow10" = some g:=⟨1,by kernel_rfl⟩;have h:=hK.1 ("internal/strconv.uint64pow10",.u64,QE) (by simp[QF]) g hg;obtain⟨ty,fz,e⟩:=R.zs _ _ h;unfold Lib.TabIs World.var?;rw[hg];simp only[Option.bind_some,e];rfl
theorem itB_sem(n:Int)(h:-9223372036854775808<=n/\n<=9223372036854775807):bp Tryz.prog 96 [nI n] [] (sS (L9 n)) [] :=
 Am (d := .str) (y := L9 n) fun base η Z w vs R hvs hK => by
  match vs,hvs with
  | [v],⟨⟨_,h1⟩,_⟩ =>
    have h1:v=.int .i64 n:=h1;subst h1;refine(Tryz.strconv_Itoa n h.1 h.2 w (YB hK R)).mono ?_;rintro e w' ⟨rfl,k,os,rfl⟩;exact⟨_,rfl,fun _=>rfl,⟨rfl,rfl,rfl,by simp[Sort.grow,World.drewN],fun b hb=>by simp only[Sort.grow,World.drewN];rw[Array.getElem?_append_left hb]⟩⟩
def cItB:cO:=iU (.int .i64) fun n=>(.p (-9223372036854775808<=(show Int from n)/\(show Int from n)<=9223372036854775807),sS (L9 n),[])
theorem cItB_ok:bq Tryz.prog 96 cItB:=eB (by kernel_rfl) fun n h=>itB_sem n h
theorem YC(n:Int)(h:-9223372036854775808<=n/\n<=9223372036854775807):(L9 n).size<=21:=Lib.itoa_length_le n h.1 h.2
def DC(b:Bool):ByteArray:=bif b then AL else AO
theorem foB_sem(b:Bool):bp Tryz.prog 97 [bB b] [] (sS (DC b)) [] :=
 L8 (d := .str) (y := DC b) fun base η Z w vs R hvs => by
  match vs,hvs with
  | [v],⟨⟨_,h1⟩,_⟩ =>
    have h1:v=.bool b:=h1;subst h1;refine(Tryz.strconv_FormatBool b w).mono ?_;rintro e w' ⟨rfl,rfl⟩;exact⟨_,rfl,fun _=>(by cases b<;>rfl),Below.refl _ _⟩
def cFoB:cO:=iU .bool fun b=>(.t,sS (DC b),[])
theorem cFoB_ok:bq Tryz.prog 97 cFoB:=eB (by kernel_rfl) fun b _=>foB_sem b
def fu(k:Int)(t:ByteArray):Int:=bif decide (k=9) then qN t else bif decide (k=8) then(bif decide (t=AK) then 3 else 7) else bif decide (k=7) then 9 else 10
theorem Vs(k m:Int)(t:ByteArray)(l:List PV):bp Tryz.prog 94 [CQ k m t l,rR] [bH] (nI (fu k t)) [bH]:=by
 refine bh (aK:=[]) aE Tryz.func94 (by kernel_rfl) (au:=1) rfl (by kernel_rfl) 200 ?_;apply of_eq (q:=let q1:=[Ob.mk 65 [Fd.m D.str (D.int .i64) cK]]=[bH];let q2:=decide (t=ByteArray.mk #[(110:UInt8),(111:UInt8),(116:UInt8)]);(decide (k=9)=true->aq [vI (eJ D.str (D.int .i64) cK t)]=nI (fu k t)/\q1)/\(decide (k=9)=false->(decide (k=8)=true->(q2=true->aq [vI (3)]=nI (fu k t)/\q1)/\(q2=false->aq [vI (7)]=nI (fu k t)/\q1))/\(decide (k=8)=false->(decide (k=7)=true->aq [vI (9)]=nI (fu k t)/\q1)/\(decide (k=7)=false->aq [vI (10)]=nI (fu k t)/\q1)))) (by kernel_rfl)
 try simp only[sL]
 rw[IZ];refine⟨fun h=>by subst h;rfl,fun h9=>⟨fun h=>by subst h;exact⟨fun h=>by subst h;rfl,fun h=>by unfold fu;rw[decide_eq_false h];rfl⟩,fun h8=>⟨fun h=>by subst h;rfl,fun h7=>?_⟩⟩⟩;unfold fu;rw[decide_eq_false h9,decide_eq_false h8,decide_eq_false h7];rfl
noncomputable def Ma:cO:={ cE:=[false,true],f:=fun args ak=>match args,ak with
 | [.p (.agg [.int .i64 k,.int .i64 m,.str t,.rs q l]),.p (.c (.mp 0))],[o]=>bif Nat.beq q 4 then some (.p (o=bH),nI (fu k t),[o]) else none
 | _,_=>none }
theorem Vt:bq Tryz.prog 94 Ma:=by
 refine⟨by kernel_rfl,fun args ak c r aX e hc=>?_⟩;simp only[Ma] at e;split at e;obtain⟨hb,e1⟩:=aj.aC e;clear e;cases Nat.eq_of_beq_eq_true hb;cases e1;cases hc;exact Vs _ _ _ _;cases e
def kC(p:Int×ByteArray)(pl:Int):ByteArray:=bif decide (p.1<pl) then eY++p.2++fj else p.2
abbrev lO:ByteArray:=⟨#[44,32]⟩
abbrev Vu:ByteArray:=⟨#[32]⟩
abbrev tQu:ByteArray:=⟨#[34]⟩
abbrev tCar:ByteArray:=⟨#[94]⟩
abbrev YD:ByteArray:=⟨#[110,111,116,32]⟩
def lI(ps:List (Int×ByteArray))(i:Nat):Int×ByteArray:=ps.getD i (0,eS)
def Pb(lv:Int)(t:ByteArray)(a b:Int×ByteArray):ByteArray :=
 bif decide (lv=8) then kC a 9++tCar++kC b 7 else
 bif decide (lv=4) then kC a (lv+1)++Vu++t++Vu++kC b (lv+1) else
 kC a lv++Vu++t++Vu++kC b (lv+1)
def CS(k n:Int)(t:ByteArray)(ps:List (Int×ByteArray)):ByteArray :=
 bif decide (k=1) then L9 n else
 bif decide (k=2) then tQu++t++tQu else
 bif decide (k=3) then DC (decide (n=1)) else
 bif decide (k=5) then pF++cZ (ps.map (kC · 1)) lO++mR else
 bif decide (k=6) then t++eY++cZ (ps.map (kC · 1)) lO++fj else
 bif decide (k=7) then kC (lI ps 0) 9++pF++kC (lI ps 1) 1++mR else
 bif decide (k=8) then(bif decide (fu k t=3) then YD++kC (lI ps 0) (fu k t) else vK++kC (lI ps 0) (fu k t)) else
 bif decide (k=9) then Pb (fu k t) t (lI ps 0) (lI ps 1) else t
mutual
def Ex.pr:Ex->Int×ByteArray
 | .mk k n t l=>(fu k t,CS k n t (Ex.kY l))
def Ex.kY:List Ex->List (Int×ByteArray)
 | []=>[]
 | e::m=>e.pr::Ex.kY m
end
def Ex.wT(e:Ex):ByteArray:=e.pr.2
theorem Ex.Mb(k n:Int)(t:ByteArray)(l:List Ex):(Ex.mk k n t l).wT=CS k n t (Ex.kY l):=by rw[Ex.wT,Ex.pr]
theorem Ex.Pc:Ex.kY []=[]:=by rw[Ex.kY]
theorem Ex.DE(e:Ex)(l:List Ex):Ex.kY (e::l)=(fu e.k e.t,e.wT)::Ex.kY l:=by cases e;rw[Ex.kY,Ex.wT,Ex.pr];rfl
def Ex.wr(e:Ex)(pl:Int):ByteArray:=kC (fu e.k e.t,e.wT) pl
theorem Ex.rS{l:List Ex}{i:Nat}(h:i<l.length)(pl:Int):kC (lI (Ex.kY l) i) pl=l[i].wr pl:=by
 have:∀(l:List Ex)(i:Nat)(h:i<l.length),(Ex.kY l).getD i (0,eS)=(fu l[i].k l[i].t,l[i].wT):=by
  intro l
  induction l with
  | nil=>intro i h;cases h
  | cons e l ih =>
    intro i h;rw[Ex.DE];cases i with
    | zero=>rfl
    | succ i=>exact ih i (by simpa using h)
 unfold lI;rw[this l i h];rfl
theorem Ex.Gq(l:List Ex)(pl:Int):(Ex.kY l).map (kC · pl)=l.map fun e=>e.wr pl:=by
 induction l with
 | nil=>rw[Ex.Pc];rfl
 | cons e l ih=>rw[Ex.DE,List.map_cons,List.map_cons,ih];rfl
theorem bL(a b:ByteArray):(a++b).size=a.size+b.size:=ByteArray.size_append
theorem YE{t : ByteArray}(h : 0 < qN t) : t.size ≤ 3 := by
 by_cases h3:t.size<=3;exact h3;exfalso;have : qN t = 0 := by
  have key:∀ l:List (ByteArray×Int),(∀ p∈l,p.1.size<=3)->eJ .str (.int .i64) l t=0:=by
   intro l
   induction l with
   | nil=>intro _;rfl
   | cons p l ih =>
     intro h;have hb:D.kP .str t p.1=false:=by
      cases hb:D.kP .str t p.1 with
      | true =>
        have e:t=p.1:=(D.zy rfl).1 hb;have:=h p (List.mem_cons_self ..);rw[<-e] at this;exact absurd this h3
      | false=>rfl
     have:=ih fun q hq=>h q (List.mem_cons_of_mem _ hq);obtain⟨a,b⟩:=p;unfold eJ mO at this ⊢;unfold mO;rw[hb];exact this
  exact key AG (by decide)
 omega
theorem Vv(sep:ByteArray):cZ [] sep=eS:=rfl
theorem Vw(x sep:ByteArray):cZ [x] sep=x:=by
 unfold cZ;rw[List.map_cons,List.map_nil,Lib.join_one]
theorem YF(x y:ByteArray)(l:List ByteArray)(sep:ByteArray):cZ (x::y::l) sep=x++(sep++cZ (y::l) sep):=by
 unfold cZ;have:Lib.join (x.data.toList::y.data.toList::l.map (·.data.toList)) sep.data.toList=x.data.toList++(sep.data.toList++Lib.join (y.data.toList::l.map (·.data.toList)) sep.data.toList):=by
  rw[Lib.join_cons,Lib.join_cons,Lib.joinTail,Lib.joinTail];simp
 rw[List.map_cons,List.map_cons,this];apply ByteArray.ext;simp
theorem uW(sep:ByteArray):∀ l:List ByteArray,(cZ l sep).size<=(l.map fun x=>x.size+sep.size).sum
 | []=>by rw[Vv];exact Nat.zero_le _
 | [x]=>by rw[Vw];simp
 | x::y::l=>by
   have:=uW sep (y::l);rw[YF,bL,bL,List.map_cons,List.sum_cons];omega
theorem ko(p:Int×ByteArray)(pl:Int):(kC p pl).size<=p.2.size+2:=by
 unfold kC;cases decide (p.1<pl) with
 | true=>rw[cond_true,bL,bL];exact by show 1+_+1<=_;omega
 | false=>rw[cond_false];omega
theorem BU{t:ByteArray}(h:eD t=true):t.size<=20:=by
 unfold eD at h;simp only[Bool.and_eq_true,decide_eq_true_eq] at h;omega
theorem kZ{k n:Int}{t:ByteArray}{c:Nat}(h:tX k n t c=true) :
 (k=1/\0<=n/\n<=1000000000000000/\c=0/\t=eS)∨(k=2/\t.size<=200/\bn eF t 0=t.size/\c=0/\n=0)∨(k=3/\(n=0∨n=1)/\c=0/\t=eS)∨(k=4/\eD t=true/\c=0/\n=0)∨(k=5/\n=0/\t=eS)∨
 (k=6/\eD t=true/\n=0)∨(k=7/\c=2/\n=0/\t=eS)∨(k=8/\(t=vK∨t=AK)/\c=1/\n=0)∨(k=9/\0<qN t/\c=2/\n=0):=by
 unfold tX at h;simp only[cond_eq_ite,decide_eq_true_eq] at h
 (repeat' split at h)<;>simp only[Bool.and_eq_true,Bool.or_eq_true,decide_eq_true_eq,Bool.false_eq_true] at h<;>grind
theorem fin_t{k n:Int}{t:ByteArray}{c:Nat}(h:tX k n t c=true):t.size<=200:=by
 have e0:t=eS->t.size<=200:=by rintro rfl;exact Nat.zero_le _
 rcases kZ h with h|h|h|h|h|h|h|h|h;exact e0 h.2.2.2.2;omega;exact e0 h.2.2.2;have:=BU h.2.1;omega;exact e0 h.2.2;have:=BU h.2.1;omega;exact e0 h.2.2.2;rcases h.2.1 with rfl|rfl<;>decide;have:=YE h.2.1;omega
theorem fin_n{k n:Int}{t:ByteArray}{c:Nat}(h:tX k n t c=true):-9223372036854775808<=n/\n<=9223372036854775807:=by
 rcases kZ h with h|h|h|h|h|h|h|h|h<;>omega
def DF(ps:List (Int×ByteArray)):Nat:=(ps.map fun p=>p.2.size+4).sum
theorem rT(p:Int×ByteArray)(ps:List (Int×ByteArray)):DF (p::ps)=p.2.size+4+DF ps:=by unfold DF;rw[List.map_cons,List.sum_cons]
theorem sumP_2(ps:List (Int×ByteArray)):(lI ps 0).2.size+(lI ps 1).2.size<=DF ps:=by
 match ps with
 | []=>exact Nat.zero_le _
 | [p]=>rw[rT];exact by show p.2.size+0<=_;omega
 | p::q::ps=>rw[rT,rT];exact by show p.2.size+q.2.size<=_;omega
theorem yt(ps:List (Int×ByteArray))(pl:Int):(cZ (ps.map (kC · pl)) lO).size<=DF ps:=by
 refine Nat.le_trans (uW _ _) ?_
 induction ps with
 | nil=>exact Nat.le_refl _
 | cons p ps ih =>
   have:=ko p pl;rw[rT,List.map_cons,List.map_cons,List.sum_cons];have:lO.size=2:=rfl;omega
theorem YG(lv:Int)(t:ByteArray)(a b:Int×ByteArray):(Pb lv t a b).size<=a.2.size+b.2.size+t.size+6:=by
 have z6:tCar.size=1:=rfl;have z7:Vu.size=1:=rfl;unfold Pb;cases decide (lv=8) with
 | true =>
   have h1:=ko a 9;have h2:=ko b 7;rw[cond_true,bL,bL];omega
 | false =>
   rw[cond_false];cases decide (lv=4) with
   | true =>
     have h1:=ko a (lv+1);have h2:=ko b (lv+1);rw[cond_true,bL,bL,bL,bL];omega
   | false =>
     have h1:=ko a lv;have h2:=ko b (lv+1);rw[cond_false,bL,bL,bL,bL];omega
theorem YH{k n:Int}{t:ByteArray}{c:Nat}(h:tX k n t c=true)(ps:List (Int×ByteArray)):(CS k n t ps).size+4<=DF ps+250:=by
 have h1:=fin_t h;have h3:=sumP_2 ps;rcases kZ h with h|h|h|h|h|h|h|h|h<;>obtain⟨rfl,h⟩:=h;have h2:=YC n ⟨by omega,by omega⟩;show (L9 n).size+4<=_;omega;show (tQu++t++tQu).size+4<=_;rw[bL,bL];show 1+_+1+4<=_;omega;show (DC (decide (n=1))).size+4<=_;have hb:(DC (decide (n=1))).size<=5:=by cases decide (n=1)<;>decide
 omega;show t.size+4<=_;omega;show (pF++cZ (ps.map (kC · 1)) lO++mR).size+4<=_;have h4:=yt ps 1;rw[bL,bL];show 1+_+1+4<=_;omega;show (t++eY++cZ (ps.map (kC · 1)) lO++fj).size+4<=_;have h4:=yt ps 1;rw[bL,bL,bL];show t.size+1+_+1+4<=_;omega;show (kC (lI ps 0) 9++pF++kC (lI ps 1) 1++mR).size+4<=_;have h5:=ko (lI ps 0) 9;have h6:=ko (lI ps 1) 1;rw[bL,bL,bL];show _+1+_+1+4<=_;omega
 . show (bif decide (fu 8 t=3) then YD++kC (lI ps 0) (fu 8 t) else vK++kC (lI ps 0) (fu 8 t)).size+4<=_;have h5:=ko (lI ps 0) (fu 8 t);cases decide (fu 8 t=3) with
   | true=>rw[cond_true,bL];exact by show 4+_+4<=_;omega
   | false=>rw[cond_false,bL];exact by show 1+_+4<=_;omega
 show (Pb (fu 9 t) t (lI ps 0) (lI ps 1)).size+4<=_;have:=YG (fu 9 t) t (lI ps 0) (lI ps 1);omega
mutual
theorem Ex.Mc:∀ e:Ex,e.fin=true->e.wT.size+4<=250*e.cP
 | .mk k n t l,h=>by
   rw[Ex.fin,Bool.and_eq_true] at h;have h1:=YH h.2 (Ex.kY l);have h2:=Ex.DH l h.1;rw[Ex.Mb,Ex.cP];omega
theorem Ex.DH:∀ l:List Ex,Ex.jV l=true->DF (Ex.kY l)<=250*Ex.aD l
 | [],_=>by rw[Ex.Pc];exact Nat.zero_le _
 | e::l,h=>by
   rw[Ex.A3,Bool.and_eq_true] at h;have h1:=Ex.Mc e h.1;have h2:=Ex.DH l h.2;rw[Ex.DE,Ex.eK,rT];show e.wT.size+4+_<=_;omega
end
def qi(k n:Int)(t:ByteArray)(l:List PV)(pl:Int)(m:Nat):Prop :=
 (∃ L,l=Ex.ah L)/\(Ex.mk k n t (cj l)).fin=true/\2*Ex.aD (cj l)+(bif decide (fu k t<pl) then 1 else 0)<m/\Ex.aD (cj l)<=1000000
theorem EV{k n:Int}{t:ByteArray}{L:List Ex}{pl:Int}{m:Nat}(h1:(Ex.mk k n t L).fin=true)(h2:2*Ex.aD L+(bif decide (fu k t<pl) then 1 else 0)<m)(h3:Ex.aD L<=1000000):qi k n t (Ex.ah L) pl m:=by
 unfold qi;rw[dz];exact⟨⟨_,rfl⟩,h1,h2,h3⟩
def EW(m:Nat):Prop:=∀(k n:Int)(t:ByteArray)(L:List Ex)(pl:Int),(Ex.mk k n t L).fin=true->2*Ex.aD L+(bif decide (fu k t<pl) then 1 else 0)<m->Ex.aD L<=1000000->bp Tryz.prog 64 [CQ k n t (Ex.ah L),nI pl,rR] [bH] (sS ((Ex.mk k n t L).wr pl)) [bH]
noncomputable def Pf(m:Nat):cO:={ cE:=[false,false,true],f:=fun args ak=>match args,ak with
 | [.p (.agg [.int .i64 k,.int .i64 n,.str t,.rs q l]),.p (.c (.int .i64 pl)),.p (.c (.mp 0))],[o]=>bif Nat.beq q 4 then some (.p (o=bH/\qi k n t l pl m),sS ((Ex.mk k n t (cj l)).wr pl),[o]) else none
 | _,_=>none }
theorem EY{m:Nat}(h:EW m):bq Tryz.prog 64 (Pf m):=by
 refine⟨by kernel_rfl,fun args ak c r aX e hc=>?_⟩;simp only[Pf] at e;split at e;obtain⟨hb,e1⟩:=aj.aC e;clear e;cases Nat.eq_of_beq_eq_true hb;cases e1;obtain⟨rfl,⟨L,rfl⟩,h1,h2,h3⟩:=hc;rw[dz] at h1 h2 h3 ⊢;exact h _ _ _ _ _ h1 h2 h3;cases e
abbrev A5:Ob:=⟨65,[.c (.mp 2)]⟩
noncomputable def gP1(m:Nat):bX:=[(64,Pf m),(35,Ja)]
theorem Vx{m:Nat}(h:EW m):bg Tryz.prog (gP1 m):=ai (EY h) (ai DB aE)
noncomputable def sP1(m:Nat):aZ:=ct Tryz.prog (gP1 m) Tryz.f95 3 [([0,1,0,1,1],[1,3,7,8,9])] [] []
def qj(L:List Ex):List ByteArray:=L.map fun e=>e.wr 1
theorem Pg(L:List Ex):(qj L).length=L.length:=by unfold qj;rw[List.length_map]
theorem Md{L:List Ex}(hf:Ex.jV L=true):(cZ (qj L) lO).size<=250*Ex.aD L:=by
 have h1:=yt (Ex.kY L) 1;rw[Ex.Gq] at h1;exact Nat.le_trans h1 (Ex.DH L hf)
theorem Gr{e:Ex}:∀{l:List Ex},Ex.jV l=true->e∈l->e.fin=true
 | x::l,h,hm=>by
   rw[Ex.A3,Bool.and_eq_true] at h;rcases List.mem_cons.1 hm with rfl|hm;exact h.1;exact Gr h.2 hm
theorem Vy{L:List Ex}{i:Nat}(h:i<L.length)(hf:Ex.jV L=true){m:Nat}(h2:2*Ex.aD L<=m)(h3:Ex.aD L<=1000000)(pl:Int):qi (PV.asInt (.int L[i].k)) (PV.asInt (.int L[i].n)) (PV.bM (.str L[i].t)) (PV.aB (.aH 4 (Ex.ah L[i].l))) pl m:=by
 have m1:=Ex.iE (List.getElem_mem h);rw[Ex.fe] at m1;refine EV (L:=L[i].l) ?_ ?_ (by omega);have:=Gr hf (List.getElem_mem h)
 rwa [<-Ex.eta L[i]] at this
 have:(bif decide (fu (PV.asInt (.int L[i].k)) (PV.bM (.str L[i].t))<pl) then 1 else 0)<=1:=by cases decide (fu (PV.asInt (.int L[i].k)) (PV.bM (.str L[i].t))<pl)<;>decide
 omega
theorem Ph{m:Nat}(h:EW m)(k n:Int)(t:ByteArray)(L:List Ex)(hf:Ex.jV L=true)(h2:2*Ex.aD L<=m)(h3:Ex.aD L<=1000000):∀(j i:Nat),j=L.length-i->i<=L.length->
 ax (sP1 m) (aG (sS (cZ (qj L) lO)) [qf k n t (Ex.ah L),A5,bH]) [0,1,0,1,1] (fr [(1,.p (.c (.ptr 1 0))),(3,.p (.c (.sl 3 0 i 1))),(7,rsX L),(8,nI L.length),(9,nI i)]) (.ofList [qf k n t (Ex.ah L),A5,bH,⟨9,[.a 0 .str (qj (L.take i))]⟩])
 | j,i,hj,hi=>by
   refine bD (Vx h) (by kernel_rfl) 200 ?_;apply of_eq (q:=let q1:=(List.drop (0:Nat) (qj (List.take i L)));let q2:=(Ex.ah L);let q3:=(cZ (List.take i q1) (ByteArray.mk #[(44:UInt8),(32:UInt8)]));let q4:=Ob.mk 32 [fI k,fI n,Fd.c (W.str t),Fd.c (W.rs (4:Nat) q2)];(decide ((i:Int)<(L.length:Int))=true->((0:Int)<=(i:Int)/\i*4<q2.length)/\i*4+4<=q2.length/\(PV.int (0:Int)).like (q2.getD (i*4) (PV.bool false))=true/\(PV.int (0:Int)).like (q2.getD (i*4+1) (PV.bool false))=true/\(PV.str (ByteArray.mk #[])).like (q2.getD (i*4+1+1) (PV.bool false))=true/\(PV.aH (4:Nat) []).like (q2.getD (i*4+1+1+1) (PV.bool false))=true/\(Ob.mk 65 [Fd.m D.str (D.int .i64) cK]=bH/\qi (q2.getD (i*4) (PV.bool false)).asInt (q2.getD (i*4+1) (PV.bool false)).asInt (q2.getD (i*4+1+1) (PV.bool false)).bM (q2.getD (i*4+1+1+1) (PV.bool false)).aB (1:Int) m)/\(0:Nat)+1<=1/\((0:Nat)+i<=(qj (List.take i L)).length/\(i+1)*16<=140737488355328)/\ax (sP1 m) (aG (sS (cZ (qj L) lO)) [qf k n t q2,A5,bH]) [0,1,0,1,1] (fr [(1,aR 1 0),(3,aS 3 0 (i+1)),(7,aP (W.rs (4:Nat) q2)),(8,nI (L.length:Int)),(9,nI (IntKind.i64.wrap ((i:Int)+1)))]) (af.ofList [q4,Ob.mk 65 [Fd.c (W.mp (2:Nat))],Ob.mk 65 [Fd.m D.str (D.int .i64) cK],Ob.mk 9 [Fd.a 0 D.str (List.take i q1++List.take (1:Nat) (List.drop (0:Nat) [(Ex.mk (q2.getD (i*4) (PV.bool false)).asInt (q2.getD (i*4+1) (PV.bool false)).asInt (q2.getD (i*4+1+1) (PV.bool false)).bM (cj (q2.getD (i*4+1+1+1) (PV.bool false)).aB)).wr (1:Int)]))]]))/\(decide ((i:Int)<(L.length:Int))=false->(0:Nat)+i<=(qj (List.take i L)).length/\((List.take i q1).length<=1000000/\q3.size<=10000000000000)/\aq [V.c (W.str q3)]=sS (cZ (qj L) lO)/\[q4,Ob.mk 65 [Fd.c (W.mp (2:Nat))],Ob.mk 65 [Fd.m D.str (D.int .i64) cK]]=[qf k n t q2,A5,bH])) (by kernel_rfl)
   try simp only[sL]
   have bS:=Ex.ig L;have hwl:(qj (L.take i)).length=i:=by rw[Pg,List.length_take];omega
   rw[List.take_of_length_le (Nat.le_of_eq hwl)];refine⟨fun h1=>?_,fun h1=>?_⟩
   . have h1:i<L.length:=by omega
     have hC:=Vy h1 hf h2 h3 1;have g1:i*4+4<=(Ex.ah L).length:=by rw[Ex.cI];omega
     rw[yO h1,su h1,yP h1,yQ h1,Ex.vM,wrap64 (n:=(i:Int)+1) (by omega) (by omega)];refine⟨⟨by omega,by omega⟩,g1,rfl,rfl,rfl,rfl,hC,⟨by omega,by omega⟩,?_⟩;cases j with
     | zero=>omega
     | succ j =>
       have ih:=Ph h k n t L hf h2 h3 j (i+1) (by omega) (by omega);have e:qj (L.take (i+1))=qj (L.take i)++[L[i].wr 1]:=by unfold qj;rw[List.take_succ_eq_append_getElem h1,List.map_append];rfl
       rw[e] at ih;exact ih
   have e:L.take i=L:=List.take_of_length_le (by omega);have:(cZ (qj L) ⟨#[44,32]⟩).size<=250*Ex.aD L:=Md hf;rw[e,Pg];exact⟨by omega,⟨by omega,by omega⟩,rfl⟩
theorem p1_sem{m:Nat}(h:EW m)(k n:Int)(t:ByteArray)(L:List Ex)(hf:Ex.jV L=true)(h2:2*Ex.aD L<=m)(h3:Ex.aD L<=1000000) :
 bp Tryz.prog 95 [.p (.c (.ptr 0 0)),.p (.c (.ptr 1 0))] [qf k n t (Ex.ah L),A5,bH] (sS (cZ (qj L) lO)) [qf k n t (Ex.ah L),A5,bH]:=by
 refine bh (aK:=[([0,1,0,1,1],[1,3,7,8,9])]) (Vx h) Tryz.func95 (by kernel_rfl) (au:=3) rfl (by kernel_rfl) 200 ?_;apply of_eq (q:=ax (cT Tryz.prog (gP1 m) Tryz.f95 (3:Nat) [([0,1,0,1,1],[1,3,7,8,9])]) (aG (sS (cZ (qj L) lO)) [qf k n t (Ex.ah L),A5,bH]) [0,1,0,1,1] (fr [(1,aR 1 0),(3,aS 3 0 0),(7,aP (W.rs (4:Nat) (Ex.ah L))),(8,nI (↑((Ex.ah L).length/4):Int)),(9,nI (0))]) (af.ofList [Ob.mk 32 [fI k,fI n,Fd.c (W.str t),Fd.c (W.rs (4:Nat) (Ex.ah L))],Ob.mk 65 [Fd.c (W.mp (2:Nat))],Ob.mk 65 [Fd.m D.str (D.int .i64) cK],Ob.mk 9 [Fd.a 0 D.str []]])) (by kernel_rfl)
 try simp only[sL,Int.reduceEq,Int.reduceNe,Nat.reduceAdd]
 rw[Ii];exact Ph h k n t L hf h2 h3 (L.length-0) 0 rfl (by omega)
noncomputable def cPt(m:Nat):cO:={ cE:=[true,true],f:=fun args ak=>match args,ak with
 | [.p (.c (.ptr 0 0)),.p (.c (.ptr 1 0))],[⟨ty,[.c (.int .i64 k),.c (.int .i64 n),.c (.str t),.c (.rs q l)]⟩,⟨ty2,[.c (.mp 2)]⟩,o]=>bif Nat.beq q 4&&Nat.beq ty 32&&Nat.beq ty2 65 then some (.p (o=bH/\(∃ L,l=Ex.ah L)/\Ex.jV (cj l)=true/\2*Ex.aD (cj l)<=m/\Ex.aD (cj l)<=1000000),sS (cZ (qj (cj l)) lO),[qf k n t l,A5,o]) else none
 | _,_=>none }
theorem cPt_ok{m:Nat}(h:EW m):bq Tryz.prog 95 (cPt m):=by
 refine⟨by kernel_rfl,fun args ak c r aX e hc=>?_⟩;simp only[cPt] at e;split at e;obtain⟨hb,e1⟩:=aj.aC e;clear e;simp only[Bool.and_eq_true,Nat.beq_eq] at hb;obtain⟨⟨rfl,rfl⟩,rfl⟩:=hb;cases e1;obtain⟨rfl,⟨L,rfl⟩,h1,h2,h3⟩:=hc;rw[dz] at h1 h2 h3 ⊢;exact p1_sem h _ _ _ _ h1 h2 h3;cases e
noncomputable def gWt(m:Nat):bX:=[(64,Pf m),(94,Ma),(95,cPt m),(96,cItB),(97,cFoB)]
theorem gWt_ok{m:Nat}(h:EW m):bg Tryz.prog (gWt m):=ai (EY h) (ai Vt (ai (cPt_ok h) (ai cItB_ok (ai cFoB_ok aE))))
theorem lv_le(t:ByteArray):qN t<=8:=by
 have key:∀ l:List (ByteArray×Int),(∀ p∈l,p.2<=8)->eJ .str (.int .i64) l t<=8:=by
  intro l
  induction l with
  | nil=>intro _;exact by show (0:Int)<=8;omega
  | cons p l ih =>
    intro h;have i1:=h p (List.mem_cons_self ..);have i2:=ih fun q hq=>h q (List.mem_cons_of_mem _ hq);obtain⟨a,b⟩:=p;unfold eJ mO at i2 ⊢;unfold mO;cases D.kP .str t a with
    | true=>exact i1
    | false=>exact i2
 exact key AG (by decide)
theorem wr_ge{k n:Int}{t:ByteArray}{L:List Ex}{pl:Int}(h:pl<=fu k t):(Ex.mk k n t L).wr pl=CS k n t (Ex.kY L):=by
 have e:(Ex.mk k n t L).wr pl=bif decide (fu k t<pl) then eY++(Ex.mk k n t L).wT++fj else(Ex.mk k n t L).wT:=rfl;rw[e,decide_eq_false (by omega),cond_false,Ex.Mb]
theorem wr_lt{k n:Int}{t:ByteArray}{L:List Ex}{pl:Int}(h:fu k t<pl):(Ex.mk k n t L).wr pl=eY++CS k n t (Ex.kY L)++fj:=by
 have e:(Ex.mk k n t L).wr pl=bif decide (fu k t<pl) then eY++(Ex.mk k n t L).wT++fj else(Ex.mk k n t L).wT:=rfl;rw[e,decide_eq_true h,cond_true,Ex.Mb]
theorem BV(e:Ex)(h:e.fin=true)(pl:Int):(e.wr pl).size<=250*e.cP:=by
 have h1:=Ex.Mc e h;have h2:(e.wr pl).size<=e.wT.size+2:=ko _ pl;omega
theorem lvE_pos{k n:Int}{t:ByteArray}{c:Nat}(h:tX k n t c=true):1<=fu k t:=by
 rcases kZ h with g|g|g|g|g|g|g|g|g<;>obtain⟨rfl,g⟩:=g
 all_goals first
  | (show (1:Int)<=10;omega)
  | (show (1:Int)<=9;omega)
  | exact g.1
  | (rcases g.1 with rfl|rfl<;>decide)
theorem qz(c:UInt8):(ByteArray.mk #[c]).size=1:=rfl
theorem CT(a b c d:UInt8):(ByteArray.mk #[a,b,c,d]).size=4:=rfl
theorem wr_step(m:Nat)(h:EW m):EW (m+1):=by
 intro k n t L pl hf hm hl;refine bh (aK:=[]) (gWt_ok h) Tryz.func64 (by kernel_rfl) (au:=1) rfl (by kernel_rfl) 400 ?_;apply of_eq (q:=let q2:=(Ex.ah L);let q5:=(0:Nat);let q9:=Ob.mk 65 [Fd.m D.str (D.int .i64) cK]=bH;let aT:=[Ob.mk 65 [Fd.m D.str (D.int .i64) cK]]=[bH];let bt:=(q5*4+1+1+1);let cu:=(1:Nat);let bw:=(q5*4+1+1);let cn:=(IntKind.i64.wrap (fu k t+1));let cG:=((Ex.mk k n t L).wr pl);let dD:=(PV.aH (4:Nat) []).like (q2.getD bt (PV.bool false))=true;let bF:=cu*4+4<=q2.length;let cQ:=(cu*4+1+1+1);let cg:=(q5*4+1);let cN:=(cu*4+1+1);let d9:=(∃ iw,Ex.ah L=Ex.ah iw)/\Ex.jV (cj q2)=true/\(2:Nat)*Ex.aD (cj q2)<=m/\Ex.aD (cj q2)<=1000000;let dH:=(cu*4+1);let dN:=(q5*4);let eC:=q5*4+4<=q2.length;let eO:=(32:UInt8);let ep:=(cu*4);let gT:=q5*4<q2.length;let dO:=(0:Int);let fX:=(Cd.t.and Cd.t);let gJ:=(fu k t);let iR:=(qj (cj q2));let q3:=(PV.str (ByteArray.mk #[])).like (q2.getD cN (PV.bool false))=true;let q4:=(PV.aH (4:Nat) []).like (q2.getD cQ (PV.bool false))=true;let q6:=(PV.int dO).like (q2.getD dH (PV.bool false))=true;let q7:=(PV.int dO).like (q2.getD ep (PV.bool false))=true;let q8:=(R1.pure fX (aP (W.rs (4:Nat) q2))).v=(R1.pure fX (aP (W.rs (4:Nat) q2))).v;let aI:=(R1.pure fX (aP (W.str t))).v=(R1.pure fX (aP (W.str t))).v;let aY:=(R1.pure fX (aP (W.mp q5))).v=(R1.pure fX (aP (W.mp q5))).v;let cB:=(PV.str (ByteArray.mk #[])).like (q2.getD bw (PV.bool false))=true;let cF:=(PV.int dO).like (q2.getD cg (PV.bool false))=true;let cL:=(PV.int dO).like (q2.getD dN (PV.bool false))=true;let eH:=((Ex.mk (q2.getD dN (PV.bool false)).asInt (q2.getD cg (PV.bool false)).asInt (q2.getD bw (PV.bool false)).bM (cj (q2.getD bt (PV.bool false)).aB)).wr (9:Int)).size+1<=9223372036854775807;let dG:=(A.p (V.agg (jD q2 ep (shapes ((cT Tryz.prog (gWt m) Tryz.f64 cu []).env (aG (sS cG) [bH])).P (32:Nat))).snd));let q1:=(R1.pure (Cd.t.and ((Cd.p (bF)).and (jD q2 ep (shapes ((cT Tryz.prog (gWt m) Tryz.f64 cu []).env (aG (sS cG) [bH])).P (32:Nat))).fst)) dG).v=(R1.pure (Cd.t.and ((Cd.p (bF)).and (jD q2 ep (shapes ((cT Tryz.prog (gWt m) Tryz.f64 cu []).env (aG (sS cG) [bH])).P (32:Nat))).fst)) dG).v;q9/\(decide (fu k t<pl)=true->(q9/\qi k n t q2 (1:Int) m)/\cu+((Ex.mk k n t (cj q2)).wr (1:Int)).size<=9223372036854775807/\(ByteArray.mk #[(40:UInt8)]++(Ex.mk k n t (cj q2)).wr (1:Int)).size+1<=9223372036854775807/\aq [V.c (W.str (ByteArray.mk #[(40:UInt8)]++(Ex.mk k n t (cj q2)).wr (1:Int)++ByteArray.mk #[(41:UInt8)]))]=sS cG/\aT)/\(decide (fu k t<pl)=false->(decide (k=1)=true->((-9223372036854775808:Int)<=n/\n<=9223372036854775807)/\aq [V.c (W.str (L9 n))]=sS cG/\aT)/\(decide (k=1)=false->(decide (k=2)=true->cu+t.size<=9223372036854775807/\(ByteArray.mk #[(34:UInt8)]++t).size+1<=9223372036854775807/\aq [V.c (W.str (ByteArray.mk #[(34:UInt8)]++t++ByteArray.mk #[(34:UInt8)]))]=sS cG/\aT)/\(decide (k=2)=false->(decide (k=3)=true->aq [V.c (W.str (DC (decide (n=1))))]=sS cG/\aT)/\(decide (k=3)=false->(decide (k=5)=true->(q9/\d9)/\cu+(cZ iR lO).size<=9223372036854775807/\(ByteArray.mk #[(91:UInt8)]++cZ iR lO).size+1<=9223372036854775807/\aq [V.c (W.str (ByteArray.mk #[(91:UInt8)]++cZ iR lO++ByteArray.mk #[(93:UInt8)]))]=sS cG/\aT)/\(decide (k=5)=false->(decide (k=6)=true->t.size+1<=9223372036854775807/\(q9/\d9)/\(t++ByteArray.mk #[(40:UInt8)]).size+(cZ iR lO).size<=9223372036854775807/\(t++ByteArray.mk #[(40:UInt8)]++cZ iR lO).size+1<=9223372036854775807/\aI/\aI/\aq [V.c (W.str (t++ByteArray.mk #[(40:UInt8)]++cZ iR lO++ByteArray.mk #[(41:UInt8)]))]=sS cG/\aT)/\(decide (k=6)=false->(decide (k=7)=true->(dO<=0/\gT)/\eC/\cL/\cF/\cB/\dD/\(q9/\qi (q2.getD dN (PV.bool false)).asInt (q2.getD cg (PV.bool false)).asInt (q2.getD bw (PV.bool false)).bM (q2.getD bt (PV.bool false)).aB (9:Int) m)/\eH/\(dO<=1/\cu*4<q2.length)/\bF/\q7/\q6/\q3/\q4/\(q9/\qi (q2.getD ep (PV.bool false)).asInt (q2.getD dH (PV.bool false)).asInt (q2.getD cN (PV.bool false)).bM (q2.getD cQ (PV.bool false)).aB (1:Int) m)/\((Ex.mk (q2.getD dN (PV.bool false)).asInt (q2.getD cg (PV.bool false)).asInt (q2.getD bw (PV.bool false)).bM (cj (q2.getD bt (PV.bool false)).aB)).wr (9:Int)++ByteArray.mk #[(91:UInt8)]).size+((Ex.mk (q2.getD ep (PV.bool false)).asInt (q2.getD dH (PV.bool false)).asInt (q2.getD cN (PV.bool false)).bM (cj (q2.getD cQ (PV.bool false)).aB)).wr (1:Int)).size<=9223372036854775807/\((Ex.mk (q2.getD dN (PV.bool false)).asInt (q2.getD cg (PV.bool false)).asInt (q2.getD bw (PV.bool false)).bM (cj (q2.getD bt (PV.bool false)).aB)).wr (9:Int)++ByteArray.mk #[(91:UInt8)]++(Ex.mk (q2.getD ep (PV.bool false)).asInt (q2.getD dH (PV.bool false)).asInt (q2.getD cN (PV.bool false)).bM (cj (q2.getD cQ (PV.bool false)).aB)).wr (1:Int)).size+1<=9223372036854775807/\q8/\q8/\bF/\q7/\q6/\q3/\q4/\q1/\bF/\q7/\q6/\q3/\q4/\q1/\aY/\aY/\aq [V.c (W.str ((Ex.mk (q2.getD dN (PV.bool false)).asInt (q2.getD cg (PV.bool false)).asInt (q2.getD bw (PV.bool false)).bM (cj (q2.getD bt (PV.bool false)).aB)).wr (9:Int)++ByteArray.mk #[(91:UInt8)]++(Ex.mk (q2.getD ep (PV.bool false)).asInt (q2.getD dH (PV.bool false)).asInt (q2.getD cN (PV.bool false)).bM (cj (q2.getD cQ (PV.bool false)).aB)).wr (1:Int)++ByteArray.mk #[(93:UInt8)]))]=sS cG/\aT)/\(decide (k=7)=false->(decide (k=8)=true->(decide (fu k t=3)=true->(dO<=0/\gT)/\eC/\cL/\cF/\cB/\dD/\(q9/\qi (q2.getD dN (PV.bool false)).asInt (q2.getD cg (PV.bool false)).asInt (q2.getD bw (PV.bool false)).bM (q2.getD bt (PV.bool false)).aB gJ m)/\(4:Nat)+((Ex.mk (q2.getD dN (PV.bool false)).asInt (q2.getD cg (PV.bool false)).asInt (q2.getD bw (PV.bool false)).bM (cj (q2.getD bt (PV.bool false)).aB)).wr gJ).size<=9223372036854775807/\aq [V.c (W.str (ByteArray.mk #[(110:UInt8),(111:UInt8),(116:UInt8),eO]++(Ex.mk (q2.getD dN (PV.bool false)).asInt (q2.getD cg (PV.bool false)).asInt (q2.getD bw (PV.bool false)).bM (cj (q2.getD bt (PV.bool false)).aB)).wr gJ))]=sS cG/\aT)/\(decide (fu k t=3)=false->(dO<=0/\gT)/\eC/\cL/\cF/\cB/\dD/\(q9/\qi (q2.getD dN (PV.bool false)).asInt (q2.getD cg (PV.bool false)).asInt (q2.getD bw (PV.bool false)).bM (q2.getD bt (PV.bool false)).aB gJ m)/\cu+((Ex.mk (q2.getD dN (PV.bool false)).asInt (q2.getD cg (PV.bool false)).asInt (q2.getD bw (PV.bool false)).bM (cj (q2.getD bt (PV.bool false)).aB)).wr gJ).size<=9223372036854775807/\aq [V.c (W.str (ByteArray.mk #[(45:UInt8)]++(Ex.mk (q2.getD dN (PV.bool false)).asInt (q2.getD cg (PV.bool false)).asInt (q2.getD bw (PV.bool false)).bM (cj (q2.getD bt (PV.bool false)).aB)).wr gJ))]=sS cG/\aT))/\(decide (k=8)=false->(decide (k=9)=true->(decide (fu k t=8)=true->(dO<=0/\gT)/\eC/\cL/\cF/\cB/\dD/\(q9/\qi (q2.getD dN (PV.bool false)).asInt (q2.getD cg (PV.bool false)).asInt (q2.getD bw (PV.bool false)).bM (q2.getD bt (PV.bool false)).aB (9:Int) m)/\eH/\(dO<=1/\cu*4<q2.length)/\bF/\q7/\q6/\q3/\q4/\(q9/\qi (q2.getD ep (PV.bool false)).asInt (q2.getD dH (PV.bool false)).asInt (q2.getD cN (PV.bool false)).bM (q2.getD cQ (PV.bool false)).aB (7:Int) m)/\((Ex.mk (q2.getD dN (PV.bool false)).asInt (q2.getD cg (PV.bool false)).asInt (q2.getD bw (PV.bool false)).bM (cj (q2.getD bt (PV.bool false)).aB)).wr (9:Int)++ByteArray.mk #[(94:UInt8)]).size+((Ex.mk (q2.getD ep (PV.bool false)).asInt (q2.getD dH (PV.bool false)).asInt (q2.getD cN (PV.bool false)).bM (cj (q2.getD cQ (PV.bool false)).aB)).wr (7:Int)).size<=9223372036854775807/\q8/\q8/\bF/\q7/\q6/\q3/\q4/\q1/\bF/\q7/\q6/\q3/\q4/\q1/\aY/\aY/\aq [V.c (W.str ((Ex.mk (q2.getD dN (PV.bool false)).asInt (q2.getD cg (PV.bool false)).asInt (q2.getD bw (PV.bool false)).bM (cj (q2.getD bt (PV.bool false)).aB)).wr (9:Int)++ByteArray.mk #[(94:UInt8)]++(Ex.mk (q2.getD ep (PV.bool false)).asInt (q2.getD dH (PV.bool false)).asInt (q2.getD cN (PV.bool false)).bM (cj (q2.getD cQ (PV.bool false)).aB)).wr (7:Int)))]=sS cG/\aT)/\(decide (fu k t=8)=false->(decide (fu k t=4)=true->(dO<=0/\gT)/\eC/\cL/\cF/\cB/\dD/\(q9/\qi (q2.getD dN (PV.bool false)).asInt (q2.getD cg (PV.bool false)).asInt (q2.getD bw (PV.bool false)).bM (q2.getD bt (PV.bool false)).aB cn m)/\((Ex.mk (q2.getD dN (PV.bool false)).asInt (q2.getD cg (PV.bool false)).asInt (q2.getD bw (PV.bool false)).bM (cj (q2.getD bt (PV.bool false)).aB)).wr cn).size+1<=9223372036854775807/\((Ex.mk (q2.getD dN (PV.bool false)).asInt (q2.getD cg (PV.bool false)).asInt (q2.getD bw (PV.bool false)).bM (cj (q2.getD bt (PV.bool false)).aB)).wr cn++ByteArray.mk #[eO]).size+t.size<=9223372036854775807/\((Ex.mk (q2.getD dN (PV.bool false)).asInt (q2.getD cg (PV.bool false)).asInt (q2.getD bw (PV.bool false)).bM (cj (q2.getD bt (PV.bool false)).aB)).wr cn++ByteArray.mk #[eO]++t).size+1<=9223372036854775807/\(dO<=1/\cu*4<q2.length)/\bF/\q7/\q6/\q3/\q4/\(q9/\qi (q2.getD ep (PV.bool false)).asInt (q2.getD dH (PV.bool false)).asInt (q2.getD cN (PV.bool false)).bM (q2.getD cQ (PV.bool false)).aB cn m)/\((Ex.mk (q2.getD dN (PV.bool false)).asInt (q2.getD cg (PV.bool false)).asInt (q2.getD bw (PV.bool false)).bM (cj (q2.getD bt (PV.bool false)).aB)).wr cn++ByteArray.mk #[eO]++t++ByteArray.mk #[eO]).size+((Ex.mk (q2.getD ep (PV.bool false)).asInt (q2.getD dH (PV.bool false)).asInt (q2.getD cN (PV.bool false)).bM (cj (q2.getD cQ (PV.bool false)).aB)).wr cn).size<=9223372036854775807/\aI/\aI/\aI/\q8/\q8/\bF/\q7/\q6/\q3/\q4/\q1/\bF/\q7/\q6/\q3/\q4/\q1/\aY/\aY/\aq [V.c (W.str ((Ex.mk (q2.getD dN (PV.bool false)).asInt (q2.getD cg (PV.bool false)).asInt (q2.getD bw (PV.bool false)).bM (cj (q2.getD bt (PV.bool false)).aB)).wr cn++ByteArray.mk #[eO]++t++ByteArray.mk #[eO]++(Ex.mk (q2.getD ep (PV.bool false)).asInt (q2.getD dH (PV.bool false)).asInt (q2.getD cN (PV.bool false)).bM (cj (q2.getD cQ (PV.bool false)).aB)).wr cn))]=sS cG/\aT)/\(decide (fu k t=4)=false->(dO<=0/\gT)/\eC/\cL/\cF/\cB/\dD/\(q9/\qi (q2.getD dN (PV.bool false)).asInt (q2.getD cg (PV.bool false)).asInt (q2.getD bw (PV.bool false)).bM (q2.getD bt (PV.bool false)).aB gJ m)/\((Ex.mk (q2.getD dN (PV.bool false)).asInt (q2.getD cg (PV.bool false)).asInt (q2.getD bw (PV.bool false)).bM (cj (q2.getD bt (PV.bool false)).aB)).wr gJ).size+1<=9223372036854775807/\((Ex.mk (q2.getD dN (PV.bool false)).asInt (q2.getD cg (PV.bool false)).asInt (q2.getD bw (PV.bool false)).bM (cj (q2.getD bt (PV.bool false)).aB)).wr gJ++ByteArray.mk #[eO]).size+t.size<=9223372036854775807/\((Ex.mk (q2.getD dN (PV.bool false)).asInt (q2.getD cg (PV.bool false)).asInt (q2.getD bw (PV.bool false)).bM (cj (q2.getD bt (PV.bool false)).aB)).wr gJ++ByteArray.mk #[eO]++t).size+1<=9223372036854775807/\(dO<=1/\cu*4<q2.length)/\bF/\q7/\q6/\q3/\q4/\(q9/\qi (q2.getD ep (PV.bool false)).asInt (q2.getD dH (PV.bool false)).asInt (q2.getD cN (PV.bool false)).bM (q2.getD cQ (PV.bool false)).aB cn m)/\((Ex.mk (q2.getD dN (PV.bool false)).asInt (q2.getD cg (PV.bool false)).asInt (q2.getD bw (PV.bool false)).bM (cj (q2.getD bt (PV.bool false)).aB)).wr gJ++ByteArray.mk #[eO]++t++ByteArray.mk #[eO]).size+((Ex.mk (q2.getD ep (PV.bool false)).asInt (q2.getD dH (PV.bool false)).asInt (q2.getD cN (PV.bool false)).bM (cj (q2.getD cQ (PV.bool false)).aB)).wr cn).size<=9223372036854775807/\aI/\aI/\aI/\q8/\q8/\bF/\q7/\q6/\q3/\q4/\q1/\bF/\q7/\q6/\q3/\q4/\q1/\aY/\aY/\aq [V.c (W.str ((Ex.mk (q2.getD dN (PV.bool false)).asInt (q2.getD cg (PV.bool false)).asInt (q2.getD bw (PV.bool false)).bM (cj (q2.getD bt (PV.bool false)).aB)).wr gJ++ByteArray.mk #[eO]++t++ByteArray.mk #[eO]++(Ex.mk (q2.getD ep (PV.bool false)).asInt (q2.getD dH (PV.bool false)).asInt (q2.getD cN (PV.bool false)).bM (cj (q2.getD cQ (PV.bool false)).aB)).wr cn))]=sS cG/\aT)))/\(decide (k=9)=false->aq [V.c (W.str t)]=sS cG/\aT)))))))))) (by kernel_rfl)
 try simp only[sL]
 rw[Ex.fin,Bool.and_eq_true] at hf;obtain⟨hF,h1⟩:=hf;rw[dz];have hl0:=lvE_pos h1;have hs:∀(i:Nat)(h:i<L.length)(pl:Int),(L[i].wr pl).size<=250000000:=by
  intro i h pl;have a:=BV L[i] (Gr hF (List.getElem_mem h)) pl;have b:=Ex.iE (List.getElem_mem h);omega
 have hJ:=Md hF;have ht:=fin_t h1;refine⟨fun hp=>?_,fun hp=>?_⟩;rw[decide_eq_true hp,cond_true] at hm;have hC:qi k n t (Ex.ah L) 1 m:=EV (by rw[Ex.fin,hF,h1];rfl) (by rw[decide_eq_false (by omega),cond_false];omega) hl;have hz:=BV (Ex.mk k n t L) (by rw[Ex.fin,hF,h1];rfl) 1;rw[Ex.cP] at hz;rw[wr_lt hp];rw[wr_ge hl0] at hz ⊢;refine⟨hC,by omega,by rw[bL,qz];omega,rfl⟩;rw[decide_eq_false (by omega),cond_false] at hm;rw[wr_ge hp];have hC:=fun(i:Nat) (h:i<L.length) pl=>Vy h hF (m:=m) (by omega) hl pl;refine⟨fun h=>?_,fun n1=>⟨fun h=>?_,fun n2=>⟨fun h=>?_,fun n3=>⟨fun h=>?_,fun n5=>⟨fun h=>?_,fun n6=>⟨fun h=>?_,fun n7=>⟨fun h=>?_,fun n8=>⟨fun h=>?_,fun n9=>?_⟩⟩⟩⟩⟩⟩⟩⟩;subst h;exact⟨fin_n h1,rfl⟩;subst h;exact⟨by omega,by rw[bL,qz];omega,rfl⟩;subst h;rfl;subst h;refine⟨⟨⟨_,rfl⟩,hF,by omega,hl⟩,by omega,by rw[bL,qz];omega,?_⟩;have:CS 5 n t (Ex.kY L)=pF++cZ ((Ex.kY L).map (kC · 1)) lO++mR:=rfl;rw[this,Ex.Gq];rfl;subst h;refine⟨by omega,⟨⟨_,rfl⟩,hF,by omega,hl⟩,by rw[bL,qz];omega,by rw[bL,bL,qz];omega,?_⟩;have:CS 6 n t (Ex.kY L)=t++eY++cZ ((Ex.kY L).map (kC · 1)) lO++fj:=rfl;rw[this,Ex.Gq];rfl
 . subst h;have hc:L.length=2:=by rcases kZ h1 with g|g|g|g|g|g|g|g|g<;>omega
   have l0:0<L.length:=by omega
   have l1:1<L.length:=by omega
   have q0:=hs 0 l0 9;have q1:=hs 1 l1 1;rw[yO l0,su l0,yP l0,yQ l0,yO l1,su l1,yP l1,yQ l1,Ex.vM,Ex.vM];have hE:CS 7 n t (Ex.kY L)=kC (lI (Ex.kY L) 0) 9++pF++kC (lI (Ex.kY L) 1) 1++mR:=rfl;rw[hE,Ex.rS l0,Ex.rS l1];have hp:=Ex.cI L
   (repeat' first|exact hC 0 l0 9|exact hC 1 l1 1|apply And.intro)<;>first|rfl|omega|(simp only[bL,qz];omega)
 subst h;have hc:L.length=1:=by rcases kZ h1 with g|g|g|g|g|g|g|g|g<;>omega
 have l0:0<L.length:=by omega
 have q0:=hs 0 l0 (fu 8 t);rw[yO l0,su l0,yP l0,yQ l0,Ex.vM];have hE:CS 8 n t (Ex.kY L)=bif decide (fu 8 t=3) then YD++kC (lI (Ex.kY L) 0) (fu 8 t) else vK++kC (lI (Ex.kY L) 0) (fu 8 t):=rfl;rw[hE,Ex.rS l0];have hp:=Ex.cI L;refine⟨fun h=>?_,fun h=>?_⟩
 . rw[decide_eq_true h,cond_true];rw[h] at q0 ⊢
   (repeat' first|exact hC 0 l0 3|apply And.intro)<;>first|rfl|omega|(simp only[bL,qz,CT];omega)
 . rw[decide_eq_false h,cond_false]
   (repeat' first|exact hC 0 l0 (fu 8 t)|apply And.intro)<;>first|rfl|omega|(simp only[bL,qz,CT];omega)
 subst h;have hc:L.length=2:=by rcases kZ h1 with g|g|g|g|g|g|g|g|g<;>omega
 have hv:fu 9 t=qN t:=rfl;have hvb:fu 9 t<=8:=lv_le t;have l0:0<L.length:=by omega
 have l1:1<L.length:=by omega
 have hp:=Ex.cI L;rw[yO l0,su l0,yP l0,yQ l0,yO l1,su l1,yP l1,yQ l1,Ex.vM,Ex.vM,wrap64 (n:=fu 9 t+1) (by omega) (by omega)];have hE:CS 9 n t (Ex.kY L)=Pb (fu 9 t) t (lI (Ex.kY L) 0) (lI (Ex.kY L) 1):=rfl;rw[hE];unfold Pb;rw[Ex.rS l0,Ex.rS l0,Ex.rS l0,Ex.rS l1,Ex.rS l1];refine⟨fun h=>?_,fun h8=>⟨fun h=>?_,fun h=>?_⟩⟩
 . rw[decide_eq_true h,cond_true];have q0:=hs 0 l0 9;have q1:=hs 1 l1 7
   (repeat' first|exact hC 0 l0 9|exact hC 1 l1 7|apply And.intro)<;>first|rfl|omega|(simp only[bL,qz];omega)
 . rw[decide_eq_false h8,cond_false,decide_eq_true h,cond_true];have q0:=hs 0 l0 (fu 9 t+1);have q1:=hs 1 l1 (fu 9 t+1)
   (repeat' first|exact hC 0 l0 _|exact hC 1 l1 _|apply And.intro)<;>first|rfl|omega|(simp only[bL,qz];omega)
 . rw[decide_eq_false h8,cond_false,decide_eq_false h,cond_false];have q0:=hs 0 l0 (fu 9 t);have q1:=hs 1 l1 (fu 9 t+1)
   (repeat' first|exact hC 0 l0 _|exact hC 1 l1 _|apply And.intro)<;>first|rfl|omega|(simp only[bL,qz];omega)
 rcases kZ h1 with g|g|g|g|g|g|g|g|g<;>first|omega|(obtain⟨rfl,g⟩:=g;rfl)
theorem Me:∀ m,EW m
 | 0=>fun k n t L pl _ h=>by omega
 | m+1=>wr_step m (Me m)
end Go.Proofs.YtaplgnhojknpiaaGreatDoor
