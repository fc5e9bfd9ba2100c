/- The reference's Split, with its list for good. -/
import Derived.Test.YtaplgnhojknpiaaGreatDoorRefe1
import Derived.Test.YtaplgnhojknpiaaGreatDoorText2
namespace Go.Proofs.YtaplgnhojknpiaaGreatDoor
open Go.aU Go.RowKit
set_option maxRecDepth 100000
def sx(acc:List Tok)(q:List Tok×(Int×Int)):A:=.bC [.c (.rs 4 (ar (if q.2.1=0 then acc++q.1 else []))),fV q.2.1 q.2.2]
theorem PN{s:ByteArray}{k i:Nat}{acc:List Tok}(h:bE s k i=([],0,0)):sx acc (bE s k i)=.bC [.c (.rs 4 (ar acc)),fV 0 0]:=by
 rw[h];unfold sx;rw[if_pos rfl,List.append_nil]
theorem Zf{acc:List Tok}{t:Tok}{q:List Tok×(Int×Int)}:sx acc (t::q.1,q.2)=sx (acc++[t]) q:=by
 unfold sx;rw[List.append_assoc];rfl
theorem PO(acc:List Tok):acc.length*4<=(ar acc).length/\aq [V.c (.rs 4 (List.take (acc.length*4) (ar acc))),fV 0 0]=.bC [.c (.rs 4 (ar acc)),fV 0 0]:=by
 rw[List.take_of_length_le (by rw[jZ];exact Nat.le_refl _)];exact⟨by rw[jZ];exact Nat.le_refl _,rfl⟩
noncomputable def Iy:aZ:=ct Tryz.prog gRs Tryz.f18 0 La [] [some .pv,none]
abbrev rsZ(s:ByteArray)(n:Nat)(i:Int):List (Nat×A):=[(0,sS s),(3,.p (.c (.ptr 0 0))),(4,.p (CM 1 n)),(5,nI i)]
theorem V8(s:ByteArray)(hs:s.size<=1000000)(l:List Tok)(R:A)(O:List Ob):∀(k i:Nat),k=s.size-i->i<=s.size->ax Iy (aG R O) [0,1,0,1,1,1] (fr (rsZ s l.length (bn iV s i))) (.ofList [jq 0 0,wM l])->
 ax Iy (aG R O) [0,0,0,1,0,1,0,1,0,0,1,0,1,1,1] (fr (rsZ s l.length i)) (.ofList [jq 0 0,wM l])
 | k,i,hk,hi,H=>by
   refine bD K9 (by kernel_rfl) 100 ?_;apply of_eq (q:=let q1:=decide ((i:Int)<(s.size:Int));let q2:=(af.ofList [Ob.mk 27 [fI (0),fI (0)],Ob.mk 78 [Fd.a 0 D.pv (ar l)]]);(q1=true->q1=true)/\(q1=true->q1=true)/\(q1=true->(0:Int)<=(i:Int)/\(i:Int)<(s.size:Int))/\(q1=true->q1=true)/\(q1=true->q1=true)/\((bif q1 then !decide (bV s i=10) else false)=true->ax Iy (aG R O) [0,0,0,1,0,1,0,1,0,0,1,0,1,1,1] (fr [(0,aP (W.str s)),(3,aR 0 0),(4,aP (W.sl 1 0 l.length 4)),(5,nI (IntKind.i64.wrap ((i:Int)+1)))]) q2)/\((bif q1 then !decide (bV s i=10) else false)=false->ax Iy (aG R O) [0,1,0,1,1,1] (fr [(0,aP (W.str s)),(3,aR 0 0),(4,aP (W.sl 1 0 l.length 4)),(5,nI (i:Int))]) q2)) (by kernel_rfl)
   try simp only[sL]
   refine⟨fun h=>by omega,fun h=>?_,fun h=>?_⟩
   . rw[wrap64 (by omega) (by omega)];rw[iy ⟨by omega,by unfold iV;rw[decide_eq_false h.2];rfl⟩] at H;cases k with
     | zero=>omega
     | succ k=>exact V8 s hs l R O k (i+1) (by omega) (by omega) H
   rw[kM (by rintro⟨h1,h2⟩;unfold iV at h2;rw[decide_eq_true (h (by omega))] at h2;cases h2)] at H;exact H
theorem Ca(s:ByteArray)(hs:s.size<=1000000):∀(k i:Nat)(acc:List Tok),s.size<=k+i->i<=s.size->acc.length<=i->ax Iy (aG (sx acc (bE s k i)) []) [0,1,0,1,1,1] (fr (rsZ s acc.length i)) (.ofList [jq 0 0,wM acc])
 | k,i,acc,hk,hi,ha=>by
   refine bD K9 (by kernel_rfl) 100 ?_;apply of_eq (q:=let q1:=decide (bV s i=32)=false;let q2:=(af.ofList [Ob.mk 27 [fI (0),fI (0)],Ob.mk 78 [Fd.a 0 D.pv (ar acc)]]);let q3:=(i:Int)<(s.size:Int);let q4:=(0:Int)<=(i:Int);(decide ((i:Int)<(s.size:Int))=true->(q4/\q3)/\(q1->q1)/\(q1->q1)/\(q1->q4/\q3)/\(q1->q1)/\(q1->q1)/\((bif decide (bV s i=32) then true else decide (bV s i=10))=true->ax Iy (aG (sx acc (bE s k i)) []) [0,1,0,1,1,1] (fr [(0,aP (W.str s)),(3,aR 0 0),(4,aP (W.sl 1 0 acc.length 4)),(5,nI (IntKind.i64.wrap ((i:Int)+1)))]) q2)/\((bif decide (bV s i=32) then true else decide (bV s i=10))=false->(q4/\q3)/\(decide (bV s i=35)=true->ax Iy (aG (sx acc (bE s k i)) []) [0,0,0,1,0,1,0,1,0,0,1,0,1,1,1] (fr [(0,aP (W.str s)),(3,aR 0 0),(4,aP (W.sl 1 0 acc.length 4)),(5,nI (i:Int))]) q2)/\(decide (bV s i=35)=false->(s.size<=1000000/\q4/\q3)/\((!decide ((dB s i).er=0))=true->(0:Nat)+0*4<=0/\aq [V.c (W.rs (4:Nat) (List.take ((0:Nat)*4) (List.drop (0:Nat) []))),V.agg [wI (dB s i).er,wI (dB s i).ea]]=sx acc (bE s k i)/\([]:List Ob)=[])/\((!decide ((dB s i).er=0))=false->((0:Nat)+acc.length*4<=(ar acc).length/\(acc.length+1)*40<=140737488355328)/\ax Iy (aG (sx acc (bE s k i)) []) [0,1,0,1,1,1] (fr [(0,aP (W.str s)),(3,aR 0 0),(4,aP (W.sl 1 0 (acc.length+1) 4)),(5,nI (dB s i).e)]) (af.ofList [Ob.mk 27 [fI (0),fI (0)],Ob.mk 78 [Fd.a 0 D.pv (List.take (acc.length*4) (List.drop (0:Nat) (ar acc))++[PV.int (dB s i).t.kind,PV.str (dB s i).t.text,PV.int (dB s i).t.n,PV.int (dB s i).t.at_])]])))))/\(decide ((i:Int)<(s.size:Int))=false->(0:Nat)+acc.length*4<=(ar acc).length/\aq [V.c (W.rs (4:Nat) (List.take (acc.length*4) (List.drop (0:Nat) (ar acc)))),V.agg [wI (0),wI (0)]]=sx acc (bE s k i)/\([]:List Ob)=[])) (by kernel_rfl)
   try simp only[sL]
   cases k with
   | zero=>exact⟨fun h=>by omega,fun _=>by rw[PN rfl];exact PO acc⟩
   | succ k =>
   refine⟨fun h=>?_,fun h=>?_⟩;have hlt:i<s.size:=by omega
   refine⟨by omega,fun _=>by omega,fun h1=>?_,fun h1=>⟨by omega,fun h2=>?_,fun h2=>⟨by omega,fun h3=>?_,fun h3=>⟨⟨by rw[jZ];exact Nat.le_refl _,by omega⟩,?_⟩⟩⟩⟩;have e:bE s (k+1) i=bE s k (i+1):=by rw[bE,if_pos hlt,if_pos h1]
   rw[e,wrap64 (by omega) (by omega)];exact Ca s hs k (i+1) acc (by omega) (by omega) (by omega);have e:bE s (k+1) i=bE s k (bn iV s i):=by rw[bE,if_pos hlt,if_neg (by omega),if_pos h2]
   have hy:bn iV s i=bn iV s (i+1):=iy ⟨hlt,by unfold iV;rw[decide_eq_false (by omega)];rfl⟩;have hg:=nQ iV s _ (i+1) rfl;rw[e];exact V8 s hs acc _ _ _ i rfl hi (Ca s hs k (bn iV s i) acc (by omega) (by rw[hy];exact hg.2 (by omega)) (by omega));have e:bE s (k+1) i=([],(dB s i).er,(dB s i).ea):=by rw[bE,if_pos hlt,if_neg (by omega),if_neg h2,if_pos h3]
   rw[e];unfold sx;rw[if_neg h3];rfl;have e:bE s (k+1) i=((dB s i).t::(bE s k (dB s i).e.toNat).1,(bE s k (dB s i).e.toNat).2):=by rw[bE,if_pos hlt,if_neg (by omega),if_neg h2,if_neg (by omega)]
   obtain⟨n,hn,h4,h5⟩:=XY hlt h3;rw[e,hn,Int.toNat_natCast,Zf,List.take_of_length_le (by rw[jZ];exact Nat.le_refl _),HY];have:=Ca s hs k n (acc++[(dB s i).t]) (by omega) h5 (by rw[List.length_append,List.length_singleton];omega);rw[List.length_append,List.length_singleton] at this;exact this;have e:bE s (k+1) i=([],0,0):=by rw[bE,if_neg (by omega)]
   rw[PN e];exact PO acc
theorem rz_sem(s:ByteArray)(hs:s.size<=1000000):bp Tryz.prog 18 [sS s] [] (.bC [.c (.rs 4 (ar (kG (cU s)))),fV (cU s).2.1 (cU s).2.2]) []:=by
 refine o8 (aK:=La) (eu:=[]) (fz:=[some .pv,none]) K9 Tryz.func18 (by kernel_rfl) (au:=0) rfl (by kernel_rfl) 100 ?_;apply of_eq (q:=(decide ((20000:Int)<(s.size:Int))=true->(0:Nat)+0*4<=0/\aq [V.c (W.rs (4:Nat) (List.take ((0:Nat)*4) (List.drop (0:Nat) []))),V.agg [wI (4),wI (20000)]]=A.bC [V.c (W.rs (4:Nat) (ar (kG (cU s)))),fV (cU s).snd.fst (cU s).snd.snd]/\([]:List Ob)=[])/\(decide ((20000:Int)<(s.size:Int))=false->ax (ct Tryz.prog gRs Tryz.f18 (0:Nat) La [] [some D.pv,none]) (aG (A.bC [V.c (W.rs (4:Nat) (ar (kG (cU s)))),fV (cU s).snd.fst (cU s).snd.snd]) []) [0,1,0,1,1,1] (fr [(0,aP (W.str s)),(3,aR 0 0),(4,aP (W.sl 1 0 0 4)),(5,nI (0))]) (af.ofList [Ob.mk 27 [fI (0),fI (0)],Ob.mk 78 [Fd.a 0 D.pv []]]))) (by kernel_rfl)
 try simp only[sL]
 refine⟨fun h=>?_,fun h=>?_⟩;have e:cU s=([],4,20000):=by unfold cU;rw[if_pos (by omega)]
 rw[e];rfl;have e:cU s=bE s s.size 0:=by unfold cU;rw[if_neg (by omega)]
 rw[e];exact Ca s hs s.size 0 [] (by omega) (by omega) (Nat.le_refl _)
theorem MP:bq Tryz.prog 18 BN:=eB (by kernel_rfl) fun s h=>rz_sem s h
end Go.Proofs.YtaplgnhojknpiaaGreatDoor
namespace Go.Proofs.YtaplgnhojknpiaaGreatDoor
open Go.aU
set_option maxRecDepth 100000
def Sj(s:ByteArray)(i:Nat)(t:Tok):Prop:=t.at_=(i:Int)/\(t.kind=2->dm nk t.text=true)/\(t.kind=5->dm gL t.text=true)
theorem V9(s:ByteArray)(a:Nat):∀ n,(lE s a n).er=0->Sj s a (lE s a n).t
 | 0,h=>by cases h
 | n + 1, h => by
   unfold lE at h ⊢;split at h;rename_i h1;rw[if_pos h1];exact⟨rfl,fun h=>(by cases h),fun _=>h1.2⟩;rename_i h1;rw[if_neg h1];exact V9 s a n h
theorem tokT_g(s:ByteArray)(a:Nat)(h:(dB s a).er=0):Sj s a (dB s a).t:=by
 unfold dB at h ⊢;split;unfold qb;split;rename_i h2;exact⟨rfl,fun _=>h2,fun h=>(by cases h)⟩;split;exact⟨rfl,fun h=>(by cases h),fun h=>(by cases h)⟩;exact⟨rfl,fun h=>(by cases h),fun h=>(by cases h)⟩;rename_i h1;rw[if_neg h1] at h;split;unfold lY;split;exact⟨rfl,fun h=>(by cases h),fun h=>(by cases h)⟩;split;exact⟨rfl,fun h=>(by cases h),fun h=>(by cases h)⟩;exact⟨rfl,fun h=>(by cases h),fun h=>(by cases h)⟩;rename_i h2;rw[if_neg h2] at h;split;unfold si;split;exact⟨rfl,fun h=>(by cases h),fun h=>(by cases h)⟩;split;exact⟨rfl,fun h=>(by cases h),fun h=>(by cases h)⟩;exact⟨rfl,fun h=>(by cases h),fun h=>(by cases h)⟩;rename_i h3;rw[if_neg h3] at h;exact V9 s a 2 h
theorem Fj(s : ByteArray) : ∀(k i : Nat), ∀ t ∈ (bE s k i).1, ∃ j, j < s.size ∧ Sj s j t
 | 0,i,t,ht=>by cases ht
 | k + 1, i, t, ht => by
   unfold bE at ht;split at ht;rename_i hlt;split at ht;exact Fj s k _ t ht;split at ht;exact Fj s k _ t ht;split at ht;cases ht;rename_i he;have he:(dB s i).er=0:=by simpa using he
   rcases List.mem_cons.1 ht with rfl|h;exact⟨i,hlt,tokT_g s i he⟩;exact Fj s k _ t h;cases ht
theorem tks_g(s:ByteArray):∀ t∈tks s,∃ j,j<s.size/\Sj s j t:=by
 intro t ht;have ht:t∈kG (cU s):=ht;unfold kG cU at ht;by_cases h:20000<s.size;rw[if_pos h] at ht;split at ht;cases ht;cases ht;rw[if_neg h] at ht;split at ht;exact Fj s _ _ t ht;cases ht
theorem Fk(s:ByteArray)(hs:s.size<=1000000):fR s (tks s):=by
 refine⟨hs,fun t ht=>?_⟩;obtain⟨j,hj,h1,_⟩:=tks_g s t ht;rw[h1];omega
theorem uc(s:ByteArray):gA (tks s):=by
 intro t ht;obtain⟨j,hj,_,h2,h3⟩:=tks_g s t ht;refine⟨fun h=>⟨fun e=>?_,fun e=>?_⟩,fun h=>⟨fun e=>?_,fun e=>?_⟩⟩;have:=h2 h;rw[e] at this;revert this;decide;have:=h2 h;rw[e] at this;revert this;decide;have:=h3 h;rw[e] at this;revert this;decide;have:=h3 h;rw[e] at this;revert this;decide
end Go.Proofs.YtaplgnhojknpiaaGreatDoor
namespace Go.Proofs.YtaplgnhojknpiaaGreatDoor
open Go.aU Go.RowKit
set_option maxRecDepth 100000
mutual
def St.h1:St->Int
 | .mk _ _ _ _ _ b c=>IntKind.i64.wrap (1+max (St.kH b 0) (St.kH c 0))
def St.kH:List St->Int->Int
 | [],n=>n
 | x::l,n=>St.kH l (max n x.h1)
end
mutual
def St.Wa:St->Bool
 | .mk k _ _ _ e b c=>decide (k≠7/\200<e.deep)||(St.iO b||St.iO c)
def St.iO:List St->Bool
 | []=>false
 | x::l=>x.Wa||St.iO l
end
theorem St.Jl(x:St):x.h1=IntKind.i64.wrap (1+max (St.kH x.body 0) (St.kH x.els 0)):=by cases x;rw[St.h1];rfl
theorem St.MQ(n:Int):St.kH [] n=n:=by rw[St.kH]
theorem St.Iz(x:St)(l:List St)(n:Int):St.kH (x::l) n=St.kH l (max n x.h1):=by rw[St.kH]
theorem St.Fl(x:St):x.Wa=(decide (x.k≠7/\200<x.e.deep)||(St.iO x.body||St.iO x.els)):=by cases x;rw[St.Wa];rfl
theorem St.MR:St.iO []=false:=by rw[St.iO]
theorem St.IB(x:St)(l:List St):St.iO (x::l)=(x.Wa||St.iO l):=by rw[St.iO]
noncomputable def sDpR(n:Nat):aZ:=ct Tryz.prog [(30,qg n)] Tryz.f30 0 [([0,1,0,1,1],[1,3,4])] [] []
theorem MS(n : Nat)(h : sV 30 n)(k m : Int)(t : ByteArray)(L : List Ex)(hL : Ex.aD L ≤ n)(hl : Ex.aD L ≤ 1000000)(R : Int) : ∀(j i : Nat)(a : Int), j = L.length - i → i ≤ L.length → Ex.nR (L.drop i) a = R →
 ax (sDpR n) (aG (.p (.c (.int .i64 (IntKind.i64.wrap (R+1))))) []) [0,1,0,1,1] (fr [(1,.p (.c (.ptr 0 0))),(3,nI a),(4,nI i)]) (.ofList [qf k m t (Ex.ah L)])
 | j,i,a,hj,hi,e=>by
   refine bD (ai (l5 (by kernel_rfl) h) aE) (by kernel_rfl) 200 ?_;apply of_eq (q:=let q0:=IntKind.i64.wrap;let q1:=(Ex.ah L);let q2:=(i*4+1+1+1);(decide ((i:Int)<(↑(q1.length/4):Int))=true->((0:Int)<=(i:Int)/\i*4<q1.length)/\i*4+4<=q1.length/\(PV.int (0:Int)).like (q1.getD (i*4) (PV.bool false))=true/\(PV.int (0:Int)).like (q1.getD (i*4+1) (PV.bool false))=true/\(PV.str (ByteArray.mk #[])).like (q1.getD (i*4+1+1) (PV.bool false))=true/\(PV.aH (4:Nat) []).like (q1.getD q2 (PV.bool false))=true/\((∃ iw,(q1.getD q2 (PV.bool false)).aB=Ex.ah iw)/\Ex.aD (cj (q1.getD q2 (PV.bool false)).aB)<n/\Ex.aD (cj (q1.getD q2 (PV.bool false)).aB)<=1000000)/\ax (sDpR n) (aG (nI (q0 (R+1))) []) [0,1,0,1,1] (fr [(1,aR 0 0),(3,nI (max a (Ex.mk (q1.getD (i*4) (PV.bool false)).asInt (q1.getD (i*4+1) (PV.bool false)).asInt (q1.getD (i*4+1+1) (PV.bool false)).bM (cj (q1.getD q2 (PV.bool false)).aB)).deep)),(4,nI (q0 ((i:Int)+1)))]) (af.ofList [Ob.mk 32 [fI k,fI m,Fd.c (W.str t),Fd.c (W.rs (4:Nat) q1)]]))/\(decide ((i:Int)<(↑(q1.length/4):Int))=false->aq [vI (q0 (a+1))]=nI (q0 (R+1))/\([]:List Ob)=[])) (by kernel_rfl)
   try simp only[sL]
   rw[Ii];have bS:=Ex.ig L;refine⟨fun h1=>?_,fun h1=>?_⟩
   . have h1:i<L.length:=by omega
     rw[yO h1,su h1,yP h1,yQ h1,wrap64 (n:=(i:Int)+1) (by omega) (by omega)];have hm:=Ex.iE (List.getElem_mem h1);rw[Ex.fe] at hm;have hlt:i*4+4<=(Ex.ah L).length:=by rw[Ex.cI];omega
     have hx:cj (PV.aB (.aH 4 (Ex.ah L[i].l)))=L[i].l:=dz _;rw[hx];cases j with
     | zero=>omega
     | succ j =>
       have ih:=MS n h k m t L hL hl R j (i+1) (max a L[i].deep) (by omega) (by omega) (by
        rw[List.drop_eq_getElem_cons h1,Ex.EQ] at e;exact e)
       have hd:(Ex.mk (PV.asInt (.int L[i].k)) (PV.asInt (.int L[i].n)) (PV.bM (.str L[i].t)) L[i].l).deep=L[i].deep:=by rw[Ex.jH,Ex.jH];rfl
       rw[hd];exact⟨⟨by omega,by omega⟩,hlt,rfl,rfl,rfl,rfl,⟨⟨_,rfl⟩,by omega,by omega⟩,ih⟩
   rw[List.drop_eq_nil_of_le (by omega),Ex.Ih] at e;rw[e];rfl
theorem Wb(n:Nat)(h:sV 30 n):sV 30 (n+1):=by
 intro k m t L hL hl;refine bh (aK:=[([0,1,0,1,1],[1,3,4])]) (ai (l5 (by kernel_rfl) h) aE) Tryz.func30 (by kernel_rfl) (au:=0) rfl (by kernel_rfl) 200 ?_;apply of_eq (q:=ax (cT Tryz.prog [(30,qg n)] Tryz.f30 (0:Nat) [([0,1,0,1,1],[1,3,4])]) (aG (nI (Ex.mk k m t L).deep) []) [0,1,0,1,1] (fr [(1,aR 0 0),(3,nI (0)),(4,nI (0))]) (af.ofList [Ob.mk 32 [fI k,fI m,Fd.c (W.str t),Fd.c (W.rs (4:Nat) (Ex.ah L))]])) (by kernel_rfl)
 try simp only[sL,Int.reduceEq,Int.reduceNe,Nat.reduceAdd]
 have:=MS n h k m t L (by omega) hl (Ex.nR L 0) (L.length-0) 0 0 rfl (by omega) rfl;rw[Ex.jH];exact this
theorem DQ:∀ n,sV 30 n
 | 0=>fun k m t L h=>by omega
 | n+1=>Wb n (DQ n)
noncomputable def MT(n:Nat):cO:={ cE:=[],f:=fun args ak=>match args,ak with
 | [.p (.c (.rs q l))],[]=>bif Nat.beq q 10 then some (.p ((∃ L,l=St.ah L)/\St.aD (cr l)<n/\St.aD (cr l)<=1000000),.p (.c (.int .i64 (St.kH (cr l) 0))),[]) else none
 | _,_=>none }
def MU(n:Nat):Prop:=∀(L:List St),St.aD L<n->St.aD L<=1000000->bp Tryz.prog 53 [.p (.c (.rs 10 (St.ah L)))] [] (.p (.c (.int .i64 (St.kH L 0)))) []
theorem Gy{n:Nat}(h:MU n):bq Tryz.prog 53 (MT n):=by
 refine⟨by kernel_rfl,fun args ak c r aX e hc=>?_⟩;simp only[MT] at e;split at e;obtain⟨hb,e1⟩:=aj.aC e;clear e;cases Nat.eq_of_beq_eq_true hb;cases e1;obtain⟨⟨L,rfl⟩,h2,h3⟩:=hc;rw[dK] at h2 h3 ⊢;exact h _ h2 h3;cases e
noncomputable def sHe(n:Nat):aZ:=ct Tryz.prog [(53,MT n)] Tryz.f53 0 [([0,1,0,1,1],[0,3,4])] [] []
theorem PS(n : Nat)(h : MU n)(L : List St)(hL : St.aD L ≤ n)(hl : St.aD L ≤ 1000000)(R : Int) : ∀(j i : Nat)(a : Int), j = L.length - i → i ≤ L.length → St.kH (L.drop i) a = R →
 ax (sHe n) (aG (.p (.c (.int .i64 R))) []) [0,1,0,1,1] (fr [(0,.p (.c (.rs 10 (St.ah L)))),(3,nI a),(4,nI i)]) (.ofList [])
 | j,i,a,hj,hi,e=>by
   refine bD (ai (Gy h) aE) (by kernel_rfl) 200 ?_;apply of_eq (q:=let q3:=(St.ah L);let q4:=i*10+9<q3.length;let q5:=aP ((PV.aH (10:Nat) []).at (q3.getD (i*10+9) (PV.bool false)));let q2:=(PV.aH (10:Nat) []).like (q3.getD (i*10+9) (PV.bool false))=true;let q6:=(R1.pure (Cd.t.and ((Cd.p (q4)).and (Cd.p (q2)))) (q5));let q1:=q6.v=q6.v;(decide ((i:Int)<(↑(q3.length/10):Int))=true->((0:Int)<=(i:Int)/\i*10<q3.length)/\i*10+8<q3.length/\(PV.aH (10:Nat) []).like (q3.getD (i*10+8) (PV.bool false))=true/\((∃ iw,(q3.getD (i*10+8) (PV.bool false)).aB=St.ah iw)/\St.aD (cr (q3.getD (i*10+8) (PV.bool false)).aB)<n/\St.aD (cr (q3.getD (i*10+8) (PV.bool false)).aB)<=1000000)/\((0:Int)<=(i:Int)/\i*10<q3.length)/\q4/\q2/\((∃ iw,(q3.getD (i*10+9) (PV.bool false)).aB=St.ah iw)/\St.aD (cr (q3.getD (i*10+9) (PV.bool false)).aB)<n/\St.aD (cr (q3.getD (i*10+9) (PV.bool false)).aB)<=1000000)/\q4/\q2/\q1/\q4/\q2/\q1/\ax (sHe n) (aG (nI R) []) [0,1,0,1,1] (fr [(0,aP (W.rs (10:Nat) q3)),(3,nI (max a (IntKind.i64.wrap ((1:Int)+max (St.kH (cr (q3.getD (i*10+8) (PV.bool false)).aB) (0:Int)) (St.kH (cr (q3.getD (i*10+9) (PV.bool false)).aB) (0:Int)))))),(4,nI (IntKind.i64.wrap ((i:Int)+1)))]) (af.ofList []))/\(decide ((i:Int)<(↑(q3.length/10):Int))=false->aq [vI a]=nI R/\([]:List Ob)=[])) (by kernel_rfl)
   try simp only[sL]
   rw[AY];have bS:=St.ig L;refine⟨fun h1=>?_,fun h1=>?_⟩
   . have h1:i<L.length:=by omega
     have e8:(St.ah L).getD (i*10+8) (.bool false)=.aH 10 (St.ah L[i].body):=St.cC h1 8 (by omega);have e9:(St.ah L).getD (i*10+9) (.bool false)=.aH 10 (St.ah L[i].els):=St.cC h1 9 (by omega);rw[e8,e9,wrap64 (n:=(i:Int)+1) (by omega) (by omega)];have hm:=St.iE (List.getElem_mem h1);rw[St.fe] at hm;have hlt:i*10+10<=(St.ah L).length:=by rw[St.cI];omega
     have x8:cr (PV.aB (.aH 10 (St.ah L[i].body)))=L[i].body:=dK _;have x9:cr (PV.aB (.aH 10 (St.ah L[i].els)))=L[i].els:=dK _;rw[x8,x9,<-St.Jl];cases j with
     | zero=>omega
     | succ j =>
       have ih:=PS n h L hL hl R j (i+1) (max a L[i].h1) (by omega) (by omega) (by
        rw[List.drop_eq_getElem_cons h1,St.Iz] at e;exact e)
       exact⟨⟨by omega,by omega⟩,by omega,rfl,⟨⟨_,rfl⟩,by omega,by omega⟩,⟨by omega,by omega⟩,by omega,rfl,⟨⟨_,rfl⟩,by omega,by omega⟩,by omega,rfl,by omega,rfl,ih⟩
   rw[List.drop_eq_nil_of_le (by omega),St.MQ] at e;rw[e];rfl
theorem Zg(n:Nat)(h:MU n):MU (n+1):=by
 intro L hL hl;refine bh (aK:=[([0,1,0,1,1],[0,3,4])]) (ai (Gy h) aE) Tryz.func53 (by kernel_rfl) (au:=0) rfl (by kernel_rfl) 200 ?_;apply of_eq (q:=ax (cT Tryz.prog [((53:FuncId),MT n)] Tryz.f53 (0:Nat) [([0,1,0,1,1],[0,3,4])]) (aG (nI (St.kH L (0:Int))) []) [0,1,0,1,1] (fr [(0,aP (W.rs (10:Nat) (St.ah L))),(3,nI (0)),(4,nI (0))]) (af.ofList [])) (by kernel_rfl)
 try simp only[sL,Int.reduceEq,Int.reduceNe,Nat.reduceAdd]
 exact PS n h L (by omega) hl (St.kH L 0) (L.length-0) 0 0 rfl (by omega) rfl
theorem PU:∀ n,MU n
 | 0=>fun L h=>by omega
 | n+1=>Zg n (PU n)
noncomputable def Sk(n:Nat):cO:={ cE:=[],f:=fun args ak=>match args,ak with
 | [.p (.c (.rs q l))],[]=>bif Nat.beq q 10 then some (.p ((∃ L,l=St.ah L)/\St.aD (cr l)<n/\St.aD (cr l)<=1000000),bB (St.iO (cr l)),[]) else none
 | _,_=>none }
def Gz(n:Nat):Prop:=∀(L:List St),St.aD L<n->St.aD L<=1000000->bp Tryz.prog 54 [.p (.c (.rs 10 (St.ah L)))] [] (bB (St.iO L)) []
theorem PW{n:Nat}(h:Gz n):bq Tryz.prog 54 (Sk n):=by
 refine⟨by kernel_rfl,fun args ak c r aX e hc=>?_⟩;simp only[Sk] at e;split at e;obtain⟨hb,e1⟩:=aj.aC e;clear e;cases Nat.eq_of_beq_eq_true hb;cases e1;obtain⟨⟨L,rfl⟩,h2,h3⟩:=hc;rw[dK] at h2 h3 ⊢;exact h _ h2 h3;cases e
noncomputable def Zh(n:Nat):bX:=[(54,Sk n),(30,qg 1000001)]
theorem PX{n:Nat}(h:Gz n):bg Tryz.prog (Zh n):=ai (PW h) (ai (l5 (by kernel_rfl) (DQ _)) aE)
noncomputable def sSt(n:Nat):aZ:=ct Tryz.prog (Zh n) Tryz.f54 0 [([0,1,0,1],[0,3])] [] []
theorem PY(n:Nat)(h:Gz n)(L:List St)(hL:St.aD L<=n)(hl:St.aD L<=1000000):∀(j i:Nat),j=L.length-i->i<=L.length->
 ax (sSt n) (aG (bB (St.iO (L.drop i))) []) [0,1,0,1] (fr [(0,.p (.c (.rs 10 (St.ah L)))),(3,nI i)]) (.ofList [])
 | j, i, hj, hi => by
   refine bD (PX h) (by kernel_rfl) 200 ?_;apply of_eq (q:=let q5:=(St.ah L);let q7:=(i*10+4+1+1+1);let q8:=(0:Int)<=(i:Int);let q1:=decide ((200:Int)<(Ex.mk (q5.getD (i*10+4) (PV.bool false)).asInt (q5.getD (i*10+4+1) (PV.bool false)).asInt (q5.getD (i*10+4+1+1) (PV.bool false)).bM (cj (q5.getD q7 (PV.bool false)).aB)).deep);let q2:=decide ((q5.getD (i*10+0) (PV.bool false)).asInt=7);let q3:=(bif bif !q2 then q1 else false then true else St.iO (cr (q5.getD (i*10+8) (PV.bool false)).aB))=false;let q4:=(bif !q2 then q1 else false)=false;let q6:=(!q2)=true;(decide ((i:Int)<(↑(q5.length/10):Int))=true->(q8/\i*10<q5.length)/\i*10+0<q5.length/\(PV.int (0:Int)).like (q5.getD (i*10+0) (PV.bool false))=true/\(q6->q6)/\(q6->q6)/\(q6->q8/\i*10<q5.length)/\(q6->q6)/\(q6->q6)/\(q6->i*10+4+4<=q5.length)/\(q6->(PV.int (0:Int)).like (q5.getD (i*10+4) (PV.bool false))=true)/\(q6->(PV.int (0:Int)).like (q5.getD (i*10+4+1) (PV.bool false))=true)/\(q6->(PV.str (ByteArray.mk #[])).like (q5.getD (i*10+4+1+1) (PV.bool false))=true)/\(q6->(PV.aH (4:Nat) []).like (q5.getD q7 (PV.bool false))=true)/\(q6->q6)/\(q6->(∃ iw,(q5.getD q7 (PV.bool false)).aB=Ex.ah iw)/\Ex.aD (cj (q5.getD q7 (PV.bool false)).aB)<1000001/\Ex.aD (cj (q5.getD q7 (PV.bool false)).aB)<=1000000)/\(q6->q6)/\(q6->q6)/\(q4->q4)/\(q4->q4)/\(q4->q8/\i*10<q5.length)/\(q4->q4)/\(q4->q4)/\(q4->i*10+8<q5.length)/\(q4->(PV.aH (10:Nat) []).like (q5.getD (i*10+8) (PV.bool false))=true)/\(q4->q4)/\(q4->(∃ iw,(q5.getD (i*10+8) (PV.bool false)).aB=St.ah iw)/\St.aD (cr (q5.getD (i*10+8) (PV.bool false)).aB)<n/\St.aD (cr (q5.getD (i*10+8) (PV.bool false)).aB)<=1000000)/\(q4->q4)/\(q3->q3)/\(q3->q3)/\(q3->q8/\i*10<q5.length)/\(q3->q3)/\(q3->q3)/\(q3->i*10+9<q5.length)/\(q3->(PV.aH (10:Nat) []).like (q5.getD (i*10+9) (PV.bool false))=true)/\(q3->q3)/\(q3->(∃ iw,(q5.getD (i*10+9) (PV.bool false)).aB=St.ah iw)/\St.aD (cr (q5.getD (i*10+9) (PV.bool false)).aB)<n/\St.aD (cr (q5.getD (i*10+9) (PV.bool false)).aB)<=1000000)/\(q3->q3)/\((bif bif bif !q2 then q1 else false then true else St.iO (cr (q5.getD (i*10+8) (PV.bool false)).aB) then true else St.iO (cr (q5.getD (i*10+9) (PV.bool false)).aB))=true->aq [vB true]=bB (St.iO (List.drop i L))/\([]:List Ob)=[])/\((bif bif bif !q2 then q1 else false then true else St.iO (cr (q5.getD (i*10+8) (PV.bool false)).aB) then true else St.iO (cr (q5.getD (i*10+9) (PV.bool false)).aB))=false->ax (sSt n) (aG (bB (St.iO (List.drop i L))) []) [0,1,0,1] (fr [(0,aP (W.rs (10:Nat) q5)),(3,nI (IntKind.i64.wrap ((i:Int)+1)))]) (af.ofList [])))/\(decide ((i:Int)<(↑(q5.length/10):Int))=false->aq [vB false]=bB (St.iO (List.drop i L))/\([]:List Ob)=[])) (by kernel_rfl)
   try simp only[sL]
   rw[AY];have bS:=St.ig L;refine⟨fun h1=>?_,fun h1=>?_⟩;have h1:i<L.length:=by omega
   have e0:(St.ah L).getD (i*10+0) (.bool false)=.int L[i].k:=St.cC h1 0 (by omega);have e4:(St.ah L).getD (i*10+4) (.bool false)=.int L[i].e.k:=St.cC h1 4 (by omega);have e5:(St.ah L).getD (i*10+4+1) (.bool false)=.int L[i].e.n:=St.cC h1 5 (by omega);have e6:(St.ah L).getD (i*10+4+1+1) (.bool false)=.str L[i].e.t:=St.cC h1 6 (by omega);have e7:(St.ah L).getD (i*10+4+1+1+1) (.bool false)=.aH 4 (Ex.ah L[i].e.l):=St.cC h1 7 (by omega);have e8:(St.ah L).getD (i*10+8) (.bool false)=.aH 10 (St.ah L[i].body):=St.cC h1 8 (by omega);have e9:(St.ah L).getD (i*10+9) (.bool false)=.aH 10 (St.ah L[i].els):=St.cC h1 9 (by omega);rw[e0,e4,e5,e6,e7,e8,e9,wrap64 (n:=(i:Int)+1) (by omega) (by omega)];have hm:=St.iE (List.getElem_mem h1);rw[St.fe] at hm;have hlt:i*10+10<=(St.ah L).length:=by rw[St.cI];omega
   have x7:cj (PV.aB (.aH 4 (Ex.ah L[i].e.l)))=L[i].e.l:=dz _;have x8:cr (PV.aB (.aH 10 (St.ah L[i].body)))=L[i].body:=dK _;have x9:cr (PV.aB (.aH 10 (St.ah L[i].els)))=L[i].els:=dK _;rw[x7,x8,x9];have hd:(Ex.mk (PV.asInt (.int L[i].e.k)) (PV.asInt (.int L[i].e.n)) (PV.bM (.str L[i].e.t)) L[i].e.l).deep=L[i].e.deep:=by rw[Ex.jH,Ex.jH];rfl
   have k0:(PV.int L[i].k).asInt=L[i].k:=rfl;rw[hd,k0];have hes:=Ex.fe L[i].e;have hS:St.iO (L.drop i)=(decide (L[i].k≠7/\200<L[i].e.deep)||(St.iO L[i].body||St.iO L[i].els)||St.iO (L.drop (i+1))):=by
    rw[List.drop_eq_getElem_cons h1,St.IB,St.Fl]
   refine⟨⟨by omega,by omega⟩,by omega,rfl,fun _=>⟨by omega,by omega⟩,fun _=>by omega,fun _=>rfl,fun _=>rfl,fun _=>rfl,fun _=>rfl,fun _=>⟨⟨_,rfl⟩,by omega,by omega⟩,fun _=>⟨by omega,by omega⟩,fun _=>by omega,fun _=>rfl,fun _=>⟨⟨_,rfl⟩,by omega,by omega⟩,fun _=>⟨by omega,by omega⟩,fun _=>by omega,fun _=>rfl,fun _=>⟨⟨_,rfl⟩,by omega,by omega⟩,fun h2=>?_,fun h2=>?_⟩;rw[hS];rcases h2 with (h2|h2)|h2;rw[decide_eq_true h2];rfl;rw[h2,Bool.true_or,Bool.or_true];rfl;rw[h2,Bool.or_true,Bool.or_true];rfl
   . obtain⟨⟨h2,h3⟩,h4⟩:=h2;rw[hS,decide_eq_false (fun h=>by have:=h2 h.1;omega),h3,h4];cases j with
     | zero=>omega
     | succ j=>exact PY n h L hL hl j (i+1) (by omega) (by omega)
   rw[List.drop_eq_nil_of_le (by omega),St.MR];rfl
theorem Zi(n:Nat)(h:Gz n):Gz (n+1):=by
 intro L hL hl;refine bh (aK:=[([0,1,0,1],[0,3])]) (PX h) Tryz.func54 (by kernel_rfl) (au:=0) rfl (by kernel_rfl) 200 ?_;apply of_eq (q:=ax (cT Tryz.prog (Zh n) Tryz.f54 (0:Nat) [([0,1,0,1],[0,3])]) (aG (bB (St.iO L)) []) [0,1,0,1] (fr [(0,aP (W.rs (10:Nat) (St.ah L))),(3,nI (0))]) (af.ofList [])) (by kernel_rfl)
 try simp only[sL,Int.reduceEq,Int.reduceNe,Nat.reduceAdd]
 exact PY n h L (by omega) hl (L.length-0) 0 rfl (by omega)
theorem PZ:∀ n,Gz n
 | 0=>fun L h=>by omega
 | n+1=>Zi n (PZ n)
def rz(L:List St):Bool:=decide (200<St.kH L 0)||St.iO L
noncomputable def gDeR:bX:=[(53,MT 1000001),(54,Sk 1000001)]
theorem gDeR_ok:bg Tryz.prog gDeR:=ai (Gy (PU _)) (ai (PW (PZ _)) aE)
theorem Wc(L:List St)(hl:St.aD L<=1000000):bp Tryz.prog 23 [.p (.c (.rs 10 (St.ah L)))] [] (bB (rz L)) []:=by
 refine bh (aK:=[]) gDeR_ok Tryz.func23 (by kernel_rfl) (au:=0) rfl (by kernel_rfl) 200 ?_;apply of_eq (q:=let q1:=decide ((200:Int)<St.kH (cr (St.ah L)) (0:Int));let q2:=St.aD (cr (St.ah L))<1000001/\St.aD (cr (St.ah L))<=1000000;((∃ iw,St.ah L=St.ah iw)/\q2)/\(q1=false->q1=false)/\(q1=false->(∃ iw,St.ah L=St.ah iw)/\q2)/\(q1=false->q1=false)/\aq [vB (bif q1 then true else St.iO (cr (St.ah L)))]=bB (rz L)/\([]:List Ob)=[]) (by kernel_rfl)
 try simp only[sL]
 rw[dK];exact⟨⟨⟨_,rfl⟩,by omega,hl⟩,fun _=>⟨⟨_,rfl⟩,by omega,hl⟩,rfl⟩
noncomputable def Zj:cO:={ cE:=[],f:=fun args ak=>match args,ak with
 | [.p (.c (.rs q l))],[]=>bif Nat.beq q 10 then some (.p ((∃ L,l=St.ah L)/\St.aD (cr l)<=1000000),bB (rz (cr l)),[]) else none
 | _,_=>none }
theorem cDeR_ok:bq Tryz.prog 23 Zj:=by
 refine⟨by kernel_rfl,fun args ak c r aX e hc=>?_⟩;simp only[Zj] at e;split at e;obtain⟨hb,e1⟩:=aj.aC e;clear e;cases Nat.eq_of_beq_eq_true hb;cases e1;obtain⟨⟨L,rfl⟩,h2⟩:=hc;rw[dK] at h2 ⊢;exact Wc L h2;cases e
mutual
def St.dk:St->Prop
 | .mk k _ _ _ e b c=>(k=7->e=gI)/\St.nD b/\St.nD c
def St.nD:List St->Prop
 | []=>True
 | x::l=>x.dk/\St.nD l
end
theorem St.Cb(k line:Int)(t:ByteArray)(p:List ByteArray)(e:Ex)(b c:List St):(St.mk k line t p e b c).dk↔(k=7->e=gI)/\St.nD b/\St.nD c:=by rw[St.dk]
theorem St.nV:St.nD []:=by rw[St.nD];trivial
theorem St.yD(x:St)(l:List St):St.nD (x::l)↔x.dk/\St.nD l:=by rw[St.nD]
theorem St.DR{l:List St}{x:St}(h:St.nD l)(hx:x.dk):St.nD (l++[x]):=by
 induction l with
 | nil=>rw[List.nil_append,St.yD];exact⟨hx,St.nV⟩
 | cons y l ih =>
   rw[St.yD] at h;rw[List.cons_append,St.yD];exact⟨h.1,ih h.2⟩
theorem Zk:gI.deep=1:=by unfold gI;rw[Ex.deep,Ex.nR];rfl
theorem s6(L:List St):∀ p:Int×Int,0<=p.1->0<=p.2->(St.fT L p).1=max p.1 (St.fT L (0,0)).1/\(St.fT L p).2=max p.2 (St.fT L (0,0)).2/\0<=(St.fT L (0,0)).1/\0<=(St.fT L (0,0)).2:=by
 induction L with
 | nil=>intro p h1 h2;rw[St.pI,St.pI];exact⟨by show p.1=max p.1 0;omega,by show p.2=max p.2 0;omega,Int.le_refl _,Int.le_refl _⟩
 | cons x L ih =>
   intro p h1 h2;rw[St.l6,St.l6];have e1:=St.tW x p;have e2:=St.tW x (0,0);generalize St.mP x p=u at *;generalize St.mP x (0,0)=v at *;subst e1;subst e2;obtain⟨a1,a2,a3,a4⟩:=ih (max p.1 (IntKind.i64.wrap ((St.fT (x.body++x.els) (0,0)).1+1)),max (max p.2 (St.fT (x.body++x.els) (0,0)).2) x.e.deep) (by show 0<=max p.1 _;omega) (by show 0<=max (max p.2 _) _;omega);obtain⟨b1,b2,_,_⟩:=ih (max 0 (IntKind.i64.wrap ((St.fT (x.body++x.els) (0,0)).1+1)),max (max 0 (St.fT (x.body++x.els) (0,0)).2) x.e.deep) (by show 0<=max 0 _;omega) (by show 0<=max (max 0 _) _;omega);rw[a1,a2,b1,b2];refine⟨?_,?_,?_,?_⟩;show max (max p.1 _) _=max p.1 (max (max 0 _) _);omega;show max (max (max p.2 _) _) _=max p.2 (max (max (max 0 _) _) _);omega;show 0<=max (max 0 _) _;omega;show 0<=max (max (max 0 _) _) _;omega
theorem P0(b c:List St):(St.fT (b++c) (0,0)).1=max (St.fT b (0,0)).1 (St.fT c (0,0)).1/\(St.fT (b++c) (0,0)).2=max (St.fT b (0,0)).2 (St.fT c (0,0)).2:=by
 rw[St.OZ];obtain⟨_,_,h1,h2⟩:=s6 b (0,0) (Int.le_refl _) (Int.le_refl _);obtain⟨a1,a2,_,_⟩:=s6 c (St.fT b (0,0)) h1 h2;exact⟨a1,a2⟩
mutual
theorem Jl:∀ x:St,x.h1=IntKind.i64.wrap ((St.fT (x.body++x.els) (0,0)).1+1)
 | .mk k n t p e b c=>by
   rw[St.Jl];show IntKind.i64.wrap (1+max (St.kH b 0) (St.kH c 0))=IntKind.i64.wrap ((St.fT (b++c) (0,0)).1+1);have h2:=Fm b 0;have h3:=Fm c 0;have hb:=(s6 b (0,0) (Int.le_refl _) (Int.le_refl _)).2.2.1;have hc:=(s6 c (0,0) (Int.le_refl _) (Int.le_refl _)).2.2.1;have hbc:=(P0 b c).1;congr 1;omega
theorem Fm:∀(L:List St)(n:Int),St.kH L n=(St.fT L (n,0)).1
 | [],n=>by rw[St.MQ,St.pI]
 | x::L,n=>by
   rw[St.Iz,St.l6,St.tW,Fm L,Jl x];have key:∀(L:List St)(p:Int)(q r:Int),(St.fT L (p,q)).1=(St.fT L (p,r)).1:=by
    intro L
    induction L with
    | nil=>intro p q r;rw[St.pI,St.pI]
    | cons y L ih=>intro p q r;rw[St.l6,St.l6,St.tW,St.tW];exact ih _ _ _
   exact key _ _ _ _
end
mutual
theorem Fl:∀ x:St,x.dk->x.Wa=decide (200<max (St.fT (x.body++x.els) (0,0)).2 x.e.deep)
 | .mk k n t p e b c,h=>by
   rw[St.Cb] at h;obtain⟨h1,h2,h3⟩:=h;rw[St.Fl];show (decide (k≠7/\200<e.deep)||(St.iO b||St.iO c))=decide (200<max (St.fT (b++c) (0,0)).2 e.deep);rw[Cc b h2,Cc c h3,(P0 b c).2];have hk:decide (k≠7/\200<e.deep)=decide (200<e.deep):=by
    by_cases hk:k=7;have:=h1 hk;subst this;rw[Zk];rw[decide_eq_false (p:=200<(1:Int)) (by omega),decide_eq_false (fun h=>h.1 hk)];exact decide_eq_decide.2 ⟨fun h=>h.2,fun h=>⟨hk,h⟩⟩
   rw[hk,<-Bool.decide_or,<-Bool.decide_or];exact decide_eq_decide.2 (by omega)
theorem Cc:∀ L:List St,St.nD L->St.iO L=decide (200<(St.fT L (0,0)).2)
 | [],_=>by rw[St.MR,St.pI];rfl
 | x::L,h=>by
   rw[St.yD] at h;rw[St.IB,St.l6,Fl x h.1,Cc L h.2,<-Bool.decide_or];have e2:=St.tW x (0,0);generalize St.mP x (0,0)=v at *;subst e2;have hb:=(s6 (x.body++x.els) (0,0) (Int.le_refl _) (Int.le_refl _)).2.2.2;obtain⟨a1,a2,a3,a4⟩:=s6 L (max 0 (IntKind.i64.wrap ((St.fT (x.body++x.els) (0,0)).1+1)),max (max 0 (St.fT (x.body++x.els) (0,0)).2) x.e.deep) (by show 0<=max 0 _;omega) (by show 0<=max (max 0 _) _;omega);rw[a2];refine decide_eq_decide.2 ?_;show _↔200<max (max (max 0 _) _) _;omega
end
theorem Zl(L:List St)(h:St.nD L):rz L=mT L:=by
 unfold rz mT;rw[Fm,Cc L h,<-Bool.decide_or];exact decide_eq_decide.2 (by omega)
end Go.Proofs.YtaplgnhojknpiaaGreatDoor
namespace Go.aU
open Go.RowKit
theorem ax.pre{s:aZ}{Qv:A->List Ob->Prop}{rp:List Nat}{F:Fr}{S1 S2:af}(h:ax s Qv rp F S2)(hm:∀ base η Z w,St base η Z S1 w->bN base η Z S1 w η Z S2 w):ax s Qv rp F S1 :=
 ⟨fun C lo hk hf η Z w a I FR hd b hs=>h.go C lo hk hf η Z w a (I.moves (hm _ _ _ _ I.st)) FR hd b hs⟩
end Go.aU
namespace Go.Proofs.YtaplgnhojknpiaaGreatDoor
open Go.aU Go.RowKit
set_option maxRecDepth 100000
section
variable {s:ByteArray} {l:List Tok}
theorem Wd{br:pL}(h:∀ i e a,St.nD (br i e a).v)(ins:Bool)(i e a:Int):(mr s l br ins i e a).v.dk:=by
 have k2:∀(k line:Int)(name:ByteArray)(q:RR Ex),k≠7->(Bf k line name q).v.dk:=fun k line name q hk=>(St.Cb ..).2 ⟨fun h=>absurd h hk,St.nV,St.nV⟩;have k3:∀(k line:Int)(name:ByteArray)(x:Ex)(b:RR (List St)),k≠7->St.nD b.v->(ME k line name x b).v.dk:=fun k line name x b hk hb=>(St.Cb ..).2 ⟨fun h=>absurd h hk,hb,St.nV⟩;unfold mr;cases bZ l e i AQ with
 | true=>exact k2 _ _ _ _ (by decide)
 | false =>
 cases bZ l e i H8 with
 | true =>
   simp only[cond_true,cond_false];unfold MF;cases bZ l (mV br (fY s l (i+1) e a)).e (mV br (fY s l (i+1) e a)).i AR with
   | true=>exact(St.Cb ..).2 ⟨fun h=>(by cases h),h _ _ _,h _ _ _⟩
   | false=>exact(St.Cb ..).2 ⟨fun h=>(by cases h),h _ _ _,St.nV⟩
 | false =>
 cases bZ l e i AU with
 | true=>exact k3 _ _ _ _ _ (by decide) (h _ _ _)
 | false =>
 cases bZ l e i AV with
 | true=>exact k3 _ _ _ _ _ (by decide) (h _ _ _)
 | false =>
 cases ins&&bZ l e i yg with
 | true=>exact k2 _ _ _ _ (by decide)
 | false=>exact k2 _ _ _ _ (by decide)
theorem P1{st:Int->Int->Int->RR St}(h:∀ i e a,(st i e a).v.dk):∀(k:Nat)(acc:List St)(i e a:Int),St.nD acc->St.nD (sw s l st k acc i e a).v
 | 0,acc,i,e,a,ha=>ha
 | k+1,acc,i,e,a,ha=>by
   unfold sw;cases decide (e=0) with
   | false=>exact ha
   | true =>
   cases bZ l e i Lu with
   | true=>exact ha
   | false=>exact P1 h k _ _ _ _ (St.DR ha (h _ _ _))
theorem MV(ins:Bool):∀(n:Nat)(i e a:Int),St.nD (gE s l ins n i e a).v
 | 0,i,e,a=>St.nV
 | n+1,i,e,a=>P1 (fun i e a=>Wd (MV ins n) ins i e a) _ _ _ _ _ St.nV
theorem dfR_adv(hK:gA l)(ns:List ByteArray)(line:Int){i:Int}(a:Int)(hi:dx l i):i<=(og s l (mW s l) ns line i 0 a).i/\dx l (og s l (mW s l) ns line i 0 a).i/\((og s l (mW s l) ns line i 0 a).e=0->i<(og s l (mW s l) ns line i 0 a).i):=by
 have h:=df_eq (s:=s) (B6 (s:=s) hK true (l.length+1)) ns line i a hi.1 hi.2.1;have h0:=hi.1;have h1:=h.lo;refine⟨h1,⟨by unfold mW;omega,h.hi,hi.2.2⟩,fun h2=>?_⟩;unfold mW at h2 ⊢;cases hd:(jr s l (jh s l true (l.length+1)) ns line i).die with
 | true=>exact absurd h2 (h.no hd).2.2
 | false =>
   rw[h.ok hd];exact(EO (jO true (l.length+1)) ns line i hd hi.1).1
theorem dfR_dk{br:pL}(h:∀ i e a,St.nD (br i e a).v)(ns:List ByteArray)(line i e a:Int):(og s l br ns line i e a).v.dk:=(St.Cb ..).2 ⟨fun _=>rfl,h _ _ _,St.nV⟩
theorem MW:∀(k:Nat)(acc:List St)(ns:List ByteArray)(i e a:Int),St.nD acc->St.nD (vg s l (mW s l) (Iw s l) k acc ns i e a).v
 | 0,acc,ns,i,e,a,ha=>ha
 | k+1,acc,ns,i,e,a,ha=>by
   unfold vg;cases decide (e=0)&&decide (i<l.length) with
   | false=>exact ha
   | true =>
   cases bZ l e i Dw with
   | true=>exact MW k _ _ _ _ _ (St.DR ha (dfR_dk (MV true _) _ _ _ _ _))
   | false=>exact MW k _ _ _ _ _ (St.DR ha (Wd (MV false _) _ _ _ _))
end
section
variable (s:ByteArray) (l:List Tok)
noncomputable def Sl:bX:=(21,jd 1 s l [true,false] (Ze s l))::(22,jd 2 s l [true,false] (Sg s l (l.length+1)))::(19,jd 2 s l [true] (Ji s l))::(18,BN)::(23,Zj)::yB s l
variable {s l} in
theorem MX(ht:fR s l)(hK:gA l):bg Tryz.prog (Sl s l):=ai (fM (by kernel_rfl) (dfR_is s l ht hK)) (ai (fM (by kernel_rfl) (V6 s l ht hK _ (Gx s l ht hK _))) (ai (fM (by kernel_rfl) (PJ s l ht)) (ai MP (ai cDeR_ok (nB s l)))))
abbrev Zm(i e a:Int)(m:Nat):Ob:=⟨51,[.c (.str s),.c (.rs 4 (ar l)),.c (.int .i64 i),.c (.int .i64 e),.c (.int .i64 a),.c (.sl 3 0 m 1)]⟩
def ld(R:RR (List St)):List St×(Int×Int):=if R.e=0 then(bif rz R.v then([],5,0) else(R.v,0,0)) else([],R.e,R.a)
noncomputable def sPR:aZ:=ct Tryz.prog (Sl s l) Tryz.f7 0 [([0,0,1,1,1,1,1],[3,6,7])] [] [some .pv,none]
theorem DS(ht:fR s l)(hK:gA l)(R:RR (List St))(hz:R.e=0->St.aD R.v<=1000000):∀(k:Nat)(acc:List St)(ns:List ByteArray)(i e a:Int),vg s l (mW s l) (Iw s l) k acc ns i e a=R->dx l i->(e=0->(l.length:Int)-i<k/\(acc.length:Int)<=i/\(ns.length:Int)<=i)->0<k->
 ax (sPR s l) (aG (.bC [.c (.rs 10 (St.ah (ld R).1)),fV (ld R).2.1 (ld R).2.2]) []) [0,0,1,1,1,1,1] (fr [(3,.p (.c (.ptr 0 0))),(6,.p (.c (.ptr 1 0))),(7,.p (.c (.sl 2 0 acc.length 10)))]) (.ofList [jq 0 0,Zm s l i e a ns.length,qP acc,iY ns])
 | 0,acc,ns,i,e,a,he,hi,hn,hk=>by omega
 | k + 1, acc, ns, i, e, a, he, hi, hn, hk => by
   refine bD (MX ht hK) (by kernel_rfl) 400 ?_;apply of_eq (q:=let q4:=decide (e=0)=true;let q5:=(List.drop (0:Nat) (St.ah acc));let q6:=(ByteArray.mk #[(100:UInt8),(101:UInt8),(102:UInt8)]);let q7:=V.c (W.rs (10:Nat) (St.ah (ld R).fst));let q8:=(0:Nat)+acc.length*10<=(St.ah acc).length;let q9:=(List.take (acc.length*10) q5);let aT:=V.c (W.rs (10:Nat) (List.take ((0:Nat)*10) (List.drop (0:Nat) [])));let aI:=(fr [(3,aR 0 0),(6,aR 1 0),(7,aP (W.sl 2 0 (acc.length+1) 10))]);let q1:=(bQ l e i q6);let q2:=(mr s l (gE s l false (l.length+1)) false q1 e a);let q3:=(og s l (mW s l) ns (iT s l i) q1 e a);(q4->q4)/\(q4->q4)/\(q4->q4)/\(q4->q4)/\(q4->q4)/\(q4->q4)/\(q4->q4)/\(q4->q4)/\(q4->q4)/\(q4->q4)/\((bif decide (e=0) then decide (i<(↑((ar l).length/4):Int)) else false)=true->(cx s l s (ar l) ns.length ns i/\True)/\(cx s l s (ar l) ns.length ns i/\True)/\(bZ l e i q6=true->(cx s l s (ar l) ns.length ns q1/\e=0/\ns.length<=20000)/\(q8/\(acc.length+1)*160<=140737488355328)/\ax (sPR s l) (aG (A.bC [q7,fV (ld R).snd.fst (ld R).snd.snd]) []) [0,0,1,1,1,1,1] aI (af.ofList [Ob.mk 27 [fI (0),fI (0)],Ob.mk 51 [Fd.c (W.str s),Fd.c (W.rs (4:Nat) (ar l)),fI q3.i,fI q3.e,fI q3.a,fS 3 0 (ns++[nT l e q1]).length],Ob.mk 54 [Fd.a 0 D.pv (List.take (acc.length*10) q5++[PV.int q3.v.k,PV.int q3.v.line,PV.str q3.v.name,PV.strs q3.v.params,PV.int q3.v.e.k,PV.int q3.v.e.n,PV.str q3.v.e.t,PV.aH (4:Nat) (Ex.ah q3.v.e.l),PV.aH (10:Nat) (St.ah q3.v.body),PV.aH (10:Nat) (St.ah q3.v.els)])],Ob.mk 9 [Fd.a 0 D.str (ns++[nT l e q1])]]))/\(bZ l e i q6=false->(cx s l s (ar l) ns.length ns q1/\e=0/\(l.length:Int)-bQ l e i q6<=(↑(l.length+1):Int))/\(q8/\(acc.length+1)*160<=140737488355328)/\ax (sPR s l) (aG (A.bC [q7,fV (ld R).snd.fst (ld R).snd.snd]) []) [0,0,1,1,1,1,1] aI (af.ofList [Ob.mk 27 [fI (0),fI (0)],Ob.mk 51 [Fd.c (W.str s),Fd.c (W.rs (4:Nat) (ar l)),fI q2.i,fI q2.e,fI q2.a,fS 3 0 ns.length],Ob.mk 54 [Fd.a 0 D.pv (List.take (acc.length*10) q5++[PV.int q2.v.k,PV.int q2.v.line,PV.str q2.v.name,PV.strs [],PV.int q2.v.e.k,PV.int q2.v.e.n,PV.str q2.v.e.t,PV.aH (4:Nat) (Ex.ah q2.v.e.l),PV.aH (10:Nat) (St.ah q2.v.body),PV.aH (10:Nat) (St.ah q2.v.els)])],Ob.mk 9 [Fd.a 0 D.str ns]])))/\((bif decide (e=0) then decide (i<(↑((ar l).length/4):Int)) else false)=false->((!decide (e=0))=true->(0:Nat)+0*10<=0/\aq [aT,V.agg [wI e,wI a]]=A.bC [q7,fV (ld R).snd.fst (ld R).snd.snd]/\([]:List Ob)=[])/\((!decide (e=0))=false->q8/\((∃ L,List.take (acc.length*10) q5=St.ah L)/\St.aD (cr q9)<=1000000)/\(rz (cr q9)=true->(0:Nat)+0*10<=0/\aq [aT,V.agg [wI (5),wI (0)]]=A.bC [q7,fV (ld R).snd.fst (ld R).snd.snd]/\([]:List Ob)=[])/\(rz (cr q9)=false->q8/\aq [V.c (W.rs (10:Nat) q9),V.agg [wI (0),wI (0)]]=A.bC [q7,fV (ld R).snd.fst (ld R).snd.snd]/\([]:List Ob)=[])))) (by kernel_rfl)
   try simp only[sL]
   rw[tN];have el:List.take (acc.length*10) (St.ah acc)=St.ah acc:=List.take_of_length_le (by rw[St.cI];exact Nat.le_refl _);have hl:acc.length*10<=(St.ah acc).length:=by rw[St.cI];exact Nat.le_refl _
   rw[el];have h0:=hi.1;have h9:=hi.2;unfold vg at he;refine⟨fun h=>⟨rin hi,rin hi,fun h1=>?_,fun h1=>?_⟩,fun h=>⟨fun h1=>?_,fun h1=>?_⟩⟩;obtain⟨e0,hlt⟩:=h;obtain⟨n1,n2,n3⟩:=hn e0;rw[decide_eq_true e0,decide_eq_true hlt,h1] at he;rw[je h1,LC];have u1:dx l (i+1):=⟨by omega,by omega,hi.2.2⟩;subst e0;have ad:=dfR_adv (s:=s) hK ns (iT s l i) a u1;simp only[Bool.and_self,cond_true] at he;generalize og s l (mW s l) ns (iT s l i) (i+1) 0 a=q at he ad ⊢;obtain⟨a1,a2,a3⟩:=ad;have ih:=DS ht hK R hz k (acc++[q.v]) (ns++[nT l 0 (i+1)]) q.i q.e q.a he a2 (fun h=>by have:=a3 h;simp only[List.length_append,List.length_singleton];omega) (by omega);rw[List.length_append,List.length_singleton] at ih;exact⟨⟨rin u1,rfl,by omega⟩,⟨hl,by omega⟩,ih⟩;obtain⟨e0,hlt⟩:=h;obtain⟨n1,n2,n3⟩:=hn e0;rw[decide_eq_true e0,decide_eq_true hlt,h1] at he;rw[iJ h1,yj _ _ (PL _ _ _ _ _)];subst e0;have ad:=PK (s:=s) hK false (l.length+1) a hi;simp only[Bool.and_self,cond_true,cond_false] at he;unfold Iw at he;have hih:∀ q:RR St,(vg s l (mW s l) (Iw s l) k (acc++[q.v]) ns q.i q.e q.a=R)->(i<=q.i/\dx l q.i/\(q.e=0->i<q.i))->ax (sPR s l) (aG (.bC [.c (.rs 10 (St.ah (ld R).1)),fV (ld R).2.1 (ld R).2.2]) []) [0,0,1,1,1,1,1] (fr [(3,.p (.c (.ptr 0 0))),(6,.p (.c (.ptr 1 0))),(7,.p (.c (.sl 2 0 (acc.length+1) 10)))]) (.ofList [jq 0 0,Zm s l q.i q.e q.a ns.length,qP (acc++[q.v]),iY ns]):=by
    rintro q he ⟨a1,a2,a3⟩;have ih:=DS ht hK R hz k (acc++[q.v]) ns q.i q.e q.a he a2 (fun h=>by have:=a3 h;simp only[List.length_append,List.length_singleton];omega) (by omega);rw[List.length_append,List.length_singleton] at ih;exact ih
   exact⟨⟨rin hi,rfl,by omega⟩,⟨hl,by omega⟩,hih _ he ad⟩;rw[decide_eq_false h1] at he;subst he;unfold ld;rw[if_neg (by exact h1)];exact by simp only[St.bJ];rfl
   have hge:=h h1;rw[decide_eq_true h1,decide_eq_false (p:=i<l.length) (by omega)] at he;subst he;subst h1;rw[dK];have hP:∀ b,rz acc=b->ld (⟨acc,i,0,a⟩:RR (List St))=bif b then([],5,0) else(acc,0,0):=by
    rintro b rfl;unfold ld;rw[if_pos rfl]
   refine⟨hl,⟨⟨_,rfl⟩,hz rfl⟩,fun hd=>?_,fun hd=>⟨hl,?_⟩⟩;show _=A.bC [.c (.rs 10 (St.ah (ld (⟨acc,i,0,a⟩:RR (List St))).1)),fV (ld (⟨acc,i,0,a⟩:RR (List St))).2.1 (ld (⟨acc,i,0,a⟩:RR (List St))).2.2];rw[hP _ hd];exact by simp only[cond_true,St.bJ];rfl
   show _=A.bC [.c (.rs 10 (St.ah (ld (⟨acc,i,0,a⟩:RR (List St))).1)),fV (ld (⟨acc,i,0,a⟩:RR (List St))).2.1 (ld (⟨acc,i,0,a⟩:RR (List St))).2.2];rw[hP _ hd];rfl
theorem newR_is(base:Nat)(η:Eta)(Z:av)(w:World)(R:Go.aU.St base η Z (.ofList [jq 0 0,⟨51,[.c (.str s),.c (.rs 4 (ar l)),.c (.int .i64 0),.c (.int .i64 0),.c (.int .i64 0),.c .nil]⟩,qP []]) w):bN base η Z (.ofList [jq 0 0,⟨51,[.c (.str s),.c (.rs 4 (ar l)),.c (.int .i64 0),.c (.int .i64 0),.c (.int .i64 0),.c .nil]⟩,qP []]) w η Z (.ofList [jq 0 0,Zm s l 0 0 0 0,qP [],iY []]) w :=
 R.Ao (n:=1) (o:=⟨51,[.c (.str s),.c (.rs 4 (ar l)),.c (.int .i64 0),.c (.int .i64 0),.c (.int .i64 0),.c .nil]⟩) (pre:=[.c (.str s),.c (.rs 4 (ar l)),.c (.int .i64 0),.c (.int .i64 0),.c (.int .i64 0)]) (post:=[]) rfl rfl (Ob.lA (by simp[Ob.cells,Fd.cells,W.special])) 9 .str (Ob.lA (by simp[Ob.cells,Fd.cells,W.special]))
end
noncomputable def Fo(s:ByteArray):RR (List St):=vg s (tks s) (mW s (tks s)) (Iw s (tks s)) ((tks s).length+1) [] [] 0 0 0
noncomputable def wV(s:ByteArray):List St×(Int×Int):=if(cU s).2.1=0 then ld (Fo s) else([],(cU s).2)
theorem Wf(s:ByteArray):iK (tks s) (dW s (tks s)).fst (Fo s) 0 0:=Sd (uc s) _ _ _ _ _ (Int.le_refl _) (by omega)
theorem pgQ_siz(s:ByteArray)(h:(Fo s).e=0):St.aD (Fo s).v<=1000000:=by
 have hq:=Wf s;cases hd:(dW s (tks s)).die with
 | true=>exact absurd h (hq.no hd).2.2
 | false =>
   rw[hq.ok hd];have h1:=O4 hd;have h2:(tks s).length<=20000:=jc s;show St.aD (dW s (tks s)).v.1<=_;omega
theorem pR_sem(s:ByteArray)(hs:s.size<=1000000):bp Tryz.prog 7 [sS s] [] (.bC [.c (.rs 10 (St.ah (wV s).1)),fV (wV s).2.1 (wV s).2.2]) []:=by
 refine o8 (aK:=[([0,0,1,1,1,1,1],[3,6,7])]) (eu:=[]) (fz:=[some .pv,none]) (MX (Fk s hs) (uc s)) Tryz.func7 (by kernel_rfl) (au:=0) rfl (by kernel_rfl) 300 ?_;apply of_eq (q:=s.size<=1000000/\((!decide ((cU s).snd.fst=0))=true->(0:Nat)+0*10<=0/\aq [V.c (W.rs (10:Nat) (List.take ((0:Nat)*10) (List.drop (0:Nat) []))),V.agg [wI (cU s).snd.fst,wI (cU s).snd.snd]]=A.bC [V.c (W.rs (10:Nat) (St.ah (wV s).fst)),fV (wV s).snd.fst (wV s).snd.snd]/\([]:List Ob)=[])/\((!decide ((cU s).snd.fst=0))=false->ax (ct Tryz.prog (Sl s (tks s)) Tryz.f7 (0:Nat) [([0,0,1,1,1,1,1],[3,6,7])] [] [some D.pv,none]) (aG (A.bC [V.c (W.rs (10:Nat) (St.ah (wV s).fst)),fV (wV s).snd.fst (wV s).snd.snd]) []) [0,0,1,1,1,1,1] (fr [(3,aR 0 0),(6,aR 1 0),(7,aP (W.sl 2 0 0 10))]) (af.ofList [Ob.mk 27 [fI (0),fI (0)],Ob.mk 51 [Fd.c (W.str s),Fd.c (W.rs (4:Nat) (ar (kG (cU s)))),fI (0),fI (0),fI (0),Fd.c W.nil],Ob.mk 54 [Fd.a 0 D.pv []]]))) (by kernel_rfl)
 try simp only[sL]
 unfold wV;refine⟨hs,fun h0=>?_,fun h0=>?_⟩;rw[if_neg h0];exact by simp only[St.bJ];rfl
 rw[if_pos h0];have hl:(tks s).length<=20000:=jc s;have:=DS s (tks s) (Fk s hs) (uc s) (Fo s) (pgQ_siz s) ((tks s).length+1) [] [] 0 0 0 rfl ⟨Int.le_refl _,by omega,hl⟩ (fun _=>⟨by omega,Int.le_refl _,Int.le_refl _⟩) (by omega);unfold qP at this;rw[St.bJ] at this;refine ax.pre this fun base η Z w R=>?_;have:=newR_is s (tks s) base η Z w;unfold qP at this;rw[St.bJ] at this;exact this R
end Go.Proofs.YtaplgnhojknpiaaGreatDoor
namespace Go.aU
open Go.RowKit
theorem eW.weak{P:Program}{f:FuncId}{k:Nat}{args:List A}{ak aX:List Ob}{r:A}(j:Nat)(H:eW P f k args ak r aX)(hj:j<=k):eW P f j args ak r aX:=by
 intro base η Z w vs R hvs hK;refine(H base η Z w vs R hvs hK).mono ?_;rintro e w' ⟨u,aF,Z',rfl,mv,hu⟩;exact⟨u,aF,Z',rfl,⟨fun n p hn=>mv.le n p (Nat.lt_of_lt_of_le hn hj),mv.st,mv.step⟩,hu⟩
end Go.aU
namespace Go.Proofs.YtaplgnhojknpiaaGreatDoor
open Go.aU Go.RowKit
set_option maxRecDepth 100000
section
variable (s:ByteArray) (l:List Tok)
abbrev Sm:Ob:=⟨51,[.c (.str s),.c (.rs 4 (ar l)),.c (.int .i64 0),.c (.int .i64 0),.c (.int .i64 0),.c .nil]⟩
theorem newE_is(base:Nat)(η:Eta)(Z:av)(w:World)(R:Go.aU.St base η Z (.ofList [Sm s l]) w):∃ aF Z',gB 1 base η Z (.ofList [Sm s l]) w aF Z' (.ofList (rO s l 0 0 0 [])) w:=by
 have mv:=R.Ao (n:=0) (o:=Sm s l) (pre:=[.c (.str s),.c (.rs 4 (ar l)),.c (.int .i64 0),.c (.int .i64 0),.c (.int .i64 0)]) (post:=[]) rfl rfl (Ob.lA (by simp[Ob.cells,Fd.cells,W.special])) 9 .str (Ob.lA (by simp[Ob.cells,Fd.cells,W.special]));exact⟨η,Z,⟨fun n p _ h=>mv.le n p h,mv.st,mv.step⟩⟩
theorem Zn(η aF:Eta)(Z Z':av)(vs:List Value)(hle:∀ n p,n<1->η n=some p->aF n=some p)(_hz:Z.le Z')(h:aO (cH η Z) [pA,.p (.c (.int .i64 1))] vs):aO (cH aF Z') [pA,.p (.c (.int .i64 1))] vs:=by
 match vs,h with
 | [v,u],⟨⟨h1,p,hp,hv⟩,h2,_⟩=>exact⟨⟨h1,p,hle 0 p (by omega) hp,hv⟩,h2,trivial⟩
theorem lv0_sem(hK:gA l)(hl:l.length<=20000):eW Tryz.prog 28 1 [pA,.p (.c (.int .i64 1))] [Sm s l] (.p (exV (fY s l 0 0 0).v)) (rO s l (fY s l 0 0 0).i (fY s l 0 0 0).e (fY s l 0 0 0).a []):=by
 have hi:dx l 0:=⟨by omega,by omega,hl⟩;have:=MD s l hK (12*l.length+12) [.p (.c (.int .i64 1))] 0 0 0 [] _ rfl hi ⟨by omega,by omega,by omega,fun _=>qe hi⟩;exact(eW.weak 1 this (by omega)).pre 1 (Nat.le_refl _) Zn (newE_is s l)
noncomputable def Sn:cO:={ cE:=[true,false],au:=some 1,f:=fun args ak=>match args,ak with
 | [.p (.c (.ptr m 0)),.p (.c (.int .i64 lv))],[⟨t,[.c (.str s'),.c (.rs q l'),.c (.int .i64 i),.c (.int .i64 e),.c (.int .i64 a),.c .nil]⟩] =>
   bif Nat.beq m 0&&(Nat.beq t 51&&Nat.beq q 4) then some (.p (s'=s/\l'=ar l/\i=0/\e=0/\a=0/\lv=1),.p (exV (fY s l 0 0 0).v),rO s l (fY s l 0 0 0).i (fY s l 0 0 0).e (fY s l 0 0 0).a []) else none
 | _,_=>none }
theorem Zo(hK:gA l)(hl:l.length<=20000):bq Tryz.prog 28 (Sn s l):=by
 refine⟨by kernel_rfl,fun args ak c r aX e hc=>?_⟩;simp only[Sn] at e;split at e;obtain⟨hb,e1⟩:=aj.aC e;clear e;simp only[Bool.and_eq_true,Nat.beq_eq] at hb;obtain⟨rfl,rfl,rfl⟩:=hb;cases e1;obtain⟨rfl,rfl,rfl,rfl,rfl,rfl⟩:=hc;exact lv0_sem _ _ hK hl;cases e
noncomputable def gamRN:bX:=(28,Sn s l)::(18,BN)::(30,qg 1000001)::RY s l
variable {s l} in
theorem Zp(hK:gA l)(hl:l.length<=20000):bg Tryz.prog (gamRN s l):=ai (Zo s l hK hl) (ai MP (ai (l5 (by kernel_rfl) (DQ _)) (DK s l)))
end
def MY(v:Ex)(e a:Int):Ex×(Int×Int):=if e=0 then(bif decide (200<v.deep) then(gI,5,0) else(v,0,0)) else(gI,e,a)
noncomputable def P2(s:ByteArray):Ex×(Int×Int) :=
 if(fY s (tks s) 0 0 0).i<(tks s).length then MY (fY s (tks s) 0 0 0).v (kq (fY s (tks s) 0 0 0).e 11) (lP s (tks s) (fY s (tks s) 0 0 0).e (fY s (tks s) 0 0 0).a (fY s (tks s) 0 0 0).i)
 else MY (fY s (tks s) 0 0 0).v (fY s (tks s) 0 0 0).e (fY s (tks s) 0 0 0).a
noncomputable def mw(s:ByteArray):Ex×(Int×Int):=if(cU s).2.1=0 then P2 s else(gI,(cU s).2)
theorem Wg(e:Int):kq e 11≠0:=by
 unfold kq;split;decide;assumption
theorem Zq(s:ByteArray):dx (tks s) (fY s (tks s) 0 0 0).i:=(qV (s:=s) (uc s) (i:=0) (e:=0) 0 ⟨Int.le_refl _,by omega,jc s⟩).2.1
theorem Zs(s:ByteArray)(h:(fY s (tks s) 0 0 0).e=0):(fY s (tks s) 0 0 0).v.cP<=20000:=by
 have hq:=B0 (s:=s) (uc s) (i:=0) 0 (Int.le_refl _) (by omega);cases hd:(EX s (tks s) 1 0).die with
 | true=>exact absurd h (hq.no hd).2.2
 | false =>
   rw[hq.ok hd];exact O5 hd (jc s)
theorem xR_sem(s:ByteArray)(hs:s.size<=1000000):bp Tryz.prog 9 [sS s] [] (.bC [exV (mw s).1,fV (mw s).2.1 (mw s).2.2]) []:=by
 refine bh (aK:=[]) (Zp (s:=s) (uc s) (jc s)) Tryz.func9 (by kernel_rfl) (au:=0) rfl (by kernel_rfl) 300 ?_;apply of_eq (q:=let q1:=(fY s (tks s) (0:Int) (0:Int) (0:Int));let q2:=(A.p (V.agg (List.take (2:Nat) (List.drop ((0:Nat)+3) (Ob.mk 51 [Fd.c (W.str s),Fd.c (W.rs (4:Nat) (ar (tks s))),fI q1.i,fI (kq q1.e (11:Int)),fI (lP s (tks s) q1.e q1.a q1.i),fS ((4:Nat)+((1:Nat)-1)) 0 0]).cells))));let q3:=(A.p (V.agg (List.take (2:Nat) (List.drop ((0:Nat)+3) (Ob.mk 51 [Fd.c (W.str s),Fd.c (W.rs (4:Nat) (ar (tks s))),fI q1.i,fI q1.e,fI q1.a,fS ((4:Nat)+((1:Nat)-1)) 0 0]).cells))));let q5:=(A.p (V.agg (List.take (2:Nat) (List.drop (0:Nat) (Ob.mk 27 (fI (cU s).snd.fst::fI (cU s).snd.snd::sO._f [] PUnit.unit (List.append._f [] PUnit.unit []))).cells))));let q6:=(cj (Ex.ah q1.v.l));let q7:=([]:List Ob)=[];let q8:=decide ((200:Int)<(Ex.mk q1.v.k q1.v.n q1.v.t q6).deep);let q9:=decide (q1.i<(↑((ar (tks s)).length/4):Int));let q4:=(q8=true->aq [V.agg [wI (0),wI (0),W.str (ByteArray.mk #[]),W.rs (4:Nat) []],V.agg [wI (5),wI (0)]]=A.bC [exV (mw s).fst,fV (mw s).snd.fst (mw s).snd.snd]/\q7)/\(q8=false->aq [V.agg [wI q1.v.k,wI q1.v.n,W.str q1.v.t,W.rs (4:Nat) (Ex.ah q1.v.l)],V.agg [wI (0),wI (0)]]=A.bC [exV (mw s).fst,fV (mw s).snd.fst (mw s).snd.snd]/\q7);s.size<=1000000/\((!decide ((cU s).snd.fst=0))=true->(R1.pure Cd.t q5).v=(R1.pure Cd.t q5).v/\(R1.pure Cd.t q5).v=(R1.pure Cd.t q5).v/\aq [V.agg [wI (0),wI (0),W.str (ByteArray.mk #[]),W.rs (4:Nat) []],V.agg [wI (cU s).snd.fst,wI (cU s).snd.snd]]=A.bC [exV (mw s).fst,fV (mw s).snd.fst (mw s).snd.snd]/\q7)/\((!decide ((cU s).snd.fst=0))=false->(s=s/\ar (kG (cU s))=ar (tks s)/\(0:Int)=0/\(0:Int)=0/\(0:Int)=0/\(1:Int)=1)/\(q9=true->(cx s (tks s) s (ar (tks s)) (0:Nat) [] q1.i/\(0:Int)<=q1.i)/\((!decide (kq q1.e (11:Int)=0))=true->(R1.pure Cd.t q2).v=(R1.pure Cd.t q2).v/\(R1.pure Cd.t q2).v=(R1.pure Cd.t q2).v/\aq [V.agg [wI (0),wI (0),W.str (ByteArray.mk #[]),W.rs (4:Nat) []],V.agg [wI (kq q1.e (11:Int)),wI (lP s (tks s) q1.e q1.a q1.i)]]=A.bC [exV (mw s).fst,fV (mw s).snd.fst (mw s).snd.snd]/\q7)/\((!decide (kq q1.e (11:Int)=0))=false->((∃ L,Ex.ah q1.v.l=Ex.ah L)/\Ex.aD q6<1000001/\Ex.aD q6<=1000000)/\q4))/\(q9=false->((!decide (q1.e=0))=true->(R1.pure Cd.t q3).v=(R1.pure Cd.t q3).v/\(R1.pure Cd.t q3).v=(R1.pure Cd.t q3).v/\aq [V.agg [wI (0),wI (0),W.str (ByteArray.mk #[]),W.rs (4:Nat) []],V.agg [wI q1.e,wI q1.a]]=A.bC [exV (mw s).fst,fV (mw s).snd.fst (mw s).snd.snd]/\q7)/\((!decide (q1.e=0))=false->((∃ L,Ex.ah q1.v.l=Ex.ah L)/\Ex.aD q6<1000001/\Ex.aD q6<=1000000)/\q4)))) (by kernel_rfl)
 try simp only[sL]
 rw[tN,dz];have hl:(tks s).length<=20000:=jc s;have hx:=Zq s;have hz:=Zs s;have hd:(Ex.mk (fY s (tks s) 0 0 0).v.k (fY s (tks s) 0 0 0).v.n (fY s (tks s) 0 0 0).v.t (fY s (tks s) 0 0 0).v.l).deep=(fY s (tks s) 0 0 0).v.deep:=by rw[Ex.jH,Ex.jH];rfl
 rw[hd];have Tp:=Ex.fe (fY s (tks s) 0 0 0).v;refine⟨hs,fun h0=>?_,fun h0=>⟨fun hi=>⟨⟨rin (ns:=[]) hx,hx.1⟩,fun _=>?_,fun h=>absurd h (Wg _)⟩,fun hi=>⟨fun he=>?_,fun he=>⟨⟨⟨_,rfl⟩,by have:=hz he;omega,by have:=hz he;omega⟩,fun hd=>?_,fun hd=>?_⟩⟩⟩⟩;unfold mw;rw[if_neg h0];exact by rw[tU];rfl
 unfold mw P2 MY;rw[if_pos h0,if_pos hi,if_neg (Wg _)];exact by rw[tU];rfl
 unfold mw P2 MY;rw[if_pos h0,if_neg (by omega),if_neg he];exact by rw[tU];rfl
 unfold mw P2 MY;rw[if_pos h0,if_neg (by omega),if_pos he,decide_eq_true hd];exact by rw[cond_true,tU];rfl
 unfold mw P2 MY;rw[if_pos h0,if_neg (by omega),if_pos he,decide_eq_false (by omega)];rfl
theorem Wh(s:ByteArray):wV s=kg s:=by
 unfold wV kg iq;by_cases h0:(cU s).2.1=0
 . rw[if_pos h0,if_pos h0];have hq:=Wf s;have hdk:St.nD (Fo s).v:=MW _ _ _ _ _ _ St.nV;unfold ld;cases hd:(dW s (tks s)).die with
   | true =>
     obtain⟨q1,q2,q3⟩:=hq.no hd;have q1:(Fo s).e=(dW s (tks s)).e:=q1;have q2:(Fo s).a=(dW s (tks s)).a:=q2;rw[if_neg q3];simp only[cond_true];rw[decide_eq_false (by rw[<-q1];exact q3),Bool.false_and,cond_false,q1,q2]
   | false =>
     have hi:=Gl hd;have hq:=hq.ok hd;rw[hq] at hdk ⊢;rw[if_pos rfl,hi,decide_eq_false (Int.lt_irrefl _)];simp only[cond_false];rw[decide_true,Bool.true_and,Zl _ hdk];rfl
 rw[if_neg h0,if_neg h0,decide_eq_false h0,Bool.false_and,cond_false]
theorem xrA_eq(s:ByteArray):mw s=lH s:=by
 unfold mw lH fH;by_cases h0:(cU s).2.1=0
 . rw[if_pos h0,if_pos h0];have hq:=B0 (s:=s) (uc s) (i:=0) 0 (Int.le_refl _) (by omega);unfold P2 MY;cases hd:(fP s (tks s)).die with
   | true =>
     obtain⟨q1,q2,q3⟩:=hq.no hd;have q1:(fY s (tks s) 0 0 0).e=(fP s (tks s)).e:=q1;have q2:(fY s (tks s) 0 0 0).a=(fP s (tks s)).a:=q2;simp only[cond_true];have q4:¬(fP s (tks s)).e=0:=by rw[<-q1];exact q3
     rw[decide_eq_false q4,Bool.false_and,cond_false,R5 q3,R6 q3,if_neg q3,ite_self,q1,q2]
   | false =>
     have hq:fY s (tks s) 0 0 0=⟨(fP s (tks s)).v,(fP s (tks s)).i,0,0⟩:=hq.ok hd;rw[hq];simp only[cond_false];by_cases hi:(fP s (tks s)).i<(tks s).length;rw[if_pos hi,decide_eq_true hi];rfl;rw[if_neg hi,decide_eq_false hi];simp only[cond_false];simp only[if_true,decide_true,Bool.true_and]
 rw[if_neg h0,if_neg h0,decide_eq_false h0,Bool.false_and,cond_false]
end Go.Proofs.YtaplgnhojknpiaaGreatDoor
namespace Go.Proofs.YtaplgnhojknpiaaGreatDoor
open Go.aU Go.RowKit
set_option maxRecDepth 100000
noncomputable def Wi(n:Nat):cO:={ cE:=[],f:=fun args ak=>match args,ak with
 | [.p (.agg [.int .i64 k,.int .i64 m,.str t,.rs q l]),.p (.agg [.int .i64 k',.int .i64 m',.str t',.rs q' l'])],[]=>bif Nat.beq q 4&&Nat.beq q' 4 then some (.p (k'=k/\m'=m/\t'=t/\l'=l/\(∃ L,l=Ex.ah L)/\Ex.aD (cj l)<n/\Ex.aD (cj l)<=1000000),bB true,[]) else none
 | _,_=>none }
def Wj(n:Nat):Prop:=∀(k m:Int)(t:ByteArray)(L:List Ex),Ex.aD L<n->Ex.aD L<=1000000->bp Tryz.prog 31 [CQ k m t (Ex.ah L),CQ k m t (Ex.ah L)] [] (bB true) []
theorem MZ{n:Nat}(h:Wj n):bq Tryz.prog 31 (Wi n):=by
 refine⟨by kernel_rfl,fun args ak c r aX e hc=>?_⟩;simp only[Wi] at e;split at e;obtain⟨hb,e1⟩:=aj.aC e;clear e;simp only[Bool.and_eq_true,Nat.beq_eq] at hb;obtain⟨rfl,rfl⟩:=hb;cases e1;obtain⟨rfl,rfl,rfl,rfl,⟨L,rfl⟩,h2,h3⟩:=hc;rw[dz] at h2 h3;exact h _ _ _ _ h2 h3;cases e
noncomputable def sSE(n:Nat):aZ:=ct Tryz.prog [(31,Wi n)] Tryz.f31 0 [([0,1,0,1,1],[2,3,5])] [] []
theorem P3(n:Nat)(h:Wj n)(k m:Int)(t:ByteArray)(L:List Ex)(hL:Ex.aD L<=n)(hl:Ex.aD L<=1000000):∀(j i:Nat),j=L.length-i->i<=L.length->
 ax (sSE n) (aG (bB true) []) [0,1,0,1,1] (fr [(2,.p (.c (.ptr 0 0))),(3,.p (.c (.ptr 1 0))),(5,nI i)]) (.ofList [qf k m t (Ex.ah L),qf k m t (Ex.ah L)])
 | j,i,hj,hi=>by
   refine bD (ai (MZ h) aE) (by kernel_rfl) 200 ?_;apply of_eq (q:=let q1:=(Ex.ah L);let q2:=(i*4+1+1+1);let q3:=(PV.str (ByteArray.mk #[])).like (q1.getD (i*4+1+1) (PV.bool false))=true;let q4:=(PV.int (0:Int)).like (q1.getD (i*4+1) (PV.bool false))=true;let q5:=(PV.int (0:Int)).like (q1.getD (i*4) (PV.bool false))=true;let q6:=Ob.mk 32 [fI k,fI m,Fd.c (W.str t),Fd.c (W.rs (4:Nat) q1)];let q7:=(PV.aH (4:Nat) []).like (q1.getD q2 (PV.bool false))=true;(decide ((i:Int)<(↑(q1.length/4):Int))=true->((0:Int)<=(i:Int)/\i*4<q1.length)/\i*4+4<=q1.length/\q5/\q4/\q3/\q7/\((0:Int)<=(i:Int)/\i*4<q1.length)/\i*4+4<=q1.length/\q5/\q4/\q3/\q7/\((q1.getD (i*4) (PV.bool false)).asInt=(q1.getD (i*4) (PV.bool false)).asInt/\(q1.getD (i*4+1) (PV.bool false)).asInt=(q1.getD (i*4+1) (PV.bool false)).asInt/\(q1.getD (i*4+1+1) (PV.bool false)).bM=(q1.getD (i*4+1+1) (PV.bool false)).bM/\(q1.getD q2 (PV.bool false)).aB=(q1.getD q2 (PV.bool false)).aB/\(∃ iw,(q1.getD q2 (PV.bool false)).aB=Ex.ah iw)/\Ex.aD (cj (q1.getD q2 (PV.bool false)).aB)<n/\Ex.aD (cj (q1.getD q2 (PV.bool false)).aB)<=1000000)/\((!true)=true->aq [vB false]=bB true/\([]:List Ob)=[])/\((!true)=false->ax (sSE n) (aG (bB true) []) [0,1,0,1,1] (fr [(2,aR 0 0),(3,aR 1 0),(5,nI (IntKind.i64.wrap ((i:Int)+1)))]) (af.ofList [q6,q6])))/\(decide ((i:Int)<(↑(q1.length/4):Int))=false->aq [vB true]=bB true/\([]:List Ob)=[])) (by kernel_rfl)
   try simp only[sL]
   rw[Ii];have bS:=Ex.ig L;refine⟨fun h1=>?_,fun h1=>rfl⟩;have h1:i<L.length:=by omega
   rw[yO h1,su h1,yP h1,yQ h1,wrap64 (n:=(i:Int)+1) (by omega) (by omega)];have hm:=Ex.iE (List.getElem_mem h1);rw[Ex.fe] at hm;have hlt:i*4+4<=(Ex.ah L).length:=by rw[Ex.cI];omega
   have hx:cj (PV.aB (.aH 4 (Ex.ah L[i].l)))=L[i].l:=dz _;rw[hx];cases j with
   | zero=>omega
   | succ j =>
     have ih:=P3 n h k m t L hL hl j (i+1) (by omega) (by omega);exact⟨⟨by omega,by omega⟩,hlt,rfl,rfl,rfl,rfl,⟨by omega,by omega⟩,hlt,rfl,rfl,rfl,rfl,⟨⟨_,rfl⟩,by omega,by omega⟩,fun h=>(by cases h),fun _=>ih⟩
theorem se_step(n:Nat)(h:Wj n):Wj (n+1):=by
 intro k m t L hL hl;refine bh (aK:=[([0,1,0,1,1],[2,3,5])]) (ai (MZ h) aE) Tryz.func31 (by kernel_rfl) (au:=0) rfl (by kernel_rfl) 200 ?_;apply of_eq (q:=let q1:=(bif bif !decide (k=k) then true else !decide (m=m) then true else !decide (t=t))=false;let q2:=(bif !decide (k=k) then true else !decide (m=m))=false;let q3:=(!decide (k=k))=false;let q4:=(↑((Ex.ah L).length/4):Int);let q5:=Ob.mk 32 [fI k,fI m,Fd.c (W.str t),Fd.c (W.rs (4:Nat) (Ex.ah L))];(q3->q3)/\(q3->q3)/\(q3->q3)/\(q3->q3)/\(q3->q3)/\(q2->q2)/\(q2->q2)/\(q2->q2)/\(q2->q2)/\(q2->q2)/\(q1->q1)/\(q1->q1)/\(q1->q1)/\(q1->q1)/\(q1->q1)/\(q1->q1)/\(q1->q1)/\((bif bif bif !decide (k=k) then true else !decide (m=m) then true else !decide (t=t) then true else !decide (q4=q4))=true->aq [vB false]=bB true/\([]:List Ob)=[])/\((bif bif bif !decide (k=k) then true else !decide (m=m) then true else !decide (t=t) then true else !decide (q4=q4))=false->ax (cT Tryz.prog [((31:FuncId),Wi n)] Tryz.f31 (0:Nat) [([0,1,0,1,1],[2,3,5])]) (aG (bB true) []) [0,1,0,1,1] (fr [(2,aR 0 0),(3,aR 1 0),(5,nI (0))]) (af.ofList [q5,q5]))) (by kernel_rfl)
 try simp only[sL]
 refine⟨fun h=>absurd h (by simp),fun _=>?_⟩;exact P3 n h k m t L (by omega) hl (L.length-0) 0 rfl (by omega)
theorem Wk:∀ n,Wj n
 | 0=>fun k m t L h=>by omega
 | n+1=>se_step n (Wk n)
noncomputable def P4(n:Nat):cO:={ cE:=[],f:=fun args ak=>match args,ak with
 | [.p (.c (.rs q l)),.p (.c (.rs q' l'))],[]=>bif Nat.beq q 10&&Nat.beq q' 10 then some (.p (l'=l/\(∃ L,l=St.ah L)/\St.gU (cr l)/\St.aD (cr l)<n/\St.aD (cr l)<=1000000),bB true,[]) else none
 | _,_=>none }
def yY(f:Nat)(n:Nat):Prop:=∀(L:List St),St.gU L->St.aD L<n->St.aD L<=1000000->bp Tryz.prog f [.p (.c (.rs 10 (St.ah L))),.p (.c (.rs 10 (St.ah L)))] [] (bB true) []
theorem Fp{f n:Nat}(he:enters Tryz.prog f=true)(h:yY f n):bq Tryz.prog f (P4 n):=by
 refine⟨he,fun args ak c r aX e hc=>?_⟩;simp only[P4] at e;split at e;obtain⟨hb,e1⟩:=aj.aC e;clear e;simp only[Bool.and_eq_true,Nat.beq_eq] at hb;obtain⟨rfl,rfl⟩:=hb;cases e1;obtain⟨rfl,⟨L,rfl⟩,h1,h2,h3⟩:=hc;rw[dK] at h1 h2 h3;exact h _ h1 h2 h3;cases e
noncomputable def gSl(n:Nat):bX:=[(11,P4 n)]
theorem Wl{n:Nat}(h:yY 11 n):bg Tryz.prog (gSl n):=ai (Fp (by kernel_rfl) h) aE
noncomputable def sSl(n:Nat):aZ:=ct Tryz.prog (gSl n) Tryz.f11 0 [([0,1,0,1],[0,1,5])] [] []
abbrev IE(L:List St):A:=.p (.c (.rs 10 (St.ah L)))
theorem P5(n:Nat)(h:yY 11 n)(L:List St)(hP:St.gU L)(hL:St.aD L<=n)(hl:St.aD L<=1000000):∀(j i:Nat),j=L.length-i->i<=L.length->
 ax (sSl n) (aG (bB true) []) [0,1,0,1] (fr [(0,IE L),(1,IE L),(5,nI i)]) (.ofList [])
 | j, i, hj, hi => by
   refine bD (Wl h) (by kernel_rfl) 200 ?_;apply of_eq (q:=let q5:=(St.ah L);let q6:=(0:Int)<=(i:Int);let q7:=i*10<q5.length;let q8:=(PV.aH (10:Nat) []).like (q5.getD (i*10+8) (PV.bool false))=true;let q9:=(PV.aH (10:Nat) []).like (q5.getD (i*10+9) (PV.bool false))=true;let aT:=(PV.int (0:Int)).like (q5.getD (i*10+1) (PV.bool false))=true;let q1:=decide ((q5.getD (i*10+1) (PV.bool false)).asInt=(q5.getD (i*10+1) (PV.bool false)).asInt);let q2:=(bif !q1 then true else !true)=false;let q3:=decide ((i:Int)<(↑(q5.length/10):Int));let q4:=(!q1)=false;(q3=true->q3=true)/\(q3=true->q3=true)/\(q3=true->q3=true)/\(q3=true->q3=true)/\((bif q3 then q3 else false)=true->(q6/\q7)/\i*10+1<q5.length/\aT/\(q6/\q7)/\i*10+1<q5.length/\aT/\(q4->q4)/\(q4->q4)/\(q4->q6/\q7)/\(q4->q4)/\(q4->q4)/\(q4->i*10+8<q5.length)/\(q4->q8)/\(q4->q4)/\(q4->q4)/\(q4->q6/\q7)/\(q4->q4)/\(q4->q4)/\(q4->i*10+8<q5.length)/\(q4->q8)/\(q4->q4)/\(q4->q4)/\(q4->(q5.getD (i*10+8) (PV.bool false)).aB=(q5.getD (i*10+8) (PV.bool false)).aB/\(∃ iw,(q5.getD (i*10+8) (PV.bool false)).aB=St.ah iw)/\St.gU (cr (q5.getD (i*10+8) (PV.bool false)).aB)/\St.aD (cr (q5.getD (i*10+8) (PV.bool false)).aB)<n/\St.aD (cr (q5.getD (i*10+8) (PV.bool false)).aB)<=1000000)/\(q4->q4)/\(q4->q4)/\(q2->q2)/\(q2->q2)/\(q2->q6/\q7)/\(q2->q2)/\(q2->q2)/\(q2->i*10+9<q5.length)/\(q2->q9)/\(q2->q2)/\(q2->q2)/\(q2->q6/\q7)/\(q2->q2)/\(q2->q2)/\(q2->i*10+9<q5.length)/\(q2->q9)/\(q2->q2)/\(q2->q2)/\(q2->(q5.getD (i*10+9) (PV.bool false)).aB=(q5.getD (i*10+9) (PV.bool false)).aB/\(∃ iw,(q5.getD (i*10+9) (PV.bool false)).aB=St.ah iw)/\St.gU (cr (q5.getD (i*10+9) (PV.bool false)).aB)/\St.aD (cr (q5.getD (i*10+9) (PV.bool false)).aB)<n/\St.aD (cr (q5.getD (i*10+9) (PV.bool false)).aB)<=1000000)/\(q2->q2)/\(q2->q2)/\((bif bif !q1 then true else !true then true else !true)=true->aq [vB false]=bB true/\([]:List Ob)=[])/\((bif bif !q1 then true else !true then true else !true)=false->ax (sSl n) (aG (bB true) []) [0,1,0,1] (fr [(0,aP (W.rs (10:Nat) q5)),(1,aP (W.rs (10:Nat) q5)),(5,nI (IntKind.i64.wrap ((i:Int)+1)))]) (af.ofList [])))/\((bif q3 then q3 else false)=false->aq [vB (decide ((↑(q5.length/10):Int)=(↑(q5.length/10):Int)))]=bB true/\([]:List Ob)=[])) (by kernel_rfl)
   try simp only[sL]
   rw[AY];have bS:=St.ig L;refine⟨fun h1=>?_,fun _=>rfl⟩;have h1:i<L.length:=by omega
   have e1:(St.ah L).getD (i*10+1) (.bool false)=.int L[i].line:=St.cC h1 1 (by omega);have e8:(St.ah L).getD (i*10+8) (.bool false)=.aH 10 (St.ah L[i].body):=St.cC h1 8 (by omega);have e9:(St.ah L).getD (i*10+9) (.bool false)=.aH 10 (St.ah L[i].els):=St.cC h1 9 (by omega);rw[e1,e8,e9,wrap64 (n:=(i:Int)+1) (by omega) (by omega)];have hm:=St.iE (List.getElem_mem h1);obtain⟨p1,p2,p3⟩:=(St.Jb _).1 (St.E0 hP (List.getElem_mem h1));rw[St.fe] at hm;have hlt:i*10+10<=(St.ah L).length:=by rw[St.cI];omega
   have x8:cr (PV.aB (.aH 10 (St.ah L[i].body)))=L[i].body:=dK _;have x9:cr (PV.aB (.aH 10 (St.ah L[i].els)))=L[i].els:=dK _;rw[x8,x9];cases j with
   | zero=>omega
   | succ j =>
     have ih:=P5 n h L hP hL hl j (i+1) (by omega) (by omega)
     repeat' first|apply And.intro|intro _
     all_goals first
      | rfl
      | omega
      | exact⟨_,rfl⟩
      | exact p2
      | exact p3
      | exact ih
      | (exfalso;simp_all;done)
theorem sl_step(n:Nat)(h:yY 11 n):yY 11 (n+1):=by
 intro L hP hL hl;refine bh (aK:=[([0,1,0,1],[0,1,5])]) (Wl h) Tryz.func11 (by kernel_rfl) (au:=0) rfl (by kernel_rfl) 200 ?_;apply of_eq (q:=ax (cT Tryz.prog (gSl n) Tryz.f11 (0:Nat) [([0,1,0,1],[0,1,5])]) (aG (bB true) []) [0,1,0,1] (fr [(0,aP (W.rs (10:Nat) (St.ah L))),(1,aP (W.rs (10:Nat) (St.ah L))),(5,nI (0))]) (af.ofList [])) (by kernel_rfl)
 try simp only[sL,Int.reduceEq,Int.reduceNe,Nat.reduceAdd]
 exact P5 n h L hP (by omega) hl (L.length-0) 0 rfl (by omega)
theorem Wm:∀ n,yY 11 n
 | 0=>fun L _ h=>by omega
 | n+1=>sl_step n (Wm n)
noncomputable def gSm(n:Nat):bX:=[(10,P4 n),(31,Wi 1000001)]
theorem M4{n:Nat}(h:yY 10 n):bg Tryz.prog (gSm n):=ai (Fp (by kernel_rfl) h) (ai (MZ (Wk _)) aE)
abbrev smL:List (List Nat×List Nat):=[([0,1,0,1,1],[0,1,5]),([0,1,1,1,0,0,1,0,0,1,0,1,1],[0,1,5,6,7,8])]
noncomputable def Fq(n:Nat):aZ:=ct Tryz.prog (gSm n) Tryz.f10 0 smL [] []
abbrev obSt(x:St):Ob:=⟨54,[.c (.int .i64 x.k),.c (.int .i64 x.line),.c (.str x.name),.c (.rd .str x.params),.c (.int .i64 x.e.k),.c (.int .i64 x.e.n),.c (.str x.e.t),.c (.rs 4 (Ex.ah x.e.l)),.c (.rs 10 (St.ah x.body)),.c (.rs 10 (St.ah x.els))]⟩
theorem sm_in(n:Nat)(h:yY 10 n)(L:List St)(i:Nat)(x:St)(hx:x.params.length<=20001)(hi:i<=1000000)(ih:ax (Fq n) (aG (bB true) []) [0,1,0,1,1] (fr [(0,IE L),(1,IE L),(5,nI (i+1:Nat))]) (.ofList [])):∀(j k:Nat),j=x.params.length-k->k<=x.params.length->
 ax (Fq n) (aG (bB true) []) [0,1,1,1,0,0,1,0,0,1,0,1,1] (fr [(0,IE L),(1,IE L),(5,nI i),(6,.p (.c (.ptr 0 0))),(7,.p (.c (.ptr 1 0))),(8,nI k)]) (.ofList [obSt x,obSt x])
 | j,k,hj,hk=>by
   refine bD (M4 h) (by kernel_rfl) 400 ?_;apply of_eq (q:=let q1:=Ob.mk 54 [fI x.k,fI x.line,Fd.c (W.str x.name),Fd.c (W.rd D.str x.params),fI x.e.k,fI x.e.n,Fd.c (W.str x.e.t),Fd.c (W.rs (4:Nat) (Ex.ah x.e.l)),Fd.c (W.rs (10:Nat) (St.ah x.body)),Fd.c (W.rs (10:Nat) (St.ah x.els))];let q2:=aP (W.rs (10:Nat) (St.ah L));let q3:=decide (x.params.getD k (ByteArray.mk #[])=x.params.getD k (ByteArray.mk #[]));let q4:=(x.params.length:Int);(decide ((k:Int)<q4)=true->((0:Int)<=(k:Int)/\(k:Int)<q4)/\k<x.params.length/\((0:Int)<=(k:Int)/\(k:Int)<q4)/\k<x.params.length/\((!q3)=true->aq [vB false]=bB true/\([]:List Ob)=[])/\((!q3)=false->ax (Fq n) (aG (bB true) []) [0,1,1,1,0,0,1,0,0,1,0,1,1] (fr [(0,q2),(1,q2),(5,nI (i:Int)),(6,aR 0 0),(7,aR 1 0),(8,nI (IntKind.i64.wrap ((k:Int)+1)))]) (af.ofList [q1,q1])))/\(decide ((k:Int)<q4)=false->ax (Fq n) (aG (bB true) []) [0,1,0,1,1] (fr [(0,q2),(1,q2),(5,nI (IntKind.i64.wrap ((i:Int)+1)))]) (af.ofList []))) (by kernel_rfl)
   try simp only[sL]
   refine⟨fun h1=>⟨⟨by omega,h1⟩,by omega,⟨by omega,h1⟩,by omega,fun h=>absurd trivial h,fun _=>?_⟩,fun h1=>?_⟩
   . rw[wrap64 (n:=(k:Int)+1) (by omega) (by omega)];cases j with
     | zero=>omega
     | succ j=>exact sm_in n h L i x hx hi ih j (k+1) (by omega) (by omega)
   rw[wrap64 (n:=(i:Int)+1) (by omega) (by omega)];exact ih
theorem P6(n:Nat)(h:yY 10 n)(L:List St)(hP:St.gU L)(hL:St.aD L<=n)(hl:St.aD L<=1000000):∀(j i:Nat),j=L.length-i->i<=L.length->
 ax (Fq n) (aG (bB true) []) [0,1,0,1,1] (fr [(0,IE L),(1,IE L),(5,nI i)]) (.ofList [])
 | j, i, hj, hi => by
   refine bD (M4 h) (by kernel_rfl) 400 ?_;apply of_eq (q:=let q9:=(St.ah L);let cn:=(PV.str (ByteArray.mk #[])).like (q9.getD (i*10+1+1) (PV.bool false))=true;let cG:=(PV.strs []).like (q9.getD (i*10+1+1+1) (PV.bool false))=true;let dD:=(PV.int (0:Int)).like (q9.getD (i*10+1) (PV.bool false))=true;let bF:=(PV.int (0:Int)).like (q9.getD (i*10) (PV.bool false))=true;let cg:=(i*10+1+1+1+1+1+1+1+1+1);let eH:=(i*10+1+1+1+1+1+1+1+1);let cN:=i*10+10<=q9.length;let dG:=(i*10+1+1+1+1+1+1+1);let d9:=(A.p (V.agg (jD q9 (i*10) (shapes ((Fq n).env (aG (bB true) [])).P (54:Nat))).snd));let dH:=(i*10+1+1+1+1+1+1);let eC:=(i*10+1+1+1+1+1);let eO:=(i*10+1+1+1+1);let q1:=decide ((↑(q9.getD (i*10+1+1+1) (PV.bool false)).mg.length:Int)=(↑(q9.getD (i*10+1+1+1) (PV.bool false)).mg.length:Int));let q2:=decide ((q9.getD (i*10) (PV.bool false)).asInt=(q9.getD (i*10) (PV.bool false)).asInt);let q3:=decide ((q9.getD (i*10+1+1) (PV.bool false)).bM=(q9.getD (i*10+1+1) (PV.bool false)).bM);let q4:=(R1.pure (Cd.t.and ((Cd.p (cN)).and (jD q9 (i*10) (shapes ((Fq n).env (aG (bB true) [])).P (54:Nat))).fst)) d9).v=(R1.pure (Cd.t.and ((Cd.p (cN)).and (jD q9 (i*10) (shapes ((Fq n).env (aG (bB true) [])).P (54:Nat))).fst)) d9).v;let q8:=(bif bif bif bif !q2 then true else !q3 then true else !q1 then true else !true then true else !true)=false;let aT:=(bif bif bif !q2 then true else !q3 then true else !q1 then true else !true)=false;let aI:=(PV.aH (10:Nat) []).like (q9.getD cg (PV.bool false))=true;let aY:=(PV.aH (10:Nat) []).like (q9.getD eH (PV.bool false))=true;let bt:=(PV.str (ByteArray.mk #[])).like (q9.getD dH (PV.bool false))=true;let cu:=(PV.aH (4:Nat) []).like (q9.getD dG (PV.bool false))=true;let cB:=Ob.mk 54 [fI (q9.getD (i*10) (PV.bool false)).asInt,fI (q9.getD (i*10+1) (PV.bool false)).asInt,Fd.c (W.str (q9.getD (i*10+1+1) (PV.bool false)).bM),Fd.c (W.rd D.str (q9.getD (i*10+1+1+1) (PV.bool false)).mg),fI (q9.getD eO (PV.bool false)).asInt,fI (q9.getD eC (PV.bool false)).asInt,Fd.c (W.str (q9.getD dH (PV.bool false)).bM),Fd.c (W.rs (4:Nat) (q9.getD dG (PV.bool false)).aB),Fd.c (W.rs (10:Nat) (q9.getD eH (PV.bool false)).aB),Fd.c (W.rs (10:Nat) (q9.getD cg (PV.bool false)).aB)];let cF:=(bif bif !q2 then true else !q3 then true else !q1)=false;let bw:=(PV.int (0:Int)).like (q9.getD eC (PV.bool false))=true;let cL:=(PV.int (0:Int)).like (q9.getD eO (PV.bool false))=true;let cQ:=(bif !q2 then true else !q3)=false;let dN:=(!q2)=false;let q5:=(aT->aT)/\(aT->aT)/\(aT->aT)/\(aT->aT)/\(aT->(q9.getD eH (PV.bool false)).aB=(q9.getD eH (PV.bool false)).aB/\(∃ iw,(q9.getD eH (PV.bool false)).aB=St.ah iw)/\St.gU (cr (q9.getD eH (PV.bool false)).aB)/\St.aD (cr (q9.getD eH (PV.bool false)).aB)<n/\St.aD (cr (q9.getD eH (PV.bool false)).aB)<=1000000)/\(aT->aT)/\(aT->aT)/\(q8->q8)/\(q8->q8)/\(q8->q8)/\(q8->q8)/\(q8->(q9.getD cg (PV.bool false)).aB=(q9.getD cg (PV.bool false)).aB/\(∃ iw,(q9.getD cg (PV.bool false)).aB=St.ah iw)/\St.gU (cr (q9.getD cg (PV.bool false)).aB)/\St.aD (cr (q9.getD cg (PV.bool false)).aB)<n/\St.aD (cr (q9.getD cg (PV.bool false)).aB)<=1000000)/\(q8->q8)/\(q8->q8)/\((bif bif bif bif bif !q2 then true else !q3 then true else !q1 then true else !true then true else !true then true else !true)=true->aq [vB false]=bB true/\([]:List Ob)=[])/\((bif bif bif bif bif !q2 then true else !q3 then true else !q1 then true else !true then true else !true then true else !true)=false->ax (Fq n) (aG (bB true) []) [0,1,1,1,0,0,1,0,0,1,0,1,1] (fr [(0,aP (W.rs (10:Nat) q9)),(1,aP (W.rs (10:Nat) q9)),(5,nI (i:Int)),(6,aR 0 0),(7,aR 1 0),(8,nI (0))]) (af.ofList [cB,cB]));let q6:=bt/\cu/\aY/\aI/\q4/\cN/\bF/\dD/\cn/\cG/\cL/\bw/\bt/\cu/\aY/\aI/\q4/\cN/\bF/\dD/\cn/\cG/\cL/\bw/\bt/\cu/\aY/\aI/\q4/\cN/\bF/\dD/\cn/\cG/\cL/\bw/\bt/\cu/\aY/\aI/\q4/\(dN->dN)/\(dN->dN)/\(dN->dN)/\(dN->dN)/\(dN->dN)/\(cQ->cQ)/\(cQ->cQ)/\(cQ->cQ)/\(cQ->cQ)/\(cQ->cQ)/\(cQ->cQ)/\(cQ->cQ)/\(cF->cF)/\(cF->cF)/\(cF->cF)/\(cF->cF)/\(cF->(q9.getD eO (PV.bool false)).asInt=(q9.getD eO (PV.bool false)).asInt/\(q9.getD eC (PV.bool false)).asInt=(q9.getD eC (PV.bool false)).asInt/\(q9.getD dH (PV.bool false)).bM=(q9.getD dH (PV.bool false)).bM/\(q9.getD dG (PV.bool false)).aB=(q9.getD dG (PV.bool false)).aB/\(∃ iw,(q9.getD dG (PV.bool false)).aB=Ex.ah iw)/\Ex.aD (cj (q9.getD dG (PV.bool false)).aB)<1000001/\Ex.aD (cj (q9.getD dG (PV.bool false)).aB)<=1000000)/\(cF->cF)/\(cF->cF)/\q5;let q7:=cN/\bF/\dD/\cn/\cG/\cL/\bw/\bt/\cu/\aY/\aI/\((0:Int)<=(i:Int)/\i*10<q9.length)/\cN/\bF/\dD/\cn/\cG/\cL/\bw/\bt/\cu/\aY/\aI/\cN/\bF/\dD/\cn/\cG/\cL/\bw/\bt/\cu/\aY/\aI/\q4/\cN/\bF/\dD/\cn/\cG/\cL/\bw/\bt/\cu/\aY/\aI/\q4/\cN/\bF/\dD/\cn/\cG/\cL/\bw/\bt/\cu/\aY/\aI/\q4/\cN/\bF/\dD/\cn/\cG/\cL/\bw/\q6;(decide ((i:Int)<(↑(q9.length/10):Int))=true->(((0:Int)<=(i:Int)/\i*10<q9.length)/\q7)/\((0:Int)<=(i:Int)/\i*10<q9.length)/\q7)/\(decide ((i:Int)<(↑(q9.length/10):Int))=false->aq [vB true]=bB true/\([]:List Ob)=[])) (by kernel_rfl)
   try simp only[sL]
   rw[AY];have bS:=St.ig L;refine⟨fun h1=>?_,fun _=>rfl⟩;have h1:i<L.length:=by omega
   have e0:(St.ah L).getD (i*10) (.bool false)=.int L[i].k:=St.cC h1 0 (by omega);have e1:(St.ah L).getD (i*10+1) (.bool false)=.int L[i].line:=St.cC h1 1 (by omega);have e2:(St.ah L).getD (i*10+1+1) (.bool false)=.str L[i].name:=St.cC h1 2 (by omega);have e3:(St.ah L).getD (i*10+1+1+1) (.bool false)=.strs L[i].params:=St.cC h1 3 (by omega);have e4:(St.ah L).getD (i*10+1+1+1+1) (.bool false)=.int L[i].e.k:=St.cC h1 4 (by omega);have e5:(St.ah L).getD (i*10+1+1+1+1+1) (.bool false)=.int L[i].e.n:=St.cC h1 5 (by omega);have e6:(St.ah L).getD (i*10+1+1+1+1+1+1) (.bool false)=.str L[i].e.t:=St.cC h1 6 (by omega);have e7:(St.ah L).getD (i*10+1+1+1+1+1+1+1) (.bool false)=.aH 4 (Ex.ah L[i].e.l):=St.cC h1 7 (by omega);have e8:(St.ah L).getD (i*10+1+1+1+1+1+1+1+1) (.bool false)=.aH 10 (St.ah L[i].body):=St.cC h1 8 (by omega);have e9:(St.ah L).getD (i*10+1+1+1+1+1+1+1+1+1) (.bool false)=.aH 10 (St.ah L[i].els):=St.cC h1 9 (by omega);rw[e0,e1,e2,e3,e4,e5,e6,e7,e8,e9];have hm:=St.iE (List.getElem_mem h1);obtain⟨p1,p2,p3⟩:=(St.Jb _).1 (St.E0 hP (List.getElem_mem h1));rw[St.fe] at hm;have hlt:i*10+10<=(St.ah L).length:=by rw[St.cI];omega
   have x7:cj (PV.aB (.aH 4 (Ex.ah L[i].e.l)))=L[i].e.l:=dz _;have x8:cr (PV.aB (.aH 10 (St.ah L[i].body)))=L[i].body:=dK _;have x9:cr (PV.aB (.aH 10 (St.ah L[i].els)))=L[i].els:=dK _;rw[x7,x8,x9];have hes:=Ex.fe L[i].e;cases j with
   | zero=>omega
   | succ j =>
     have ih:=P6 n h L hP hL hl j (i+1) (by omega) (by omega)
     repeat' first|apply And.intro|intro _
     all_goals first
      | rfl
      | omega
      | exact⟨_,rfl⟩
      | exact p2
      | exact p3
      | exact sm_in n h L i L[i] p1 (by omega) ih _ 0 rfl (by omega)
      | (exfalso;simp_all;done)
theorem sm_step(n:Nat)(h:yY 10 n):yY 10 (n+1):=by
 intro L hP hL hl;refine bh (aK:=smL) (M4 h) Tryz.func10 (by kernel_rfl) (au:=0) rfl (by kernel_rfl) 200 ?_;apply of_eq (q:=let q1:=(↑((St.ah L).length/10):Int);((!decide (q1=q1))=true->aq [vB false]=bB true/\([]:List Ob)=[])/\((!decide (q1=q1))=false->ax (cT Tryz.prog (gSm n) Tryz.f10 (0:Nat) smL) (aG (bB true) []) [0,1,0,1,1] (fr [(0,aP (W.rs (10:Nat) (St.ah L))),(1,aP (W.rs (10:Nat) (St.ah L))),(5,nI (0))]) (af.ofList []))) (by kernel_rfl)
 try simp only[sL]
 exact⟨fun h=>absurd trivial h,fun _=>P6 n h L hP (by omega) hl (L.length-0) 0 rfl (by omega)⟩
theorem Wn:∀ n,yY 10 n
 | 0=>fun L _ h=>by omega
 | n+1=>sm_step n (Wn n)
theorem one_sem(k m:Int)(t:ByteArray)(l:List PV):bp Tryz.prog 12 [CQ k m t l] [] (.p (.c (.rs 10 [.int 2,.int 0,.str eS,.strs [],.int k,.int m,.str t,.aH 4 l,.aH 10 [],.aH 10 []]))) []:=by
 refine o8 (aK:=[]) (eu:=[]) (fz:=[some .pv]) aE Tryz.func12 (by kernel_rfl) (au:=0) rfl (by kernel_rfl) 200 ?_;apply of_eq (q:=aq [V.c (PV.aH (10:Nat) [PV.int (2:Int),PV.int (0:Int),PV.str (ByteArray.mk #[]),PV.strs [],PV.int k,PV.int m,PV.str t,PV.aH (4:Nat) l,PV.aH (10:Nat) [],PV.aH (10:Nat) []]).w]=aP (W.rs (10:Nat) [PV.int (2:Int),PV.int (0:Int),PV.str eS,PV.strs [],PV.int k,PV.int m,PV.str t,PV.aH (4:Nat) l,PV.aH (10:Nat) [],PV.aH (10:Nat) []])/\([]:List Ob)=[]) (by kernel_rfl)
 try simp only[sL]
 rfl
section
variable {s:ByteArray} {l:List Tok}
theorem St.DT{l:List St}{x:St}(h:St.gU l)(hx:x.pk):St.gU (l++[x]):=by
 induction l with
 | nil=>rw[List.nil_append,St.qQ];exact⟨hx,St.jo⟩
 | cons y l ih =>
   rw[St.qQ] at h;rw[List.cons_append,St.qQ];exact⟨h.1,ih h.2⟩
theorem Wo{br:pL}(h:∀ i e a,St.gU (br i e a).v)(ins:Bool)(i e a:Int):(mr s l br ins i e a).v.pk:=by
 have k2:∀(k line:Int)(name:ByteArray)(q:RR Ex),(Bf k line name q).v.pk:=fun k line name q=>(St.BX ..).2 ⟨Nat.zero_le _,St.jo,St.jo⟩;have k3:∀(k line:Int)(name:ByteArray)(x:Ex)(b:RR (List St)),St.gU b.v->(ME k line name x b).v.pk:=fun k line name x b hb=>(St.BX ..).2 ⟨Nat.zero_le _,hb,St.jo⟩;unfold mr;cases bZ l e i AQ with
 | true=>exact k2 _ _ _ _
 | false =>
 cases bZ l e i H8 with
 | true =>
   simp only[cond_true,cond_false];unfold MF;cases bZ l (mV br (fY s l (i+1) e a)).e (mV br (fY s l (i+1) e a)).i AR with
   | true=>exact(St.BX ..).2 ⟨Nat.zero_le _,h _ _ _,h _ _ _⟩
   | false=>exact(St.BX ..).2 ⟨Nat.zero_le _,h _ _ _,St.jo⟩
 | false =>
 cases bZ l e i AU with
 | true=>exact k3 _ _ _ _ _ (h _ _ _)
 | false =>
 cases bZ l e i AV with
 | true=>exact k3 _ _ _ _ _ (h _ _ _)
 | false =>
 cases ins&&bZ l e i yg with
 | true=>exact k2 _ _ _ _
 | false=>exact k2 _ _ _ _
theorem P7{st:Int->Int->Int->RR St}(h:∀ i e a,(st i e a).v.pk):∀(k:Nat)(acc:List St)(i e a:Int),St.gU acc->St.gU (sw s l st k acc i e a).v
 | 0,acc,i,e,a,ha=>ha
 | k+1,acc,i,e,a,ha=>by
   unfold sw;cases decide (e=0) with
   | false=>exact ha
   | true =>
   cases bZ l e i Lu with
   | true=>exact ha
   | false=>exact P7 h k _ _ _ _ (St.DT ha (h _ _ _))
theorem M5(ins:Bool):∀(n:Nat)(i e a:Int),St.gU (gE s l ins n i e a).v
 | 0,i,e,a=>St.jo
 | n+1,i,e,a=>P7 (fun i e a=>Wo (M5 ins n) ins i e a) _ _ _ _ _ St.jo
theorem P8:∀(k:Nat)(acc:List ByteArray)(i e a:Int),(vf s l k acc i e a).v.length<=acc.length+k
 | 0,acc,i,e,a=>Nat.le_refl _
 | k + 1, acc, i, e, a => by
   unfold vf;cases decide (e=0) with
   | false=>show acc.length<=_;omega
   | true =>
   cases bZ l (iA s l acc (gV s l i e a)).e (iA s l acc (gV s l i e a)).i ic with
   | true =>
     have:=P8 k (acc++[nT l e i]) ((iA s l acc (gV s l i e a)).i+1) (iA s l acc (gV s l i e a)).e (iA s l acc (gV s l i e a)).a;rw[List.length_append,List.length_singleton] at this;simp only[cond_true];omega
   | false=>show (acc++[nT l e i]).length<=_;rw[List.length_append,List.length_singleton];omega
theorem dfR_pk{br:pL}(h:∀ i e a,St.gU (br i e a).v)(hl:l.length<=20000)(ns:List ByteArray)(line i e a:Int):(og s l br ns line i e a).v.pk:=by
 refine(St.BX ..).2 ⟨?_,h _ _ _,St.jo⟩;unfold Fh;generalize kr s l eY (iA s l ns (gV s l i e a))=q;cases bZ l q.e q.i fj with
 | true=>exact Nat.zero_le _
 | false =>
   refine Nat.le_trans (P8 _ _ _ _ _) ?_;simp only[List.length_nil];omega
theorem M6(hl:l.length<=20000):∀(k:Nat)(acc:List St)(ns:List ByteArray)(i e a:Int),St.gU acc->St.gU (vg s l (mW s l) (Iw s l) k acc ns i e a).v
 | 0,acc,ns,i,e,a,ha=>ha
 | k+1,acc,ns,i,e,a,ha=>by
   unfold vg;cases decide (e=0)&&decide (i<l.length) with
   | false=>exact ha
   | true =>
   cases bZ l e i Dw with
   | true=>exact M6 hl k _ _ _ _ _ (St.DT ha (dfR_pk (M5 true _) hl _ _ _ _ _))
   | false=>exact M6 hl k _ _ _ _ _ (St.DT ha (Wo (M5 false _) _ _ _ _))
end
theorem Wp(s:ByteArray):St.gU (kg s).1:=by
 rw[<-Wh];unfold wV;split;unfold ld;split
 . cases rz (Fo s).v with
   | true=>exact St.jo
   | false=>exact M6 (jc s) _ _ _ _ _ _ St.jo
 exact St.jo;exact St.jo
theorem paS_siz(s:ByteArray):St.aD (kg s).1<=20000:=by
 unfold kg;cases decide ((iq s).2.1=0)&&mT (iq s).1 with
 | true=>show St.aD []<=_;rw[St.dX];omega
 | false=>exact O6 s
theorem paX_siz(s:ByteArray):(lH s).1.cP<=20000:=by
 unfold lH;cases decide ((fH s).2.1=0)&&decide (200<(fH s).1.deep) with
 | true=>show gI.cP<=_;unfold gI;rw[qh,Ex.dX];omega
 | false=>exact O7 s
noncomputable def cPa:cO:=iU .str fun s=>(.p (ByteArray.size s<=1000000),.bC [.c (.rs 10 (St.ah (kg s).1)),fV (kg s).2.1 (kg s).2.2],[])
noncomputable def cPx:cO:=iU .str fun s=>(.p (ByteArray.size s<=1000000),.bC [exV (lH s).1,fV (lH s).2.1 (lH s).2.2],[])
theorem cPa_ok:bq Tryz.prog 6 cPa:=eB (by kernel_rfl) fun s h=>Ij s (Fk s h) h
theorem cPx_ok:bq Tryz.prog 8 cPx:=eB (by kernel_rfl) fun s h=>LV s h
theorem cRa_ok:bq Tryz.prog 7 cPa:=eB (by kernel_rfl) fun s h=>by
 have:=pR_sem s h;rw[Wh] at this;exact this
theorem cRx_ok:bq Tryz.prog 9 cPx:=eB (by kernel_rfl) fun s h=>by
 have:=xR_sem s h;rw[xrA_eq] at this;exact this
def Sq:cO:={ cE:=[],f:=fun args ak=>match args,ak with
 | [.p (.agg [.int .i64 k,.int .i64 m,.str t,.rs q l])],[]=>bif Nat.beq q 4 then some (.t,.p (.c (.rs 10 [.int 2,.int 0,.str eS,.strs [],.int k,.int m,.str t,.aH 4 l,.aH 10 [],.aH 10 []])),[]) else none
 | _,_=>none }
theorem Zt:bq Tryz.prog 12 Sq:=by
 refine⟨by kernel_rfl,fun args ak c r aX e hc=>?_⟩;simp only[Sq] at e;split at e;obtain⟨hb,e1⟩:=aj.aC e;clear e;cases Nat.eq_of_beq_eq_true hb;cases e1;exact one_sem _ _ _ _;cases e
def Ce(s:ByteArray):Bool:=decide (3000<(s.size:Int))&&decide ((s.size:Int)<=20000)||decide (21000<(s.size:Int))
theorem Zu(s:ByteArray):bp Tryz.prog 4 [sS s] [] (bB (Ce s)) []:=by
 refine bh (aK:=[]) aE Tryz.func4 (by kernel_rfl) (au:=0) rfl (by kernel_rfl) 100 ?_;apply of_eq (q:=let q2:=decide ((3000:Int)<(s.size:Int));let q1:=(bif q2 then decide ((s.size:Int)<=20000) else false)=false;(q2=true->q2=true)/\(q2=true->q2=true)/\(q2=true->q2=true)/\(q1->q1)/\(q1->q1)/\(q1->q1)/\aq [vB (bif bif q2 then decide ((s.size:Int)<=20000) else false then true else decide ((21000:Int)<(s.size:Int)))]=bB (Ce s)/\([]:List Ob)=[]) (by kernel_rfl)
 try simp only[sL]
 rfl
def Wq:cO:=iU .str fun s=>(.t,bB (Ce s),[])
theorem Wr:bq Tryz.prog 4 Wq:=eB (by kernel_rfl) fun s _=>Zu s
def Fs:cO:=Al (.t,bB true,[])
noncomputable def gLaw:bX:=[(4,Wq),(5,Fs),(6,cPa),(7,cPa),(8,cPx),(9,cPx),(10,P4 1000001),(11,P4 1000001),(12,Sq)]
theorem gLaw_ok(h:bq Tryz.prog 5 Fs):bg Tryz.prog gLaw:=ai Wr (ai h (ai cPa_ok (ai cRa_ok (ai cPx_ok (ai cRx_ok (ai (Fp (by kernel_rfl) (Wn _)) (ai (Fp (by kernel_rfl) (Wm _)) (ai Zt aE))))))))
theorem Sr(ha:bq Tryz.prog 5 Fs)(s:ByteArray):bp Tryz.prog 3 [sS s] [] (bB true) []:=by
 refine bh (aK:=[]) (gLaw_ok ha) Tryz.func3 (by kernel_rfl) (au:=0) rfl (by kernel_rfl) 300 ?_;apply of_eq (q:=let q5:=(∃ L,St.ah (kg s).fst=St.ah L)/\St.gU (cr (St.ah (kg s).fst))/\St.aD (cr (St.ah (kg s).fst))<1000001/\St.aD (cr (St.ah (kg s).fst))<=1000000;let q6:=(bif true then true else false)=true;let q7:=decide ((kg s).snd.fst=(kg s).snd.fst);let q8:=decide ((kg s).snd.snd=(kg s).snd.snd);let aT:=(lH s);let aI:=(10:Nat);let q1:=(bif bif true then true else false then q7&&(q8&&true) else false)=true;let q2:=(bif bif bif true then true else false then q7&&(q8&&true) else false then true else false)=true;let q4:=(bif bif bif bif true then true else false then q7&&(q8&&true) else false then true else false then decide (aT.snd.fst=aT.snd.fst)&&(decide (aT.snd.snd=aT.snd.snd)&&true) else false)=true;let q9:=(Ex.ah aT.fst.l);let q3:=(V.agg (List.take (4:Nat) (List.drop (0:Nat) (Ob.mk 32 (fI aT.fst.k::fI aT.fst.n::Fd.c (W.str aT.fst.t)::Fd.c (W.rs (4:Nat) q9)::sO._f [] PUnit.unit (List.append._f [] PUnit.unit []))).cells)));(Ce s=true->aq [vB true]=bB true/\([]:List Ob)=[])/\(Ce s=false->s.size<=1000000/\s.size<=1000000/\s.size<=1000000/\s.size<=1000000/\(St.ah (kg s).fst=St.ah (kg s).fst/\q5)/\(true=true->true=true)/\(true=true->true=true)/\(true=true->St.ah (kg s).fst=St.ah (kg s).fst/\q5)/\(true=true->true=true)/\(q6->q6)/\(q6->q6)/\(q6->q6)/\(q1->q1)/\(q1->q1)/\(q1->q1)/\(q1->q1)/\(q1->[PV.int (2:Int),PV.int (0:Int),PV.str eS,PV.strs [],PV.int aT.fst.k,PV.int aT.fst.n,PV.str aT.fst.t,PV.aH (4:Nat) q9,PV.aH aI [],PV.aH aI []]=[PV.int (2:Int),PV.int (0:Int),PV.str eS,PV.strs [],PV.int aT.fst.k,PV.int aT.fst.n,PV.str aT.fst.t,PV.aH (4:Nat) q9,PV.aH aI [],PV.aH aI []]/\(∃ L,[PV.int (2:Int),PV.int (0:Int),PV.str eS,PV.strs [],PV.int aT.fst.k,PV.int aT.fst.n,PV.str aT.fst.t,PV.aH (4:Nat) q9,PV.aH aI [],PV.aH aI []]=St.ah L)/\St.gU (cr [PV.int (2:Int),PV.int (0:Int),PV.str eS,PV.strs [],PV.int aT.fst.k,PV.int aT.fst.n,PV.str aT.fst.t,PV.aH (4:Nat) q9,PV.aH aI [],PV.aH aI []])/\St.aD (cr [PV.int (2:Int),PV.int (0:Int),PV.str eS,PV.strs [],PV.int aT.fst.k,PV.int aT.fst.n,PV.str aT.fst.t,PV.aH (4:Nat) q9,PV.aH aI [],PV.aH aI []])<1000001/\St.aD (cr [PV.int (2:Int),PV.int (0:Int),PV.str eS,PV.strs [],PV.int aT.fst.k,PV.int aT.fst.n,PV.str aT.fst.t,PV.aH (4:Nat) q9,PV.aH aI [],PV.aH aI []])<=1000000)/\(q1->q1)/\(q2->q2)/\(q2->q2)/\(q2->q2)/\(q4->q4)/\A.cond (q1) q3=A.cond (q1) q3/\A.cond (q1) q3=A.cond (q1) q3/\aq [vB (bif bif bif bif bif true then true else false then q7&&(q8&&true) else false then true else false then decide (aT.snd.fst=aT.snd.fst)&&(decide (aT.snd.snd=aT.snd.snd)&&true) else false then true else false)]=bB true/\([]:List Ob)=[])) (by kernel_rfl)
 try simp only[sL]
 refine⟨fun _=>rfl,fun h=>?_⟩;have hs:s.size<=1000000:=by
  unfold Ce at h;simp only[Bool.or_eq_false_iff,Bool.and_eq_false_iff,decide_eq_false_iff_not] at h;omega
 have hc:[PV.int 2,PV.int 0,PV.str eS,PV.strs [],PV.int (lH s).1.k,PV.int (lH s).1.n,PV.str (lH s).1.t,PV.aH 4 (Ex.ah (lH s).1.l),PV.aH 10 [],PV.aH 10 []]=St.ah [.mk 2 0 eS [] (lH s).1 [] []]:=by
  rw[St.fA,St.bJ];simp only[St.k,St.line,St.name,St.params,St.e,St.body,St.els,St.bJ,List.append_nil]
 rw[hc,dK,dK];have h1:=paS_siz s;have h2:=paX_siz s;have h3:St.aD [.mk 2 0 eS [] (lH s).1 [] []]=(lH s).1.cP+1:=by
  rw[St.eK,St.dX,St.cP,St.dX]
 have h4:St.gU [.mk 2 0 eS [] (lH s).1 [] []]:=by
  rw[St.qQ,St.BX];exact⟨⟨Nat.zero_le _,St.jo,St.jo⟩,St.jo⟩
 refine⟨hs,hs,hs,hs,⟨⟨_,rfl⟩,Wp s,by omega,by omega⟩,fun _=>⟨⟨_,rfl⟩,Wp s,by omega,by omega⟩,fun _=>⟨⟨_,rfl⟩,h4,by omega,by omega⟩,?_⟩;simp;rfl
end Go.Proofs.YtaplgnhojknpiaaGreatDoor
