/- Tokens: what the program hands on is what the reference finds. -/
import Derived.Test.YtaplgnhojknpiaaGreatDoorSplit1
namespace Go.Proofs.YtaplgnhojknpiaaGreatDoor
open Go.aU
set_option maxRecDepth 100000
theorem Lf(p:Int->Bool)(s:ByteArray):∀(k i:Nat),k=s.size-i->∀ j,i<=j->j<bn p s i->p (bV s j)=true
 | k,i,hk,j,h1,h2=>by
   by_cases h:i<s.size/\p (bV s i)=true
   . rw[iy h] at h2;cases k with
     | zero=>omega
     | succ k =>
       by_cases hj:j=i;subst hj;exact h.2;exact Lf p s k (i+1) (by omega) j (by omega) h2
   rw[kM h] at h2;omega
theorem Oo{x:ByteArray}:(pq x=true∨1000000000000000<tL x)↔1000000000000000<jU x.data.toList 0:=by
 unfold pq tL;rw[decide_eq_true_eq];split<;>omega
theorem at_val{x:ByteArray}(h:jU x.data.toList 0<=1000000000000000):tL x=(jU x.data.toList 0:Int):=by
 unfold tL;rw[if_pos (by omega)]
theorem Oq(s:ByteArray)(hs:s.size<=20000)(l:Nat)(b:Bool)(v:Value):∀(k i:Nat),s.size<=k+i->i<=s.size->(b=decide ((bE s k i).2.1≠0))->v=aV (bE s k i).2.1 (bE s k i).2.2->
 ax (nr b v) (fun _ _=>b=false) [0,1] (fr (Om l i)) (UD l s ((bE s k i).1.map yT))
 | 0,i,hk,hi,hb,hv=>by
   refine bD EJ (by kernel_rfl) 300 ?_;apply of_eq (q:=let q0:=IntKind.i64.wrap;let q2:=(s.extract i (bn di s i));let q5:=(R1.pure (Cd.t.and Cd.t) (aP (W.str s))).v=(R1.pure (Cd.t.and Cd.t) (aP (W.str s))).v;let q7:=(i:Int);let q9:=(s.extract i (bn eN s i));let aT:=decide (bV s i=48)=true;let aI:=(bif true then pq q2 else !pq q2)=false;let aY:=(s.size:Int);let bt:=(↑(bn eN s i):Int);let cu:=Value.iface (106:Nat) (Value.agg #[Value.int .i64 (4:Int),Value.int .i64 q7])=v;let cB:=(q0 (q7+1));let cF:=(↑(bn di s i):Int);let bw:=decide (bV s i=32);let cn:=(R1.pure (Cd.t.and Cd.t) (aP (W.str q9))).v=(R1.pure (Cd.t.and Cd.t) (aP (W.str q9))).v;let cL:=(bE s (0:Nat) i);let dD:=(0:Int)<=q7;let bF:=aP (W.yield l);let q1:=(bn eF s cB.toNat);let q4:=(List.map yT cL.fst);let q6:=(af.dJ (some (Gh.mk l D.pv.sl q4.tail true)) [Ob.mk 9 [Fd.c (W.str s)]]);let q8:=List.map yT cL.fst=[];let cG:=(af.dJ (some (Gh.mk l D.pv.sl q4 true)) [Ob.mk 9 [Fd.c (W.str s)]]);let cQ:=decide ((200:Int)<(↑(s.extract cB.toNat q1).size:Int));let cg:=(↑q1:Int);let q3:=decide (cg=aY);(decide (q7<aY)=true->(dD/\q7<aY)/\(bw=false->bw=false)/\(bw=false->bw=false)/\((bif bw then true else decide (bV s i=10))=true->ax (nr b v) (fun x x_1=>b=false) [0,1] (fr [(0,bF),(1,aR 0 0),(3,nI cB)]) cG)/\((bif bw then true else decide (bV s i=10))=false->(decide (bV s i=35)=true->(s.size<=1000000/\dD/\q7<=aY)/\ax (nr b v) (fun x x_1=>b=false) [0,1] (fr [(0,bF),(1,aR 0 0),(3,nI (↑(bn iV s i):Int))]) cG)/\(decide (bV s i=35)=false->(fK (bV s i)=true->(s.size<=1000000/\dD/\q7<=aY)/\(dD/\q7<=bt/\bt<=aY)/\q5/\q5/\(13:Nat)<=1000000/\cn/\cn/\(dm nk q9=true->(l=l/\List.map yT cL.fst≠[]/\q4.head? = some [PV.int q7,PV.int (2:Int),PV.str q9,PV.int (0:Int),PV.int q7])/\ax (nr b v) (fun x x_1=>b=false) [0,1] (fr [(0,bF),(1,aR 0 0),(3,nI bt)]) q6)/\(dm nk q9=false->(decide ((20:Int)<q0 (bt-q7))=true->(b=true/\cu)/\q8)/\(decide ((20:Int)<q0 (bt-q7))=false->(l=l/\List.map yT cL.fst≠[]/\q4.head? = some [PV.int q7,PV.int (1:Int),PV.str q9,PV.int (0:Int),PV.int q7])/\ax (nr b v) (fun x x_1=>b=false) [0,1] (fr [(0,bF),(1,aR 0 0),(3,nI bt)]) q6)))/\(fK (bV s i)=false->(di (bV s i)=true->(s.size<=1000000/\dD/\q7<=aY)/\(dD/\q7<=cF/\cF<=aY)/\(x6 q2.data.toList/\(1:Nat)<=q2.size/\q2.size<=1000000)/\(aT->aT)/\(aT->aT)/\(aT->aT)/\(aT->aT)/\((bif decide (bV s i=48) then decide (q0 (q7+1)<cF) else false)=true->(b=true/\Value.iface (106:Nat) (Value.agg #[Value.int .i64 (11:Int),Value.int .i64 q7])=v)/\q8)/\((bif decide (bV s i=48) then decide (q0 (q7+1)<cF) else false)=false->(aI->aI)/\(aI->aI)/\((bif bif true then pq q2 else !pq q2 then true else decide ((1000000000000000:Int)<tL q2))=true->(b=true/\Value.iface (106:Nat) (Value.agg #[Value.int .i64 (2:Int),Value.int .i64 q7])=v)/\q8)/\((bif bif true then pq q2 else !pq q2 then true else decide ((1000000000000000:Int)<tL q2))=false->(l=l/\List.map yT cL.fst≠[]/\q4.head? = some [PV.int q7,PV.int (3:Int),PV.str (ByteArray.mk #[]),PV.int (tL q2),PV.int q7])/\ax (nr b v) (fun x x_1=>b=false) [0,1] (fr [(0,bF),(1,aR 0 0),(3,nI cF)]) q6)))/\(di (bV s i)=false->(decide (bV s i=34)=true->(s.size<=1000000/\(0:Int)<=q0 (q7+1)/\q0 (q7+1)<=aY)/\(q3=false->q3=false)/\(q3=false->q3=false)/\(q3=false->(0:Int)<=cg/\cg<aY)/\(q3=false->q3=false)/\(q3=false->q3=false)/\((bif q3 then true else !decide (bV s q1=34))=true->(b=true/\Value.iface (106:Nat) (Value.agg #[Value.int .i64 (11:Int),Value.int .i64 cg])=v)/\q8)/\((bif q3 then true else !decide (bV s q1=34))=false->((0:Int)<=q0 (q7+1)/\q0 (q7+1)<=cg/\cg<=aY)/\q5/\q5/\(cQ=true->(b=true/\cu)/\q8)/\(cQ=false->(l=l/\List.map yT cL.fst≠[]/\q4.head? = some [PV.int q7,PV.int (4:Int),PV.str (s.extract cB.toNat q1),PV.int (0:Int),PV.int q7])/\ax (nr b v) (fun x x_1=>b=false) [0,1] (fr [(0,bF),(1,aR 0 0),(3,nI (q0 (cg+1)))]) q6)))/\(decide (bV s i=34)=false->ax (nr b v) (fun x x_1=>b=false) [0,1,0,1,1,1,1,1,1,1,1,1,1,0,0,1,1,1,0,1,0,0,1] (fr [(0,bF),(1,aR 0 0),(3,nI q7),(6,aR 1 0),(21,aP (W.rd D.str gL)),(22,nI (↑(21:Nat):Int)),(23,nI (0))]) (af.dJ (some (Gh.mk l D.pv.sl q4 true)) [Ob.mk 9 [Fd.c (W.str s)],Ob.mk 78 [fI (0),Fd.c (W.str (ByteArray.mk #[])),fI (0),fI q7]])))))))/\(decide (q7<aY)=false->q8/\b=false)) (by kernel_rfl)
   try simp only[sL]
   exact⟨fun h=>by omega,fun h=>⟨rfl,by rw[hb];rfl⟩⟩
 | k + 1, i, hk, hi, hb, hv => by
   have IH:∀ j,i<j->j<=s.size->b=decide ((bE s k j).2.1≠0)->v=aV (bE s k j).2.1 (bE s k j).2.2->ax (nr b v) (fun _ _=>b=false) [0,1] (fr (Om l j)) (UD l s ((bE s k j).1.map yT)):=fun j h1 h2 hb hv=>Oq s hs l b v k j (by omega) h2 hb hv;refine bD EJ (by kernel_rfl) 300 ?_;apply of_eq (q:=let q0:=IntKind.i64.wrap;let q2:=(s.extract i (bn di s i));let q5:=(R1.pure (Cd.t.and Cd.t) (aP (W.str s))).v=(R1.pure (Cd.t.and Cd.t) (aP (W.str s))).v;let q6:=(bE s (k+1) i);let q7:=(i:Int);let q8:=(s.extract i (bn eN s i));let q9:=decide (bV s i=48)=true;let aT:=(bif true then pq q2 else !pq q2)=false;let aI:=(List.map yT q6.fst);let aY:=(s.size:Int);let bt:=(↑(bn eN s i):Int);let cu:=Value.iface (106:Nat) (Value.agg #[Value.int .i64 (4:Int),Value.int .i64 q7])=v;let cB:=List.map yT q6.fst=[];let cF:=(q0 (q7+1));let bw:=(↑(bn di s i):Int);let cn:=decide (bV s i=32);let cL:=(R1.pure (Cd.t.and Cd.t) (aP (W.str q8))).v=(R1.pure (Cd.t.and Cd.t) (aP (W.str q8))).v;let cG:=(af.dJ (some (Gh.mk l D.pv.sl aI true)) [Ob.mk 9 [Fd.c (W.str s)]]);let dD:=(0:Int)<=q7;let bF:=aP (W.yield l);let q1:=(bn eF s cF.toNat);let q4:=(af.dJ (some (Gh.mk l D.pv.sl aI.tail true)) [Ob.mk 9 [Fd.c (W.str s)]]);let cQ:=decide ((200:Int)<(↑(s.extract cF.toNat q1).size:Int));let cg:=(↑q1:Int);let q3:=decide (cg=aY);(decide (q7<aY)=true->(dD/\q7<aY)/\(cn=false->cn=false)/\(cn=false->cn=false)/\((bif cn then true else decide (bV s i=10))=true->ax (nr b v) (fun x x_1=>b=false) [0,1] (fr [(0,bF),(1,aR 0 0),(3,nI cF)]) cG)/\((bif cn then true else decide (bV s i=10))=false->(decide (bV s i=35)=true->(s.size<=1000000/\dD/\q7<=aY)/\ax (nr b v) (fun x x_1=>b=false) [0,1] (fr [(0,bF),(1,aR 0 0),(3,nI (↑(bn iV s i):Int))]) cG)/\(decide (bV s i=35)=false->(fK (bV s i)=true->(s.size<=1000000/\dD/\q7<=aY)/\(dD/\q7<=bt/\bt<=aY)/\q5/\q5/\(13:Nat)<=1000000/\cL/\cL/\(dm nk q8=true->(l=l/\List.map yT q6.fst≠[]/\aI.head? = some [PV.int q7,PV.int (2:Int),PV.str q8,PV.int (0:Int),PV.int q7])/\ax (nr b v) (fun x x_1=>b=false) [0,1] (fr [(0,bF),(1,aR 0 0),(3,nI bt)]) q4)/\(dm nk q8=false->(decide ((20:Int)<q0 (bt-q7))=true->(b=true/\cu)/\cB)/\(decide ((20:Int)<q0 (bt-q7))=false->(l=l/\List.map yT q6.fst≠[]/\aI.head? = some [PV.int q7,PV.int (1:Int),PV.str q8,PV.int (0:Int),PV.int q7])/\ax (nr b v) (fun x x_1=>b=false) [0,1] (fr [(0,bF),(1,aR 0 0),(3,nI bt)]) q4)))/\(fK (bV s i)=false->(di (bV s i)=true->(s.size<=1000000/\dD/\q7<=aY)/\(dD/\q7<=bw/\bw<=aY)/\(x6 q2.data.toList/\(1:Nat)<=q2.size/\q2.size<=1000000)/\(q9->q9)/\(q9->q9)/\(q9->q9)/\(q9->q9)/\((bif decide (bV s i=48) then decide (q0 (q7+1)<bw) else false)=true->(b=true/\Value.iface (106:Nat) (Value.agg #[Value.int .i64 (11:Int),Value.int .i64 q7])=v)/\cB)/\((bif decide (bV s i=48) then decide (q0 (q7+1)<bw) else false)=false->(aT->aT)/\(aT->aT)/\((bif bif true then pq q2 else !pq q2 then true else decide ((1000000000000000:Int)<tL q2))=true->(b=true/\Value.iface (106:Nat) (Value.agg #[Value.int .i64 (2:Int),Value.int .i64 q7])=v)/\cB)/\((bif bif true then pq q2 else !pq q2 then true else decide ((1000000000000000:Int)<tL q2))=false->(l=l/\List.map yT q6.fst≠[]/\aI.head? = some [PV.int q7,PV.int (3:Int),PV.str (ByteArray.mk #[]),PV.int (tL q2),PV.int q7])/\ax (nr b v) (fun x x_1=>b=false) [0,1] (fr [(0,bF),(1,aR 0 0),(3,nI bw)]) q4)))/\(di (bV s i)=false->(decide (bV s i=34)=true->(s.size<=1000000/\(0:Int)<=q0 (q7+1)/\q0 (q7+1)<=aY)/\(q3=false->q3=false)/\(q3=false->q3=false)/\(q3=false->(0:Int)<=cg/\cg<aY)/\(q3=false->q3=false)/\(q3=false->q3=false)/\((bif q3 then true else !decide (bV s q1=34))=true->(b=true/\Value.iface (106:Nat) (Value.agg #[Value.int .i64 (11:Int),Value.int .i64 cg])=v)/\cB)/\((bif q3 then true else !decide (bV s q1=34))=false->((0:Int)<=q0 (q7+1)/\q0 (q7+1)<=cg/\cg<=aY)/\q5/\q5/\(cQ=true->(b=true/\cu)/\cB)/\(cQ=false->(l=l/\List.map yT q6.fst≠[]/\aI.head? = some [PV.int q7,PV.int (4:Int),PV.str (s.extract cF.toNat q1),PV.int (0:Int),PV.int q7])/\ax (nr b v) (fun x x_1=>b=false) [0,1] (fr [(0,bF),(1,aR 0 0),(3,nI (q0 (cg+1)))]) q4)))/\(decide (bV s i=34)=false->ax (nr b v) (fun x x_1=>b=false) [0,1,0,1,1,1,1,1,1,1,1,1,1,0,0,1,1,1,0,1,0,0,1] (fr [(0,bF),(1,aR 0 0),(3,nI q7),(6,aR 1 0),(21,aP (W.rd D.str gL)),(22,nI (↑(21:Nat):Int)),(23,nI (0))]) (af.dJ (some (Gh.mk l D.pv.sl aI true)) [Ob.mk 9 [Fd.c (W.str s)],Ob.mk 78 [fI (0),Fd.c (W.str (ByteArray.mk #[])),fI (0),fI q7]])))))))/\(decide (q7<aY)=false->cB/\b=false)) (by kernel_rfl)
   try simp only[sL]
   refine⟨fun h=>?_,fun h=>?_⟩
   rotate_left
   have e:bE s (k+1) i=([],0,0):=by rw[bE,if_neg (by omega)]
   rw[e] at hb ⊢;exact⟨rfl,by rw[hb];rfl⟩;have hlt:i<s.size:=by omega
   refine⟨by omega,fun h1=>?_,fun h1=>?_⟩;have e:bE s (k+1) i=bE s k (i+1):=by rw[bE,if_pos hlt,if_pos h1]
   rw[e] at hb hv ⊢;rw[wrap64 (by omega) (by omega)];exact IH (i+1) (by omega) (by omega) hb hv;have hn:¬(bV s i=32∨bV s i=10):=by omega
   refine⟨fun h2=>⟨by omega,?_⟩,fun h2=>⟨fun h3=>?_,fun h3=>⟨fun h4=>?_,fun h4=>⟨fun h5=>?_,fun h5=>?_⟩⟩⟩⟩;have e:bE s (k+1) i=bE s k (bn iV s i):=by rw[bE,if_pos hlt,if_neg hn,if_pos h2]
   have hy:bn iV s i=bn iV s (i+1):=iy ⟨hlt,by unfold iV;rw[decide_eq_false (by omega)];rfl⟩;have hg:=nQ iV s _ (i+1) rfl;have uE:=hg.2 (by omega);rw[e] at hb hv ⊢;exact IH _ (by omega) (by omega) hb hv;have hy:bn eN s i=bn eN s (i+1):=iy ⟨hlt,by unfold eN;rw[h3];rfl⟩;have hg:=nQ eN s _ (i+1) rfl;have uE:=hg.2 (by omega);have ht0:dB s i=qb s i (bn eN s i):=by unfold dB;rw[if_pos h3,hy]
   have hes:=oQ (s:=s) (a:=i) (e:=bn eN s i) (by omega) (by omega);rw[wrap64 (n:=(bn eN s i:Int)-i) (by omega) (by omega)];refine⟨by omega,by omega,by omega,fun h4=>?_,fun h4=>⟨fun h5=>?_,fun h5=>?_⟩⟩;have ht:dB s i=⟨⟨2,s.extract i (bn eN s i),0,i⟩,(bn eN s i:Nat),0,0⟩:=by rw[ht0];unfold qb;rw[if_pos h4]
   exact EK IH (Le hlt hn h2 ht) ⟨by omega,by omega⟩ hb hv rfl;have ht:dB s i=⟨⟨1,s.extract i (bn eN s i),0,i⟩,(bn eN s i:Nat),4,i⟩:=by rw[ht0];unfold qb;rw[if_neg (by rw[h4];simp),if_pos (by omega)]
   exact wN (FZ hlt hn h2 ht (by decide)) (by decide) hb hv;have ht:dB s i=⟨⟨1,s.extract i (bn eN s i),0,i⟩,(bn eN s i:Nat),0,0⟩:=by rw[ht0];unfold qb;rw[if_neg (by rw[h4];simp),if_neg (by omega)]
   exact EK IH (Le hlt hn h2 ht) ⟨by omega,by omega⟩ hb hv rfl
   · have hy : bn di s i = bn di s (i + 1) := iy ⟨hlt, h4⟩
     have hg:=nQ di s _ (i+1) rfl;have uE:=hg.2 (by omega);have ht0:dB s i=lY s i (bn di s i):=by unfold dB;rw[if_neg (by rw[h3];simp),if_pos h4,hy]
     have hes:=oQ (s:=s) (a:=i) (e:=bn di s i) (by omega) (by omega);obtain⟨n1,n2,n3⟩:=F5 (s:=s) (e:=bn di s i) (by omega) _ i 0 rfl (by omega) (fun j a b=>Lf di s _ i rfl j a b) (by omega);rw[wrap64 (n:=(i:Int)+1) (by omega) (by omega)];refine⟨by omega,by omega,⟨n1,by omega,by omega⟩,fun h5=>?_,fun h5=>⟨fun h6=>?_,fun h6=>?_⟩⟩;have ht:dB s i=⟨⟨3,eS,0,i⟩,(bn di s i:Nat),11,i⟩:=by rw[ht0];unfold lY;rw[if_pos ⟨h5.1,by omega⟩]
     exact wN (FZ hlt hn h2 ht (by decide)) (by decide) hb hv;have hV:=Oo.1 (show pq _=true∨_ from h6);have ht:dB s i=⟨⟨3,eS,(mM s (bn di s i) i 0).1,i⟩,(bn di s i:Nat),2,i⟩:=by rw[ht0];unfold lY;rw[if_neg (by omega)];rw[if_pos (show (mM s (bn di s i) i 0).2=true from n2 hV)]
     exact wN (FZ hlt hn h2 ht (by decide)) (by decide) hb hv;have hV:jU (s.extract i (bn di s i)).data.toList 0<=1000000000000000:=by
      have h7:pq (s.extract i (bn di s i))=false:=h6.1;rcases Nat.lt_or_ge 1000000000000000 (jU (s.extract i (bn di s i)).data.toList 0) with h8|h8;rcases Oo.2 h8 with h9|h9;rw[h7] at h9;cases h9;have:=h6.2;omega;exact h8
     have h8:=n3 hV;have ht:dB s i=⟨⟨3,eS,tL (s.extract i (bn di s i)),i⟩,(bn di s i:Nat),0,0⟩:=by rw[ht0,at_val hV];unfold lY;rw[if_neg (by omega)];rw[show mM s (bn di s i) i 0=_ from h8,if_neg (by simp)]
     exact EK IH (Le hlt hn h2 ht) ⟨by omega,by omega⟩ hb hv rfl
   have hg:=nQ eF s _ (i+1) rfl;have uE:=hg.2 (by omega);have e1:((i:Int)+1).toNat=i+1:=by omega
   have ht0:dB s i=si s i (bn eF s (i+1)):=by unfold dB;rw[if_neg (by rw[h3];simp),if_neg (by rw[h4];simp),if_pos h5]
   rw[wrap64 (n:=(i:Int)+1) (by omega) (by omega),e1];refine⟨by omega,fun h6=>by omega,fun h6=>?_,fun h6=>?_⟩;have ht:dB s i=⟨⟨0,eS,0,i⟩,(bn eF s (i+1):Nat),11,(bn eF s (i+1):Nat)⟩:=by rw[ht0];unfold si;rw[if_pos (by rcases h6 with h6|h6;exact .inl (by omega);exact .inr h6)]
   exact wN (FZ hlt hn h2 ht (by decide)) (by decide) hb hv;have hes:=oQ (s:=s) (a:=i+1) (e:=bn eF s (i+1)) (by omega) (by omega);have hne:bn eF s (i+1)≠s.size:=by omega
   have hnq:¬(bn eF s (i+1)=s.size∨bV s (bn eF s (i+1))≠34):=by rintro (h7|h7);exact hne h7;exact h7 h6.2
   rw[wrap64 (n:=(bn eF s (i+1):Int)+1) (by omega) (by omega)];refine⟨by omega,fun h7=>?_,fun h7=>?_⟩;have ht:dB s i=⟨⟨4,s.extract (i+1) (bn eF s (i+1)),0,i⟩,(bn eF s (i+1):Nat),4,i⟩:=by rw[ht0];unfold si;rw[if_neg hnq,if_pos (by omega)]
   exact wN (FZ hlt hn h2 ht (by decide)) (by decide) hb hv;have ht:dB s i=⟨⟨4,s.extract (i+1) (bn eF s (i+1)),0,i⟩,(bn eF s (i+1)+1:Nat),0,0⟩:=by rw[ht0];unfold si;rw[if_neg hnq,if_neg (by omega)]
   exact EK IH (Le hlt hn h2 ht) ⟨by omega,by omega⟩ hb hv rfl;have ht0:dB s i=lE s i 2:=by unfold dB;rw[if_neg (by rw[h3];simp),if_neg (by rw[h4];simp),if_neg h5]
   have Rm:=X1 (s:=s) hlt;have hspec:=(AE (s.extract i s.size) gL eS).1;refine F4 hs hlt (fun x hx=>?_) 21 0 0 eS rfl (by omega) rfl (fun _=>rfl) (fun h=>absurd h (by decide)) (by decide);rw[hx] at Rm hspec;refine⟨fun h6=>?_,fun h6=>?_⟩;have ht:dB s i=⟨⟨5,eS,0,i⟩,(i+1:Nat),11,i⟩:=by rw[ht0,Rm,if_pos h6]
   exact wN (FZ hlt hn h2 ht (by decide)) (by decide) hb hv;have ht:dB s i=⟨⟨5,x,0,i⟩,(i+x.size:Nat),0,0⟩:=by rw[ht0,Rm,if_neg (by omega)]
   have hle:i+x.size<=s.size:=by
    rcases hspec with h7|h7;rw[h7] at h6;exact absurd h6 (by decide);exact((yd (by omega)).1 h7.2).1
   exact EK IH (Le hlt hn h2 ht) ⟨by omega,hle⟩ hb hv rfl
theorem UF(s:ByteArray)(hs:s.size<=20000)(b:Bool)(v:Value)(hb:b=decide ((bE s s.size 0).2.1≠0))(hv:v=aV (bE s s.size 0).2.1 (bE s s.size 0).2.2):BB Tryz.prog 122 [.p (.c (.ptr 0 0))] [FY s] (.sl .pv) ((bE s s.size 0).1.map yT) true (bif b then some v else none):=by
 refine Q7 (dies:=[]) (aK:=Lc) EJ Tryz.func122 (by kernel_rfl) (by kernel_rfl) 100 fun l=>?_;apply of_eq (q:=ax (BD Tryz.prog gSc [] Tryz.f122 Lc b v) (fun x x_1=>b=false) [0,1] (fr [(0,aP (W.yield l)),(1,aR 0 0),(3,nI (0))]) (af.dJ (some (Gh.mk l D.pv.sl (List.map yT (bE s s.size (0:Nat)).fst) true)) [Ob.mk 9 [Fd.c (W.str s)]])) (by kernel_rfl)
 try simp only[sL,Int.reduceEq,Int.reduceNe,Nat.reduceAdd]
 exact Oq s hs l b v s.size 0 (by omega) (by omega) hb hv
end Go.Proofs.YtaplgnhojknpiaaGreatDoor
namespace Go.aU
open Go.RowKit
theorem Lg{k base:Nat}{η aF:Eta}{Z Z':av}{S':af}{w w':World}(mv:gB k base η Z (.ofList []) w aF Z' S' w'):Below w.heap.size w w':=by
 have hno:∀ b,¬aU.Own η (.ofList []) b:=by
  rintro b ⟨n,o,p,h,_⟩;rw[af.bO] at h;simp at h
 exact⟨mv.step.os,mv.step.tape,mv.step.output,mv.step.size,fun b hb=>mv.step.block b hb (hno b)⟩
end Go.aU
namespace Go.Proofs.YtaplgnhojknpiaaGreatDoor
open Go.aU
set_option maxRecDepth 100000
noncomputable def sCg:aZ:=ct Tryz.prog [] Tryz.f39 1 [] [] []
noncomputable def restCg:Code:=match qM sCg.bK with|some (_,_,r)=>r|none=>.skip
noncomputable def sCg0:aZ:=ct Tryz.prog [] Tryz.f39 0 [] [] []
noncomputable def restCg0:Code:=match qM sCg0.bK with|some (_,_,r)=>r|none=>.skip
def Lh(u:Value)(ak:List Ob):Option (Cd×List Ob):=match u,ak with
 | .iface t (.agg ⟨[.int .i64 e,.int .i64 i]⟩),[⟨t1,[.c (.int .i64 0),.c (.int .i64 0)]⟩]=>bif Nat.beq t 106&&Nat.beq t1 27 then some (.t,[jq e i]) else none
 | _,_=>none
theorem cg_got(e i:Int):∀ base η Z w vs,St base η Z (.ofList [jq 0 0]) w->aO (cH η Z) (uK 1) vs->gq Tryz.prog Z->CallsDIn Fence.wide 0 Tryz.prog 39 vs.toArray (.panicking [{ v:=aV e i,recovered:=false }]) w fun ex md w'=>(∃ v,ex=.returned v)/\md=.panicking [{ v:=aV e i,recovered:=true }]/\∃ aF Z',gB 1 base η Z (.ofList [jq 0 0]) w aF Z' (.ofList [jq e i]) w':=by
 intro base η Z w vs R hvs hK;refine CallsDIn.mono (KR (s:=sCg) (n:=100) (aN:=restCg) (d1:=5) (d2:=5) aE rfl Tryz.func39 (by kernel_rfl) (by kernel_rfl) (by kernel_rfl) (by kernel_rfl) (by kernel_rfl) (args:=[.p (.c (.ptr 0 0))]) (by kernel_rfl) (m:=.panicking [{ v:=aV e i,recovered:=false }]) (m':=.panicking [{ v:=aV e i,recovered:=true }]) (x:=.val (aV e i)) (v:=aV e i) (fun η Z=>by first|rfl|trivial|exact⟨rfl,rfl⟩) (by intro h;cases h) (fun c0 cs=>by first|exact⟨rfl,rfl⟩|done) (Qv:=fun _ o=>o=[jq e i]) ?_ R hvs hK) ?_
 skip
 apply of_eq (q:=(false=true->[Ob.mk 27 [fI (0),fI (0)]]=[jq e i])/\(false=false->(true=true->[Ob.mk 27 [fI e,fI i]]=[jq e i])/\(true=false->False))) (by kernel_rfl)
 try simp only[sL]
 exact⟨fun h=>(by cases h),fun _ h=>(by cases h)⟩;rintro ex md w' ⟨h1,h2,aF,Z',r,aX,mv,ho⟩;subst ho;exact⟨h1,h2,aF,Z',mv⟩
theorem AF:KL Tryz.prog 39 1 Lh:=by
 refine⟨by kernel_rfl,fun base η Z w vs R0 hK hl hv=>?_,fun u ak c aX e hc hl=>?_⟩
 . match vs,hl with
   | [v1],_ =>
     refine CallsDIn.mono (KR (s:=sCg0) (n:=100) (aN:=restCg0) (d1:=5) (d2:=5) aE rfl Tryz.func39 (by kernel_rfl) (by kernel_rfl) (by kernel_rfl) (by kernel_rfl) (by kernel_rfl) (args:=[.p (.c (.val v1))]) (by kernel_rfl) (m:=.returning) (m':=.returning) (x:=.kO) (v:=.nilIface) (fun η Z=>by first|rfl|trivial|exact⟨rfl,rfl⟩) (by intro h;cases h) (fun c0 cs=>⟨rfl,rfl⟩) (Qv:=fun _ _=>True) ?_ R0 ⟨⟨(by intro h;cases h),rfl,hv v1 (by simp)⟩,trivial⟩ hK) ?_
     skip
     apply of_eq (q:=((!false)=true->True)/\((!false)=false->(false=true->False)/\(false=false->False))) (by kernel_rfl)
     try simp only[sL]
     first|trivial|exact ?b
     rintro e md w' ⟨h1,h2,aF,Z',r,aX,mv,_⟩;exact⟨h1,h2,Lg mv⟩
 unfold Lh at e;split at e;obtain⟨hb,e1⟩:=aj.aC e;clear e;simp only[Bool.and_eq_true] at hb;cases Nat.eq_of_beq_eq_true hb.1;cases Nat.eq_of_beq_eq_true hb.2;cases e1;exact cg_got _ _;cases e
noncomputable def rL:kU Tryz.prog:={ f:=39,k:=1,got:=Lh,ok:=AF,arg:=true }
end Go.Proofs.YtaplgnhojknpiaaGreatDoor
namespace Go.Proofs.YtaplgnhojknpiaaGreatDoor
open Go.aU
set_option maxRecDepth 100000
abbrev X2:A:=.p (.c (.func 122 [(0,0)]))
theorem X3(s:ByteArray):bp Tryz.prog 104 [sS s] [] X2 [FY s]:=by
 refine bh (aK:=[]) aE Tryz.func104 (by kernel_rfl) (au:=0) rfl (by kernel_rfl) 100 ?_;apply of_eq (q:=aq [V.c (W.func 122 [(0,(0:Nat))])]=X2/\[Ob.mk 9 [Fd.c (W.str s)]]=[FY s]) (by kernel_rfl)
 try simp only[sL]
 rfl
def UG:cO:=iU .str fun s=>(.t,X2,[FY s])
theorem UH:bq Tryz.prog 104 UG:=eB (by kernel_rfl) fun s _=>X3 s
noncomputable def gSp:bX:=[(104,UG)]
theorem rM:bg Tryz.prog gSp:=ai UH aE
noncomputable def rN:aZ:={ ct Tryz.prog gSp Tryz.f69 1 [([0,1,0,1,1],[4,9])] [] [] with tail:=some rL }
abbrev uP(e a:Int)(tot:List Tok):A->List Ob->Prop:=fun r o=>r=.p (CM 1 tot.length)/\o=[jq e a,wM tot]
def yM:List Nat:=[0,1,0,1,1]
abbrev Li(acc:List Tok):af:=.ofList [jq 0 0,⟨45,[.c (.sl 2 0 acc.length 4)]⟩,wM acc]
abbrev F6:af:=.ofList [jq 0 0,⟨45,[.c .nil]⟩]
noncomputable abbrev yN:Fr:=fr [(4,.p (.c (.ptr 1 0)))]
theorem Ot(e a:Int)(tot:List Tok)(pn:Option Value)(hE:fW rN (uP e a tot) rL yM (.sl .pv) [] yN (Li tot) true pn):∀(ts acc:List Tok),acc++ts=tot->tot.length<=20000->fW rN (uP e a tot) rL yM (.sl .pv) (ts.map yT) yN (Li acc) true pn
 | [],acc,h,_=>by rw[List.append_nil] at h;subst h;exact hE
 | t::ts,acc,h,hl=>by
   have bS:acc.length+1+ts.length=tot.length:=by rw[<-h];simp;omega
   have ih:=Ot e a tot pn hE ts (acc++[t]) (by rw[<-h];simp) hl;unfold Li at ih;rw[List.length_append,List.length_singleton] at ih;refine wH (d:=.sl .pv) (y:=yT t) rM rfl 3 (by kernel_rfl) 300 ?_;apply of_eq (q:=(((0:Nat)+acc.length*4).le (ar acc).length/\((acc.length+1)*40).le (140737488355328:Nat))/\fW rN (uP e a tot) rL [0,1,0,1,1] D.pv.sl (List.map yT ts) (fr [(4,aR 1 0)]) (af.ofList [Ob.mk 27 [fI (0),fI (0)],Ob.mk 45 [Fd.c (W.sl 2 0 (acc.length+1) 4)],Ob.mk 78 [Fd.a 0 D.pv (List.take (acc.length*4) (List.drop (0:Nat) (ar acc))++[PV.int t.kind,PV.str t.text,PV.int t.n,PV.int t.at_])]]) true pn) (by kernel_rfl)
   try simp only[sL]
   rw[List.take_of_length_le (by rw[jZ];exact Nat.le_refl _),HY];exact⟨⟨by rw[jZ];exact Nat.le_refl _,by show (acc.length+1)*40<=140737488355328;omega⟩,ih⟩
theorem X4(e a:Int)(tot:List Tok)(pn:Option Value)(hE:fW rN (uP e a tot) rL yM (.sl .pv) [] yN (Li tot) true pn)(t:Tok)(ts:List Tok)(h:t::ts=tot)(hl:tot.length<=20000):fW rN (uP e a tot) rL yM (.sl .pv) ((t::ts).map yT) yN F6 true pn:=by
 have ih:=Ot e a tot pn hE ts [t] h hl;refine wH (d:=.sl .pv) (y:=yT t) rM rfl 2 (by kernel_rfl) 300 ?_;apply of_eq (q:=((1:Nat)*40).le (140737488355328:Nat)/\fW rN (uP e a tot) rL [0,1,0,1,1] D.pv.sl (List.map yT ts) (fr [(4,aR 1 0)]) (af.ofList [Ob.mk 27 [fI (0),fI (0)],Ob.mk 45 [Fd.c (W.sl 2 0 1 4)],Ob.mk 78 [Fd.a 0 D.pv [PV.int t.kind,PV.str t.text,PV.int t.n,PV.int t.at_]]]) true pn) (by kernel_rfl)
 try simp only[sL,Int.reduceEq,Int.reduceNe,Nat.reduceAdd]
 exact⟨Nat.le_of_ble_eq_true rfl,ih⟩
theorem sp_endN(tot:List Tok):fW rN (uP 0 0 tot) rL yM (.sl .pv) [] yN (Li tot) true none:=by
 refine Aq rM (by kernel_rfl) rfl 300 ?_;apply of_eq (q:=aq [V.c (W.sl (1:Nat) (0:Nat) tot.length (4:Nat))]=A.p (CM (1:Nat) tot.length)/\[Ob.mk 27 [fI (0),fI (0)],Ob.mk 78 [Fd.a 0 D.pv (ar tot)]]=[jq (0:Int) (0:Int),wM tot]) (by kernel_rfl)
 try simp only[sL]
 rfl
theorem X5:fW rN (uP 0 0 []) rL yM (.sl .pv) [] yN F6 true none:=by
 refine Aq rM (by kernel_rfl) rfl 300 ?_;apply of_eq (q:=aq [V.c (W.sl (1:Nat) (0:Nat) (0:Nat) (4:Nat))]=A.p (CM (1:Nat) (0:Nat))/\[Ob.mk 27 [fI (0),fI (0)],Ob.mk 78 [Fd.a 0 D.pv []]]=[jq (0:Int) (0:Int),wM []]) (by kernel_rfl)
 try simp only[sL,Int.reduceEq,Int.reduceNe,Nat.reduceAdd]
 exact⟨rfl,rfl⟩
theorem sp_endP(e a:Int)(tot:List Tok):fW rN (uP e a tot) rL yM (.sl .pv) [] yN (Li tot) true (some (aV e a)):=by
 refine Ar rM (by kernel_rfl) rfl ?_;apply of_eq (q:=aq [V.c (W.sl (1:Nat) (0:Nat) tot.length (4:Nat))]=A.p (CM (1:Nat) tot.length)/\[Ob.mk 27 [fI e,fI a],Ob.mk 78 [Fd.a 0 D.pv (ar tot)]]=[jq e a,wM tot]) (by kernel_rfl)
 try simp only[sL]
 first|rfl|exact⟨rfl,rfl⟩|exact ?a
theorem X6(e a:Int):fW rN (uP e a []) rL yM (.sl .pv) [] yN F6 true (some (aV e a)):=by
 refine Ar rM (by kernel_rfl) rfl ?_;apply of_eq (q:=aq [V.c (W.sl (1:Nat) (0:Nat) (0:Nat) (4:Nat))]=A.p (CM (1:Nat) (0:Nat))/\[Ob.mk 27 [fI e,fI a],Ob.mk 78 [Fd.a 0 D.pv []]]=[jq e a,wM []]) (by kernel_rfl)
 try simp only[sL,Int.reduceEq,Int.reduceNe,Nat.reduceAdd]
 first|rfl|exact⟨rfl,rfl⟩|exact ?a
theorem UI(e a:Int)(tot:List Tok)(pn:Option Value)(h1:∀ tot,fW rN (uP e a tot) rL yM (.sl .pv) [] yN (Li tot) true pn)(h0:fW rN (uP e a []) rL yM (.sl .pv) [] yN F6 true pn)(hl:tot.length<=20000):fW rN (uP e a tot) rL yM (.sl .pv) (tot.map yT) yN F6 true pn:=by
 cases tot with
 | nil=>exact h0
 | cons t ts=>exact X4 e a (t::ts) pn (h1 _) t ts rfl hl
theorem UJ(s:ByteArray)(hs:s.size<=20000)(hl:(bE s s.size 0).1.length<=20000)(h0:(bE s s.size 0).2.1=0->(bE s s.size 0).2.2=0):eW Tryz.prog 69 1 [sS s,.p (.c (.ptr 0 0))] [jq 0 0] (.p (CM 1 (bE s s.size 0).1.length)) [jq (bE s s.size 0).2.1 (bE s s.size 0).2.2,wM (bE s s.size 0).1]:=by
 refine Ak (s:=rN) rM rfl Tryz.func69 (by kernel_rfl) (by kernel_rfl) 300 ?_ (fun _ h=>h);apply of_eq (q:=let q1:=(bE s s.size (0:Nat));Ez rN (fun r o=>r=A.p (CM (1:Nat) q1.fst.length)/\o=[jq q1.snd.fst q1.snd.snd,wM q1.fst]) [0,1] ((((aj.T.leaf.node (some (aR 0 0)) aj.T.leaf).node none aj.T.leaf).node (some (aR 0 0)) aj.T.leaf).node (some (aP (W.str s))) ((aj.T.leaf.node (some (aR 1 0)) aj.T.leaf).node none aj.T.leaf)) (af.ofList [Ob.mk 27 [fI (0),fI (0)],Ob.mk 45 [Fd.c W.nil]])) (by kernel_rfl)
 try simp only[sL,Int.reduceEq,Int.reduceNe,Nat.reduceAdd]
 refine Ud (T:=rL) rM rfl (by kernel_rfl) rfl rfl 300 ?_;apply of_eq (q:=let q1:=(bE s s.size (0:Nat));Dn rN (fun r o=>r=A.p (CM (1:Nat) q1.fst.length)/\o=[jq q1.snd.fst q1.snd.snd,wM q1.fst]) rL [0,1,0,1,1] (fr [(4,aR 1 0),(9,aP (W.func 122 [(2,(0:Nat))]))]) (af.ofList [Ob.mk 27 [fI (0),fI (0)],Ob.mk 45 [Fd.c W.nil],Ob.mk 9 [Fd.c (W.str s)]])) (by kernel_rfl)
 try simp only[sL,Int.reduceEq,Int.reduceNe,Nat.reduceAdd]
 have hI:=UF s hs (decide ((bE s s.size 0).2.1≠0)) (aV (bE s s.size 0).2.1 (bE s s.size 0).2.2) rfl rfl;have hY:fW rN (uP (bE s s.size 0).2.1 (bE s s.size 0).2.2 (bE s s.size 0).1) rL yM (.sl .pv) ((bE s s.size 0).1.map yT) yN F6 true (bif decide ((bE s s.size 0).2.1≠0) then some (aV (bE s s.size 0).2.1 (bE s s.size 0).2.2) else none):=by
  by_cases hb:(bE s s.size 0).2.1=0;have hb2:=h0 hb;rw[hb,hb2,decide_eq_false (by simp)];exact UI 0 0 _ none sp_endN X5 hl;rw[decide_eq_true hb];exact UI _ _ _ _ (sp_endP _ _) (X6 _ _) hl
 exact Nv rfl (by kernel_rfl) hI hY
theorem tM(s:ByteArray):∀ k i,(bE s k i).1.length<=k
 | 0,i=>by simp[bE]
 | k + 1, i => by
   have h1:=tM s k (i+1);have h2:=tM s k (bn iV s i);have h3:=tM s k (dB s i).e.toNat;rw[bE];split;split;omega;split;omega;split;simp;simp only[List.length_cons];omega;simp
theorem wO(s:ByteArray):∀ k i,(bE s k i).2.1=0->(bE s k i).2.2=0
 | 0,i,_=>by simp[bE]
 | k + 1, i, h => by
   have h1:=wO s k (i+1);have h2:=wO s k (bn iV s i);have h3:=wO s k (dB s i).e.toNat;rw[bE] at h ⊢;split at h;rename_i a;rw[if_pos a];split at h;rename_i b;rw[if_pos b];exact h1 h;rename_i b;rw[if_neg b];split at h;rename_i c;rw[if_pos c];exact h2 h;rename_i c;rw[if_neg c];split at h;rename_i d;exact absurd h d;rename_i d;rw[if_neg d];exact h3 h;rename_i a;rw[if_neg a]
def Lj:cO:={ cE:=[false,true],au:=some 1,f:=fun args ak=>match args,ak with
 | [x,.p (.c (.ptr 0 0))],[⟨t,[.c (.int .i64 0),.c (.int .i64 0)]⟩]=>match wE .str x with
   | some s=>bif Nat.beq t 27 then some (.p (ByteArray.size s<=20000),.p (CM 1 (bE s (ByteArray.size s) 0).1.length),[jq (bE s (ByteArray.size s) 0).2.1 (bE s (ByteArray.size s) 0).2.2,wM (bE s (ByteArray.size s) 0).1]) else none
   | none=>none
 | _,_=>none }
theorem UK:bq Tryz.prog 69 Lj:=by
 refine⟨by kernel_rfl,fun args ak c r aX e hc=>?_⟩;simp only[Lj] at e;split at e;split at e;rename_i s hx;obtain⟨hb,e1⟩:=aj.aC e;clear e;cases Nat.eq_of_beq_eq_true hb;cases e1;have h:=UJ s hc (Nat.le_trans (tM _ _ _) hc) (wO _ _ _);intro base η Z w vs R hvs hK;exact h base η Z w vs R (match vs,hvs with | [_,_],⟨a,b⟩=>⟨kL hx a,b⟩) hK;cases e;cases e
noncomputable def gSpl:bX:=[(69,Lj)]
theorem gSpl_ok:bg Tryz.prog gSpl:=ai UK aE
end Go.Proofs.YtaplgnhojknpiaaGreatDoor
