/- Tokens: what the program hands on is what the reference finds. -/
import Derived.Test.YtnbjjocbncblaaaGreatDoorSplit1
namespace Go.Proofs.YtnbjjocbncblaaaGreatDoor
open Go.aN
set_option maxRecDepth 100000
theorem Me(p:Int->Bool)(s:ByteArray):∀(k i:Nat),k=s.size-i->∀ j,i<=j->j<aO p s i->p (aY s j)=true
 | k,i,hk,j,h1,h2=>by
   by_cases h:i<s.size/\p (aY s i)=true
   . rw[gA h] at h2;cases k with
     | zero=>omega
     | succ k =>
       by_cases hj:j=i;subst hj;exact h.2;exact Me p s k (i+1) (by omega) j (by omega) h2
   rw[kP h] at h2;omega
theorem OX{x:ByteArray}:(qE x=true∨1000000000000000<u6 x)↔1000000000000000<kH x.data.toList 0:=by
 unfold qE u6;rw[decide_eq_true_eq];split<;>omega
theorem at_val{x:ByteArray}(h:kH x.data.toList 0<=1000000000000000):u6 x=(kH x.data.toList 0:Int):=by
 unfold u6;rw[if_pos (by omega)]
theorem OY(s:ByteArray)(hs:s.size<=20000)(l:Nat)(b:Bool)(v:Value):∀(k i:Nat),s.size<=k+i->i<=s.size->(b=decide ((bF s k i).2.1≠0))->v=aU (bF s k i).2.1 (bF s k i).2.2->
 aJ (oF b v) (fun _ _=>b=false) [0,1] (fr (OW l i)) (U0 l s ((bF s k i).1.map yT))
 | 0,i,hk,hi,hb,hv=>by
   refine ct Fy (by kernel_rfl) 300 ?_;apply of_eq (q:=let q0:=IntKind.i64.wrap;let q2:=(s.extract i (aO cx s i));let q5:=(R1.pure (Cd.t.and Cd.t) (aP (W.str s))).v=(R1.pure (Cd.t.and Cd.t) (aP (W.str s))).v;let q7:=(i:Int);let q9:=(s.extract i (aO cB s i));let bM:=decide (aY s i=48)=true;let aQ:=(bif true then qE q2 else !qE q2)=false;let bp:=(s.size:Int);let bW:=(↑(aO cB s i):Int);let dO:=Value.iface (96:Nat) (Value.agg #[Value.int .i64 (4:Int),Value.int .i64 q7])=v;let eC:=(q0 (q7+1));let fM:=(↑(aO cx s i):Int);let bY:=decide (aY s i=32);let fe:=(R1.pure (Cd.t.and Cd.t) (aP (W.str q9))).v=(R1.pure (Cd.t.and Cd.t) (aP (W.str q9))).v;let gH:=(bF s (0:Nat) i);let gP:=(0:Int)<=q7;let cu:=aP (W.yield l);let q1:=(aO cJ s eC.toNat);let q4:=(List.map yT gH.fst);let q6:=(af.di (some (Gh.mk l D.pv.sl q4.tail true)) [Ob.mk 9 [Fd.c (W.str s)]]);let q8:=List.map yT gH.fst=[];let fZ:=(af.di (some (Gh.mk l D.pv.sl q4 true)) [Ob.mk 9 [Fd.c (W.str s)]]);let gI:=decide ((200:Int)<(↑(s.extract eC.toNat q1).size:Int));let dL:=(↑q1:Int);let q3:=decide (dL=bp);(decide (q7<bp)=true->(gP/\q7<bp)/\(bY=false->bY=false)/\(bY=false->bY=false)/\((bif bY then true else decide (aY s i=10))=true->aJ (oF b v) (fun x x_1=>b=false) [0,1] (fr [(0,cu),(1,aR 0 0),(3,nI eC)]) fZ)/\((bif bY then true else decide (aY s i=10))=false->(decide (aY s i=35)=true->(s.size<=1000000/\gP/\q7<=bp)/\aJ (oF b v) (fun x x_1=>b=false) [0,1] (fr [(0,cu),(1,aR 0 0),(3,nI (↑(aO jl s i):Int))]) fZ)/\(decide (aY s i=35)=false->(gu (aY s i)=true->(s.size<=1000000/\gP/\q7<=bp)/\(gP/\q7<=bW/\bW<=bp)/\q5/\q5/\(13:Nat)<=1000000/\fe/\fe/\(eF rC q9=true->(l=l/\List.map yT gH.fst≠[]/\q4.head? = some [PV.int q7,PV.int (2:Int),PV.str q9,PV.int (0:Int),PV.int q7])/\aJ (oF b v) (fun x x_1=>b=false) [0,1] (fr [(0,cu),(1,aR 0 0),(3,nI bW)]) q6)/\(eF rC q9=false->(decide ((20:Int)<q0 (bW-q7))=true->(b=true/\dO)/\q8)/\(decide ((20:Int)<q0 (bW-q7))=false->(l=l/\List.map yT gH.fst≠[]/\q4.head? = some [PV.int q7,PV.int (1:Int),PV.str q9,PV.int (0:Int),PV.int q7])/\aJ (oF b v) (fun x x_1=>b=false) [0,1] (fr [(0,cu),(1,aR 0 0),(3,nI bW)]) q6)))/\(gu (aY s i)=false->(cx (aY s i)=true->(s.size<=1000000/\gP/\q7<=bp)/\(gP/\q7<=fM/\fM<=bp)/\(zF q2.data.toList/\(1:Nat)<=q2.size/\q2.size<=1000000)/\(bM->bM)/\(bM->bM)/\(bM->bM)/\(bM->bM)/\((bif decide (aY s i=48) then decide (q0 (q7+1)<fM) else false)=true->(b=true/\Value.iface (96:Nat) (Value.agg #[Value.int .i64 (11:Int),Value.int .i64 q7])=v)/\q8)/\((bif decide (aY s i=48) then decide (q0 (q7+1)<fM) else false)=false->(aQ->aQ)/\(aQ->aQ)/\((bif bif true then qE q2 else !qE q2 then true else decide ((1000000000000000:Int)<u6 q2))=true->(b=true/\Value.iface (96:Nat) (Value.agg #[Value.int .i64 (2:Int),Value.int .i64 q7])=v)/\q8)/\((bif bif true then qE q2 else !qE q2 then true else decide ((1000000000000000:Int)<u6 q2))=false->(l=l/\List.map yT gH.fst≠[]/\q4.head? = some [PV.int q7,PV.int (3:Int),PV.str (ByteArray.mk #[]),PV.int (u6 q2),PV.int q7])/\aJ (oF b v) (fun x x_1=>b=false) [0,1] (fr [(0,cu),(1,aR 0 0),(3,nI fM)]) q6)))/\(cx (aY s i)=false->(decide (aY s i=34)=true->(s.size<=1000000/\(0:Int)<=q0 (q7+1)/\q0 (q7+1)<=bp)/\(q3=false->q3=false)/\(q3=false->q3=false)/\(q3=false->(0:Int)<=dL/\dL<bp)/\(q3=false->q3=false)/\(q3=false->q3=false)/\((bif q3 then true else !decide (aY s q1=34))=true->(b=true/\Value.iface (96:Nat) (Value.agg #[Value.int .i64 (11:Int),Value.int .i64 dL])=v)/\q8)/\((bif q3 then true else !decide (aY s q1=34))=false->((0:Int)<=q0 (q7+1)/\q0 (q7+1)<=dL/\dL<=bp)/\q5/\q5/\(gI=true->(b=true/\dO)/\q8)/\(gI=false->(l=l/\List.map yT gH.fst≠[]/\q4.head? = some [PV.int q7,PV.int (4:Int),PV.str (s.extract eC.toNat q1),PV.int (0:Int),PV.int q7])/\aJ (oF b v) (fun x x_1=>b=false) [0,1] (fr [(0,cu),(1,aR 0 0),(3,nI (q0 (dL+1)))]) q6)))/\(decide (aY s i=34)=false->aJ (oF b v) (fun x x_1=>b=false) [0,1,0,1,1,1,1,1,1,1,1,1,1,0,0,1,1,1,0,1,0,0,1] (fr [(0,cu),(1,aR 0 0),(3,nI q7),(6,aR 1 0),(21,aP (W.rd D.str fw)),(22,nI (↑(21:Nat):Int)),(23,nI (0))]) (af.di (some (Gh.mk l D.pv.sl q4 true)) [Ob.mk 9 [Fd.c (W.str s)],Ob.mk 100 [fI (0),Fd.c (W.str (ByteArray.mk #[])),fI (0),fI q7]])))))))/\(decide (q7<bp)=false->q8/\b=false)) (by kernel_rfl)
   try simp only[sL]
   exact⟨fun h=>by omega,fun h=>⟨rfl,by rw[hb];rfl⟩⟩
 | k + 1, i, hk, hi, hb, hv => by
   have IH:∀ j,i<j->j<=s.size->b=decide ((bF s k j).2.1≠0)->v=aU (bF s k j).2.1 (bF s k j).2.2->aJ (oF b v) (fun _ _=>b=false) [0,1] (fr (OW l j)) (U0 l s ((bF s k j).1.map yT)):=fun j h1 h2 hb hv=>OY s hs l b v k j (by omega) h2 hb hv;refine ct Fy (by kernel_rfl) 300 ?_;apply of_eq (q:=let q0:=IntKind.i64.wrap;let q2:=(s.extract i (aO cx s i));let q5:=(R1.pure (Cd.t.and Cd.t) (aP (W.str s))).v=(R1.pure (Cd.t.and Cd.t) (aP (W.str s))).v;let q6:=(bF s (k+1) i);let q7:=(i:Int);let q8:=(s.extract i (aO cB s i));let q9:=decide (aY s i=48)=true;let bM:=(bif true then qE q2 else !qE q2)=false;let aQ:=(List.map yT q6.fst);let bp:=(s.size:Int);let bW:=(↑(aO cB s i):Int);let dO:=Value.iface (96:Nat) (Value.agg #[Value.int .i64 (4:Int),Value.int .i64 q7])=v;let eC:=List.map yT q6.fst=[];let fM:=(q0 (q7+1));let bY:=(↑(aO cx s i):Int);let fe:=decide (aY s i=32);let gH:=(R1.pure (Cd.t.and Cd.t) (aP (W.str q8))).v=(R1.pure (Cd.t.and Cd.t) (aP (W.str q8))).v;let fZ:=(af.di (some (Gh.mk l D.pv.sl aQ true)) [Ob.mk 9 [Fd.c (W.str s)]]);let gP:=(0:Int)<=q7;let cu:=aP (W.yield l);let q1:=(aO cJ s fM.toNat);let q4:=(af.di (some (Gh.mk l D.pv.sl aQ.tail true)) [Ob.mk 9 [Fd.c (W.str s)]]);let gI:=decide ((200:Int)<(↑(s.extract fM.toNat q1).size:Int));let dL:=(↑q1:Int);let q3:=decide (dL=bp);(decide (q7<bp)=true->(gP/\q7<bp)/\(fe=false->fe=false)/\(fe=false->fe=false)/\((bif fe then true else decide (aY s i=10))=true->aJ (oF b v) (fun x x_1=>b=false) [0,1] (fr [(0,cu),(1,aR 0 0),(3,nI fM)]) fZ)/\((bif fe then true else decide (aY s i=10))=false->(decide (aY s i=35)=true->(s.size<=1000000/\gP/\q7<=bp)/\aJ (oF b v) (fun x x_1=>b=false) [0,1] (fr [(0,cu),(1,aR 0 0),(3,nI (↑(aO jl s i):Int))]) fZ)/\(decide (aY s i=35)=false->(gu (aY s i)=true->(s.size<=1000000/\gP/\q7<=bp)/\(gP/\q7<=bW/\bW<=bp)/\q5/\q5/\(13:Nat)<=1000000/\gH/\gH/\(eF rC q8=true->(l=l/\List.map yT q6.fst≠[]/\aQ.head? = some [PV.int q7,PV.int (2:Int),PV.str q8,PV.int (0:Int),PV.int q7])/\aJ (oF b v) (fun x x_1=>b=false) [0,1] (fr [(0,cu),(1,aR 0 0),(3,nI bW)]) q4)/\(eF rC q8=false->(decide ((20:Int)<q0 (bW-q7))=true->(b=true/\dO)/\eC)/\(decide ((20:Int)<q0 (bW-q7))=false->(l=l/\List.map yT q6.fst≠[]/\aQ.head? = some [PV.int q7,PV.int (1:Int),PV.str q8,PV.int (0:Int),PV.int q7])/\aJ (oF b v) (fun x x_1=>b=false) [0,1] (fr [(0,cu),(1,aR 0 0),(3,nI bW)]) q4)))/\(gu (aY s i)=false->(cx (aY s i)=true->(s.size<=1000000/\gP/\q7<=bp)/\(gP/\q7<=bY/\bY<=bp)/\(zF q2.data.toList/\(1:Nat)<=q2.size/\q2.size<=1000000)/\(q9->q9)/\(q9->q9)/\(q9->q9)/\(q9->q9)/\((bif decide (aY s i=48) then decide (q0 (q7+1)<bY) else false)=true->(b=true/\Value.iface (96:Nat) (Value.agg #[Value.int .i64 (11:Int),Value.int .i64 q7])=v)/\eC)/\((bif decide (aY s i=48) then decide (q0 (q7+1)<bY) else false)=false->(bM->bM)/\(bM->bM)/\((bif bif true then qE q2 else !qE q2 then true else decide ((1000000000000000:Int)<u6 q2))=true->(b=true/\Value.iface (96:Nat) (Value.agg #[Value.int .i64 (2:Int),Value.int .i64 q7])=v)/\eC)/\((bif bif true then qE q2 else !qE q2 then true else decide ((1000000000000000:Int)<u6 q2))=false->(l=l/\List.map yT q6.fst≠[]/\aQ.head? = some [PV.int q7,PV.int (3:Int),PV.str (ByteArray.mk #[]),PV.int (u6 q2),PV.int q7])/\aJ (oF b v) (fun x x_1=>b=false) [0,1] (fr [(0,cu),(1,aR 0 0),(3,nI bY)]) q4)))/\(cx (aY s i)=false->(decide (aY s i=34)=true->(s.size<=1000000/\(0:Int)<=q0 (q7+1)/\q0 (q7+1)<=bp)/\(q3=false->q3=false)/\(q3=false->q3=false)/\(q3=false->(0:Int)<=dL/\dL<bp)/\(q3=false->q3=false)/\(q3=false->q3=false)/\((bif q3 then true else !decide (aY s q1=34))=true->(b=true/\Value.iface (96:Nat) (Value.agg #[Value.int .i64 (11:Int),Value.int .i64 dL])=v)/\eC)/\((bif q3 then true else !decide (aY s q1=34))=false->((0:Int)<=q0 (q7+1)/\q0 (q7+1)<=dL/\dL<=bp)/\q5/\q5/\(gI=true->(b=true/\dO)/\eC)/\(gI=false->(l=l/\List.map yT q6.fst≠[]/\aQ.head? = some [PV.int q7,PV.int (4:Int),PV.str (s.extract fM.toNat q1),PV.int (0:Int),PV.int q7])/\aJ (oF b v) (fun x x_1=>b=false) [0,1] (fr [(0,cu),(1,aR 0 0),(3,nI (q0 (dL+1)))]) q4)))/\(decide (aY s i=34)=false->aJ (oF b v) (fun x x_1=>b=false) [0,1,0,1,1,1,1,1,1,1,1,1,1,0,0,1,1,1,0,1,0,0,1] (fr [(0,cu),(1,aR 0 0),(3,nI q7),(6,aR 1 0),(21,aP (W.rd D.str fw)),(22,nI (↑(21:Nat):Int)),(23,nI (0))]) (af.di (some (Gh.mk l D.pv.sl aQ true)) [Ob.mk 9 [Fd.c (W.str s)],Ob.mk 100 [fI (0),Fd.c (W.str (ByteArray.mk #[])),fI (0),fI q7]])))))))/\(decide (q7<bp)=false->eC/\b=false)) (by kernel_rfl)
   try simp only[sL]
   refine⟨fun h=>?_,fun h=>?_⟩
   rotate_left
   have e:bF s (k+1) i=([],0,0):=by rw[bF,if_neg (by omega)]
   rw[e] at hb ⊢;exact⟨rfl,by rw[hb];rfl⟩;have hlt:i<s.size:=by omega
   refine⟨by omega,fun h1=>?_,fun h1=>?_⟩;have e:bF s (k+1) i=bF s k (i+1):=by rw[bF,if_pos hlt,if_pos h1]
   rw[e] at hb hv ⊢;rw[wrap64 (by omega) (by omega)];exact IH (i+1) (by omega) (by omega) hb hv;have hn:¬(aY s i=32∨aY s i=10):=by omega
   refine⟨fun h2=>⟨by omega,?_⟩,fun h2=>⟨fun h3=>?_,fun h3=>⟨fun h4=>?_,fun h4=>⟨fun h5=>?_,fun h5=>?_⟩⟩⟩⟩;have e:bF s (k+1) i=bF s k (aO jl s i):=by rw[bF,if_pos hlt,if_neg hn,if_pos h2]
   have hy:aO jl s i=aO jl s (i+1):=gA ⟨hlt,by unfold jl;rw[decide_eq_false (by omega)];rfl⟩;have hg:=j6 jl s _ (i+1) rfl;have vU:=hg.2 (by omega);rw[e] at hb hv ⊢;exact IH _ (by omega) (by omega) hb hv;have hy:aO cB s i=aO cB s (i+1):=gA ⟨hlt,by unfold cB;rw[h3];rfl⟩;have hg:=j6 cB s _ (i+1) rfl;have vU:=hg.2 (by omega);have ht0:bU s i=nr s i (aO cB s i):=by unfold bU;rw[if_pos h3,hy]
   have hes:=qj (s:=s) (a:=i) (e:=aO cB s i) (by omega) (by omega);rw[wrap64 (n:=(aO cB s i:Int)-i) (by omega) (by omega)];refine⟨by omega,by omega,by omega,fun h4=>?_,fun h4=>⟨fun h5=>?_,fun h5=>?_⟩⟩;have ht:bU s i=⟨⟨2,s.extract i (aO cB s i),0,i⟩,(aO cB s i:Nat),0,0⟩:=by rw[ht0];unfold nr;rw[if_pos h4]
   exact Fz IH (Md hlt hn h2 ht) ⟨by omega,by omega⟩ hb hv rfl;have ht:bU s i=⟨⟨1,s.extract i (aO cB s i),0,i⟩,(aO cB s i:Nat),4,i⟩:=by rw[ht0];unfold nr;rw[if_neg (by rw[h4];simp),if_pos (by omega)]
   exact x7 (G5 hlt hn h2 ht (by decide)) (by decide) hb hv;have ht:bU s i=⟨⟨1,s.extract i (aO cB s i),0,i⟩,(aO cB s i:Nat),0,0⟩:=by rw[ht0];unfold nr;rw[if_neg (by rw[h4];simp),if_neg (by omega)]
   exact Fz IH (Md hlt hn h2 ht) ⟨by omega,by omega⟩ hb hv rfl
   · have hy : aO cx s i = aO cx s (i + 1) := gA ⟨hlt, h4⟩
     have hg:=j6 cx s _ (i+1) rfl;have vU:=hg.2 (by omega);have ht0:bU s i=qh s i (aO cx s i):=by unfold bU;rw[if_neg (by rw[h3];simp),if_pos h4,hy]
     have hes:=qj (s:=s) (a:=i) (e:=aO cx s i) (by omega) (by omega);obtain⟨n1,n2,n3⟩:=G7 (s:=s) (e:=aO cx s i) (by omega) _ i 0 rfl (by omega) (fun j a b=>Me cx s _ i rfl j a b) (by omega);rw[wrap64 (n:=(i:Int)+1) (by omega) (by omega)];refine⟨by omega,by omega,⟨n1,by omega,by omega⟩,fun h5=>?_,fun h5=>⟨fun h6=>?_,fun h6=>?_⟩⟩;have ht:bU s i=⟨⟨3,eS,0,i⟩,(aO cx s i:Nat),11,i⟩:=by rw[ht0];unfold qh;rw[if_pos ⟨h5.1,by omega⟩]
     exact x7 (G5 hlt hn h2 ht (by decide)) (by decide) hb hv;have hV:=OX.1 (show qE _=true∨_ from h6);have ht:bU s i=⟨⟨3,eS,(kU s (aO cx s i) i 0).1,i⟩,(aO cx s i:Nat),2,i⟩:=by rw[ht0];unfold qh;rw[if_neg (by omega)];rw[if_pos (show (kU s (aO cx s i) i 0).2=true from n2 hV)]
     exact x7 (G5 hlt hn h2 ht (by decide)) (by decide) hb hv;have hV:kH (s.extract i (aO cx s i)).data.toList 0<=1000000000000000:=by
      have h7:qE (s.extract i (aO cx s i))=false:=h6.1;rcases Nat.lt_or_ge 1000000000000000 (kH (s.extract i (aO cx s i)).data.toList 0) with h8|h8;rcases OX.2 h8 with h9|h9;rw[h7] at h9;cases h9;have:=h6.2;omega;exact h8
     have h8:=n3 hV;have ht:bU s i=⟨⟨3,eS,u6 (s.extract i (aO cx s i)),i⟩,(aO cx s i:Nat),0,0⟩:=by rw[ht0,at_val hV];unfold qh;rw[if_neg (by omega)];rw[show kU s (aO cx s i) i 0=_ from h8,if_neg (by simp)]
     exact Fz IH (Md hlt hn h2 ht) ⟨by omega,by omega⟩ hb hv rfl
   have hg:=j6 cJ s _ (i+1) rfl;have vU:=hg.2 (by omega);have e1:((i:Int)+1).toNat=i+1:=by omega
   have ht0:bU s i=qi s i (aO cJ s (i+1)):=by unfold bU;rw[if_neg (by rw[h3];simp),if_neg (by rw[h4];simp),if_pos h5]
   rw[wrap64 (n:=(i:Int)+1) (by omega) (by omega),e1];refine⟨by omega,fun h6=>by omega,fun h6=>?_,fun h6=>?_⟩;have ht:bU s i=⟨⟨0,eS,0,i⟩,(aO cJ s (i+1):Nat),11,(aO cJ s (i+1):Nat)⟩:=by rw[ht0];unfold qi;rw[if_pos (by rcases h6 with h6|h6;exact .inl (by omega);exact .inr h6)]
   exact x7 (G5 hlt hn h2 ht (by decide)) (by decide) hb hv;have hes:=qj (s:=s) (a:=i+1) (e:=aO cJ s (i+1)) (by omega) (by omega);have hne:aO cJ s (i+1)≠s.size:=by omega
   have hnq:¬(aO cJ s (i+1)=s.size∨aY s (aO cJ s (i+1))≠34):=by rintro (h7|h7);exact hne h7;exact h7 h6.2
   rw[wrap64 (n:=(aO cJ s (i+1):Int)+1) (by omega) (by omega)];refine⟨by omega,fun h7=>?_,fun h7=>?_⟩;have ht:bU s i=⟨⟨4,s.extract (i+1) (aO cJ s (i+1)),0,i⟩,(aO cJ s (i+1):Nat),4,i⟩:=by rw[ht0];unfold qi;rw[if_neg hnq,if_pos (by omega)]
   exact x7 (G5 hlt hn h2 ht (by decide)) (by decide) hb hv;have ht:bU s i=⟨⟨4,s.extract (i+1) (aO cJ s (i+1)),0,i⟩,(aO cJ s (i+1)+1:Nat),0,0⟩:=by rw[ht0];unfold qi;rw[if_neg hnq,if_neg (by omega)]
   exact Fz IH (Md hlt hn h2 ht) ⟨by omega,by omega⟩ hb hv rfl;have ht0:bU s i=oD s i 2:=by unfold bU;rw[if_neg (by rw[h3];simp),if_neg (by rw[h4];simp),if_neg h5]
   have RL:=Yg (s:=s) hlt;have hspec:=(BS (s.extract i s.size) fw eS).1;refine G6 hs hlt (fun x hx=>?_) 21 0 0 eS rfl (by omega) rfl (fun _=>rfl) (fun h=>absurd h (by decide)) (by decide);rw[hx] at RL hspec;refine⟨fun h6=>?_,fun h6=>?_⟩;have ht:bU s i=⟨⟨5,eS,0,i⟩,(i+1:Nat),11,i⟩:=by rw[ht0,RL,if_pos h6]
   exact x7 (G5 hlt hn h2 ht (by decide)) (by decide) hb hv;have ht:bU s i=⟨⟨5,x,0,i⟩,(i+x.size:Nat),0,0⟩:=by rw[ht0,RL,if_neg (by omega)]
   have hle:i+x.size<=s.size:=by
    rcases hspec with h7|h7;rw[h7] at h6;exact absurd h6 (by decide);exact((zH (by omega)).1 h7.2).1
   exact Fz IH (Md hlt hn h2 ht) ⟨by omega,hle⟩ hb hv rfl
theorem U2(s:ByteArray)(hs:s.size<=20000)(b:Bool)(v:Value)(hb:b=decide ((bF s s.size 0).2.1≠0))(hv:v=aU (bF s s.size 0).2.1 (bF s s.size 0).2.2):CN Tryz.prog 97 [.p (.c (.ptr 0 0))] [G4 s] (.sl .pv) ((bF s s.size 0).1.map yT) true (bif b then some v else none):=by
 refine Rv (dies:=[]) (aK:=Mb) Fy Tryz.func97 (by kernel_rfl) (by kernel_rfl) 100 fun l=>?_;apply of_eq (q:=aJ (CO Tryz.prog gSc [] Tryz.f97 Mb b v) (fun x x_1=>b=false) [0,1] (fr [(0,aP (W.yield l)),(1,aR 0 0),(3,nI (0))]) (af.di (some (Gh.mk l D.pv.sl (List.map yT (bF s s.size (0:Nat)).fst) true)) [Ob.mk 9 [Fd.c (W.str s)]])) (by kernel_rfl)
 try simp only[sL,Int.reduceEq,Int.reduceNe,Nat.reduceAdd]
 exact OY s hs l b v s.size 0 (by omega) (by omega) hb hv
end Go.Proofs.YtnbjjocbncblaaaGreatDoor
namespace Go.aN
open Go.RowKit
theorem Mf{k base:Nat}{η aB:Eta}{Z Z':ar}{S':af}{w w':World}(mv:gY k base η Z (.ofList []) w aB Z' S' w'):Below w.heap.size w w':=by
 have hno:∀ b,¬aN.Own η (.ofList []) b:=by
  rintro b ⟨n,o,p,h,_⟩;rw[af.bH] at h;simp at h
 exact⟨mv.step.os,mv.step.tape,mv.step.output,mv.step.size,fun b hb=>mv.step.block b hb (hno b)⟩
end Go.aN
namespace Go.Proofs.YtnbjjocbncblaaaGreatDoor
open Go.aN
set_option maxRecDepth 100000
noncomputable def sCg:bg:=eG Tryz.prog [] Tryz.f24 1 [] [] []
noncomputable def restCg:Code:=match sj sCg.bw with|some (_,_,r)=>r|none=>.skip
noncomputable def sCg0:bg:=eG Tryz.prog [] Tryz.f24 0 [] [] []
noncomputable def restCg0:Code:=match sj sCg0.bw with|some (_,_,r)=>r|none=>.skip
def Mg(u:Value)(ai:List Ob):Option (Cd×List Ob):=match u,ai with
 | .iface t (.agg ⟨[.int .i64 e,.int .i64 i]⟩),[⟨t1,[.c (.int .i64 0),.c (.int .i64 0)]⟩]=>bif Nat.beq t 96&&Nat.beq t1 26 then some (.t,[oC e i]) else none
 | _,_=>none
theorem cg_got(e i:Int):∀ base η Z w vs,St base η Z (.ofList [oC 0 0]) w->aI (cE η Z) (v7 1) vs->gj Tryz.prog Z->CallsDIn Fence.wide 0 Tryz.prog 24 vs.toArray (.panicking [{ v:=aU e i,recovered:=false }]) w fun ex md w'=>(∃ v,ex=.returned v)/\md=.panicking [{ v:=aU e i,recovered:=true }]/\∃ aB Z',gY 1 base η Z (.ofList [oC 0 0]) w aB Z' (.ofList [oC e i]) w':=by
 intro base η Z w vs R hvs hK;refine CallsDIn.mono (LR (s:=sCg) (n:=100) (aL:=restCg) (d1:=5) (d2:=5) aD rfl Tryz.func24 (by kernel_rfl) (by kernel_rfl) (by kernel_rfl) (by kernel_rfl) (by kernel_rfl) (args:=[.p (.c (.ptr 0 0))]) (by kernel_rfl) (m:=.panicking [{ v:=aU e i,recovered:=false }]) (m':=.panicking [{ v:=aU e i,recovered:=true }]) (x:=.val (aU e i)) (v:=aU e i) (fun η Z=>by first|rfl|trivial|exact⟨rfl,rfl⟩) (by intro h;cases h) (fun c0 cs=>by first|exact⟨rfl,rfl⟩|done) (Qv:=fun _ o=>o=[oC e i]) ?_ R hvs hK) ?_
 skip
 apply of_eq (q:=(false=true->[Ob.mk 26 [fI (0),fI (0)]]=[oC e i])/\(false=false->(true=true->[Ob.mk 26 [fI e,fI i]]=[oC e i])/\(true=false->False))) (by kernel_rfl)
 try simp only[sL]
 exact⟨fun h=>(by cases h),fun _ h=>(by cases h)⟩;rintro ex md w' ⟨h1,h2,aB,Z',r,aV,mv,ho⟩;subst ho;exact⟨h1,h2,aB,Z',mv⟩
theorem BU:LK Tryz.prog 24 1 Mg:=by
 refine⟨by kernel_rfl,fun base η Z w vs R0 hK hl hv=>?_,fun u ai c aV e hc hl=>?_⟩
 . match vs,hl with
   | [v1],_ =>
     refine CallsDIn.mono (LR (s:=sCg0) (n:=100) (aL:=restCg0) (d1:=5) (d2:=5) aD rfl Tryz.func24 (by kernel_rfl) (by kernel_rfl) (by kernel_rfl) (by kernel_rfl) (by kernel_rfl) (args:=[.p (.c (.val v1))]) (by kernel_rfl) (m:=.returning) (m':=.returning) (x:=.lT) (v:=.nilIface) (fun η Z=>by first|rfl|trivial|exact⟨rfl,rfl⟩) (by intro h;cases h) (fun c0 cs=>⟨rfl,rfl⟩) (Qv:=fun _ _=>True) ?_ R0 ⟨⟨(by intro h;cases h),rfl,hv v1 (by simp)⟩,trivial⟩ hK) ?_
     skip
     apply of_eq (q:=((!false)=true->True)/\((!false)=false->(false=true->False)/\(false=false->False))) (by kernel_rfl)
     try simp only[sL]
     first|trivial|exact ?b
     rintro e md w' ⟨h1,h2,aB,Z',r,aV,mv,_⟩;exact⟨h1,h2,Mf mv⟩
 unfold Mg at e;split at e;obtain⟨hb,e1⟩:=ah.ay e;clear e;simp only[Bool.and_eq_true] at hb;cases Nat.eq_of_beq_eq_true hb.1;cases Nat.eq_of_beq_eq_true hb.2;cases e1;exact cg_got _ _;cases e
noncomputable def s5:lZ Tryz.prog:={ f:=24,k:=1,got:=Mg,ok:=BU,arg:=true }
end Go.Proofs.YtnbjjocbncblaaaGreatDoor
namespace Go.Proofs.YtnbjjocbncblaaaGreatDoor
open Go.aN
set_option maxRecDepth 100000
abbrev Yh:A:=.p (.c (.func 97 [(0,0)]))
theorem Yi(s:ByteArray):br Tryz.prog 84 [sS s] [] Yh [G4 s]:=by
 refine bn (aK:=[]) aD Tryz.func84 (by kernel_rfl) (aj:=0) rfl (by kernel_rfl) 100 ?_;apply of_eq (q:=ax [V.c (W.func 97 [(0,(0:Nat))])]=Yh/\[Ob.mk 9 [Fd.c (W.str s)]]=[G4 s]) (by kernel_rfl)
 try simp only[sL]
 rfl
def U3:cV:=kE .str fun s=>(.t,Yh,[G4 s])
theorem U4:bt Tryz.prog 84 U3:=fJ (by kernel_rfl) fun s _=>Yi s
noncomputable def gSp:bX:=[(84,U3)]
theorem tf:bh Tryz.prog gSp:=aq U4 aD
noncomputable def tg:bg:={ eG Tryz.prog gSp Tryz.f50 1 [([0,1,0,1,1],[4,9])] [] [] with tail:=some s5 }
abbrev wi(e a:Int)(tot:List Tok):A->List Ob->Prop:=fun r o=>r=.p (Fx 1 tot.length)/\o=[oC e a,DJ tot]
def Ak:List Nat:=[0,1,0,1,1]
abbrev Mh(acc:List Tok):af:=.ofList [oC 0 0,⟨57,[.c (.sl 2 0 acc.length 4)]⟩,DJ acc]
abbrev G8:af:=.ofList [oC 0 0,⟨57,[.c .nil]⟩]
noncomputable abbrev Al:Fr:=fr [(4,.p (.c (.ptr 1 0)))]
theorem OZ(e a:Int)(tot:List Tok)(pn:Option Value)(hE:fK tg (wi e a tot) s5 Ak (.sl .pv) [] Al (Mh tot) true pn):∀(ts acc:List Tok),acc++ts=tot->tot.length<=20000->fK tg (wi e a tot) s5 Ak (.sl .pv) (ts.map yT) Al (Mh acc) true pn
 | [],acc,h,_=>by rw[List.append_nil] at h;subst h;exact hE
 | t::ts,acc,h,hl=>by
   have bE:acc.length+1+ts.length=tot.length:=by rw[<-h];simp;omega
   have ih:=OZ e a tot pn hE ts (acc++[t]) (by rw[<-h];simp) hl;unfold Mh at ih;rw[List.length_append,List.length_singleton] at ih;refine x5 (d:=.sl .pv) (y:=yT t) tf rfl 3 (by kernel_rfl) 300 ?_;apply of_eq (q:=(((0:Nat)+acc.length*4).le (aE acc).length/\((acc.length+1)*40).le (140737488355328:Nat))/\fK tg (wi e a tot) s5 [0,1,0,1,1] D.pv.sl (List.map yT ts) (fr [(4,aR 1 0)]) (af.ofList [Ob.mk 26 [fI (0),fI (0)],Ob.mk 57 [Fd.c (W.sl 2 0 (acc.length+1) 4)],Ob.mk 100 [Fd.a 0 D.pv (List.take (acc.length*4) (List.drop (0:Nat) (aE acc))++[PV.int t.kind,PV.str t.text,PV.int t.n,PV.int t.at_])]]) true pn) (by kernel_rfl)
   try simp only[sL]
   rw[List.take_of_length_le (by rw[qD];exact Nat.le_refl _),UX];exact⟨⟨by rw[qD];exact Nat.le_refl _,by show (acc.length+1)*40<=140737488355328;omega⟩,ih⟩
theorem Yj(e a:Int)(tot:List Tok)(pn:Option Value)(hE:fK tg (wi e a tot) s5 Ak (.sl .pv) [] Al (Mh tot) true pn)(t:Tok)(ts:List Tok)(h:t::ts=tot)(hl:tot.length<=20000):fK tg (wi e a tot) s5 Ak (.sl .pv) ((t::ts).map yT) Al G8 true pn:=by
 have ih:=OZ e a tot pn hE ts [t] h hl;refine x5 (d:=.sl .pv) (y:=yT t) tf rfl 2 (by kernel_rfl) 300 ?_;apply of_eq (q:=((1:Nat)*40).le (140737488355328:Nat)/\fK tg (wi e a tot) s5 [0,1,0,1,1] D.pv.sl (List.map yT ts) (fr [(4,aR 1 0)]) (af.ofList [Ob.mk 26 [fI (0),fI (0)],Ob.mk 57 [Fd.c (W.sl 2 0 1 4)],Ob.mk 100 [Fd.a 0 D.pv [PV.int t.kind,PV.str t.text,PV.int t.n,PV.int t.at_]]]) true pn) (by kernel_rfl)
 try simp only[sL,Int.reduceEq,Int.reduceNe,Nat.reduceAdd]
 exact⟨Nat.le_of_ble_eq_true rfl,ih⟩
theorem sp_endN(tot:List Tok):fK tg (wi 0 0 tot) s5 Ak (.sl .pv) [] Al (Mh tot) true none:=by
 refine BL tf (by kernel_rfl) rfl 300 ?_;apply of_eq (q:=ax [V.c (W.sl (1:Nat) (0:Nat) tot.length (4:Nat))]=A.p (Fx (1:Nat) tot.length)/\[Ob.mk 26 [fI (0),fI (0)],Ob.mk 100 [Fd.a 0 D.pv (aE tot)]]=[oC (0:Int) (0:Int),DJ tot]) (by kernel_rfl)
 try simp only[sL]
 rfl
theorem Yk:fK tg (wi 0 0 []) s5 Ak (.sl .pv) [] Al G8 true none:=by
 refine BL tf (by kernel_rfl) rfl 300 ?_;apply of_eq (q:=ax [V.c (W.sl (1:Nat) (0:Nat) (0:Nat) (4:Nat))]=A.p (Fx (1:Nat) (0:Nat))/\[Ob.mk 26 [fI (0),fI (0)],Ob.mk 100 [Fd.a 0 D.pv []]]=[oC (0:Int) (0:Int),DJ []]) (by kernel_rfl)
 try simp only[sL,Int.reduceEq,Int.reduceNe,Nat.reduceAdd]
 exact⟨rfl,rfl⟩
theorem sp_endP(e a:Int)(tot:List Tok):fK tg (wi e a tot) s5 Ak (.sl .pv) [] Al (Mh tot) true (some (aU e a)):=by
 refine BM tf (by kernel_rfl) rfl ?_;apply of_eq (q:=ax [V.c (W.sl (1:Nat) (0:Nat) tot.length (4:Nat))]=A.p (Fx (1:Nat) tot.length)/\[Ob.mk 26 [fI e,fI a],Ob.mk 100 [Fd.a 0 D.pv (aE tot)]]=[oC e a,DJ tot]) (by kernel_rfl)
 try simp only[sL]
 first|rfl|exact⟨rfl,rfl⟩|exact ?a
theorem Yl(e a:Int):fK tg (wi e a []) s5 Ak (.sl .pv) [] Al G8 true (some (aU e a)):=by
 refine BM tf (by kernel_rfl) rfl ?_;apply of_eq (q:=ax [V.c (W.sl (1:Nat) (0:Nat) (0:Nat) (4:Nat))]=A.p (Fx (1:Nat) (0:Nat))/\[Ob.mk 26 [fI e,fI a],Ob.mk 100 [Fd.a 0 D.pv []]]=[oC e a,DJ []]) (by kernel_rfl)
 try simp only[sL,Int.reduceEq,Int.reduceNe,Nat.reduceAdd]
 first|rfl|exact⟨rfl,rfl⟩|exact ?a
theorem U5(e a:Int)(tot:List Tok)(pn:Option Value)(h1:∀ tot,fK tg (wi e a tot) s5 Ak (.sl .pv) [] Al (Mh tot) true pn)(h0:fK tg (wi e a []) s5 Ak (.sl .pv) [] Al G8 true pn)(hl:tot.length<=20000):fK tg (wi e a tot) s5 Ak (.sl .pv) (tot.map yT) Al G8 true pn:=by
 cases tot with
 | nil=>exact h0
 | cons t ts=>exact Yj e a (t::ts) pn (h1 _) t ts rfl hl
theorem U6(s:ByteArray)(hs:s.size<=20000)(hl:(bF s s.size 0).1.length<=20000)(h0:(bF s s.size 0).2.1=0->(bF s s.size 0).2.2=0):eX Tryz.prog 50 1 [sS s,.p (.c (.ptr 0 0))] [oC 0 0] (.p (Fx 1 (bF s s.size 0).1.length)) [oC (bF s s.size 0).2.1 (bF s s.size 0).2.2,DJ (bF s s.size 0).1]:=by
 refine BF (s:=tg) tf rfl Tryz.func50 (by kernel_rfl) (by kernel_rfl) 300 ?_ (fun _ h=>h);apply of_eq (q:=let q1:=(bF s s.size (0:Nat));Fl tg (fun r o=>r=A.p (Fx (1:Nat) q1.fst.length)/\o=[oC q1.snd.fst q1.snd.snd,DJ q1.fst]) [0,1] ((((ah.T.leaf.node (some (aR 0 0)) ah.T.leaf).node none ah.T.leaf).node (some (aR 0 0)) ah.T.leaf).node (some (aP (W.str s))) ((ah.T.leaf.node (some (aR 1 0)) ah.T.leaf).node none ah.T.leaf)) (af.ofList [Ob.mk 26 [fI (0),fI (0)],Ob.mk 57 [Fd.c W.nil]])) (by kernel_rfl)
 try simp only[sL,Int.reduceEq,Int.reduceNe,Nat.reduceAdd]
 refine UC (T:=s5) tf rfl (by kernel_rfl) rfl rfl 300 ?_;apply of_eq (q:=let q1:=(bF s s.size (0:Nat));Ek tg (fun r o=>r=A.p (Fx (1:Nat) q1.fst.length)/\o=[oC q1.snd.fst q1.snd.snd,DJ q1.fst]) s5 [0,1,0,1,1] (fr [(4,aR 1 0),(9,aP (W.func 97 [(2,(0:Nat))]))]) (af.ofList [Ob.mk 26 [fI (0),fI (0)],Ob.mk 57 [Fd.c W.nil],Ob.mk 9 [Fd.c (W.str s)]])) (by kernel_rfl)
 try simp only[sL,Int.reduceEq,Int.reduceNe,Nat.reduceAdd]
 have hI:=U2 s hs (decide ((bF s s.size 0).2.1≠0)) (aU (bF s s.size 0).2.1 (bF s s.size 0).2.2) rfl rfl;have hY:fK tg (wi (bF s s.size 0).2.1 (bF s s.size 0).2.2 (bF s s.size 0).1) s5 Ak (.sl .pv) ((bF s s.size 0).1.map yT) Al G8 true (bif decide ((bF s s.size 0).2.1≠0) then some (aU (bF s s.size 0).2.1 (bF s s.size 0).2.2) else none):=by
  by_cases hb:(bF s s.size 0).2.1=0;have hb2:=h0 hb;rw[hb,hb2,decide_eq_false (by simp)];exact U5 0 0 _ none sp_endN Yk hl;rw[decide_eq_true hb];exact U5 _ _ _ _ (sp_endP _ _) (Yl _ _) hl
 exact N0 rfl (by kernel_rfl) hI hY
theorem u7(s:ByteArray):∀ k i,(bF s k i).1.length<=k
 | 0,i=>by simp[bF]
 | k + 1, i => by
   have h1:=u7 s k (i+1);have h2:=u7 s k (aO jl s i);have h3:=u7 s k (bU s i).e.toNat;rw[bF];split;split;omega;split;omega;split;simp;simp only[List.length_cons];omega;simp
theorem x9(s:ByteArray):∀ k i,(bF s k i).2.1=0->(bF s k i).2.2=0
 | 0,i,_=>by simp[bF]
 | k + 1, i, h => by
   have h1:=x9 s k (i+1);have h2:=x9 s k (aO jl s i);have h3:=x9 s k (bU s i).e.toNat;rw[bF] at h ⊢;split at h;rename_i a;rw[if_pos a];split at h;rename_i b;rw[if_pos b];exact h1 h;rename_i b;rw[if_neg b];split at h;rename_i c;rw[if_pos c];exact h2 h;rename_i c;rw[if_neg c];split at h;rename_i d;exact absurd h d;rename_i d;rw[if_neg d];exact h3 h;rename_i a;rw[if_neg a]
def Mi:cV:={ cC:=[false,true],aj:=some 1,f:=fun args ai=>match args,ai with
 | [x,.p (.c (.ptr 0 0))],[⟨t,[.c (.int .i64 0),.c (.int .i64 0)]⟩]=>match xY .str x with
   | some s=>bif Nat.beq t 26 then some (.p (ByteArray.size s<=20000),.p (Fx 1 (bF s (ByteArray.size s) 0).1.length),[oC (bF s (ByteArray.size s) 0).2.1 (bF s (ByteArray.size s) 0).2.2,DJ (bF s (ByteArray.size s) 0).1]) else none
   | none=>none
 | _,_=>none }
theorem U7:bt Tryz.prog 50 Mi:=by
 refine⟨by kernel_rfl,fun args ai c r aV e hc=>?_⟩;simp only[Mi] at e;split at e;split at e;rename_i s hx;obtain⟨hb,e1⟩:=ah.ay e;clear e;cases Nat.eq_of_beq_eq_true hb;cases e1;have h:=U6 s hc (Nat.le_trans (u7 _ _ _) hc) (x9 _ _ _);intro base η Z w vs R hvs hK;exact h base η Z w vs R (match vs,hvs with | [_,_],⟨a,b⟩=>⟨lQ hx a,b⟩) hK;cases e;cases e
noncomputable def gSpl:bX:=[(50,Mi)]
theorem gSpl_ok:bh Tryz.prog gSpl:=aq U7 aD
end Go.Proofs.YtnbjjocbncblaaaGreatDoor
