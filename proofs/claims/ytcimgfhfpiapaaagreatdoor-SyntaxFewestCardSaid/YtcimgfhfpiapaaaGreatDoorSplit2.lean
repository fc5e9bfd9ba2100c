/- Tokens: what the program hands on is what the reference finds. -/
import Derived.Test.YtcimgfhfpiapaaaGreatDoorSplit1
namespace Go.Proofs.YtcimgfhfpiapaaaGreatDoor
open Go.aU
set_option maxRecDepth 100000
theorem KC(p:Int->Bool)(s:ByteArray):∀(k i:Nat),k=s.size-i->∀ j,i<=j->j<aN p s i->p (aT s j)=true
 | k,i,hk,j,h1,h2=>by
   by_cases h:i<s.size/\p (aT s i)=true
   . rw[fD h] at h2;cases k with
     | zero=>omega
     | succ k =>
       by_cases hj:j=i;subst hj;exact h.2;exact KC p s k (i+1) (by omega) j (by omega) h2
   rw[js h] at h2;omega
theorem Nc{x:ByteArray}:(oT x=true∨1000000000000000<tC x)↔1000000000000000<jI x.data.toList 0:=by
 unfold oT tC;rw[decide_eq_true_eq];split<;>omega
theorem at_val{x:ByteArray}(h:jI x.data.toList 0<=1000000000000000):tC x=(jI x.data.toList 0:Int):=by
 unfold tC;rw[if_pos (by omega)]
theorem Nd(s:ByteArray)(hs:s.size<=20000)(l:Nat)(b:Bool)(v:Value):∀(k i:Nat),s.size<=k+i->i<=s.size->(b=decide ((bK s k i).2.1≠0))->v=aV (bK s k i).2.1 (bK s k i).2.2->
 aF (mX b v) (fun _ _=>b=false) [0,1] (fr (Nb l i)) (S7 l s ((bK s k i).1.map yT))
 | 0,i,hk,hi,hb,hv=>by
   refine cj Ew (by kernel_rfl) 300 ?_;apply of_eq (q:=let q0:=IntKind.i64.wrap;let q2:=(s.extract i (aN ck s i));let q5:=(R1.pure (Cd.t.and Cd.t) (aP (W.str s))).v=(R1.pure (Cd.t.and Cd.t) (aP (W.str s))).v;let q7:=(i:Int);let q9:=(s.extract i (aN cu s i));let bg:=decide (aT s i=48)=true;let aJ:=(bif true then oT q2 else !oT q2)=false;let bn:=(s.size:Int);let bS:=(↑(aN cu s i):Int);let bX:=Value.iface (107:Nat) (Value.agg #[Value.int .i64 (4:Int),Value.int .i64 q7])=v;let dx:=(q0 (q7+1));let dX:=(↑(aN ck s i):Int);let bV:=decide (aT s i=32);let cU:=(R1.pure (Cd.t.and Cd.t) (aP (W.str q9))).v=(R1.pure (Cd.t.and Cd.t) (aP (W.str q9))).v;let dR:=(bK s (0:Nat) i);let dL:=(0:Int)<=q7;let bQ:=aP (W.yield l);let q1:=(aN cD s dx.toNat);let q4:=(List.map yT dR.fst);let q6:=(af.cW (some (Gh.mk l D.pv.sl q4.tail true)) [Ob.mk 9 [Fd.c (W.str s)]]);let q8:=List.map yT dR.fst=[];let eI:=(af.cW (some (Gh.mk l D.pv.sl q4 true)) [Ob.mk 9 [Fd.c (W.str s)]]);let ga:=decide ((200:Int)<(↑(s.extract dx.toNat q1).size:Int));let dF:=(↑q1:Int);let q3:=decide (dF=bn);(decide (q7<bn)=true->(dL/\q7<bn)/\(bV=false->bV=false)/\(bV=false->bV=false)/\((bif bV then true else decide (aT s i=10))=true->aF (mX b v) (fun x x_1=>b=false) [0,1] (fr [(0,bQ),(1,aR 0 0),(3,nI dx)]) eI)/\((bif bV then true else decide (aT s i=10))=false->(decide (aT s i=35)=true->(s.size<=1000000/\dL/\q7<=bn)/\aF (mX b v) (fun x x_1=>b=false) [0,1] (fr [(0,bQ),(1,aR 0 0),(3,nI (↑(aN fw s i):Int))]) eI)/\(decide (aT s i=35)=false->(fu (aT s i)=true->(s.size<=1000000/\dL/\q7<=bn)/\(dL/\q7<=bS/\bS<=bn)/\q5/\q5/\(13:Nat)<=1000000/\cU/\cU/\(eB pN q9=true->(l=l/\List.map yT dR.fst≠[]/\q4.head? = some [PV.int q7,PV.int (2:Int),PV.str q9,PV.int (0:Int),PV.int q7])/\aF (mX b v) (fun x x_1=>b=false) [0,1] (fr [(0,bQ),(1,aR 0 0),(3,nI bS)]) q6)/\(eB pN q9=false->(decide ((20:Int)<q0 (bS-q7))=true->(b=true/\bX)/\q8)/\(decide ((20:Int)<q0 (bS-q7))=false->(l=l/\List.map yT dR.fst≠[]/\q4.head? = some [PV.int q7,PV.int (1:Int),PV.str q9,PV.int (0:Int),PV.int q7])/\aF (mX b v) (fun x x_1=>b=false) [0,1] (fr [(0,bQ),(1,aR 0 0),(3,nI bS)]) q6)))/\(fu (aT s i)=false->(ck (aT s i)=true->(s.size<=1000000/\dL/\q7<=bn)/\(dL/\q7<=dX/\dX<=bn)/\(yc q2.data.toList/\(1:Nat)<=q2.size/\q2.size<=1000000)/\(bg->bg)/\(bg->bg)/\(bg->bg)/\(bg->bg)/\((bif decide (aT s i=48) then decide (q0 (q7+1)<dX) else false)=true->(b=true/\Value.iface (107:Nat) (Value.agg #[Value.int .i64 (11:Int),Value.int .i64 q7])=v)/\q8)/\((bif decide (aT s i=48) then decide (q0 (q7+1)<dX) else false)=false->(aJ->aJ)/\(aJ->aJ)/\((bif bif true then oT q2 else !oT q2 then true else decide ((1000000000000000:Int)<tC q2))=true->(b=true/\Value.iface (107:Nat) (Value.agg #[Value.int .i64 (2:Int),Value.int .i64 q7])=v)/\q8)/\((bif bif true then oT q2 else !oT q2 then true else decide ((1000000000000000:Int)<tC q2))=false->(l=l/\List.map yT dR.fst≠[]/\q4.head? = some [PV.int q7,PV.int (3:Int),PV.str (ByteArray.mk #[]),PV.int (tC q2),PV.int q7])/\aF (mX b v) (fun x x_1=>b=false) [0,1] (fr [(0,bQ),(1,aR 0 0),(3,nI dX)]) q6)))/\(ck (aT s i)=false->(decide (aT s i=34)=true->(s.size<=1000000/\(0:Int)<=q0 (q7+1)/\q0 (q7+1)<=bn)/\(q3=false->q3=false)/\(q3=false->q3=false)/\(q3=false->(0:Int)<=dF/\dF<bn)/\(q3=false->q3=false)/\(q3=false->q3=false)/\((bif q3 then true else !decide (aT s q1=34))=true->(b=true/\Value.iface (107:Nat) (Value.agg #[Value.int .i64 (11:Int),Value.int .i64 dF])=v)/\q8)/\((bif q3 then true else !decide (aT s q1=34))=false->((0:Int)<=q0 (q7+1)/\q0 (q7+1)<=dF/\dF<=bn)/\q5/\q5/\(ga=true->(b=true/\bX)/\q8)/\(ga=false->(l=l/\List.map yT dR.fst≠[]/\q4.head? = some [PV.int q7,PV.int (4:Int),PV.str (s.extract dx.toNat q1),PV.int (0:Int),PV.int q7])/\aF (mX b v) (fun x x_1=>b=false) [0,1] (fr [(0,bQ),(1,aR 0 0),(3,nI (q0 (dF+1)))]) q6)))/\(decide (aT s i=34)=false->aF (mX b v) (fun x x_1=>b=false) [0,1,0,1,1,1,1,1,1,1,1,1,1,0,0,1,1,1,0,1,0,0,1] (fr [(0,bQ),(1,aR 0 0),(3,nI q7),(6,aR 1 0),(21,aP (W.rd D.str ep)),(22,nI (↑(21:Nat):Int)),(23,nI (0))]) (af.cW (some (Gh.mk l D.pv.sl q4 true)) [Ob.mk 9 [Fd.c (W.str s)],Ob.mk 62 [fI (0),Fd.c (W.str (ByteArray.mk #[])),fI (0),fI q7]])))))))/\(decide (q7<bn)=false->q8/\b=false)) (by kernel_rfl)
   try simp only[sL]
   exact⟨fun h=>by omega,fun h=>⟨rfl,by rw[hb];rfl⟩⟩
 | k + 1, i, hk, hi, hb, hv => by
   have IH:∀ j,i<j->j<=s.size->b=decide ((bK s k j).2.1≠0)->v=aV (bK s k j).2.1 (bK s k j).2.2->aF (mX b v) (fun _ _=>b=false) [0,1] (fr (Nb l j)) (S7 l s ((bK s k j).1.map yT)):=fun j h1 h2 hb hv=>Nd s hs l b v k j (by omega) h2 hb hv;refine cj Ew (by kernel_rfl) 300 ?_;apply of_eq (q:=let q0:=IntKind.i64.wrap;let q2:=(s.extract i (aN ck s i));let q5:=(R1.pure (Cd.t.and Cd.t) (aP (W.str s))).v=(R1.pure (Cd.t.and Cd.t) (aP (W.str s))).v;let q6:=(bK s (k+1) i);let q7:=(i:Int);let q8:=(s.extract i (aN cu s i));let q9:=decide (aT s i=48)=true;let bg:=(bif true then oT q2 else !oT q2)=false;let aJ:=(List.map yT q6.fst);let bn:=(s.size:Int);let bS:=(↑(aN cu s i):Int);let bX:=Value.iface (107:Nat) (Value.agg #[Value.int .i64 (4:Int),Value.int .i64 q7])=v;let dx:=List.map yT q6.fst=[];let dX:=(q0 (q7+1));let bV:=(↑(aN ck s i):Int);let cU:=decide (aT s i=32);let dR:=(R1.pure (Cd.t.and Cd.t) (aP (W.str q8))).v=(R1.pure (Cd.t.and Cd.t) (aP (W.str q8))).v;let eI:=(af.cW (some (Gh.mk l D.pv.sl aJ true)) [Ob.mk 9 [Fd.c (W.str s)]]);let dL:=(0:Int)<=q7;let bQ:=aP (W.yield l);let q1:=(aN cD s dX.toNat);let q4:=(af.cW (some (Gh.mk l D.pv.sl aJ.tail true)) [Ob.mk 9 [Fd.c (W.str s)]]);let ga:=decide ((200:Int)<(↑(s.extract dX.toNat q1).size:Int));let dF:=(↑q1:Int);let q3:=decide (dF=bn);(decide (q7<bn)=true->(dL/\q7<bn)/\(cU=false->cU=false)/\(cU=false->cU=false)/\((bif cU then true else decide (aT s i=10))=true->aF (mX b v) (fun x x_1=>b=false) [0,1] (fr [(0,bQ),(1,aR 0 0),(3,nI dX)]) eI)/\((bif cU then true else decide (aT s i=10))=false->(decide (aT s i=35)=true->(s.size<=1000000/\dL/\q7<=bn)/\aF (mX b v) (fun x x_1=>b=false) [0,1] (fr [(0,bQ),(1,aR 0 0),(3,nI (↑(aN fw s i):Int))]) eI)/\(decide (aT s i=35)=false->(fu (aT s i)=true->(s.size<=1000000/\dL/\q7<=bn)/\(dL/\q7<=bS/\bS<=bn)/\q5/\q5/\(13:Nat)<=1000000/\dR/\dR/\(eB pN q8=true->(l=l/\List.map yT q6.fst≠[]/\aJ.head? = some [PV.int q7,PV.int (2:Int),PV.str q8,PV.int (0:Int),PV.int q7])/\aF (mX b v) (fun x x_1=>b=false) [0,1] (fr [(0,bQ),(1,aR 0 0),(3,nI bS)]) q4)/\(eB pN q8=false->(decide ((20:Int)<q0 (bS-q7))=true->(b=true/\bX)/\dx)/\(decide ((20:Int)<q0 (bS-q7))=false->(l=l/\List.map yT q6.fst≠[]/\aJ.head? = some [PV.int q7,PV.int (1:Int),PV.str q8,PV.int (0:Int),PV.int q7])/\aF (mX b v) (fun x x_1=>b=false) [0,1] (fr [(0,bQ),(1,aR 0 0),(3,nI bS)]) q4)))/\(fu (aT s i)=false->(ck (aT s i)=true->(s.size<=1000000/\dL/\q7<=bn)/\(dL/\q7<=bV/\bV<=bn)/\(yc q2.data.toList/\(1:Nat)<=q2.size/\q2.size<=1000000)/\(q9->q9)/\(q9->q9)/\(q9->q9)/\(q9->q9)/\((bif decide (aT s i=48) then decide (q0 (q7+1)<bV) else false)=true->(b=true/\Value.iface (107:Nat) (Value.agg #[Value.int .i64 (11:Int),Value.int .i64 q7])=v)/\dx)/\((bif decide (aT s i=48) then decide (q0 (q7+1)<bV) else false)=false->(bg->bg)/\(bg->bg)/\((bif bif true then oT q2 else !oT q2 then true else decide ((1000000000000000:Int)<tC q2))=true->(b=true/\Value.iface (107:Nat) (Value.agg #[Value.int .i64 (2:Int),Value.int .i64 q7])=v)/\dx)/\((bif bif true then oT q2 else !oT q2 then true else decide ((1000000000000000:Int)<tC q2))=false->(l=l/\List.map yT q6.fst≠[]/\aJ.head? = some [PV.int q7,PV.int (3:Int),PV.str (ByteArray.mk #[]),PV.int (tC q2),PV.int q7])/\aF (mX b v) (fun x x_1=>b=false) [0,1] (fr [(0,bQ),(1,aR 0 0),(3,nI bV)]) q4)))/\(ck (aT s i)=false->(decide (aT s i=34)=true->(s.size<=1000000/\(0:Int)<=q0 (q7+1)/\q0 (q7+1)<=bn)/\(q3=false->q3=false)/\(q3=false->q3=false)/\(q3=false->(0:Int)<=dF/\dF<bn)/\(q3=false->q3=false)/\(q3=false->q3=false)/\((bif q3 then true else !decide (aT s q1=34))=true->(b=true/\Value.iface (107:Nat) (Value.agg #[Value.int .i64 (11:Int),Value.int .i64 dF])=v)/\dx)/\((bif q3 then true else !decide (aT s q1=34))=false->((0:Int)<=q0 (q7+1)/\q0 (q7+1)<=dF/\dF<=bn)/\q5/\q5/\(ga=true->(b=true/\bX)/\dx)/\(ga=false->(l=l/\List.map yT q6.fst≠[]/\aJ.head? = some [PV.int q7,PV.int (4:Int),PV.str (s.extract dX.toNat q1),PV.int (0:Int),PV.int q7])/\aF (mX b v) (fun x x_1=>b=false) [0,1] (fr [(0,bQ),(1,aR 0 0),(3,nI (q0 (dF+1)))]) q4)))/\(decide (aT s i=34)=false->aF (mX b v) (fun x x_1=>b=false) [0,1,0,1,1,1,1,1,1,1,1,1,1,0,0,1,1,1,0,1,0,0,1] (fr [(0,bQ),(1,aR 0 0),(3,nI q7),(6,aR 1 0),(21,aP (W.rd D.str ep)),(22,nI (↑(21:Nat):Int)),(23,nI (0))]) (af.cW (some (Gh.mk l D.pv.sl aJ true)) [Ob.mk 9 [Fd.c (W.str s)],Ob.mk 62 [fI (0),Fd.c (W.str (ByteArray.mk #[])),fI (0),fI q7]])))))))/\(decide (q7<bn)=false->dx/\b=false)) (by kernel_rfl)
   try simp only[sL]
   refine⟨fun h=>?_,fun h=>?_⟩
   rotate_left
   have e:bK s (k+1) i=([],0,0):=by rw[bK,if_neg (by omega)]
   rw[e] at hb ⊢;exact⟨rfl,by rw[hb];rfl⟩;have hlt:i<s.size:=by omega
   refine⟨by omega,fun h1=>?_,fun h1=>?_⟩;have e:bK s (k+1) i=bK s k (i+1):=by rw[bK,if_pos hlt,if_pos h1]
   rw[e] at hb hv ⊢;rw[wrap64 (by omega) (by omega)];exact IH (i+1) (by omega) (by omega) hb hv;have hn:¬(aT s i=32∨aT s i=10):=by omega
   refine⟨fun h2=>⟨by omega,?_⟩,fun h2=>⟨fun h3=>?_,fun h3=>⟨fun h4=>?_,fun h4=>⟨fun h5=>?_,fun h5=>?_⟩⟩⟩⟩;have e:bK s (k+1) i=bK s k (aN fw s i):=by rw[bK,if_pos hlt,if_neg hn,if_pos h2]
   have hy:aN fw s i=aN fw s (i+1):=fD ⟨hlt,by unfold fw;rw[decide_eq_false (by omega)];rfl⟩;have hg:=ig fw s _ (i+1) rfl;have uj:=hg.2 (by omega);rw[e] at hb hv ⊢;exact IH _ (by omega) (by omega) hb hv;have hy:aN cu s i=aN cu s (i+1):=fD ⟨hlt,by unfold cu;rw[h3];rfl⟩;have hg:=ig cu s _ (i+1) rfl;have uj:=hg.2 (by omega);have ht0:bN s i=j9 s i (aN cu s i):=by unfold bN;rw[if_pos h3,hy]
   have hes:=oD (s:=s) (a:=i) (e:=aN cu s i) (by omega) (by omega);rw[wrap64 (n:=(aN cu s i:Int)-i) (by omega) (by omega)];refine⟨by omega,by omega,by omega,fun h4=>?_,fun h4=>⟨fun h5=>?_,fun h5=>?_⟩⟩;have ht:bN s i=⟨⟨2,s.extract i (aN cu s i),0,i⟩,(aN cu s i:Nat),0,0⟩:=by rw[ht0];unfold j9;rw[if_pos h4]
   exact Ey IH (KA hlt hn h2 ht) ⟨by omega,by omega⟩ hb hv rfl;have ht:bN s i=⟨⟨1,s.extract i (aN cu s i),0,i⟩,(aN cu s i:Nat),4,i⟩:=by rw[ht0];unfold j9;rw[if_neg (by rw[h4];simp),if_pos (by omega)]
   exact wq (FE hlt hn h2 ht (by decide)) (by decide) hb hv;have ht:bN s i=⟨⟨1,s.extract i (aN cu s i),0,i⟩,(aN cu s i:Nat),0,0⟩:=by rw[ht0];unfold j9;rw[if_neg (by rw[h4];simp),if_neg (by omega)]
   exact Ey IH (KA hlt hn h2 ht) ⟨by omega,by omega⟩ hb hv rfl
   · have hy : aN ck s i = aN ck s (i + 1) := fD ⟨hlt, h4⟩
     have hg:=ig ck s _ (i+1) rfl;have uj:=hg.2 (by omega);have ht0:bN s i=mE s i (aN ck s i):=by unfold bN;rw[if_neg (by rw[h3];simp),if_pos h4,hy]
     have hes:=oD (s:=s) (a:=i) (e:=aN ck s i) (by omega) (by omega);obtain⟨n1,n2,n3⟩:=FH (s:=s) (e:=aN ck s i) (by omega) _ i 0 rfl (by omega) (fun j a b=>KC ck s _ i rfl j a b) (by omega);rw[wrap64 (n:=(i:Int)+1) (by omega) (by omega)];refine⟨by omega,by omega,⟨n1,by omega,by omega⟩,fun h5=>?_,fun h5=>⟨fun h6=>?_,fun h6=>?_⟩⟩;have ht:bN s i=⟨⟨3,eS,0,i⟩,(aN ck s i:Nat),11,i⟩:=by rw[ht0];unfold mE;rw[if_pos ⟨h5.1,by omega⟩]
     exact wq (FE hlt hn h2 ht (by decide)) (by decide) hb hv;have hV:=Nc.1 (show oT _=true∨_ from h6);have ht:bN s i=⟨⟨3,eS,(jY s (aN ck s i) i 0).1,i⟩,(aN ck s i:Nat),2,i⟩:=by rw[ht0];unfold mE;rw[if_neg (by omega)];rw[if_pos (show (jY s (aN ck s i) i 0).2=true from n2 hV)]
     exact wq (FE hlt hn h2 ht (by decide)) (by decide) hb hv;have hV:jI (s.extract i (aN ck s i)).data.toList 0<=1000000000000000:=by
      have h7:oT (s.extract i (aN ck s i))=false:=h6.1;rcases Nat.lt_or_ge 1000000000000000 (jI (s.extract i (aN ck s i)).data.toList 0) with h8|h8;rcases Nc.2 h8 with h9|h9;rw[h7] at h9;cases h9;have:=h6.2;omega;exact h8
     have h8:=n3 hV;have ht:bN s i=⟨⟨3,eS,tC (s.extract i (aN ck s i)),i⟩,(aN ck s i:Nat),0,0⟩:=by rw[ht0,at_val hV];unfold mE;rw[if_neg (by omega)];rw[show jY s (aN ck s i) i 0=_ from h8,if_neg (by simp)]
     exact Ey IH (KA hlt hn h2 ht) ⟨by omega,by omega⟩ hb hv rfl
   have hg:=ig cD s _ (i+1) rfl;have uj:=hg.2 (by omega);have e1:((i:Int)+1).toNat=i+1:=by omega
   have ht0:bN s i=mF s i (aN cD s (i+1)):=by unfold bN;rw[if_neg (by rw[h3];simp),if_neg (by rw[h4];simp),if_pos h5]
   rw[wrap64 (n:=(i:Int)+1) (by omega) (by omega),e1];refine⟨by omega,fun h6=>by omega,fun h6=>?_,fun h6=>?_⟩;have ht:bN s i=⟨⟨0,eS,0,i⟩,(aN cD s (i+1):Nat),11,(aN cD s (i+1):Nat)⟩:=by rw[ht0];unfold mF;rw[if_pos (by rcases h6 with h6|h6;exact .inl (by omega);exact .inr h6)]
   exact wq (FE hlt hn h2 ht (by decide)) (by decide) hb hv;have hes:=oD (s:=s) (a:=i+1) (e:=aN cD s (i+1)) (by omega) (by omega);have hne:aN cD s (i+1)≠s.size:=by omega
   have hnq:¬(aN cD s (i+1)=s.size∨aT s (aN cD s (i+1))≠34):=by rintro (h7|h7);exact hne h7;exact h7 h6.2
   rw[wrap64 (n:=(aN cD s (i+1):Int)+1) (by omega) (by omega)];refine⟨by omega,fun h7=>?_,fun h7=>?_⟩;have ht:bN s i=⟨⟨4,s.extract (i+1) (aN cD s (i+1)),0,i⟩,(aN cD s (i+1):Nat),4,i⟩:=by rw[ht0];unfold mF;rw[if_neg hnq,if_pos (by omega)]
   exact wq (FE hlt hn h2 ht (by decide)) (by decide) hb hv;have ht:bN s i=⟨⟨4,s.extract (i+1) (aN cD s (i+1)),0,i⟩,(aN cD s (i+1)+1:Nat),0,0⟩:=by rw[ht0];unfold mF;rw[if_neg hnq,if_neg (by omega)]
   exact Ey IH (KA hlt hn h2 ht) ⟨by omega,by omega⟩ hb hv rfl;have ht0:bN s i=mW s i 2:=by unfold bN;rw[if_neg (by rw[h3];simp),if_neg (by rw[h4];simp),if_neg h5]
   have Qe:=WB (s:=s) hlt;have hspec:=(Aw (s.extract i s.size) ep eS).1;refine FG hs hlt (fun x hx=>?_) 21 0 0 eS rfl (by omega) rfl (fun _=>rfl) (fun h=>absurd h (by decide)) (by decide);rw[hx] at Qe hspec;refine⟨fun h6=>?_,fun h6=>?_⟩;have ht:bN s i=⟨⟨5,eS,0,i⟩,(i+1:Nat),11,i⟩:=by rw[ht0,Qe,if_pos h6]
   exact wq (FE hlt hn h2 ht (by decide)) (by decide) hb hv;have ht:bN s i=⟨⟨5,x,0,i⟩,(i+x.size:Nat),0,0⟩:=by rw[ht0,Qe,if_neg (by omega)]
   have hle:i+x.size<=s.size:=by
    rcases hspec with h7|h7;rw[h7] at h6;exact absurd h6 (by decide);exact((ye (by omega)).1 h7.2).1
   exact Ey IH (KA hlt hn h2 ht) ⟨by omega,hle⟩ hb hv rfl
theorem S9(s:ByteArray)(hs:s.size<=20000)(b:Bool)(v:Value)(hb:b=decide ((bK s s.size 0).2.1≠0))(hv:v=aV (bK s s.size 0).2.1 (bK s s.size 0).2.2):Bn Tryz.prog 89 [.p (.c (.ptr 0 0))] [FD s] (.sl .pv) ((bK s s.size 0).1.map yT) true (bif b then some v else none):=by
 refine P2 (dies:=[]) (aQ:=Ky) Ew Tryz.func89 (by kernel_rfl) (by kernel_rfl) 100 fun l=>?_;apply of_eq (q:=aF (Bo Tryz.prog gSc [] Tryz.f89 Ky b v) (fun x x_1=>b=false) [0,1] (fr [(0,aP (W.yield l)),(1,aR 0 0),(3,nI (0))]) (af.cW (some (Gh.mk l D.pv.sl (List.map yT (bK s s.size (0:Nat)).fst) true)) [Ob.mk 9 [Fd.c (W.str s)]])) (by kernel_rfl)
 try simp only[sL,Int.reduceEq,Int.reduceNe,Nat.reduceAdd]
 exact Nd s hs l b v s.size 0 (by omega) (by omega) hb hv
end Go.Proofs.YtcimgfhfpiapaaaGreatDoor
namespace Go.aU
open Go.RowKit
theorem KD{k base:Nat}{η aC:Eta}{Z Z':ar}{S':af}{w w':World}(mv:gD k base η Z (.ofList []) w aC Z' S' w'):Below w.heap.size w w':=by
 have hno:∀ b,¬aU.Own η (.ofList []) b:=by
  rintro b ⟨n,o,p,h,_⟩;rw[af.bG] at h;simp at h
 exact⟨mv.step.os,mv.step.tape,mv.step.output,mv.step.size,fun b hb=>mv.step.block b hb (hno b)⟩
end Go.aU
namespace Go.Proofs.YtcimgfhfpiapaaaGreatDoor
open Go.aU
set_option maxRecDepth 100000
noncomputable def sCg:bh:=ez Tryz.prog [] Tryz.f30 1 [] [] []
noncomputable def restCg:Code:=match qz sCg.bD with|some (_,_,r)=>r|none=>.skip
noncomputable def sCg0:bh:=ez Tryz.prog [] Tryz.f30 0 [] [] []
noncomputable def aap:Code:=match qz sCg0.bD with|some (_,_,r)=>r|none=>.skip
def KE(u:Value)(aj:List Ob):Option (Cd×List Ob):=match u,aj with
 | .iface t (.agg ⟨[.int .i64 e,.int .i64 i]⟩),[⟨t1,[.c (.int .i64 0),.c (.int .i64 0)]⟩]=>bif Nat.beq t 107&&Nat.beq t1 28 then some (.t,[mV e i]) else none
 | _,_=>none
theorem cg_got(e i:Int):∀ base η Z w vs,St base η Z (.ofList [mV 0 0]) w->aL (cw η Z) (uw 1) vs->fW Tryz.prog Z->CallsDIn Fence.wide 0 Tryz.prog 30 vs.toArray (.panicking [{ v:=aV e i,recovered:=false }]) w fun ex md w'=>(∃ v,ex=.returned v)/\md=.panicking [{ v:=aV e i,recovered:=true }]/\∃ aC Z',gD 1 base η Z (.ofList [mV 0 0]) w aC Z' (.ofList [mV e i]) w':=by
 intro base η Z w vs R hvs hK;refine CallsDIn.mono (Kk (s:=sCg) (n:=100) (aO:=restCg) (d1:=5) (d2:=5) aK rfl Tryz.func30 (by kernel_rfl) (by kernel_rfl) (by kernel_rfl) (by kernel_rfl) (by kernel_rfl) (args:=[.p (.c (.ptr 0 0))]) (by kernel_rfl) (m:=.panicking [{ v:=aV e i,recovered:=false }]) (m':=.panicking [{ v:=aV e i,recovered:=true }]) (x:=.val (aV e i)) (v:=aV e i) (fun η Z=>by first|rfl|trivial|exact⟨rfl,rfl⟩) (by intro h;cases h) (fun c0 cs=>by first|exact⟨rfl,rfl⟩|done) (Qv:=fun _ o=>o=[mV e i]) ?_ R hvs hK) ?_
 skip
 apply of_eq (q:=(false=true->[Ob.mk 28 [fI (0),fI (0)]]=[mV e i])/\(false=false->(true=true->[Ob.mk 28 [fI e,fI i]]=[mV e i])/\(true=false->False))) (by kernel_rfl)
 try simp only[sL]
 exact⟨fun h=>(by cases h),fun _ h=>(by cases h)⟩;rintro ex md w' ⟨h1,h2,aC,Z',r,aY,mv,ho⟩;subst ho;exact⟨h1,h2,aC,Z',mv⟩
theorem Ax:Ke Tryz.prog 30 1 KE:=by
 refine⟨by kernel_rfl,fun base η Z w vs R0 hK hl hv=>?_,fun u aj c aY e hc hl=>?_⟩
 . match vs,hl with
   | [v1],_ =>
     refine CallsDIn.mono (Kk (s:=sCg0) (n:=100) (aO:=aap) (d1:=5) (d2:=5) aK rfl Tryz.func30 (by kernel_rfl) (by kernel_rfl) (by kernel_rfl) (by kernel_rfl) (by kernel_rfl) (args:=[.p (.c (.val v1))]) (by kernel_rfl) (m:=.returning) (m':=.returning) (x:=.kC) (v:=.nilIface) (fun η Z=>by first|rfl|trivial|exact⟨rfl,rfl⟩) (by intro h;cases h) (fun c0 cs=>⟨rfl,rfl⟩) (Qv:=fun _ _=>True) ?_ R0 ⟨⟨(by intro h;cases h),rfl,hv v1 (by simp)⟩,trivial⟩ hK) ?_
     skip
     apply of_eq (q:=((!false)=true->True)/\((!false)=false->(false=true->False)/\(false=false->False))) (by kernel_rfl)
     try simp only[sL]
     first|trivial|exact ?b
     rintro e md w' ⟨h1,h2,aC,Z',r,aY,mv,_⟩;exact⟨h1,h2,KD mv⟩
 unfold KE at e;split at e;obtain⟨hb,e1⟩:=ah.aA e;clear e;simp only[Bool.and_eq_true] at hb;cases Nat.eq_of_beq_eq_true hb.1;cases Nat.eq_of_beq_eq_true hb.2;cases e1;exact cg_got _ _;cases e
noncomputable def rm:kI Tryz.prog:={ f:=30,k:=1,got:=KE,ok:=Ax,arg:=true }
end Go.Proofs.YtcimgfhfpiapaaaGreatDoor
namespace Go.Proofs.YtcimgfhfpiapaaaGreatDoor
open Go.aU
set_option maxRecDepth 100000
abbrev WC:A:=.p (.c (.func 89 [(0,0)]))
theorem WD(s:ByteArray):bt Tryz.prog 71 [sS s] [] WC [FD s]:=by
 refine bq (aQ:=[]) aK Tryz.func71 (by kernel_rfl) (ak:=0) rfl (by kernel_rfl) 100 ?_;apply of_eq (q:=ax [V.c (W.func 89 [(0,(0:Nat))])]=WC/\[Ob.mk 9 [Fd.c (W.str s)]]=[FD s]) (by kernel_rfl)
 try simp only[sL]
 rfl
def Ta:cT:=jk .str fun s=>(.t,WC,[FD s])
theorem Tb:bE Tryz.prog 71 Ta:=eZ (by kernel_rfl) fun s _=>WD s
noncomputable def gSp:cg:=[(71,Ta)]
theorem ru:bp Tryz.prog gSp:=aq Tb aK
noncomputable def rz:bh:={ ez Tryz.prog gSp Tryz.f47 1 [([0,1,0,1,1],[4,9])] [] [] with tail:=some rm }
abbrev uE(e a:Int)(tot:List Tok):A->List Ob->Prop:=fun r o=>r=.p (Eu 1 tot.length)/\o=[mV e a,Cz tot]
def yL:List Nat:=[0,1,0,1,1]
abbrev KF(acc:List Tok):af:=.ofList [mV 0 0,⟨58,[.c (.sl 2 0 acc.length 4)]⟩,Cz acc]
abbrev FI:af:=.ofList [mV 0 0,⟨58,[.c .nil]⟩]
noncomputable abbrev yM:Fr:=fr [(4,.p (.c (.ptr 1 0)))]
theorem Nf(e a:Int)(tot:List Tok)(pn:Option Value)(hE:fC rz (uE e a tot) rm yL (.sl .pv) [] yM (KF tot) true pn):∀(ts acc:List Tok),acc++ts=tot->tot.length<=20000->fC rz (uE e a tot) rm yL (.sl .pv) (ts.map yT) yM (KF acc) true pn
 | [],acc,h,_=>by rw[List.append_nil] at h;subst h;exact hE
 | t::ts,acc,h,hl=>by
   have bO:acc.length+1+ts.length=tot.length:=by rw[<-h];simp;omega
   have ih:=Nf e a tot pn hE ts (acc++[t]) (by rw[<-h];simp) hl;unfold KF at ih;rw[List.length_append,List.length_singleton] at ih;refine wm (d:=.sl .pv) (y:=yT t) ru rfl 3 (by kernel_rfl) 300 ?_;apply of_eq (q:=(((0:Nat)+acc.length*4).le (aB acc).length/\((acc.length+1)*40).le (140737488355328:Nat))/\fC rz (uE e a tot) rm [0,1,0,1,1] D.pv.sl (List.map yT ts) (fr [(4,aR 1 0)]) (af.ofList [Ob.mk 28 [fI (0),fI (0)],Ob.mk 58 [Fd.c (W.sl 2 0 (acc.length+1) 4)],Ob.mk 62 [Fd.a 0 D.pv (List.take (acc.length*4) (List.drop (0:Nat) (aB acc))++[PV.int t.kind,PV.str t.text,PV.int t.n,PV.int t.at_])]]) true pn) (by kernel_rfl)
   try simp only[sL]
   rw[List.take_of_length_le (by rw[lH];exact Nat.le_refl _),SZ];exact⟨⟨by rw[lH];exact Nat.le_refl _,by show (acc.length+1)*40<=140737488355328;omega⟩,ih⟩
theorem WE(e a:Int)(tot:List Tok)(pn:Option Value)(hE:fC rz (uE e a tot) rm yL (.sl .pv) [] yM (KF tot) true pn)(t:Tok)(ts:List Tok)(h:t::ts=tot)(hl:tot.length<=20000):fC rz (uE e a tot) rm yL (.sl .pv) ((t::ts).map yT) yM FI true pn:=by
 have ih:=Nf e a tot pn hE ts [t] h hl;refine wm (d:=.sl .pv) (y:=yT t) ru rfl 2 (by kernel_rfl) 300 ?_;apply of_eq (q:=((1:Nat)*40).le (140737488355328:Nat)/\fC rz (uE e a tot) rm [0,1,0,1,1] D.pv.sl (List.map yT ts) (fr [(4,aR 1 0)]) (af.ofList [Ob.mk 28 [fI (0),fI (0)],Ob.mk 58 [Fd.c (W.sl 2 0 1 4)],Ob.mk 62 [Fd.a 0 D.pv [PV.int t.kind,PV.str t.text,PV.int t.n,PV.int t.at_]]]) true pn) (by kernel_rfl)
 try simp only[sL,Int.reduceEq,Int.reduceNe,Nat.reduceAdd]
 exact⟨Nat.le_of_ble_eq_true rfl,ih⟩
theorem aaq(tot:List Tok):fC rz (uE 0 0 tot) rm yL (.sl .pv) [] yM (KF tot) true none:=by
 refine Am ru (by kernel_rfl) rfl 300 ?_;apply of_eq (q:=ax [V.c (W.sl (1:Nat) (0:Nat) tot.length (4:Nat))]=A.p (Eu (1:Nat) tot.length)/\[Ob.mk 28 [fI (0),fI (0)],Ob.mk 62 [Fd.a 0 D.pv (aB tot)]]=[mV (0:Int) (0:Int),Cz tot]) (by kernel_rfl)
 try simp only[sL]
 rfl
theorem WG:fC rz (uE 0 0 []) rm yL (.sl .pv) [] yM FI true none:=by
 refine Am ru (by kernel_rfl) rfl 300 ?_;apply of_eq (q:=ax [V.c (W.sl (1:Nat) (0:Nat) (0:Nat) (4:Nat))]=A.p (Eu (1:Nat) (0:Nat))/\[Ob.mk 28 [fI (0),fI (0)],Ob.mk 62 [Fd.a 0 D.pv []]]=[mV (0:Int) (0:Int),Cz []]) (by kernel_rfl)
 try simp only[sL,Int.reduceEq,Int.reduceNe,Nat.reduceAdd]
 exact⟨rfl,rfl⟩
theorem aar(e a:Int)(tot:List Tok):fC rz (uE e a tot) rm yL (.sl .pv) [] yM (KF tot) true (some (aV e a)):=by
 refine Ao ru (by kernel_rfl) rfl ?_;apply of_eq (q:=ax [V.c (W.sl (1:Nat) (0:Nat) tot.length (4:Nat))]=A.p (Eu (1:Nat) tot.length)/\[Ob.mk 28 [fI e,fI a],Ob.mk 62 [Fd.a 0 D.pv (aB tot)]]=[mV e a,Cz tot]) (by kernel_rfl)
 try simp only[sL]
 first|rfl|exact⟨rfl,rfl⟩|exact ?a
theorem WH(e a:Int):fC rz (uE e a []) rm yL (.sl .pv) [] yM FI true (some (aV e a)):=by
 refine Ao ru (by kernel_rfl) rfl ?_;apply of_eq (q:=ax [V.c (W.sl (1:Nat) (0:Nat) (0:Nat) (4:Nat))]=A.p (Eu (1:Nat) (0:Nat))/\[Ob.mk 28 [fI e,fI a],Ob.mk 62 [Fd.a 0 D.pv []]]=[mV e a,Cz []]) (by kernel_rfl)
 try simp only[sL,Int.reduceEq,Int.reduceNe,Nat.reduceAdd]
 first|rfl|exact⟨rfl,rfl⟩|exact ?a
theorem Tc(e a:Int)(tot:List Tok)(pn:Option Value)(h1:∀ tot,fC rz (uE e a tot) rm yL (.sl .pv) [] yM (KF tot) true pn)(h0:fC rz (uE e a []) rm yL (.sl .pv) [] yM FI true pn)(hl:tot.length<=20000):fC rz (uE e a tot) rm yL (.sl .pv) (tot.map yT) yM FI true pn:=by
 cases tot with
 | nil=>exact h0
 | cons t ts=>exact WE e a (t::ts) pn (h1 _) t ts rfl hl
theorem Td(s:ByteArray)(hs:s.size<=20000)(hl:(bK s s.size 0).1.length<=20000)(h0:(bK s s.size 0).2.1=0->(bK s s.size 0).2.2=0):fQ Tryz.prog 47 1 [sS s,.p (.c (.ptr 0 0))] [mV 0 0] (.p (Eu 1 (bK s s.size 0).1.length)) [mV (bK s s.size 0).2.1 (bK s s.size 0).2.2,Cz (bK s s.size 0).1]:=by
 refine Aj (s:=rz) ru rfl Tryz.func47 (by kernel_rfl) (by kernel_rfl) 300 ?_ (fun _ h=>h);apply of_eq (q:=let q1:=(bK s s.size (0:Nat));Ek rz (fun r o=>r=A.p (Eu (1:Nat) q1.fst.length)/\o=[mV q1.snd.fst q1.snd.snd,Cz q1.fst]) [0,1] ((((ah.T.leaf.node (some (aR 0 0)) ah.T.leaf).node none ah.T.leaf).node (some (aR 0 0)) ah.T.leaf).node (some (aP (W.str s))) ((ah.T.leaf.node (some (aR 1 0)) ah.T.leaf).node none ah.T.leaf)) (af.ofList [Ob.mk 28 [fI (0),fI (0)],Ob.mk 58 [Fd.c W.nil]])) (by kernel_rfl)
 try simp only[sL,Int.reduceEq,Int.reduceNe,Nat.reduceAdd]
 refine SC (T:=rm) ru rfl (by kernel_rfl) rfl rfl 300 ?_;apply of_eq (q:=let q1:=(bK s s.size (0:Nat));Di rz (fun r o=>r=A.p (Eu (1:Nat) q1.fst.length)/\o=[mV q1.snd.fst q1.snd.snd,Cz q1.fst]) rm [0,1,0,1,1] (fr [(4,aR 1 0),(9,aP (W.func 89 [(2,(0:Nat))]))]) (af.ofList [Ob.mk 28 [fI (0),fI (0)],Ob.mk 58 [Fd.c W.nil],Ob.mk 9 [Fd.c (W.str s)]])) (by kernel_rfl)
 try simp only[sL,Int.reduceEq,Int.reduceNe,Nat.reduceAdd]
 have hI:=S9 s hs (decide ((bK s s.size 0).2.1≠0)) (aV (bK s s.size 0).2.1 (bK s s.size 0).2.2) rfl rfl;have hY:fC rz (uE (bK s s.size 0).2.1 (bK s s.size 0).2.2 (bK s s.size 0).1) rm yL (.sl .pv) ((bK s s.size 0).1.map yT) yM FI true (bif decide ((bK s s.size 0).2.1≠0) then some (aV (bK s s.size 0).2.1 (bK s s.size 0).2.2) else none):=by
  by_cases hb:(bK s s.size 0).2.1=0;have hb2:=h0 hb;rw[hb,hb2,decide_eq_false (by simp)];exact Tc 0 0 _ none aaq WG hl;rw[decide_eq_true hb];exact Tc _ _ _ _ (aar _ _) (WH _ _) hl
 exact Ms rfl (by kernel_rfl) hI hY
theorem tD(s:ByteArray):∀ k i,(bK s k i).1.length<=k
 | 0,i=>by simp[bK]
 | k + 1, i => by
   have h1:=tD s k (i+1);have h2:=tD s k (aN fw s i);have h3:=tD s k (bN s i).e.toNat;rw[bK];split;split;omega;split;omega;split;simp;simp only[List.length_cons];omega;simp
theorem wu(s:ByteArray):∀ k i,(bK s k i).2.1=0->(bK s k i).2.2=0
 | 0,i,_=>by simp[bK]
 | k + 1, i, h => by
   have h1:=wu s k (i+1);have h2:=wu s k (aN fw s i);have h3:=wu s k (bN s i).e.toNat;rw[bK] at h ⊢;split at h;rename_i a;rw[if_pos a];split at h;rename_i b;rw[if_pos b];exact h1 h;rename_i b;rw[if_neg b];split at h;rename_i c;rw[if_pos c];exact h2 h;rename_i c;rw[if_neg c];split at h;rename_i d;exact absurd h d;rename_i d;rw[if_neg d];exact h3 h;rename_i a;rw[if_neg a]
def KG:cT:={ cB:=[false,true],ak:=some 1,f:=fun args aj=>match args,aj with
 | [x,.p (.c (.ptr 0 0))],[⟨t,[.c (.int .i64 0),.c (.int .i64 0)]⟩]=>match wh .str x with
   | some s=>bif Nat.beq t 28 then some (.p (ByteArray.size s<=20000),.p (Eu 1 (bK s (ByteArray.size s) 0).1.length),[mV (bK s (ByteArray.size s) 0).2.1 (bK s (ByteArray.size s) 0).2.2,Cz (bK s (ByteArray.size s) 0).1]) else none
   | none=>none
 | _,_=>none }
theorem Te:bE Tryz.prog 47 KG:=by
 refine⟨by kernel_rfl,fun args aj c r aY e hc=>?_⟩;simp only[KG] at e;split at e;split at e;rename_i s hx;obtain⟨hb,e1⟩:=ah.aA e;clear e;cases Nat.eq_of_beq_eq_true hb;cases e1;have h:=Td s hc (Nat.le_trans (tD _ _ _) hc) (wu _ _ _);intro base η Z w vs R hvs hK;exact h base η Z w vs R (match vs,hvs with | [_,_],⟨a,b⟩=>⟨kA hx a,b⟩) hK;cases e;cases e
noncomputable def gSpl:cg:=[(47,KG)]
theorem Ng:bp Tryz.prog gSpl:=aq Te aK
end Go.Proofs.YtcimgfhfpiapaaaGreatDoor
