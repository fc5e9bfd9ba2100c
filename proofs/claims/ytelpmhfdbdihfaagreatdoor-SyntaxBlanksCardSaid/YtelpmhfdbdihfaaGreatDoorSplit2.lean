/- Tokens: what the program hands on is what the reference finds. -/
import Derived.Test.YtelpmhfdbdihfaaGreatDoorSplit1
namespace Go.Proofs.YtelpmhfdbdihfaaGreatDoor
open Go.aT
set_option maxRecDepth 100000
theorem Iz (p:Int->Bool) (s:ByteArray):∀ (k i:Nat),k=s.size-i->∀ j,i<=j->j<aQ p s i->p (bn s j)=true
 | k,i,hk,j,h1,h2=>by
   by_cases h:i<s.size/\p (bn s i)=true
   . rw [gA h] at h2
     cases k with
     | zero=>omega
     | succ k =>
       by_cases hj:j=i
       . subst hj;exact h.2
       . exact Iz p s k (i+1) (by omega) j (by omega) h2
   . rw [jY h] at h2;omega
theorem K7 {x:ByteArray}:(nP x=true∨1000000000000000<rN x)↔1000000000000000<ju x.data.toList 0:=by
 unfold nP rN
 rw [decide_eq_true_eq]
 split <;> omega
theorem at_val {x:ByteArray} (h:ju x.data.toList 0<=1000000000000000):rN x=(ju x.data.toList 0:Int):=by
 unfold rN;rw [if_pos (by omega)]
theorem K8 (s:ByteArray) (hs:s.size<=20000) (l:Nat) (b:Bool) (v:Value):∀ (k i:Nat),s.size<=k+i->i<=s.size->(b=decide ((bL s k i).2.1≠0))->v=aN (bL s k i).2.1 (bL s k i).2.2->
 aG (mg b v) (fun _ _=>b=false) [0,1] (fr (K6 l i)) (Qz l s ((bL s k i).1.map yT))
 | 0,i,hk,hi,hb,hv=>by
   refine bZ CX (by kernel_rfl) 300 ?_
   apply of_eq (q:=let q0:=IntKind.i64.wrap;let q2:=(s.extract i (aQ cT s i));let q5:=(R1.pure (Cd.t.and Cd.t) (aP (W.str s))).v=(R1.pure (Cd.t.and Cd.t) (aP (W.str s))).v;let q7:=(i:Int);let q9:=(s.extract i (aQ dB s i));let bE:=decide (bn s i=48)=true;let aM:=(bif true then nP q2 else !nP q2)=false;let bg:=(s.size:Int);let bV:=(↑(aQ dB s i):Int);let cN:=Value.iface (78:Nat) (Value.agg #[Value.int .i64 (4:Int),Value.int .i64 q7])=v;let dx:=(q0 (q7+1));let eO:=(↑(aQ cT s i):Int);let bP:=decide (bn s i=32);let dX:=(R1.pure (Cd.t.and Cd.t) (aP (W.str q9))).v=(R1.pure (Cd.t.and Cd.t) (aP (W.str q9))).v;let fu:=(bL s (0:Nat) i);let dO:=(0:Int)<=q7;let bW:=aP (W.yield l);let q1:=(aQ cJ s dx.toNat);let q4:=(List.map yT fu.fst);let q6:=(af.cP (some (Gh.mk l D.pv.sl q4.tail true)) [Ob.mk 9 [Fd.c (W.str s)]]);let q8:=List.map yT fu.fst=[];let eP:=(af.cP (some (Gh.mk l D.pv.sl q4 true)) [Ob.mk 9 [Fd.c (W.str s)]]);let d9:=decide ((200:Int)<(↑(s.extract dx.toNat q1).size:Int));let cL:=(↑q1:Int);let q3:=decide (cL=bg);(decide (q7<bg)=true->(dO/\q7<bg)/\(bP=false->bP=false)/\(bP=false->bP=false)/\((bif bP then true else decide (bn s i=10))=true->aG (mg b v) (fun x x_1=>b=false) [0,1] (fr [(0,bW),(1,aR 0 0),(3,nI dx)]) eP)/\((bif bP then true else decide (bn s i=10))=false->(decide (bn s i=35)=true->(s.size<=1000000/\dO/\q7<=bg)/\aG (mg b v) (fun x x_1=>b=false) [0,1] (fr [(0,bW),(1,aR 0 0),(3,nI (↑(aQ gN s i):Int))]) eP)/\(decide (bn s i=35)=false->(gU (bn s i)=true->(s.size<=1000000/\dO/\q7<=bg)/\(dO/\q7<=bV/\bV<=bg)/\q5/\q5/\(13:Nat)<=1000000/\dX/\dX/\(fB pG q9=true->(l=l/\List.map yT fu.fst≠[]/\q4.head? = some [PV.int q7,PV.int (2:Int),PV.str q9,PV.int (0:Int),PV.int q7])/\aG (mg b v) (fun x x_1=>b=false) [0,1] (fr [(0,bW),(1,aR 0 0),(3,nI bV)]) q6)/\(fB pG q9=false->(decide ((20:Int)<q0 (bV-q7))=true->(b=true/\cN)/\q8)/\(decide ((20:Int)<q0 (bV-q7))=false->(l=l/\List.map yT fu.fst≠[]/\q4.head? = some [PV.int q7,PV.int (1:Int),PV.str q9,PV.int (0:Int),PV.int q7])/\aG (mg b v) (fun x x_1=>b=false) [0,1] (fr [(0,bW),(1,aR 0 0),(3,nI bV)]) q6)))/\(gU (bn s i)=false->(cT (bn s i)=true->(s.size<=1000000/\dO/\q7<=bg)/\(dO/\q7<=eO/\eO<=bg)/\(v7 q2.data.toList/\(1:Nat)<=q2.size/\q2.size<=1000000)/\(bE->bE)/\(bE->bE)/\(bE->bE)/\(bE->bE)/\((bif decide (bn s i=48) then decide (q0 (q7+1)<eO) else false)=true->(b=true/\Value.iface (78:Nat) (Value.agg #[Value.int .i64 (11:Int),Value.int .i64 q7])=v)/\q8)/\((bif decide (bn s i=48) then decide (q0 (q7+1)<eO) else false)=false->(aM->aM)/\(aM->aM)/\((bif bif true then nP q2 else !nP q2 then true else decide ((1000000000000000:Int)<rN q2))=true->(b=true/\Value.iface (78:Nat) (Value.agg #[Value.int .i64 (2:Int),Value.int .i64 q7])=v)/\q8)/\((bif bif true then nP q2 else !nP q2 then true else decide ((1000000000000000:Int)<rN q2))=false->(l=l/\List.map yT fu.fst≠[]/\q4.head? = some [PV.int q7,PV.int (3:Int),PV.str (ByteArray.mk #[]),PV.int (rN q2),PV.int q7])/\aG (mg b v) (fun x x_1=>b=false) [0,1] (fr [(0,bW),(1,aR 0 0),(3,nI eO)]) q6)))/\(cT (bn s i)=false->(decide (bn s i=34)=true->(s.size<=1000000/\(0:Int)<=q0 (q7+1)/\q0 (q7+1)<=bg)/\(q3=false->q3=false)/\(q3=false->q3=false)/\(q3=false->(0:Int)<=cL/\cL<bg)/\(q3=false->q3=false)/\(q3=false->q3=false)/\((bif q3 then true else !decide (bn s q1=34))=true->(b=true/\Value.iface (78:Nat) (Value.agg #[Value.int .i64 (11:Int),Value.int .i64 cL])=v)/\q8)/\((bif q3 then true else !decide (bn s q1=34))=false->((0:Int)<=q0 (q7+1)/\q0 (q7+1)<=cL/\cL<=bg)/\q5/\q5/\(d9=true->(b=true/\cN)/\q8)/\(d9=false->(l=l/\List.map yT fu.fst≠[]/\q4.head? = some [PV.int q7,PV.int (4:Int),PV.str (s.extract dx.toNat q1),PV.int (0:Int),PV.int q7])/\aG (mg b v) (fun x x_1=>b=false) [0,1] (fr [(0,bW),(1,aR 0 0),(3,nI (q0 (cL+1)))]) q6)))/\(decide (bn s i=34)=false->aG (mg b v) (fun x x_1=>b=false) [0,1,0,1,1,1,1,1,1,1,1,1,1,0,0,1,1,1,0,1,0,0,1] (fr [(0,bW),(1,aR 0 0),(3,nI q7),(6,aR 1 0),(21,aP (W.rd D.str eW)),(22,nI (↑(21:Nat):Int)),(23,nI (0))]) (af.cP (some (Gh.mk l D.pv.sl q4 true)) [Ob.mk 9 [Fd.c (W.str s)],Ob.mk 30 [fI (0),Fd.c (W.str (ByteArray.mk #[])),fI (0),fI q7]])))))))/\(decide (q7<bg)=false->q8/\b=false)) (by kernel_rfl)
   try simp only [sL]
   exact ⟨fun h=>by omega,fun h=>⟨rfl,by rw [hb];rfl⟩⟩
 | k + 1, i, hk, hi, hb, hv => by
   have IH:∀ j,i<j->j<=s.size->b=decide ((bL s k j).2.1≠0)->v=aN (bL s k j).2.1 (bL s k j).2.2->aG (mg b v) (fun _ _=>b=false) [0,1] (fr (K6 l j)) (Qz l s ((bL s k j).1.map yT)):=fun j h1 h2 hb hv=>K8 s hs l b v k j (by omega) h2 hb hv
   refine bZ CX (by kernel_rfl) 300 ?_
   apply of_eq (q:=let q0:=IntKind.i64.wrap;let q2:=(s.extract i (aQ cT s i));let q5:=(R1.pure (Cd.t.and Cd.t) (aP (W.str s))).v=(R1.pure (Cd.t.and Cd.t) (aP (W.str s))).v;let q6:=(bL s (k+1) i);let q7:=(i:Int);let q8:=(s.extract i (aQ dB s i));let q9:=decide (bn s i=48)=true;let bE:=(bif true then nP q2 else !nP q2)=false;let aM:=(List.map yT q6.fst);let bg:=(s.size:Int);let bV:=(↑(aQ dB s i):Int);let cN:=Value.iface (78:Nat) (Value.agg #[Value.int .i64 (4:Int),Value.int .i64 q7])=v;let dx:=List.map yT q6.fst=[];let eO:=(q0 (q7+1));let bP:=(↑(aQ cT s i):Int);let dX:=decide (bn s i=32);let fu:=(R1.pure (Cd.t.and Cd.t) (aP (W.str q8))).v=(R1.pure (Cd.t.and Cd.t) (aP (W.str q8))).v;let eP:=(af.cP (some (Gh.mk l D.pv.sl aM true)) [Ob.mk 9 [Fd.c (W.str s)]]);let dO:=(0:Int)<=q7;let bW:=aP (W.yield l);let q1:=(aQ cJ s eO.toNat);let q4:=(af.cP (some (Gh.mk l D.pv.sl aM.tail true)) [Ob.mk 9 [Fd.c (W.str s)]]);let d9:=decide ((200:Int)<(↑(s.extract eO.toNat q1).size:Int));let cL:=(↑q1:Int);let q3:=decide (cL=bg);(decide (q7<bg)=true->(dO/\q7<bg)/\(dX=false->dX=false)/\(dX=false->dX=false)/\((bif dX then true else decide (bn s i=10))=true->aG (mg b v) (fun x x_1=>b=false) [0,1] (fr [(0,bW),(1,aR 0 0),(3,nI eO)]) eP)/\((bif dX then true else decide (bn s i=10))=false->(decide (bn s i=35)=true->(s.size<=1000000/\dO/\q7<=bg)/\aG (mg b v) (fun x x_1=>b=false) [0,1] (fr [(0,bW),(1,aR 0 0),(3,nI (↑(aQ gN s i):Int))]) eP)/\(decide (bn s i=35)=false->(gU (bn s i)=true->(s.size<=1000000/\dO/\q7<=bg)/\(dO/\q7<=bV/\bV<=bg)/\q5/\q5/\(13:Nat)<=1000000/\fu/\fu/\(fB pG q8=true->(l=l/\List.map yT q6.fst≠[]/\aM.head? = some [PV.int q7,PV.int (2:Int),PV.str q8,PV.int (0:Int),PV.int q7])/\aG (mg b v) (fun x x_1=>b=false) [0,1] (fr [(0,bW),(1,aR 0 0),(3,nI bV)]) q4)/\(fB pG q8=false->(decide ((20:Int)<q0 (bV-q7))=true->(b=true/\cN)/\dx)/\(decide ((20:Int)<q0 (bV-q7))=false->(l=l/\List.map yT q6.fst≠[]/\aM.head? = some [PV.int q7,PV.int (1:Int),PV.str q8,PV.int (0:Int),PV.int q7])/\aG (mg b v) (fun x x_1=>b=false) [0,1] (fr [(0,bW),(1,aR 0 0),(3,nI bV)]) q4)))/\(gU (bn s i)=false->(cT (bn s i)=true->(s.size<=1000000/\dO/\q7<=bg)/\(dO/\q7<=bP/\bP<=bg)/\(v7 q2.data.toList/\(1:Nat)<=q2.size/\q2.size<=1000000)/\(q9->q9)/\(q9->q9)/\(q9->q9)/\(q9->q9)/\((bif decide (bn s i=48) then decide (q0 (q7+1)<bP) else false)=true->(b=true/\Value.iface (78:Nat) (Value.agg #[Value.int .i64 (11:Int),Value.int .i64 q7])=v)/\dx)/\((bif decide (bn s i=48) then decide (q0 (q7+1)<bP) else false)=false->(bE->bE)/\(bE->bE)/\((bif bif true then nP q2 else !nP q2 then true else decide ((1000000000000000:Int)<rN q2))=true->(b=true/\Value.iface (78:Nat) (Value.agg #[Value.int .i64 (2:Int),Value.int .i64 q7])=v)/\dx)/\((bif bif true then nP q2 else !nP q2 then true else decide ((1000000000000000:Int)<rN q2))=false->(l=l/\List.map yT q6.fst≠[]/\aM.head? = some [PV.int q7,PV.int (3:Int),PV.str (ByteArray.mk #[]),PV.int (rN q2),PV.int q7])/\aG (mg b v) (fun x x_1=>b=false) [0,1] (fr [(0,bW),(1,aR 0 0),(3,nI bP)]) q4)))/\(cT (bn s i)=false->(decide (bn s i=34)=true->(s.size<=1000000/\(0:Int)<=q0 (q7+1)/\q0 (q7+1)<=bg)/\(q3=false->q3=false)/\(q3=false->q3=false)/\(q3=false->(0:Int)<=cL/\cL<bg)/\(q3=false->q3=false)/\(q3=false->q3=false)/\((bif q3 then true else !decide (bn s q1=34))=true->(b=true/\Value.iface (78:Nat) (Value.agg #[Value.int .i64 (11:Int),Value.int .i64 cL])=v)/\dx)/\((bif q3 then true else !decide (bn s q1=34))=false->((0:Int)<=q0 (q7+1)/\q0 (q7+1)<=cL/\cL<=bg)/\q5/\q5/\(d9=true->(b=true/\cN)/\dx)/\(d9=false->(l=l/\List.map yT q6.fst≠[]/\aM.head? = some [PV.int q7,PV.int (4:Int),PV.str (s.extract eO.toNat q1),PV.int (0:Int),PV.int q7])/\aG (mg b v) (fun x x_1=>b=false) [0,1] (fr [(0,bW),(1,aR 0 0),(3,nI (q0 (cL+1)))]) q4)))/\(decide (bn s i=34)=false->aG (mg b v) (fun x x_1=>b=false) [0,1,0,1,1,1,1,1,1,1,1,1,1,0,0,1,1,1,0,1,0,0,1] (fr [(0,bW),(1,aR 0 0),(3,nI q7),(6,aR 1 0),(21,aP (W.rd D.str eW)),(22,nI (↑(21:Nat):Int)),(23,nI (0))]) (af.cP (some (Gh.mk l D.pv.sl aM true)) [Ob.mk 9 [Fd.c (W.str s)],Ob.mk 30 [fI (0),Fd.c (W.str (ByteArray.mk #[])),fI (0),fI q7]])))))))/\(decide (q7<bg)=false->dx/\b=false)) (by kernel_rfl)
   try simp only [sL]
   refine ⟨fun h=>?_,fun h=>?_⟩
   rotate_left
   . have e:bL s (k+1) i=([],0,0):=by rw [bL,if_neg (by omega)]
     rw [e] at hb ⊢
     exact ⟨rfl,by rw [hb];rfl⟩
   have hlt:i<s.size:=by omega
   refine ⟨by omega,fun h1=>?_,fun h1=>?_⟩
   . have e:bL s (k+1) i=bL s k (i+1):=by rw [bL,if_pos hlt,if_pos h1]
     rw [e] at hb hv ⊢
     rw [wrap64 (by omega) (by omega)]
     exact IH (i+1) (by omega) (by omega) hb hv
   have hn:¬ (bn s i=32∨bn s i=10):=by omega
   refine ⟨fun h2=>⟨by omega,?_⟩,fun h2=>⟨fun h3=>?_,fun h3=>⟨fun h4=>?_,fun h4=>⟨fun h5=>?_,fun h5=>?_⟩⟩⟩⟩
   . have e:bL s (k+1) i=bL s k (aQ gN s i):=by rw [bL,if_pos hlt,if_neg hn,if_pos h2]
     have hy:aQ gN s i=aQ gN s (i+1):=gA ⟨hlt,by unfold gN;rw [decide_eq_false (by omega)];rfl⟩
     have hg:=jB gN s _ (i+1) rfl
     have sG:=hg.2 (by omega)
     rw [e] at hb hv ⊢
     exact IH _ (by omega) (by omega) hb hv
   . have hy:aQ dB s i=aQ dB s (i+1):=gA ⟨hlt,by unfold dB;rw [h3];rfl⟩
     have hg:=jB dB s _ (i+1) rfl
     have sG:=hg.2 (by omega)
     have ht0:bS s i=j9 s i (aQ dB s i):=by unfold bS;rw [if_pos h3,hy]
     have hes:=nB (s:=s) (a:=i) (e:=aQ dB s i) (by omega) (by omega)
     rw [wrap64 (n:=(aQ dB s i:Int)-i) (by omega) (by omega)]
     refine ⟨by omega,by omega,by omega,fun h4=>?_,fun h4=>⟨fun h5=>?_,fun h5=>?_⟩⟩
     . have ht:bS s i=⟨⟨2,s.extract i (aQ dB s i),0,i⟩,(aQ dB s i:Nat),0,0⟩:=by rw [ht0];unfold j9;rw [if_pos h4]
       exact CY IH (Iy hlt hn h2 ht) ⟨by omega,by omega⟩ hb hv rfl
     . have ht:bS s i=⟨⟨1,s.extract i (aQ dB s i),0,i⟩,(aQ dB s i:Nat),4,i⟩:=by rw [ht0];unfold j9;rw [if_neg (by rw [h4];simp),if_pos (by omega)]
       exact uI (DY hlt hn h2 ht (by decide)) (by decide) hb hv
     . have ht:bS s i=⟨⟨1,s.extract i (aQ dB s i),0,i⟩,(aQ dB s i:Nat),0,0⟩:=by rw [ht0];unfold j9;rw [if_neg (by rw [h4];simp),if_neg (by omega)]
       exact CY IH (Iy hlt hn h2 ht) ⟨by omega,by omega⟩ hb hv rfl
   · have hy : aQ cT s i = aQ cT s (i + 1) := gA ⟨hlt, h4⟩
     have hg:=jB cT s _ (i+1) rfl
     have sG:=hg.2 (by omega)
     have ht0:bS s i=l8 s i (aQ cT s i):=by unfold bS;rw [if_neg (by rw [h3];simp),if_pos h4,hy]
     have hes:=nB (s:=s) (a:=i) (e:=aQ cT s i) (by omega) (by omega)
     obtain ⟨n1,n2,n3⟩:=D1 (s:=s) (e:=aQ cT s i) (by omega) _ i 0 rfl (by omega) (fun j a b=>Iz cT s _ i rfl j a b) (by omega)
     rw [wrap64 (n:=(i:Int)+1) (by omega) (by omega)]
     refine ⟨by omega,by omega,⟨n1,by omega,by omega⟩,fun h5=>?_,fun h5=>⟨fun h6=>?_,fun h6=>?_⟩⟩
     . have ht:bS s i=⟨⟨3,eS,0,i⟩,(aQ cT s i:Nat),11,i⟩:=by rw [ht0];unfold l8;rw [if_pos ⟨h5.1,by omega⟩]
       exact uI (DY hlt hn h2 ht (by decide)) (by decide) hb hv
     . have hV:=K7.1 (show nP _=true∨_ from h6)
       have ht:bS s i=⟨⟨3,eS,(mO s (aQ cT s i) i 0).1,i⟩,(aQ cT s i:Nat),2,i⟩:=by rw [ht0];unfold l8;rw [if_neg (by omega)];rw [if_pos (show (mO s (aQ cT s i) i 0).2=true from n2 hV)]
       exact uI (DY hlt hn h2 ht (by decide)) (by decide) hb hv
     . have hV:ju (s.extract i (aQ cT s i)).data.toList 0<=1000000000000000:=by
        have h7:nP (s.extract i (aQ cT s i))=false:=h6.1
        rcases Nat.lt_or_ge 1000000000000000 (ju (s.extract i (aQ cT s i)).data.toList 0) with h8 | h8
        . rcases K7.2 h8 with h9 | h9
          . rw [h7] at h9;cases h9
          . have:=h6.2;omega
        . exact h8
       have h8:=n3 hV
       have ht:bS s i=⟨⟨3,eS,rN (s.extract i (aQ cT s i)),i⟩,(aQ cT s i:Nat),0,0⟩:=by rw [ht0,at_val hV];unfold l8;rw [if_neg (by omega)];rw [show mO s (aQ cT s i) i 0=_ from h8,if_neg (by simp)]
       exact CY IH (Iy hlt hn h2 ht) ⟨by omega,by omega⟩ hb hv rfl
   . have hg:=jB cJ s _ (i+1) rfl
     have sG:=hg.2 (by omega)
     have e1:((i:Int)+1).toNat=i+1:=by omega
     have ht0:bS s i=nA s i (aQ cJ s (i+1)):=by unfold bS;rw [if_neg (by rw [h3];simp),if_neg (by rw [h4];simp),if_pos h5]
     rw [wrap64 (n:=(i:Int)+1) (by omega) (by omega),e1]
     refine ⟨by omega,fun h6=>by omega,fun h6=>?_,fun h6=>?_⟩
     . have ht:bS s i=⟨⟨0,eS,0,i⟩,(aQ cJ s (i+1):Nat),11,(aQ cJ s (i+1):Nat)⟩:=by rw [ht0];unfold nA;rw [if_pos (by rcases h6 with h6 | h6;exact .inl (by omega);exact .inr h6)]
       exact uI (DY hlt hn h2 ht (by decide)) (by decide) hb hv
     . have hes:=nB (s:=s) (a:=i+1) (e:=aQ cJ s (i+1)) (by omega) (by omega)
       have hne:aQ cJ s (i+1)≠s.size:=by omega
       have hnq:¬ (aQ cJ s (i+1)=s.size∨bn s (aQ cJ s (i+1))≠34):=by rintro (h7 | h7);exact hne h7;exact h7 h6.2
       rw [wrap64 (n:=(aQ cJ s (i+1):Int)+1) (by omega) (by omega)]
       refine ⟨by omega,fun h7=>?_,fun h7=>?_⟩
       . have ht:bS s i=⟨⟨4,s.extract (i+1) (aQ cJ s (i+1)),0,i⟩,(aQ cJ s (i+1):Nat),4,i⟩:=by rw [ht0];unfold nA;rw [if_neg hnq,if_pos (by omega)]
         exact uI (DY hlt hn h2 ht (by decide)) (by decide) hb hv
       . have ht:bS s i=⟨⟨4,s.extract (i+1) (aQ cJ s (i+1)),0,i⟩,(aQ cJ s (i+1)+1:Nat),0,0⟩:=by rw [ht0];unfold nA;rw [if_neg hnq,if_neg (by omega)]
         exact CY IH (Iy hlt hn h2 ht) ⟨by omega,by omega⟩ hb hv rfl
   . have ht0:bS s i=l9 s i 2:=by unfold bS;rw [if_neg (by rw [h3];simp),if_neg (by rw [h4];simp),if_neg h5]
     have NN:=Us (s:=s) hlt
     have hspec:=(yN (s.extract i s.size) eW eS).1
     refine DZ hs hlt (fun x hx=>?_) 21 0 0 eS rfl (by omega) rfl (fun _=>rfl) (fun h=>absurd h (by decide)) (by decide)
     rw [hx] at NN hspec
     refine ⟨fun h6=>?_,fun h6=>?_⟩
     . have ht:bS s i=⟨⟨5,eS,0,i⟩,(i+1:Nat),11,i⟩:=by rw [ht0,NN,if_pos h6]
       exact uI (DY hlt hn h2 ht (by decide)) (by decide) hb hv
     . have ht:bS s i=⟨⟨5,x,0,i⟩,(i+x.size:Nat),0,0⟩:=by rw [ht0,NN,if_neg (by omega)]
       have hle:i+x.size<=s.size:=by
        rcases hspec with h7 | h7
        . rw [h7] at h6;exact absurd h6 (by decide)
        . exact ((wg (by omega)).1 h7.2).1
       exact CY IH (Iy hlt hn h2 ht) ⟨by omega,hle⟩ hb hv rfl
theorem QB (s:ByteArray) (hs:s.size<=20000) (b:Bool) (v:Value) (hb:b=decide ((bL s s.size 0).2.1≠0)) (hv:v=aN (bL s s.size 0).2.1 (bL s s.size 0).2.2):zK Tryz.prog 35 [.p (.c (.ptr 0 0))] [DX s] (.sl .pv) ((bL s s.size 0).1.map yT) true (bif b then some v else none):=by
 refine Ny (dies:=[]) (aJ:=Iv) CX Tryz.func35 (by kernel_rfl) (by kernel_rfl) 100 fun l=>?_
 apply of_eq (q:=aG (zL Tryz.prog gSc [] Tryz.f35 Iv b v) (fun x x_1=>b=false) [0,1] (fr [(0,aP (W.yield l)),(1,aR 0 0),(3,nI (0))]) (af.cP (some (Gh.mk l D.pv.sl (List.map yT (bL s s.size (0:Nat)).fst) true)) [Ob.mk 9 [Fd.c (W.str s)]])) (by kernel_rfl)
 try simp only [sL,Int.reduceEq,Int.reduceNe,Nat.reduceAdd]
 exact K8 s hs l b v s.size 0 (by omega) (by omega) hb hv
end Go.Proofs.YtelpmhfdbdihfaaGreatDoor
namespace Go.aT
open Go.RowKit
theorem IB {k base:Nat} {η aB:Eta} {Z Z':aq} {S':af} {w w':World} (mv:gb k base η Z (.ofList []) w aB Z' S' w'):Below w.heap.size w w':=by
 have hno:∀ b,¬ aT.Own η (.ofList []) b:=by
  rintro b ⟨n,o,p,h,_⟩
  rw [af.bH] at h
  simp at h
 exact ⟨mv.step.os,mv.step.tape,mv.step.output,mv.step.size,fun b hb=>mv.step.block b hb (hno b)⟩
end Go.aT
namespace Go.Proofs.YtelpmhfdbdihfaaGreatDoor
open Go.aT
set_option maxRecDepth 100000
noncomputable def sCg:aX:=eu Tryz.prog [] Tryz.f17 1 [] [] []
noncomputable def restCg:Code:=match pF sCg.bD with | some (_,_,r)=>r | none=>.skip
noncomputable def sCg0:aX:=eu Tryz.prog [] Tryz.f17 0 [] [] []
noncomputable def XK:Code:=match pF sCg0.bD with | some (_,_,r)=>r | none=>.skip
def IE (u:Value) (ai:List Ob):Option (Cd×List Ob):=match u,ai with
 | .iface t (.agg ⟨[.int .i64 e,.int .i64 i]⟩),[⟨t1,[.c (.int .i64 0),.c (.int .i64 0)]⟩]=>bif Nat.beq t 78&&Nat.beq t1 25 then some (.t,[l7 e i]) else none
 | _,_=>none
theorem cg_got (e i:Int):∀ base η Z w vs,St base η Z (.ofList [l7 0 0]) w->aH (cr η Z) (sO 1) vs->fJ Tryz.prog Z->CallsDIn Fence.wide 0 Tryz.prog 17 vs.toArray (.panicking [{ v:=aN e i,recovered:=false }]) w fun ex md w'=>(∃ v,ex=.returned v)/\md=.panicking [{ v:=aN e i,recovered:=true }]/\∃ aB Z',gb 1 base η Z (.ofList [l7 0 0]) w aB Z' (.ofList [l7 e i]) w':=by
 intro base η Z w vs R hvs hK
 refine CallsDIn.mono (Ic (s:=sCg) (n:=100) (aK:=restCg) (d1:=5) (d2:=5) aF rfl Tryz.func17 (by kernel_rfl) (by kernel_rfl) (by kernel_rfl) (by kernel_rfl) (by kernel_rfl) (args:=[.p (.c (.ptr 0 0))]) (by kernel_rfl) (m:=.panicking [{ v:=aN e i,recovered:=false }]) (m':=.panicking [{ v:=aN e i,recovered:=true }]) (x:=.val (aN e i)) (v:=aN e i) (fun η Z=>by first | rfl | trivial | exact ⟨rfl,rfl⟩) (by intro h;cases h) (fun c0 cs=>by first | exact ⟨rfl,rfl⟩ | done) (Qv:=fun _ o=>o=[l7 e i]) ?_ R hvs hK) ?_
 . skip
   apply of_eq (q:=(false=true->[Ob.mk 25 [fI (0),fI (0)]]=[l7 e i])/\(false=false->(true=true->[Ob.mk 25 [fI e,fI i]]=[l7 e i])/\(true=false->False))) (by kernel_rfl)
   try simp only [sL]
   exact ⟨fun h=>(by cases h),fun _ h=>(by cases h)⟩
 . rintro ex md w' ⟨h1,h2,aB,Z',r,aU,mv,ho⟩
   subst ho
   exact ⟨h1,h2,aB,Z',mv⟩
theorem yO:H6 Tryz.prog 17 1 IE:=by
 refine ⟨by kernel_rfl,fun base η Z w vs R0 hK hl hv=>?_,fun u ai c aU e hc hl=>?_⟩
 . match vs,hl with
   | [v1],_ =>
     refine CallsDIn.mono (Ic (s:=sCg0) (n:=100) (aK:=XK) (d1:=5) (d2:=5) aF rfl Tryz.func17 (by kernel_rfl) (by kernel_rfl) (by kernel_rfl) (by kernel_rfl) (by kernel_rfl) (args:=[.p (.c (.val v1))]) (by kernel_rfl) (m:=.returning) (m':=.returning) (x:=.j3) (v:=.nilIface) (fun η Z=>by first | rfl | trivial | exact ⟨rfl,rfl⟩) (by intro h;cases h) (fun c0 cs=>⟨rfl,rfl⟩) (Qv:=fun _ _=>True) ?_ R0 ⟨⟨(by intro h;cases h),rfl,hv v1 (by simp)⟩,trivial⟩ hK) ?_
     . skip
       apply of_eq (q:=((!false)=true->True)/\((!false)=false->(false=true->False)/\(false=false->False))) (by kernel_rfl)
       try simp only [sL]
       first | trivial | exact ?b
     . rintro e md w' ⟨h1,h2,aB,Z',r,aU,mv,_⟩
       exact ⟨h1,h2,IB mv⟩
 . unfold IE at e
   split at e
   . obtain ⟨hb,e1⟩:=ah.ay e
     clear e
     simp only [Bool.and_eq_true] at hb
     cases Nat.eq_of_beq_eq_true hb.1
     cases Nat.eq_of_beq_eq_true hb.2
     cases e1
     exact cg_got _ _
   . cases e
noncomputable def p9:j7 Tryz.prog:={ f:=17,k:=1,got:=IE,ok:=yO,arg:=true }
end Go.Proofs.YtelpmhfdbdihfaaGreatDoor
namespace Go.Proofs.YtelpmhfdbdihfaaGreatDoor
open Go.aT
set_option maxRecDepth 100000
abbrev Ut:A:=.p (.c (.func 35 [(0,0)]))
theorem Uu (s:ByteArray):bq Tryz.prog 18 [sS s] [] Ut [DX s]:=by
 refine bh (aJ:=[]) aF Tryz.func18 (by kernel_rfl) (ak:=0) rfl (by kernel_rfl) 100 ?_
 apply of_eq (q:=ax [V.c (W.func 35 [(0,(0:Nat))])]=Ut/\[Ob.mk 9 [Fd.c (W.str s)]]=[DX s]) (by kernel_rfl)
 try simp only [sL]
 rfl
def QC:cQ:=jh .str fun s=>(.t,Ut,[DX s])
theorem QD:bF Tryz.prog 18 QC:=eU (by kernel_rfl) fun s _=>Uu s
noncomputable def gSp:bY:=[(18,QC)]
theorem qd:aZ Tryz.prog gSp:=ar QD aF
noncomputable def qe:aX:={ eu Tryz.prog gSp Tryz.f9 1 [([0,1,0,1,1],[4,9])] [] [] with tail:=some p9 }
abbrev sV (e a:Int) (tot:List Tok):A->List Ob->Prop:=fun r o=>r=.p (CW 1 tot.length)/\o=[l7 e a,AW tot]
def wO:List Nat:=[0,1,0,1,1]
abbrev IG (acc:List Tok):af:=.ofList [l7 0 0,⟨22,[.c (.sl 2 0 acc.length 4)]⟩,AW acc]
abbrev D2:af:=.ofList [l7 0 0,⟨22,[.c .nil]⟩]
noncomputable abbrev wP:Fr:=fr [(4,.p (.c (.ptr 1 0)))]
theorem K9 (e a:Int) (tot:List Tok) (pn:Option Value) (hE:eV qe (sV e a tot) p9 wO (.sl .pv) [] wP (IG tot) true pn):∀ (ts acc:List Tok),acc++ts=tot->tot.length<=20000->eV qe (sV e a tot) p9 wO (.sl .pv) (ts.map yT) wP (IG acc) true pn
 | [],acc,h,_=>by rw [List.append_nil] at h;subst h;exact hE
 | t::ts,acc,h,hl=>by
   have bO:acc.length+1+ts.length=tot.length:=by rw [<-h];simp;omega
   have ih:=K9 e a tot pn hE ts (acc++[t]) (by rw [<-h];simp) hl
   unfold IG at ih
   rw [List.length_append,List.length_singleton] at ih
   refine uG (d:=.sl .pv) (y:=yT t) qd rfl 3 (by kernel_rfl) 300 ?_
   apply of_eq (q:=(((0:Nat)+acc.length*4).le (aA acc).length/\((acc.length+1)*40).le (140737488355328:Nat))/\eV qe (sV e a tot) p9 [0,1,0,1,1] D.pv.sl (List.map yT ts) (fr [(4,aR 1 0)]) (af.ofList [Ob.mk 25 [fI (0),fI (0)],Ob.mk 22 [Fd.c (W.sl 2 0 (acc.length+1) 4)],Ob.mk 30 [Fd.a 0 D.pv (List.take (acc.length*4) (List.drop (0:Nat) (aA acc))++[PV.int t.kind,PV.str t.text,PV.int t.n,PV.int t.at_])]]) true pn) (by kernel_rfl)
   try simp only [sL]
   rw [List.take_of_length_le (by rw [j8];exact Nat.le_refl _),Qw]
   exact ⟨⟨by rw [j8];exact Nat.le_refl _,by show (acc.length+1)*40<=140737488355328;omega⟩,ih⟩
theorem Uv (e a:Int) (tot:List Tok) (pn:Option Value) (hE:eV qe (sV e a tot) p9 wO (.sl .pv) [] wP (IG tot) true pn) (t:Tok) (ts:List Tok) (h:t::ts=tot) (hl:tot.length<=20000):eV qe (sV e a tot) p9 wO (.sl .pv) ((t::ts).map yT) wP D2 true pn:=by
 have ih:=K9 e a tot pn hE ts [t] h hl
 refine uG (d:=.sl .pv) (y:=yT t) qd rfl 2 (by kernel_rfl) 300 ?_
 apply of_eq (q:=((1:Nat)*40).le (140737488355328:Nat)/\eV qe (sV e a tot) p9 [0,1,0,1,1] D.pv.sl (List.map yT ts) (fr [(4,aR 1 0)]) (af.ofList [Ob.mk 25 [fI (0),fI (0)],Ob.mk 22 [Fd.c (W.sl 2 0 1 4)],Ob.mk 30 [Fd.a 0 D.pv [PV.int t.kind,PV.str t.text,PV.int t.n,PV.int t.at_]]]) true pn) (by kernel_rfl)
 try simp only [sL,Int.reduceEq,Int.reduceNe,Nat.reduceAdd]
 exact ⟨Nat.le_of_ble_eq_true rfl,ih⟩
theorem XL (tot:List Tok):eV qe (sV 0 0 tot) p9 wO (.sl .pv) [] wP (IG tot) true none:=by
 refine yG qd (by kernel_rfl) rfl 300 ?_
 apply of_eq (q:=ax [V.c (W.sl (1:Nat) (0:Nat) tot.length (4:Nat))]=A.p (CW (1:Nat) tot.length)/\[Ob.mk 25 [fI (0),fI (0)],Ob.mk 30 [Fd.a 0 D.pv (aA tot)]]=[l7 (0:Int) (0:Int),AW tot]) (by kernel_rfl)
 try simp only [sL]
 rfl
theorem Uw:eV qe (sV 0 0 []) p9 wO (.sl .pv) [] wP D2 true none:=by
 refine yG qd (by kernel_rfl) rfl 300 ?_
 apply of_eq (q:=ax [V.c (W.sl (1:Nat) (0:Nat) (0:Nat) (4:Nat))]=A.p (CW (1:Nat) (0:Nat))/\[Ob.mk 25 [fI (0),fI (0)],Ob.mk 30 [Fd.a 0 D.pv []]]=[l7 (0:Int) (0:Int),AW []]) (by kernel_rfl)
 try simp only [sL,Int.reduceEq,Int.reduceNe,Nat.reduceAdd]
 exact ⟨rfl,rfl⟩
theorem XM (e a:Int) (tot:List Tok):eV qe (sV e a tot) p9 wO (.sl .pv) [] wP (IG tot) true (some (aN e a)):=by
 refine yH qd (by kernel_rfl) rfl ?_
 apply of_eq (q:=ax [V.c (W.sl (1:Nat) (0:Nat) tot.length (4:Nat))]=A.p (CW (1:Nat) tot.length)/\[Ob.mk 25 [fI e,fI a],Ob.mk 30 [Fd.a 0 D.pv (aA tot)]]=[l7 e a,AW tot]) (by kernel_rfl)
 try simp only [sL]
 first | rfl | exact ⟨rfl,rfl⟩ | exact ?a
theorem Ux (e a:Int):eV qe (sV e a []) p9 wO (.sl .pv) [] wP D2 true (some (aN e a)):=by
 refine yH qd (by kernel_rfl) rfl ?_
 apply of_eq (q:=ax [V.c (W.sl (1:Nat) (0:Nat) (0:Nat) (4:Nat))]=A.p (CW (1:Nat) (0:Nat))/\[Ob.mk 25 [fI e,fI a],Ob.mk 30 [Fd.a 0 D.pv []]]=[l7 e a,AW []]) (by kernel_rfl)
 try simp only [sL,Int.reduceEq,Int.reduceNe,Nat.reduceAdd]
 first | rfl | exact ⟨rfl,rfl⟩ | exact ?a
theorem QE (e a:Int) (tot:List Tok) (pn:Option Value) (h1:∀ tot,eV qe (sV e a tot) p9 wO (.sl .pv) [] wP (IG tot) true pn) (h0:eV qe (sV e a []) p9 wO (.sl .pv) [] wP D2 true pn) (hl:tot.length<=20000):eV qe (sV e a tot) p9 wO (.sl .pv) (tot.map yT) wP D2 true pn:=by
 cases tot with
 | nil=>exact h0
 | cons t ts=>exact Uv e a (t::ts) pn (h1 _) t ts rfl hl
theorem QF (s:ByteArray) (hs:s.size<=20000) (hl:(bL s s.size 0).1.length<=20000) (h0:(bL s s.size 0).2.1=0->(bL s s.size 0).2.2=0):fC Tryz.prog 9 1 [sS s,.p (.c (.ptr 0 0))] [l7 0 0] (.p (CW 1 (bL s s.size 0).1.length)) [l7 (bL s s.size 0).2.1 (bL s s.size 0).2.2,AW (bL s s.size 0).1]:=by
 refine yD (s:=qe) qd rfl Tryz.func9 (by kernel_rfl) (by kernel_rfl) 300 ?_ (fun _ h=>h)
 apply of_eq (q:=let q1:=(bL s s.size (0:Nat));CN qe (fun r o=>r=A.p (CW (1:Nat) q1.fst.length)/\o=[l7 q1.snd.fst q1.snd.snd,AW q1.fst]) [0,1] ((((ah.T.leaf.node (some (aR 0 0)) ah.T.leaf).node none ah.T.leaf).node (some (aR 0 0)) ah.T.leaf).node (some (aP (W.str s))) ((ah.T.leaf.node (some (aR 1 0)) ah.T.leaf).node none ah.T.leaf)) (af.ofList [Ob.mk 25 [fI (0),fI (0)],Ob.mk 22 [Fd.c W.nil]])) (by kernel_rfl)
 try simp only [sL,Int.reduceEq,Int.reduceNe,Nat.reduceAdd]
 refine Qe (T:=p9) qd rfl (by kernel_rfl) rfl rfl 300 ?_
 apply of_eq (q:=let q1:=(bL s s.size (0:Nat));BA qe (fun r o=>r=A.p (CW (1:Nat) q1.fst.length)/\o=[l7 q1.snd.fst q1.snd.snd,AW q1.fst]) p9 [0,1,0,1,1] (fr [(4,aR 1 0),(9,aP (W.func 35 [(2,(0:Nat))]))]) (af.ofList [Ob.mk 25 [fI (0),fI (0)],Ob.mk 22 [Fd.c W.nil],Ob.mk 9 [Fd.c (W.str s)]])) (by kernel_rfl)
 try simp only [sL,Int.reduceEq,Int.reduceNe,Nat.reduceAdd]
 have hI:=QB s hs (decide ((bL s s.size 0).2.1≠0)) (aN (bL s s.size 0).2.1 (bL s s.size 0).2.2) rfl rfl
 have hY:eV qe (sV (bL s s.size 0).2.1 (bL s s.size 0).2.2 (bL s s.size 0).1) p9 wO (.sl .pv) ((bL s s.size 0).1.map yT) wP D2 true (bif decide ((bL s s.size 0).2.1≠0) then some (aN (bL s s.size 0).2.1 (bL s s.size 0).2.2) else none):=by
  by_cases hb:(bL s s.size 0).2.1=0
  . have hb2:=h0 hb
    rw [hb,hb2,decide_eq_false (by simp)]
    exact QE 0 0 _ none XL Uw hl
  . rw [decide_eq_true hb]
    exact QE _ _ _ _ (XM _ _) (Ux _ _) hl
 exact Kr rfl (by kernel_rfl) hI hY
theorem rO (s:ByteArray):∀ k i,(bL s k i).1.length<=k
 | 0,i=>by simp [bL]
 | k + 1, i => by
   have h1:=rO s k (i+1)
   have h2:=rO s k (aQ gN s i)
   have h3:=rO s k (bS s i).e.toNat
   rw [bL]
   split
   . split
     . omega
     . split
       . omega
       . split
         . simp
         . simp only [List.length_cons];omega
   . simp
theorem uJ (s:ByteArray):∀ k i,(bL s k i).2.1=0->(bL s k i).2.2=0
 | 0,i,_=>by simp [bL]
 | k + 1, i, h => by
   have h1:=uJ s k (i+1)
   have h2:=uJ s k (aQ gN s i)
   have h3:=uJ s k (bS s i).e.toNat
   rw [bL] at h ⊢
   split at h
   . rename_i a
     rw [if_pos a]
     split at h
     . rename_i b;rw [if_pos b];exact h1 h
     . rename_i b
       rw [if_neg b]
       split at h
       . rename_i c;rw [if_pos c];exact h2 h
       . rename_i c
         rw [if_neg c]
         split at h
         . rename_i d;exact absurd h d
         . rename_i d;rw [if_neg d];exact h3 h
   . rename_i a;rw [if_neg a]
def II:cQ:={ cw:=[false,true],ak:=some 1,f:=fun args ai=>match args,ai with
 | [x,.p (.c (.ptr 0 0))],[⟨t,[.c (.int .i64 0),.c (.int .i64 0)]⟩]=>match rJ .str x with
   | some s=>bif Nat.beq t 25 then some (.p (ByteArray.size s<=20000),.p (CW 1 (bL s (ByteArray.size s) 0).1.length),[l7 (bL s (ByteArray.size s) 0).2.1 (bL s (ByteArray.size s) 0).2.2,AW (bL s (ByteArray.size s) 0).1]) else none
   | none=>none
 | _,_=>none }
theorem QG:bF Tryz.prog 9 II:=by
 refine ⟨by kernel_rfl,fun args ai c r aU e hc=>?_⟩
 simp only [II] at e
 split at e
 . split at e
   . rename_i s hx
     obtain ⟨hb,e1⟩:=ah.ay e
     clear e
     cases Nat.eq_of_beq_eq_true hb
     cases e1
     have h:=QF s hc (Nat.le_trans (rO _ _ _) hc) (uJ _ _ _)
     intro base η Z w vs R hvs hK
     exact h base η Z w vs R (match vs,hvs with | [_,_],⟨a,b⟩=>⟨jb hx a,b⟩) hK
   . cases e
 . cases e
noncomputable def gSpl:bY:=[(9,II)]
theorem La:aZ Tryz.prog gSpl:=ar QG aF
end Go.Proofs.YtelpmhfdbdihfaaGreatDoor
