/- Tokens: what the program hands on is what the reference finds. -/
import Derived.Test.YtmmikdgcodiboaaGreatDoorSplit1
namespace Go.Proofs.YtmmikdgcodiboaaGreatDoor
open Go.Loom
set_option maxRecDepth 100000
theorem runP_all (p:Int->Bool) (s:ByteArray):∀ (k i:Nat),k=s.size-i->∀ j,i<=j->j<runP p s i->p (bAt s j)=true
 | k,i,hk,j,h1,h2=>by
   by_cases h:i<s.size/\p (bAt s i)=true
   . rw [runP_yes h] at h2
     cases k with
     | zero=>omega
     | succ k =>
       by_cases hj:j=i
       . subst hj;exact h.2
       . exact runP_all p s k (i+1) (by omega) j (by omega) h2
   . rw [runP_no h] at h2;omega
theorem at_over {x:ByteArray}:(atE x=true∨1000000000000000<atV x)↔1000000000000000<decV x.data.toList 0:=by
 unfold atE atV
 rw [decide_eq_true_eq]
 split <;> omega
theorem at_val {x:ByteArray} (h:decV x.data.toList 0<=1000000000000000):atV x=(decV x.data.toList 0:Int):=by
 unfold atV;rw [if_pos (by omega)]
theorem sc_loop (s:ByteArray) (hs:s.size<=20000) (l:Nat) (b:Bool) (v:Value):∀ (k i:Nat),s.size<=k+i->i<=s.size->(b=decide ((allT s k i).2.1≠0))->v=fauV (allT s k i).2.1 (allT s k i).2.2->
 AtLoop (sSc b v) (fun _ _=>b=false) [0,1] (fr (scF l i)) (scS l s ((allT s k i).1.map yT))
 | 0,i,hk,hi,hb,hv=>by
   refine atLoop_at gSc_ok (by kernel_rfl) 300 ?_
   apply of_eq (q:=let q0:=IntKind.i64.wrap;let q2:=(s.extract i (runP digC s i));let q5:=(R1.pure (Cd.t.and Cd.t) (aP (W.str s))).v=(R1.pure (Cd.t.and Cd.t) (aP (W.str s))).v;let q7:=(i:Int);let q9:=(s.extract i (runP wrdC s i));let q10:=decide (bAt s i=48)=true;let q11:=(bif true then atE q2 else !atE q2)=false;let q12:=(s.size:Int);let q13:=(↑(runP wrdC s i):Int);let q14:=Value.iface (96:Nat) (Value.agg #[Value.int .i64 (4:Int),Value.int .i64 q7])=v;let q15:=(q0 (q7+1));let q16:=(↑(runP digC s i):Int);let q17:=decide (bAt s i=32);let q18:=(R1.pure (Cd.t.and Cd.t) (aP (W.str q9))).v=(R1.pure (Cd.t.and Cd.t) (aP (W.str q9))).v;let q19:=(allT s (0:Nat) i);let q21:=(0:Int)<=q7;let q22:=aP (W.yield l);let q1:=(runP insC s q15.toNat);let q4:=(List.map yT q19.fst);let q6:=(Sto.ofListG (some (Gh.mk l D.pv.sl q4.tail true)) [Ob.mk 9 [Fd.c (W.str s)]]);let q8:=List.map yT q19.fst=[];let q20:=(Sto.ofListG (some (Gh.mk l D.pv.sl q4 true)) [Ob.mk 9 [Fd.c (W.str s)]]);let q23:=decide ((200:Int)<(↑(s.extract q15.toNat q1).size:Int));let q24:=(↑q1:Int);let q3:=decide (q24=q12);(decide (q7<q12)=true->(q21/\q7<q12)/\(q17=false->q17=false)/\(q17=false->q17=false)/\((bif q17 then true else decide (bAt s i=10))=true->AtLoop (sSc b v) (fun x x_1=>b=false) [0,1] (fr [(0,q22),(1,aR 0 0),(3,nI q15)]) q20)/\((bif q17 then true else decide (bAt s i=10))=false->(decide (bAt s i=35)=true->(s.size<=1000000/\q21/\q7<=q12)/\AtLoop (sSc b v) (fun x x_1=>b=false) [0,1] (fr [(0,q22),(1,aR 0 0),(3,nI (↑(runP notN s i):Int))]) q20)/\(decide (bAt s i=35)=false->(letC (bAt s i)=true->(s.size<=1000000/\q21/\q7<=q12)/\(q21/\q7<=q13/\q13<=q12)/\q5/\q5/\(13:Nat)<=1000000/\q18/\q18/\(hasS resL q9=true->(l=l/\List.map yT q19.fst≠[]/\q4.head? = some [PV.int q7,PV.int (2:Int),PV.str q9,PV.int (0:Int),PV.int q7])/\AtLoop (sSc b v) (fun x x_1=>b=false) [0,1] (fr [(0,q22),(1,aR 0 0),(3,nI q13)]) q6)/\(hasS resL q9=false->(decide ((20:Int)<q0 (q13-q7))=true->(b=true/\q14)/\q8)/\(decide ((20:Int)<q0 (q13-q7))=false->(l=l/\List.map yT q19.fst≠[]/\q4.head? = some [PV.int q7,PV.int (1:Int),PV.str q9,PV.int (0:Int),PV.int q7])/\AtLoop (sSc b v) (fun x x_1=>b=false) [0,1] (fr [(0,q22),(1,aR 0 0),(3,nI q13)]) q6)))/\(letC (bAt s i)=false->(digC (bAt s i)=true->(s.size<=1000000/\q21/\q7<=q12)/\(q21/\q7<=q16/\q16<=q12)/\(digL q2.data.toList/\(1:Nat)<=q2.size/\q2.size<=1000000)/\(q10->q10)/\(q10->q10)/\(q10->q10)/\(q10->q10)/\((bif decide (bAt s i=48) then decide (q0 (q7+1)<q16) else false)=true->(b=true/\Value.iface (96:Nat) (Value.agg #[Value.int .i64 (11:Int),Value.int .i64 q7])=v)/\q8)/\((bif decide (bAt s i=48) then decide (q0 (q7+1)<q16) else false)=false->(q11->q11)/\(q11->q11)/\((bif bif true then atE q2 else !atE q2 then true else decide ((1000000000000000:Int)<atV q2))=true->(b=true/\Value.iface (96:Nat) (Value.agg #[Value.int .i64 (2:Int),Value.int .i64 q7])=v)/\q8)/\((bif bif true then atE q2 else !atE q2 then true else decide ((1000000000000000:Int)<atV q2))=false->(l=l/\List.map yT q19.fst≠[]/\q4.head? = some [PV.int q7,PV.int (3:Int),PV.str (ByteArray.mk #[]),PV.int (atV q2),PV.int q7])/\AtLoop (sSc b v) (fun x x_1=>b=false) [0,1] (fr [(0,q22),(1,aR 0 0),(3,nI q16)]) q6)))/\(digC (bAt s i)=false->(decide (bAt s i=34)=true->(s.size<=1000000/\(0:Int)<=q0 (q7+1)/\q0 (q7+1)<=q12)/\(q3=false->q3=false)/\(q3=false->q3=false)/\(q3=false->(0:Int)<=q24/\q24<q12)/\(q3=false->q3=false)/\(q3=false->q3=false)/\((bif q3 then true else !decide (bAt s q1=34))=true->(b=true/\Value.iface (96:Nat) (Value.agg #[Value.int .i64 (11:Int),Value.int .i64 q24])=v)/\q8)/\((bif q3 then true else !decide (bAt s q1=34))=false->((0:Int)<=q0 (q7+1)/\q0 (q7+1)<=q24/\q24<=q12)/\q5/\q5/\(q23=true->(b=true/\q14)/\q8)/\(q23=false->(l=l/\List.map yT q19.fst≠[]/\q4.head? = some [PV.int q7,PV.int (4:Int),PV.str (s.extract q15.toNat q1),PV.int (0:Int),PV.int q7])/\AtLoop (sSc b v) (fun x x_1=>b=false) [0,1] (fr [(0,q22),(1,aR 0 0),(3,nI (q0 (q24+1)))]) q6)))/\(decide (bAt s i=34)=false->AtLoop (sSc b v) (fun x x_1=>b=false) [0,1,0,1,1,1,1,1,1,1,1,1,1,0,0,1,1,1,0,1,0,0,1] (fr [(0,q22),(1,aR 0 0),(3,nI q7),(6,aR 1 0),(21,aP (W.rd D.str sigL)),(22,nI (↑(21:Nat):Int)),(23,nI (0))]) (Sto.ofListG (some (Gh.mk l D.pv.sl q4 true)) [Ob.mk 9 [Fd.c (W.str s)],Ob.mk 43 [fI (0),Fd.c (W.str (ByteArray.mk #[])),fI (0),fI q7]])))))))/\(decide (q7<q12)=false->q8/\b=false)) (by kernel_rfl)
   try simp only [sL]
   exact ⟨fun h=>by omega,fun h=>⟨rfl,by rw [hb];rfl⟩⟩
 | k + 1, i, hk, hi, hb, hv => by
   have IH:∀ j,i<j->j<=s.size->b=decide ((allT s k j).2.1≠0)->v=fauV (allT s k j).2.1 (allT s k j).2.2->AtLoop (sSc b v) (fun _ _=>b=false) [0,1] (fr (scF l j)) (scS l s ((allT s k j).1.map yT)):=fun j h1 h2 hb hv=>sc_loop s hs l b v k j (by omega) h2 hb hv
   refine atLoop_at gSc_ok (by kernel_rfl) 300 ?_
   apply of_eq (q:=let q0:=IntKind.i64.wrap;let q2:=(s.extract i (runP digC s i));let q5:=(R1.pure (Cd.t.and Cd.t) (aP (W.str s))).v=(R1.pure (Cd.t.and Cd.t) (aP (W.str s))).v;let q6:=(allT s (k+1) i);let q7:=(i:Int);let q8:=(s.extract i (runP wrdC s i));let q9:=decide (bAt s i=48)=true;let q10:=(bif true then atE q2 else !atE q2)=false;let q11:=(List.map yT q6.fst);let q12:=(s.size:Int);let q13:=(↑(runP wrdC s i):Int);let q14:=Value.iface (96:Nat) (Value.agg #[Value.int .i64 (4:Int),Value.int .i64 q7])=v;let q15:=List.map yT q6.fst=[];let q16:=(q0 (q7+1));let q17:=(↑(runP digC s i):Int);let q18:=decide (bAt s i=32);let q19:=(R1.pure (Cd.t.and Cd.t) (aP (W.str q8))).v=(R1.pure (Cd.t.and Cd.t) (aP (W.str q8))).v;let q20:=(Sto.ofListG (some (Gh.mk l D.pv.sl q11 true)) [Ob.mk 9 [Fd.c (W.str s)]]);let q21:=(0:Int)<=q7;let q22:=aP (W.yield l);let q1:=(runP insC s q16.toNat);let q4:=(Sto.ofListG (some (Gh.mk l D.pv.sl q11.tail true)) [Ob.mk 9 [Fd.c (W.str s)]]);let q23:=decide ((200:Int)<(↑(s.extract q16.toNat q1).size:Int));let q24:=(↑q1:Int);let q3:=decide (q24=q12);(decide (q7<q12)=true->(q21/\q7<q12)/\(q18=false->q18=false)/\(q18=false->q18=false)/\((bif q18 then true else decide (bAt s i=10))=true->AtLoop (sSc b v) (fun x x_1=>b=false) [0,1] (fr [(0,q22),(1,aR 0 0),(3,nI q16)]) q20)/\((bif q18 then true else decide (bAt s i=10))=false->(decide (bAt s i=35)=true->(s.size<=1000000/\q21/\q7<=q12)/\AtLoop (sSc b v) (fun x x_1=>b=false) [0,1] (fr [(0,q22),(1,aR 0 0),(3,nI (↑(runP notN s i):Int))]) q20)/\(decide (bAt s i=35)=false->(letC (bAt s i)=true->(s.size<=1000000/\q21/\q7<=q12)/\(q21/\q7<=q13/\q13<=q12)/\q5/\q5/\(13:Nat)<=1000000/\q19/\q19/\(hasS resL q8=true->(l=l/\List.map yT q6.fst≠[]/\q11.head? = some [PV.int q7,PV.int (2:Int),PV.str q8,PV.int (0:Int),PV.int q7])/\AtLoop (sSc b v) (fun x x_1=>b=false) [0,1] (fr [(0,q22),(1,aR 0 0),(3,nI q13)]) q4)/\(hasS resL q8=false->(decide ((20:Int)<q0 (q13-q7))=true->(b=true/\q14)/\q15)/\(decide ((20:Int)<q0 (q13-q7))=false->(l=l/\List.map yT q6.fst≠[]/\q11.head? = some [PV.int q7,PV.int (1:Int),PV.str q8,PV.int (0:Int),PV.int q7])/\AtLoop (sSc b v) (fun x x_1=>b=false) [0,1] (fr [(0,q22),(1,aR 0 0),(3,nI q13)]) q4)))/\(letC (bAt s i)=false->(digC (bAt s i)=true->(s.size<=1000000/\q21/\q7<=q12)/\(q21/\q7<=q17/\q17<=q12)/\(digL q2.data.toList/\(1:Nat)<=q2.size/\q2.size<=1000000)/\(q9->q9)/\(q9->q9)/\(q9->q9)/\(q9->q9)/\((bif decide (bAt s i=48) then decide (q0 (q7+1)<q17) else false)=true->(b=true/\Value.iface (96:Nat) (Value.agg #[Value.int .i64 (11:Int),Value.int .i64 q7])=v)/\q15)/\((bif decide (bAt s i=48) then decide (q0 (q7+1)<q17) else false)=false->(q10->q10)/\(q10->q10)/\((bif bif true then atE q2 else !atE q2 then true else decide ((1000000000000000:Int)<atV q2))=true->(b=true/\Value.iface (96:Nat) (Value.agg #[Value.int .i64 (2:Int),Value.int .i64 q7])=v)/\q15)/\((bif bif true then atE q2 else !atE q2 then true else decide ((1000000000000000:Int)<atV q2))=false->(l=l/\List.map yT q6.fst≠[]/\q11.head? = some [PV.int q7,PV.int (3:Int),PV.str (ByteArray.mk #[]),PV.int (atV q2),PV.int q7])/\AtLoop (sSc b v) (fun x x_1=>b=false) [0,1] (fr [(0,q22),(1,aR 0 0),(3,nI q17)]) q4)))/\(digC (bAt s i)=false->(decide (bAt s i=34)=true->(s.size<=1000000/\(0:Int)<=q0 (q7+1)/\q0 (q7+1)<=q12)/\(q3=false->q3=false)/\(q3=false->q3=false)/\(q3=false->(0:Int)<=q24/\q24<q12)/\(q3=false->q3=false)/\(q3=false->q3=false)/\((bif q3 then true else !decide (bAt s q1=34))=true->(b=true/\Value.iface (96:Nat) (Value.agg #[Value.int .i64 (11:Int),Value.int .i64 q24])=v)/\q15)/\((bif q3 then true else !decide (bAt s q1=34))=false->((0:Int)<=q0 (q7+1)/\q0 (q7+1)<=q24/\q24<=q12)/\q5/\q5/\(q23=true->(b=true/\q14)/\q15)/\(q23=false->(l=l/\List.map yT q6.fst≠[]/\q11.head? = some [PV.int q7,PV.int (4:Int),PV.str (s.extract q16.toNat q1),PV.int (0:Int),PV.int q7])/\AtLoop (sSc b v) (fun x x_1=>b=false) [0,1] (fr [(0,q22),(1,aR 0 0),(3,nI (q0 (q24+1)))]) q4)))/\(decide (bAt s i=34)=false->AtLoop (sSc b v) (fun x x_1=>b=false) [0,1,0,1,1,1,1,1,1,1,1,1,1,0,0,1,1,1,0,1,0,0,1] (fr [(0,q22),(1,aR 0 0),(3,nI q7),(6,aR 1 0),(21,aP (W.rd D.str sigL)),(22,nI (↑(21:Nat):Int)),(23,nI (0))]) (Sto.ofListG (some (Gh.mk l D.pv.sl q11 true)) [Ob.mk 9 [Fd.c (W.str s)],Ob.mk 43 [fI (0),Fd.c (W.str (ByteArray.mk #[])),fI (0),fI q7]])))))))/\(decide (q7<q12)=false->q15/\b=false)) (by kernel_rfl)
   try simp only [sL]
   refine ⟨fun h=>?_,fun h=>?_⟩
   rotate_left
   . have e:allT s (k+1) i=([],0,0):=by rw [allT,if_neg (by omega)]
     rw [e] at hb ⊢
     exact ⟨rfl,by rw [hb];rfl⟩
   have hlt:i<s.size:=by omega
   refine ⟨by omega,fun h1=>?_,fun h1=>?_⟩
   . have e:allT s (k+1) i=allT s k (i+1):=by rw [allT,if_pos hlt,if_pos h1]
     rw [e] at hb hv ⊢
     rw [wrap64 (by omega) (by omega)]
     exact IH (i+1) (by omega) (by omega) hb hv
   have hn:¬ (bAt s i=32∨bAt s i=10):=by omega
   refine ⟨fun h2=>⟨by omega,?_⟩,fun h2=>⟨fun h3=>?_,fun h3=>⟨fun h4=>?_,fun h4=>⟨fun h5=>?_,fun h5=>?_⟩⟩⟩⟩
   . have e:allT s (k+1) i=allT s k (runP notN s i):=by rw [allT,if_pos hlt,if_neg hn,if_pos h2]
     have hy:runP notN s i=runP notN s (i+1):=runP_yes ⟨hlt,by unfold notN;rw [decide_eq_false (by omega)];rfl⟩
     have hg:=runP_ge notN s _ (i+1) rfl
     have hg2:=hg.2 (by omega)
     rw [e] at hb hv ⊢
     exact IH _ (by omega) (by omega) hb hv
   . have hy:runP wrdC s i=runP wrdC s (i+1):=runP_yes ⟨hlt,by unfold wrdC;rw [h3];rfl⟩
     have hg:=runP_ge wrdC s _ (i+1) rfl
     have hg2:=hg.2 (by omega)
     have ht0:tokT s i=nameT s i (runP wrdC s i):=by unfold tokT;rw [if_pos h3,hy]
     have hes:=ext_size (s:=s) (a:=i) (e:=runP wrdC s i) (by omega) (by omega)
     rw [wrap64 (n:=(runP wrdC s i:Int)-i) (by omega) (by omega)]
     refine ⟨by omega,by omega,by omega,fun h4=>?_,fun h4=>⟨fun h5=>?_,fun h5=>?_⟩⟩
     . have ht:tokT s i=⟨⟨2,s.extract i (runP wrdC s i),0,i⟩,(runP wrdC s i:Nat),0,0⟩:=by rw [ht0];unfold nameT;rw [if_pos h4]
       exact sc_go IH (allB hlt hn h2 ht) ⟨by omega,by omega⟩ hb hv rfl
     . have ht:tokT s i=⟨⟨1,s.extract i (runP wrdC s i),0,i⟩,(runP wrdC s i:Nat),4,i⟩:=by rw [ht0];unfold nameT;rw [if_neg (by rw [h4];simp),if_pos (by omega)]
       exact sc_die (allA hlt hn h2 ht (by decide)) (by decide) hb hv
     . have ht:tokT s i=⟨⟨1,s.extract i (runP wrdC s i),0,i⟩,(runP wrdC s i:Nat),0,0⟩:=by rw [ht0];unfold nameT;rw [if_neg (by rw [h4];simp),if_neg (by omega)]
       exact sc_go IH (allB hlt hn h2 ht) ⟨by omega,by omega⟩ hb hv rfl
   · have hy : runP digC s i = runP digC s (i + 1) := runP_yes ⟨hlt, h4⟩
     have hg:=runP_ge digC s _ (i+1) rfl
     have hg2:=hg.2 (by omega)
     have ht0:tokT s i=numT s i (runP digC s i):=by unfold tokT;rw [if_neg (by rw [h3];simp),if_pos h4,hy]
     have hes:=ext_size (s:=s) (a:=i) (e:=runP digC s i) (by omega) (by omega)
     obtain ⟨n1,n2,n3⟩:=num_dec (s:=s) (e:=runP digC s i) (by omega) _ i 0 rfl (by omega) (fun j a b=>runP_all digC s _ i rfl j a b) (by omega)
     rw [wrap64 (n:=(i:Int)+1) (by omega) (by omega)]
     refine ⟨by omega,by omega,⟨n1,by omega,by omega⟩,fun h5=>?_,fun h5=>⟨fun h6=>?_,fun h6=>?_⟩⟩
     . have ht:tokT s i=⟨⟨3,eS,0,i⟩,(runP digC s i:Nat),11,i⟩:=by rw [ht0];unfold numT;rw [if_pos ⟨h5.1,by omega⟩]
       exact sc_die (allA hlt hn h2 ht (by decide)) (by decide) hb hv
     . have hV:=at_over.1 (show atE _=true∨_ from h6)
       have ht:tokT s i=⟨⟨3,eS,(numF s (runP digC s i) i 0).1,i⟩,(runP digC s i:Nat),2,i⟩:=by rw [ht0];unfold numT;rw [if_neg (by omega)];rw [if_pos (show (numF s (runP digC s i) i 0).2=true from n2 hV)]
       exact sc_die (allA hlt hn h2 ht (by decide)) (by decide) hb hv
     . have hV:decV (s.extract i (runP digC s i)).data.toList 0<=1000000000000000:=by
        have h7:atE (s.extract i (runP digC s i))=false:=h6.1
        rcases Nat.lt_or_ge 1000000000000000 (decV (s.extract i (runP digC s i)).data.toList 0) with h8 | h8
        . rcases at_over.2 h8 with h9 | h9
          . rw [h7] at h9;cases h9
          . have:=h6.2;omega
        . exact h8
       have h8:=n3 hV
       have ht:tokT s i=⟨⟨3,eS,atV (s.extract i (runP digC s i)),i⟩,(runP digC s i:Nat),0,0⟩:=by rw [ht0,at_val hV];unfold numT;rw [if_neg (by omega)];rw [show numF s (runP digC s i) i 0=_ from h8,if_neg (by simp)]
       exact sc_go IH (allB hlt hn h2 ht) ⟨by omega,by omega⟩ hb hv rfl
   . have hg:=runP_ge insC s _ (i+1) rfl
     have hg2:=hg.2 (by omega)
     have e1:((i:Int)+1).toNat=i+1:=by omega
     have ht0:tokT s i=quoT s i (runP insC s (i+1)):=by unfold tokT;rw [if_neg (by rw [h3];simp),if_neg (by rw [h4];simp),if_pos h5]
     rw [wrap64 (n:=(i:Int)+1) (by omega) (by omega),e1]
     refine ⟨by omega,fun h6=>by omega,fun h6=>?_,fun h6=>?_⟩
     . have ht:tokT s i=⟨⟨0,eS,0,i⟩,(runP insC s (i+1):Nat),11,(runP insC s (i+1):Nat)⟩:=by rw [ht0];unfold quoT;rw [if_pos (by rcases h6 with h6 | h6;exact .inl (by omega);exact .inr h6)]
       exact sc_die (allA hlt hn h2 ht (by decide)) (by decide) hb hv
     . have hes:=ext_size (s:=s) (a:=i+1) (e:=runP insC s (i+1)) (by omega) (by omega)
       have hne:runP insC s (i+1)≠s.size:=by omega
       have hnq:¬ (runP insC s (i+1)=s.size∨bAt s (runP insC s (i+1))≠34):=by rintro (h7 | h7);exact hne h7;exact h7 h6.2
       rw [wrap64 (n:=(runP insC s (i+1):Int)+1) (by omega) (by omega)]
       refine ⟨by omega,fun h7=>?_,fun h7=>?_⟩
       . have ht:tokT s i=⟨⟨4,s.extract (i+1) (runP insC s (i+1)),0,i⟩,(runP insC s (i+1):Nat),4,i⟩:=by rw [ht0];unfold quoT;rw [if_neg hnq,if_pos (by omega)]
         exact sc_die (allA hlt hn h2 ht (by decide)) (by decide) hb hv
       . have ht:tokT s i=⟨⟨4,s.extract (i+1) (runP insC s (i+1)),0,i⟩,(runP insC s (i+1)+1:Nat),0,0⟩:=by rw [ht0];unfold quoT;rw [if_neg hnq,if_neg (by omega)]
         exact sc_go IH (allB hlt hn h2 ht) ⟨by omega,by omega⟩ hb hv rfl
   . have ht0:tokT s i=sigT s i 2:=by unfold tokT;rw [if_neg (by rw [h3];simp),if_neg (by rw [h4];simp),if_neg h5]
     have hbest:=sig_best (s:=s) hlt
     have hspec:=(best_spec (s.extract i s.size) sigL eS).1
     refine sc_sign hs hlt (fun x hx=>?_) 21 0 0 eS rfl (by omega) rfl (fun _=>rfl) (fun h=>absurd h (by decide)) (by decide)
     rw [hx] at hbest hspec
     refine ⟨fun h6=>?_,fun h6=>?_⟩
     . have ht:tokT s i=⟨⟨5,eS,0,i⟩,(i+1:Nat),11,i⟩:=by rw [ht0,hbest,if_pos h6]
       exact sc_die (allA hlt hn h2 ht (by decide)) (by decide) hb hv
     . have ht:tokT s i=⟨⟨5,x,0,i⟩,(i+x.size:Nat),0,0⟩:=by rw [ht0,hbest,if_neg (by omega)]
       have hle:i+x.size<=s.size:=by
        rcases hspec with h7 | h7
        . rw [h7] at h6;exact absurd h6 (by decide)
        . exact ((pref_iff (by omega)).1 h7.2).1
       exact sc_go IH (allB hlt hn h2 ht) ⟨by omega,hle⟩ hb hv rfl
theorem scan_iter (s:ByteArray) (hs:s.size<=20000) (b:Bool) (v:Value) (hb:b=decide ((allT s s.size 0).2.1≠0)) (hv:v=fauV (allT s s.size 0).2.1 (allT s s.size 0).2.2):IterEnd Tryz.prog 53 [.p (.c (.ptr 0 0))] [strO s] (.sl .pv) ((allT s s.size 0).1.map yT) true (bif b then some v else none):=by
 refine iterEnd_at (dies:=[]) (live:=scLive) gSc_ok Tryz.func53 (by kernel_rfl) (by kernel_rfl) 100 fun l=>?_
 apply of_eq (q:=AtLoop (mkIterP Tryz.prog gSc [] Tryz.f53 scLive b v) (fun x x_1=>b=false) [0,1] (fr [(0,aP (W.yield l)),(1,aR 0 0),(3,nI (0))]) (Sto.ofListG (some (Gh.mk l D.pv.sl (List.map yT (allT s s.size (0:Nat)).fst) true)) [Ob.mk 9 [Fd.c (W.str s)]])) (by kernel_rfl)
 try simp only [sL,Int.reduceEq,Int.reduceNe,Nat.reduceAdd]
 exact sc_loop s hs l b v s.size 0 (by omega) (by omega) hb hv
end Go.Proofs.YtmmikdgcodiboaaGreatDoor
namespace Go.Loom
open Go.RowKit
theorem below_of_nil {k base:Nat} {η η':Eta} {Z Z':Zeta} {S':Sto} {w w':World} (mv:MovesK k base η Z (.ofList []) w η' Z' S' w'):Below w.heap.size w w':=by
 have hno:∀ b,¬ Loom.Own η (.ofList []) b:=by
  rintro b ⟨n,o,p,h,_⟩
  rw [Sto.get_ofList] at h
  simp at h
 exact ⟨mv.step.os,mv.step.tape,mv.step.output,mv.step.size,fun b hb=>mv.step.block b hb (hno b)⟩
end Go.Loom
namespace Go.Proofs.YtmmikdgcodiboaaGreatDoor
open Go.Loom
set_option maxRecDepth 100000
noncomputable def sCg:Site:=mkSiteF Tryz.prog [] Tryz.f28 1 [] [] []
noncomputable def restCg:Code:=match recSplit sCg.root with | some (_,_,r)=>r | none=>.skip
noncomputable def sCg0:Site:=mkSiteF Tryz.prog [] Tryz.f28 0 [] [] []
noncomputable def restCg0:Code:=match recSplit sCg0.root with | some (_,_,r)=>r | none=>.skip
def gotC (u:Value) (objs:List Ob):Option (Cd×List Ob):=match u,objs with
 | .iface t (.agg ⟨[.int .i64 e,.int .i64 i]⟩),[⟨t1,[.c (.int .i64 0),.c (.int .i64 0)]⟩]=>bif Nat.beq t 96&&Nat.beq t1 27 then some (.t,[obF e i]) else none
 | _,_=>none
theorem cg_got (e i:Int):∀ base η Z w vs,St base η Z (.ofList [obF 0 0]) w->LRel (ARel η Z) (caps0 1) vs->Know Tryz.prog Z->CallsDIn Fence.wide 0 Tryz.prog 28 vs.toArray (.panicking [{ v:=fauV e i,recovered:=false }]) w fun ex md w'=>(∃ v,ex=.returned v)/\md=.panicking [{ v:=fauV e i,recovered:=true }]/\∃ η' Z',MovesK 1 base η Z (.ofList [obF 0 0]) w η' Z' (.ofList [obF e i]) w':=by
 intro base η Z w vs R hvs hK
 refine CallsDIn.mono (fnRec_of (s:=sCg) (n:=100) (rest:=restCg) (d1:=5) (d2:=5) gamOk_nil rfl Tryz.func28 (by kernel_rfl) (by kernel_rfl) (by kernel_rfl) (by kernel_rfl) (by kernel_rfl) (args:=[.p (.c (.ptr 0 0))]) (by kernel_rfl) (m:=.panicking [{ v:=fauV e i,recovered:=false }]) (m':=.panicking [{ v:=fauV e i,recovered:=true }]) (x:=.val (fauV e i)) (v:=fauV e i) (fun η Z=>by first | rfl | trivial | exact ⟨rfl,rfl⟩) (by intro h;cases h) (fun c0 cs=>by first | exact ⟨rfl,rfl⟩ | done) (Qv:=fun _ o=>o=[obF e i]) ?_ R hvs hK) ?_
 . skip
   apply of_eq (q:=(false=true->[Ob.mk 27 [fI (0),fI (0)]]=[obF e i])/\(false=false->(true=true->[Ob.mk 27 [fI e,fI i]]=[obF e i])/\(true=false->False))) (by kernel_rfl)
   try simp only [sL]
   exact ⟨fun h=>(by cases h),fun _ h=>(by cases h)⟩
 . rintro ex md w' ⟨h1,h2,η',Z',r,objs',mv,ho⟩
   subst ho
   exact ⟨h1,h2,η',Z',mv⟩
theorem cgTail_ok:TailOk Tryz.prog 28 1 gotC:=by
 refine ⟨by kernel_rfl,fun base η Z w vs R0 hK hl hv=>?_,fun u objs c objs' e hc hl=>?_⟩
 . match vs,hl with
   | [v1],_ =>
     refine CallsDIn.mono (fnRec_of (s:=sCg0) (n:=100) (rest:=restCg0) (d1:=5) (d2:=5) gamOk_nil rfl Tryz.func28 (by kernel_rfl) (by kernel_rfl) (by kernel_rfl) (by kernel_rfl) (by kernel_rfl) (args:=[.p (.c (.val v1))]) (by kernel_rfl) (m:=.returning) (m':=.returning) (x:=.nilif) (v:=.nilIface) (fun η Z=>by first | rfl | trivial | exact ⟨rfl,rfl⟩) (by intro h;cases h) (fun c0 cs=>⟨rfl,rfl⟩) (Qv:=fun _ _=>True) ?_ R0 ⟨⟨(by intro h;cases h),rfl,hv v1 (by simp)⟩,trivial⟩ hK) ?_
     . skip
       apply of_eq (q:=((!false)=true->True)/\((!false)=false->(false=true->False)/\(false=false->False))) (by kernel_rfl)
       try simp only [sL]
       first | trivial | exact ?b
     . rintro e md w' ⟨h1,h2,η',Z',r,objs',mv,_⟩
       exact ⟨h1,h2,below_of_nil mv⟩
 . unfold gotC at e
   split at e
   . obtain ⟨hb,e1⟩:=Mill.bif_some e
     clear e
     simp only [Bool.and_eq_true] at hb
     cases Nat.eq_of_beq_eq_true hb.1
     cases Nat.eq_of_beq_eq_true hb.2
     cases e1
     exact cg_got _ _
   . cases e
noncomputable def tlC:TailC Tryz.prog:={ f:=28,k:=1,got:=gotC,ok:=cgTail_ok,arg:=true }
end Go.Proofs.YtmmikdgcodiboaaGreatDoor
namespace Go.Proofs.YtmmikdgcodiboaaGreatDoor
open Go.Loom
set_option maxRecDepth 100000
abbrev scFn:A:=.p (.c (.func 53 [(0,0)]))
theorem scan_sem (s:ByteArray):FnSem Tryz.prog 29 [sS s] [] scFn [strO s]:=by
 refine fnSem_at (live:=[]) gamOk_nil Tryz.func29 (by kernel_rfl) (keep:=0) rfl (by kernel_rfl) 100 ?_
 apply of_eq (q:=packV [V.c (W.func 53 [(0,(0:Nat))])]=scFn/\[Ob.mk 9 [Fd.c (W.str s)]]=[strO s]) (by kernel_rfl)
 try simp only [sL]
 rfl
def c_scan:Con:=con1 .str fun s=>(.t,scFn,[strO s])
theorem c_scan_ok:ConOk Tryz.prog 29 c_scan:=con1_ok (by kernel_rfl) fun s _=>scan_sem s
noncomputable def gSp:Gam:=[(29,c_scan)]
theorem gSp_ok:GamOk Tryz.prog gSp:=gamOk_cons c_scan_ok gamOk_nil
noncomputable def sSp:Site:={ mkSiteF Tryz.prog gSp Tryz.f17 1 [([0,1,0,1,1],[4,9])] [] [] with tail:=some tlC }
abbrev spQ (e a:Int) (tot:List Tok):A->List Ob->Prop:=fun r o=>r=.p (slT 1 tot.length)/\o=[obF e a,tkO tot]
def spP:List Nat:=[0,1,0,1,1]
abbrev spS (acc:List Tok):Sto:=.ofList [obF 0 0,⟨24,[.c (.sl 2 0 acc.length 4)]⟩,tkO acc]
abbrev spS0:Sto:=.ofList [obF 0 0,⟨24,[.c .nil]⟩]
noncomputable abbrev spF:Fr:=fr [(4,.p (.c (.ptr 1 0)))]
theorem sp_rest (e a:Int) (tot:List Tok) (pn:Option Value) (hE:AtYieldT sSp (spQ e a tot) tlC spP (.sl .pv) [] spF (spS tot) true pn):∀ (ts acc:List Tok),acc++ts=tot->tot.length<=20000->AtYieldT sSp (spQ e a tot) tlC spP (.sl .pv) (ts.map yT) spF (spS acc) true pn
 | [],acc,h,_=>by rw [List.append_nil] at h;subst h;exact hE
 | t::ts,acc,h,hl=>by
   have hlen:acc.length+1+ts.length=tot.length:=by rw [<-h];simp;omega
   have ih:=sp_rest e a tot pn hE ts (acc++[t]) (by rw [<-h];simp) hl
   unfold spS at ih
   rw [List.length_append,List.length_singleton] at ih
   refine atYieldT_consP (d:=.sl .pv) (y:=yT t) gSp_ok rfl 3 (by kernel_rfl) 300 ?_
   apply of_eq (q:=(((0:Nat)+acc.length*4).le (flatT acc).length/\((acc.length+1)*40).le (140737488355328:Nat))/\AtYieldT sSp (spQ e a tot) tlC [0,1,0,1,1] D.pv.sl (List.map yT ts) (fr [(4,aR 1 0)]) (Sto.ofList [Ob.mk 27 [fI (0),fI (0)],Ob.mk 24 [Fd.c (W.sl 2 0 (acc.length+1) 4)],Ob.mk 43 [Fd.a 0 D.pv (List.take (acc.length*4) (List.drop (0:Nat) (flatT acc))++[PV.int t.kind,PV.str t.text,PV.int t.n,PV.int t.at_])]]) true pn) (by kernel_rfl)
   try simp only [sL]
   rw [List.take_of_length_le (by rw [flatT_len];exact Nat.le_refl _),flat_snoc]
   exact ⟨⟨by rw [flatT_len];exact Nat.le_refl _,by show (acc.length+1)*40<=140737488355328;omega⟩,ih⟩
theorem sp_first (e a:Int) (tot:List Tok) (pn:Option Value) (hE:AtYieldT sSp (spQ e a tot) tlC spP (.sl .pv) [] spF (spS tot) true pn) (t:Tok) (ts:List Tok) (h:t::ts=tot) (hl:tot.length<=20000):AtYieldT sSp (spQ e a tot) tlC spP (.sl .pv) ((t::ts).map yT) spF spS0 true pn:=by
 have ih:=sp_rest e a tot pn hE ts [t] h hl
 refine atYieldT_consP (d:=.sl .pv) (y:=yT t) gSp_ok rfl 2 (by kernel_rfl) 300 ?_
 apply of_eq (q:=((1:Nat)*40).le (140737488355328:Nat)/\AtYieldT sSp (spQ e a tot) tlC [0,1,0,1,1] D.pv.sl (List.map yT ts) (fr [(4,aR 1 0)]) (Sto.ofList [Ob.mk 27 [fI (0),fI (0)],Ob.mk 24 [Fd.c (W.sl 2 0 1 4)],Ob.mk 43 [Fd.a 0 D.pv [PV.int t.kind,PV.str t.text,PV.int t.n,PV.int t.at_]]]) true pn) (by kernel_rfl)
 try simp only [sL,Int.reduceEq,Int.reduceNe,Nat.reduceAdd]
 exact ⟨Nat.le_of_ble_eq_true rfl,ih⟩
theorem sp_endN (tot:List Tok):AtYieldT sSp (spQ 0 0 tot) tlC spP (.sl .pv) [] spF (spS tot) true none:=by
 refine atYieldT_nil gSp_ok (by kernel_rfl) rfl 300 ?_
 apply of_eq (q:=packV [V.c (W.sl (1:Nat) (0:Nat) tot.length (4:Nat))]=A.p (slT (1:Nat) tot.length)/\[Ob.mk 27 [fI (0),fI (0)],Ob.mk 43 [Fd.a 0 D.pv (flatT tot)]]=[obF (0:Int) (0:Int),tkO tot]) (by kernel_rfl)
 try simp only [sL]
 rfl
theorem sp_endN0:AtYieldT sSp (spQ 0 0 []) tlC spP (.sl .pv) [] spF spS0 true none:=by
 refine atYieldT_nil gSp_ok (by kernel_rfl) rfl 300 ?_
 apply of_eq (q:=packV [V.c (W.sl (1:Nat) (0:Nat) (0:Nat) (4:Nat))]=A.p (slT (1:Nat) (0:Nat))/\[Ob.mk 27 [fI (0),fI (0)],Ob.mk 43 [Fd.a 0 D.pv []]]=[obF (0:Int) (0:Int),tkO []]) (by kernel_rfl)
 try simp only [sL,Int.reduceEq,Int.reduceNe,Nat.reduceAdd]
 exact ⟨rfl,rfl⟩
theorem sp_endP (e a:Int) (tot:List Tok):AtYieldT sSp (spQ e a tot) tlC spP (.sl .pv) [] spF (spS tot) true (some (fauV e a)):=by
 refine atYieldT_pan gSp_ok (by kernel_rfl) rfl ?_
 apply of_eq (q:=packV [V.c (W.sl (1:Nat) (0:Nat) tot.length (4:Nat))]=A.p (slT (1:Nat) tot.length)/\[Ob.mk 27 [fI e,fI a],Ob.mk 43 [Fd.a 0 D.pv (flatT tot)]]=[obF e a,tkO tot]) (by kernel_rfl)
 try simp only [sL]
 first | rfl | exact ⟨rfl,rfl⟩ | exact ?a
theorem sp_endP0 (e a:Int):AtYieldT sSp (spQ e a []) tlC spP (.sl .pv) [] spF spS0 true (some (fauV e a)):=by
 refine atYieldT_pan gSp_ok (by kernel_rfl) rfl ?_
 apply of_eq (q:=packV [V.c (W.sl (1:Nat) (0:Nat) (0:Nat) (4:Nat))]=A.p (slT (1:Nat) (0:Nat))/\[Ob.mk 27 [fI e,fI a],Ob.mk 43 [Fd.a 0 D.pv []]]=[obF e a,tkO []]) (by kernel_rfl)
 try simp only [sL,Int.reduceEq,Int.reduceNe,Nat.reduceAdd]
 first | rfl | exact ⟨rfl,rfl⟩ | exact ?a
theorem sp_all (e a:Int) (tot:List Tok) (pn:Option Value) (h1:∀ tot,AtYieldT sSp (spQ e a tot) tlC spP (.sl .pv) [] spF (spS tot) true pn) (h0:AtYieldT sSp (spQ e a []) tlC spP (.sl .pv) [] spF spS0 true pn) (hl:tot.length<=20000):AtYieldT sSp (spQ e a tot) tlC spP (.sl .pv) (tot.map yT) spF spS0 true pn:=by
 cases tot with
 | nil=>exact h0
 | cons t ts=>exact sp_first e a (t::ts) pn (h1 _) t ts rfl hl
theorem split_sem (s:ByteArray) (hs:s.size<=20000) (hl:(allT s s.size 0).1.length<=20000) (h0:(allT s s.size 0).2.1=0->(allT s s.size 0).2.2=0):FnSemK Tryz.prog 17 1 [sS s,.p (.c (.ptr 0 0))] [obF 0 0] (.p (slT 1 (allT s s.size 0).1.length)) [obF (allT s s.size 0).2.1 (allT s s.size 0).2.2,tkO (allT s s.size 0).1]:=by
 refine fnSemK_of (s:=sSp) gSp_ok rfl Tryz.func17 (by kernel_rfl) (by kernel_rfl) 300 ?_ (fun _ h=>h)
 apply of_eq (q:=let q1:=(allT s s.size (0:Nat));AtTail sSp (fun r o=>r=A.p (slT (1:Nat) q1.fst.length)/\o=[obF q1.snd.fst q1.snd.snd,tkO q1.fst]) [0,1] ((((Mill.T.leaf.node (some (aR 0 0)) Mill.T.leaf).node none Mill.T.leaf).node (some (aR 0 0)) Mill.T.leaf).node (some (aP (W.str s))) ((Mill.T.leaf.node (some (aR 1 0)) Mill.T.leaf).node none Mill.T.leaf)) (Sto.ofList [Ob.mk 27 [fI (0),fI (0)],Ob.mk 24 [Fd.c W.nil]])) (by kernel_rfl)
 try simp only [sL,Int.reduceEq,Int.reduceNe,Nat.reduceAdd]
 refine atTail_at (T:=tlC) gSp_ok rfl (by kernel_rfl) rfl rfl 300 ?_
 apply of_eq (q:=let q1:=(allT s s.size (0:Nat));AtRangeT sSp (fun r o=>r=A.p (slT (1:Nat) q1.fst.length)/\o=[obF q1.snd.fst q1.snd.snd,tkO q1.fst]) tlC [0,1,0,1,1] (fr [(4,aR 1 0),(9,aP (W.func 53 [(2,(0:Nat))]))]) (Sto.ofList [Ob.mk 27 [fI (0),fI (0)],Ob.mk 24 [Fd.c W.nil],Ob.mk 9 [Fd.c (W.str s)]])) (by kernel_rfl)
 try simp only [sL,Int.reduceEq,Int.reduceNe,Nat.reduceAdd]
 have hI:=scan_iter s hs (decide ((allT s s.size 0).2.1≠0)) (fauV (allT s s.size 0).2.1 (allT s s.size 0).2.2) rfl rfl
 have hY:AtYieldT sSp (spQ (allT s s.size 0).2.1 (allT s s.size 0).2.2 (allT s s.size 0).1) tlC spP (.sl .pv) ((allT s s.size 0).1.map yT) spF spS0 true (bif decide ((allT s s.size 0).2.1≠0) then some (fauV (allT s s.size 0).2.1 (allT s s.size 0).2.2) else none):=by
  by_cases hb:(allT s s.size 0).2.1=0
  . have hb2:=h0 hb
    rw [hb,hb2,decide_eq_false (by simp)]
    exact sp_all 0 0 _ none sp_endN sp_endN0 hl
  . rw [decide_eq_true hb]
    exact sp_all _ _ _ _ (sp_endP _ _) (sp_endP0 _ _) hl
 exact atRangeT_at rfl (by kernel_rfl) hI hY
theorem allT_len (s:ByteArray):∀ k i,(allT s k i).1.length<=k
 | 0,i=>by simp [allT]
 | k + 1, i => by
   have h1:=allT_len s k (i+1)
   have h2:=allT_len s k (runP notN s i)
   have h3:=allT_len s k (tokT s i).e.toNat
   rw [allT]
   split
   . split
     . omega
     . split
       . omega
       . split
         . simp
         . simp only [List.length_cons];omega
   . simp
theorem allT_ok (s:ByteArray):∀ k i,(allT s k i).2.1=0->(allT s k i).2.2=0
 | 0,i,_=>by simp [allT]
 | k + 1, i, h => by
   have h1:=allT_ok s k (i+1)
   have h2:=allT_ok s k (runP notN s i)
   have h3:=allT_ok s k (tokT s i).e.toNat
   rw [allT] at h ⊢
   split at h
   . rename_i a
     rw [if_pos a]
     split at h
     . rename_i b;rw [if_pos b];exact h1 h
     . rename_i b
       rw [if_neg b]
       split at h
       . rename_i c;rw [if_pos c];exact h2 h
       . rename_i c
         rw [if_neg c]
         split at h
         . rename_i d;exact absurd h d
         . rename_i d;rw [if_neg d];exact h3 h
   . rename_i a;rw [if_neg a]
def cSplit:Con:={ refs:=[false,true],keep:=some 1,f:=fun args objs=>match args,objs with
 | [x,.p (.c (.ptr 0 0))],[⟨t,[.c (.int .i64 0),.c (.int .i64 0)]⟩]=>match asD .str x with
   | some s=>bif Nat.beq t 27 then some (.p (ByteArray.size s<=20000),.p (slT 1 (allT s (ByteArray.size s) 0).1.length),[obF (allT s (ByteArray.size s) 0).2.1 (allT s (ByteArray.size s) 0).2.2,tkO (allT s (ByteArray.size s) 0).1]) else none
   | none=>none
 | _,_=>none }
theorem cSplit_ok:ConOk Tryz.prog 17 cSplit:=by
 refine ⟨by kernel_rfl,fun args objs c r objs' e hc=>?_⟩
 simp only [cSplit] at e
 split at e
 . split at e
   . rename_i s hx
     obtain ⟨hb,e1⟩:=Mill.bif_some e
     clear e
     cases Nat.eq_of_beq_eq_true hb
     cases e1
     have h:=split_sem s hc (Nat.le_trans (allT_len _ _ _) hc) (allT_ok _ _ _)
     intro base η Z w vs R hvs hK
     exact h base η Z w vs R (match vs,hvs with | [_,_],⟨a,b⟩=>⟨asD_rel hx a,b⟩) hK
   . cases e
 . cases e
noncomputable def gSpl:Gam:=[(17,cSplit)]
theorem gSpl_ok:GamOk Tryz.prog gSpl:=gamOk_cons cSplit_ok gamOk_nil
theorem pSplit_sem (s:ByteArray) (hs:s.size<=1000000):FnSem Tryz.prog 6 [sS s] [] (spA [] (splT s)) (spO [] (splT s)):=by
 refine fnSem_at (live:=[]) gSpl_ok Tryz.func6 (by kernel_rfl) (keep:=0) rfl (by kernel_rfl) 100 ?_
 apply of_eq (q:=let q1:=(allT s s.size (0:Nat));(decide ((20000:Int)<(s.size:Int))=true->packV [V.c (W.sl 0 0 0 4),V.agg [wI (4),wI (20000)]]=spA [] (splT s)/\[Ob.mk 43 [Fd.a 0 D.pv []]]=spO [] (splT s))/\(decide ((20000:Int)<(s.size:Int))=false->s.size<=20000/\((!decide (q1.snd.fst=0))=true->packV [V.c (W.sl 0 0 0 4),V.agg [wI q1.snd.fst,wI q1.snd.snd]]=spA [] (splT s)/\[Ob.mk 43 [Fd.a 0 D.pv []]]=spO [] (splT s))/\((!decide (q1.snd.fst=0))=false->packV [V.c (W.sl 0 0 q1.fst.length (4:Nat)),V.agg [wI q1.snd.fst,wI q1.snd.snd]]=spA [] (splT s)/\[Ob.mk 43 [Fd.a 0 D.pv (flatT q1.fst)]]=spO [] (splT s)))) (by kernel_rfl)
 try simp only [sL]
 refine ⟨fun h=>?_,fun h=>⟨by omega,fun h1=>?_,fun h1=>?_⟩⟩
 . have e:splT s=([],4,20000):=by unfold splT;rw [if_pos (by omega)]
   rw [e]
   exact ⟨rfl,rfl⟩
 . have e:splT s=allT s s.size 0:=by unfold splT;rw [if_neg (by omega)]
   rw [e]
   unfold spA spO
   rw [if_neg h1,if_neg h1]
   exact ⟨rfl,rfl⟩
 . have e:splT s=allT s s.size 0:=by unfold splT;rw [if_neg (by omega)]
   rw [e]
   unfold spA spO
   rw [if_pos h1,if_pos h1,h1,allT_ok _ _ _ h1,List.nil_append]
   exact ⟨rfl,rfl⟩
def toksOf:List PV->List Tok
 | x::y::z::w::r=>⟨x.asInt,y.asStr,z.asInt,w.asInt⟩::toksOf r
 | _=>[]
theorem toksOf_flat:∀ l:List Tok,toksOf (flatT l)=l
 | []=>rfl
 | t::l=>by
   rw [show flatT (t::l)=PV.int t.kind::PV.str t.text::PV.int t.n::PV.int t.at_::flatT l from rfl,toksOf,toksOf_flat l]
   rfl
def cSame:Con:={ refs:=[],f:=fun args objs=>match args,objs with
 | [.p (.c (.rs 4 l)),.p (.c (.rs 4 m))],[]=>some (.p ((∃ a,l=flatT a/\a.length<=1000000)/\∃ b,m=flatT b/\b.length<=1000000),bB (decide (toksOf l=toksOf m)),[])
 | _,_=>none }
theorem cSame_ok:ConOk Tryz.prog 8 cSame:=by
 refine ⟨by kernel_rfl,fun args objs c r objs' e hc=>?_⟩
 simp only [cSame] at e
 split at e
 . cases e
   obtain ⟨⟨a,rfl,ha⟩,b,rfl,hb⟩:=hc
   rw [toksOf_flat,toksOf_flat]
   exact st_sem a b ⟨ha,hb⟩
 . cases e
def longB (s:ByteArray):Bool:=decide (3000<(s.size:Int))&&decide ((s.size:Int)<=20000)||decide (21000<(s.size:Int))
theorem long_sem (s:ByteArray):FnSem Tryz.prog 4 [sS s] [] (bB (longB s)) []:=by
 refine fnSem_at (live:=[]) gamOk_nil Tryz.func4 (by kernel_rfl) (keep:=0) rfl (by kernel_rfl) 100 ?_
 apply of_eq (q:=let q2:=decide ((3000:Int)<(s.size:Int));let q1:=(bif q2 then decide ((s.size:Int)<=20000) else false)=false;(q2=true->q2=true)/\(q2=true->q2=true)/\(q2=true->q2=true)/\(q1->q1)/\(q1->q1)/\(q1->q1)/\packV [vB (bif bif q2 then decide ((s.size:Int)<=20000) else false then true else decide ((21000:Int)<(s.size:Int)))]=bB (longB s)/\([]:List Ob)=[]) (by kernel_rfl)
 try simp only [sL]
 rfl
def c_long:Con:=con1 .str fun s=>(.t,bB (longB s),[])
theorem c_long_ok:ConOk Tryz.prog 4 c_long:=con1_ok (by kernel_rfl) fun s _=>long_sem s
def finT (q:List Tok×(Int×Int)):List Tok:=if q.2.1=0 then q.1 else []
theorem splT_ok (s:ByteArray) (h:(splT s).2.1=0):(splT s).2.2=0:=by
 unfold splT at h ⊢
 split at h
 . cases h
 . rename_i a;rw [if_neg a];exact allT_ok _ _ _ h
theorem splT_len (s:ByteArray):(finT (splT s)).length<=20000:=by
 unfold finT splT
 by_cases h:20000<s.size
 . rw [if_pos h];simp
 . rw [if_neg h]
   have:=allT_len s s.size 0
   split
   . omega
   . simp
theorem spA_fin (s:ByteArray):spA [] (splT s)=.tup [slT 0 (finT (splT s)).length,fV (splT s).2.1 (splT s).2.2]/\spO [] (splT s)=[tkO (finT (splT s))]:=by
 unfold spA spO finT
 by_cases h:(splT s).2.1=0
 . rw [if_pos h,if_pos h,if_pos h,h,splT_ok s h,List.nil_append]
   exact ⟨rfl,rfl⟩
 . rw [if_neg h,if_neg h,if_neg h]
   exact ⟨rfl,rfl⟩
def cSpl:Con:=con1 .str fun s=>(.p (ByteArray.size s<=1000000),.tup [slT 0 (finT (splT s)).length,fV (splT s).2.1 (splT s).2.2],[tkO (finT (splT s))])
theorem cPSpl_ok:ConOk Tryz.prog 6 cSpl:=con1_ok (by kernel_rfl) fun s h=>by
 have:=pSplit_sem s h
 rw [(spA_fin s).1,(spA_fin s).2] at this
 exact this
theorem cRSpl_ok:ConOk Tryz.prog 7 cSpl:=con1_ok (by kernel_rfl) fun s h=>by
 have:=rs_sem s h
 rw [(spA_fin s).1,(spA_fin s).2] at this
 exact this
def cAwake:Con:=con0 (.t,bB true,[])
noncomputable def gLaw:Gam:=[(4,c_long),(5,cAwake),(6,cSpl),(7,cSpl),(8,cSame),(9,c_same),(10,c_res),(11,c_rres),(12,c_sig),(13,c_rsig)]
theorem gLaw_ok (h:ConOk Tryz.prog 5 cAwake):GamOk Tryz.prog gLaw:=gamOk_cons c_long_ok (gamOk_cons h (gamOk_cons cPSpl_ok (gamOk_cons cRSpl_ok (gamOk_cons cSame_ok (gamOk_cons c_same_ok (gamOk_cons c_res_ok (gamOk_cons c_rres_ok (gamOk_cons c_sig_ok (gamOk_cons c_rsig_ok gamOk_nil)))))))))
theorem splits_sem (ha:ConOk Tryz.prog 5 cAwake) (s:ByteArray):FnSem Tryz.prog 3 [sS s] [] (bB true) []:=by
 refine fnSem_at (live:=[]) (gLaw_ok ha) Tryz.func3 (by kernel_rfl) (keep:=0) rfl (by kernel_rfl) 200 ?_
 apply of_eq (q:=let q6:=decide ((splT s).snd.fst=(splT s).snd.fst);let q7:=decide ((splT s).snd.snd=(splT s).snd.snd);let q8:=(finT (splT s));let q5:=(List.drop (0:Nat) (flatT q8));let q1:=decide (toksOf (List.take (q8.length*4) q5)=toksOf (List.take (q8.length*4) q5));let q2:=(bif bif q1 then q6&&(q7&&true) else false then decide (resL=resL) else false)=true;let q3:=(bif q1 then q6&&(q7&&true) else false)=true;let q4:=(bif bif bif q1 then q6&&(q7&&true) else false then decide (resL=resL) else false then decide (sigL=sigL) else false)=true;(longB s=true->packV [vB true]=bB true/\([]:List Ob)=[])/\(longB s=false->s.size<=1000000/\s.size<=1000000/\(0:Nat)+q8.length*4<=(flatT q8).length/\(0:Nat)+q8.length*4<=(flatT q8).length/\((∃ a,List.take (q8.length*4) q5=flatT a/\a.length<=1000000)/\∃ b,List.take (q8.length*4) q5=flatT b/\b.length<=1000000)/\(q1=true->q1=true)/\(q1=true->q1=true)/\(q1=true->q1=true)/\(q3->q3)/\(q3->q3)/\(q3->(13:Nat)<=1000000/\(13:Nat)<=1000000)/\(q3->q3)/\(q2->q2)/\(q2->q2)/\(q2->(21:Nat)<=1000000/\(21:Nat)<=1000000)/\(q2->q2)/\(q4->q4)/\packV [vB (bif bif bif bif q1 then q6&&(q7&&true) else false then decide (resL=resL) else false then decide (sigL=sigL) else false then true else false)]=bB true/\([]:List Ob)=[])) (by kernel_rfl)
 try simp only [sL]
 refine ⟨fun _=>rfl,fun h=>?_⟩
 have hs:s.size<=1000000:=by
  unfold longB at h
  simp only [Bool.or_eq_false_iff,Bool.and_eq_false_iff,decide_eq_false_iff_not] at h
  omega
 have ht:=splT_len s
 have e:List.take ((finT (splT s)).length*4) (flatT (finT (splT s)))=flatT (finT (splT s)):=List.take_of_length_le (by rw [flatT_len];exact Nat.le_refl _)
 rw [e]
 refine ⟨hs,hs,by rw [flatT_len];exact Nat.le_refl _,by rw [flatT_len];exact Nat.le_refl _,⟨⟨_,rfl,by omega⟩,_,rfl,by omega⟩,fun _=>by omega,fun _=>by omega,?_⟩
 simp
 rfl
end Go.Proofs.YtmmikdgcodiboaaGreatDoor
