/- The presentations and subgroups that numbers select. -/
import Derived.Test.YtejehoihhphpiaaDoorSave1
namespace Go.Proofs.YtejehoihhphpiaaDoor
open Go.Loom Go.Words Go.Eng
set_option maxRecDepth 100000
theorem pw_snoc (x:List Int):∀ n,pw x n++x=pw x (n+1)
 | 0=>by simp [pw]
 | n+1=>by
   have ih:=pw_snoc x n
   rw [pw,List.append_assoc,ih];rfl
noncomputable def sPow:Site:=mkSiteF Tryd.prog [] Tryd.f35 0 [([0,1,0,1,1],[0,1,5,6])] [] [some dI]
theorem pow_loop (w:List Int) (m:Nat) (hw:w.length<=100) (hm:m<=100):∀ (n i:Nat),n=m-i->i<=m->
 AtLoop sPow (Says1 (lsI (pw w m)) []) [0,1,0,1,1] (fr [(0,lsI w),(1,nI m),(5,slI 0 (pw w i).length),(6,nI i)]) (.ofList [obI (pw w i)])
 | n,i,hn,hi=>by
   refine atLoop_at gamOk_nil (by kernel_rfl) 100 ?_
   apply of_eq (q:=(decide ((i:Int)<(m:Int))=true->((0:Nat)+(pw w i).length<=(pw w i).length/\((pw w i).length+w.length)*(8:Nat)<=(140737488355328:Nat))/\AtLoop sPow (Says1 (lsI (pw w m)) []) [0,1,0,1,1] (fr [(0,lsI w),(1,nI (m:Int)),(5,A.p (V.c (W.sl 0 0 ((pw w i).length+w.length) 1))),(6,nI (IntKind.i64.wrap ((i:Int)+(1:Int))))]) (Sto.ofList [Ob.mk 3 [Fd.a 0 (D.int .i64) (List.take (pw w i).length (List.drop (0:Nat) (pw w i))++w)]]))/\(decide ((i:Int)<(m:Int))=false->(0:Nat)+(pw w i).length<=(pw w i).length/\packV [V.c (W.rd (D.int .i64) (List.take (pw w i).length (List.drop (0:Nat) (pw w i))))]=lsI (pw w m)/\([]:List Ob)=[])) (by kernel_rfl)
   try simp only [true_and,and_true,Nat.zero_add,decide_eq_true_eq,decide_eq_false_iff_not,Int.not_lt,List.drop_zero,List.take_length,Nat.le_refl]
   have hl:=pw_length w i
   have hle:i*w.length<=100*100:=Nat.mul_le_mul (by omega) hw
   rw [wrap64 (n:=(i:Int)+1) (by omega) (by omega)]
   refine ⟨fun h=>⟨by omega,?_⟩,fun h=>?_⟩
   . cases n with
     | zero=>omega
     | succ n =>
       have:=pow_loop w m hw hm n (i+1) (by omega) (by omega)
       rw [<-pw_snoc,List.length_append] at this
       exact this
   . rw [show i=m by omega];rfl
theorem pow_sem (w:List Int) (n:Int) (h:w.length<=100/\0<=n/\n<=100):FnSem Tryd.prog 35 [lsI w,nI n] [] (lsI (pw w n.toNat)) []:=by
 refine fnSemF_at (live:=[([0,1,0,1,1],[0,1,5,6])]) (fzl:=[]) (fz:=[some dI]) gamOk_nil Tryd.func35 (by kernel_rfl) (keep:=0) rfl (by kernel_rfl) 100 ?_
 apply of_eq (q:=AtLoop (mkSiteF Tryd.prog [] Tryd.f35 (0:Nat) [([0,1,0,1,1],[0,1,5,6])] [] [some dI]) (Says1 (lsI (pw w n.toNat)) []) [0,1,0,1,1] (fr [(0,lsI w),(1,nI n),(5,A.p (V.c (W.sl 0 0 0 1))),(6,nI (0))]) (Sto.ofList [Ob.mk 3 [Fd.a 0 (D.int .i64) []]])) (by kernel_rfl)
 have:=pow_loop w n.toNat h.1 (by omega) n.toNat 0 rfl (by omega)
 rw [<-natI h.2.1] at this
 exact this
def cPowK:Con:=con2 dI (.int .i64) fun w n=>(.p (List.length (α:=Int) w<=100/\0<=(show Int from n)/\(show Int from n)<=100),lsI (pw w (show Int from n).toNat),[])
theorem cPowK_ok:ConOk Tryd.prog 35 cPowK:=con2_ok (by kernel_rfl) fun w n h=>pow_sem w n h
noncomputable def gKn:Gam:=[(6,cTurn),(35,cPowK)]
theorem gKn_ok:GamOk Tryd.prog gKn:=gamOk_cons cTurn_ok (gamOk_cons cPowK_ok gamOk_nil)
def knownK (k:Int):Int×List (List Int)×Int :=
 if k=0 then (1,[pw [1] 7],7) else
 if k=1 then (2,[pw [1] 2,pw [2] 2,pw [1,2] 5],10) else
 if k=2 then (2,[pw [1] 2,pw [2] 3,pw [1,2] 3],12) else
 if k=3 then (2,[pw [1] 2,pw [2] 3,pw [1,2] 4],24) else
 if k=4 then (2,[pw [1] 2,pw [2] 3,pw [1,2] 5],60) else
 if k=5 then (2,[pw [1] 4,[1,1,-2,-2],[-2,1,2,1]],8) else
 if k=6 then (2,[pw [1] 3,pw [2] 3,pw [1,2] 3,pw [1,-2] 3],27) else
 if k=7 then (2,[pw [1] 4,pw [2] 6,[-1,-2,1,2]],24) else
 if k=8 then (3,[pw [1] 2,pw [2] 2,[3,3],pw [1,2] 3,pw [2,3] 3,pw [1,3] 2],24) else
 if k=9 then (2,[pw [1] 2,pw [2] 3,pw [1,2] 7,pw [-1,-2,1,2] 4],168) else
 if k=10 then (2,[[-2,1,2,-1,-1],[-1,2,1,-2,-2]],1) else
 if k=11 then (3,[pw [1] 2,pw [2] 2,[3,3],[-1,-2,1,2],[-1,-3,1,3],[-2,-3,2,3]],8) else
 if k=12 then (2,[pw [1] 5,pw [2] 4,[-2,1,2,-1,-1]],20) else
 (2,[pw [1] 7,pw [2] 3,[-2,1,2,-1,-1]],21)
theorem known_sem (n:Int):FnSem Tryd.prog 17 [nI n] [] (.tup [.agg [.int .i64 (knownK (turnI n 14)).1,.rd (.sl (.int .i64)) (knownK (turnI n 14)).2.1],.c (.int .i64 (knownK (turnI n 14)).2.2)]) []:=by
 refine fnSemF_at (live:=[]) (fzl:=[]) (fz:=[some dL,none]) gKn_ok Tryd.func17 (by kernel_rfl) (keep:=0) rfl (by kernel_rfl) 300 ?_
 apply of_eq (q:=let q3:=(0:Nat);let q5:=(1:Nat);let q8:=(2:Nat);let q9:=(100:Nat);let q10:=(100:Int);let q11:=(0:Int);let q12:=(3:Nat);let q13:=(2:Int);let q14:=(3:Int);let q15:=(14:Int);let q16:=(4:Nat);let q17:=([]:List Ob);let q20:=(5:Nat);let q21:=(4:Int);let q22:=(1:Int);let q1:=(knownK (turnI n q15));let q2:=(List.take q5 (List.drop q3 [q22]));let q4:=(List.take q5 (List.drop q3 [q13]));let q6:=(W.int .i64 q1.snd.snd);let q7:=(List.take q8 (List.drop q3 [q22,q13]));let q18:=(List.drop q3 [(-2:Int),q22,q13,(-1:Int),(-1:Int)]);let q19:=(List.drop q3 [(-1:Int),(-2:Int),q22,q13]);(q22<=q15/\q15<=(1000:Int))/\(decide (turnI n q15=q11)=true->q3+q5<=q5/\(q5<=q9/\q11<=(7:Int)/\(7:Int)<=q10)/\q3+q5<=q5/\packV [V.agg [W.int .i64 (1),W.rd (D.int .i64).sl (List.take q5 (List.drop q3 [pw q2 (7:Nat)]))],V.c (W.int .i64 (7))]=A.tup [V.agg [W.int .i64 q1.fst,W.rd (D.int .i64).sl q1.snd.fst],V.c q6]/\q17=[])/\(decide (turnI n q15=q11)=false->(decide (turnI n q15=q22)=true->q3+q5<=q5/\(q5<=q9/\q11<=q13/\q13<=q10)/\q3+q5<=q5/\(q5<=q9/\q11<=q13/\q13<=q10)/\q3+q8<=q8/\(q8<=q9/\q11<=(5:Int)/\(5:Int)<=q10)/\q3+q12<=q12/\packV [V.agg [W.int .i64 (2),W.rd (D.int .i64).sl (List.take q12 (List.drop q3 [pw q2 q8,pw q4 q8,pw q7 q20]))],V.c (W.int .i64 (10))]=A.tup [V.agg [W.int .i64 q1.fst,W.rd (D.int .i64).sl q1.snd.fst],V.c q6]/\q17=[])/\(decide (turnI n q15=q22)=false->(decide (turnI n q15=q13)=true->q3+q5<=q5/\(q5<=q9/\q11<=q13/\q13<=q10)/\q3+q5<=q5/\(q5<=q9/\q11<=q14/\q14<=q10)/\q3+q8<=q8/\(q8<=q9/\q11<=q14/\q14<=q10)/\q3+q12<=q12/\packV [V.agg [W.int .i64 (2),W.rd (D.int .i64).sl (List.take q12 (List.drop q3 [pw q2 q8,pw q4 q12,pw q7 q12]))],V.c (W.int .i64 (12))]=A.tup [V.agg [W.int .i64 q1.fst,W.rd (D.int .i64).sl q1.snd.fst],V.c q6]/\q17=[])/\(decide (turnI n q15=q13)=false->(decide (turnI n q15=q14)=true->q3+q5<=q5/\(q5<=q9/\q11<=q13/\q13<=q10)/\q3+q5<=q5/\(q5<=q9/\q11<=q14/\q14<=q10)/\q3+q8<=q8/\(q8<=q9/\q11<=q21/\q21<=q10)/\q3+q12<=q12/\packV [V.agg [W.int .i64 (2),W.rd (D.int .i64).sl (List.take q12 (List.drop q3 [pw q2 q8,pw q4 q12,pw q7 q16]))],V.c (W.int .i64 (24))]=A.tup [V.agg [W.int .i64 q1.fst,W.rd (D.int .i64).sl q1.snd.fst],V.c q6]/\q17=[])/\(decide (turnI n q15=q14)=false->(decide (turnI n q15=q21)=true->q3+q5<=q5/\(q5<=q9/\q11<=q13/\q13<=q10)/\q3+q5<=q5/\(q5<=q9/\q11<=q14/\q14<=q10)/\q3+q8<=q8/\(q8<=q9/\q11<=(5:Int)/\(5:Int)<=q10)/\q3+q12<=q12/\packV [V.agg [W.int .i64 (2),W.rd (D.int .i64).sl (List.take q12 (List.drop q3 [pw q2 q8,pw q4 q12,pw q7 q20]))],V.c (W.int .i64 (60))]=A.tup [V.agg [W.int .i64 q1.fst,W.rd (D.int .i64).sl q1.snd.fst],V.c q6]/\q17=[])/\(decide (turnI n q15=q21)=false->(decide (turnI n q15=(5:Int))=true->q3+q5<=q5/\(q5<=q9/\q11<=q21/\q21<=q10)/\q3+q16<=q16/\q3+q16<=q16/\q3+q12<=q12/\packV [V.agg [W.int .i64 (2),W.rd (D.int .i64).sl (List.take q12 (List.drop q3 [pw q2 q16,List.take q16 (List.drop q3 [q22,q22,(-2:Int),(-2:Int)]),List.take q16 (List.drop q3 [(-2:Int),q22,q13,q22])]))],V.c (W.int .i64 (8))]=A.tup [V.agg [W.int .i64 q1.fst,W.rd (D.int .i64).sl q1.snd.fst],V.c q6]/\q17=[])/\(decide (turnI n q15=(5:Int))=false->(decide (turnI n q15=(6:Int))=true->q3+q5<=q5/\(q5<=q9/\q11<=q14/\q14<=q10)/\q3+q5<=q5/\(q5<=q9/\q11<=q14/\q14<=q10)/\q3+q8<=q8/\(q8<=q9/\q11<=q14/\q14<=q10)/\q3+q8<=q8/\(q8<=q9/\q11<=q14/\q14<=q10)/\q3+q16<=q16/\packV [V.agg [W.int .i64 (2),W.rd (D.int .i64).sl (List.take q16 (List.drop q3 [pw q2 q12,pw q4 q12,pw q7 q12,pw (List.take q8 (List.drop q3 [q22,(-2:Int)])) q12]))],V.c (W.int .i64 (27))]=A.tup [V.agg [W.int .i64 q1.fst,W.rd (D.int .i64).sl q1.snd.fst],V.c q6]/\q17=[])/\(decide (turnI n q15=(6:Int))=false->(decide (turnI n q15=(7:Int))=true->q3+q5<=q5/\(q5<=q9/\q11<=q21/\q21<=q10)/\q3+q5<=q5/\(q5<=q9/\q11<=(6:Int)/\(6:Int)<=q10)/\q3+q16<=q16/\q3+q12<=q12/\packV [V.agg [W.int .i64 (2),W.rd (D.int .i64).sl (List.take q12 (List.drop q3 [pw q2 q16,pw q4 (6:Nat),List.take q16 q19]))],V.c (W.int .i64 (24))]=A.tup [V.agg [W.int .i64 q1.fst,W.rd (D.int .i64).sl q1.snd.fst],V.c q6]/\q17=[])/\(decide (turnI n q15=(7:Int))=false->(decide (turnI n q15=(8:Int))=true->q3+q5<=q5/\(q5<=q9/\q11<=q13/\q13<=q10)/\q3+q5<=q5/\(q5<=q9/\q11<=q13/\q13<=q10)/\q3+q8<=q8/\(q8<=q9/\q11<=q14/\q14<=q10)/\q3+q8<=q8/\(q8<=q9/\q11<=q14/\q14<=q10)/\q3+q8<=q8/\(q8<=q9/\q11<=q13/\q13<=q10)/\q3+q8<=q8/\q3+(6:Nat)<=(6:Nat)/\packV [V.agg [W.int .i64 (3),W.rd (D.int .i64).sl (List.take (6:Nat) (List.drop q3 [pw q2 q8,pw q4 q8,List.take q8 (List.drop q3 [q14,q14]),pw q7 q12,pw (List.take q8 (List.drop q3 [q13,q14])) q12,pw (List.take q8 (List.drop q3 [q22,q14])) q8]))],V.c (W.int .i64 (24))]=A.tup [V.agg [W.int .i64 q1.fst,W.rd (D.int .i64).sl q1.snd.fst],V.c q6]/\q17=[])/\(decide (turnI n q15=(8:Int))=false->(decide (turnI n q15=(9:Int))=true->q3+q5<=q5/\(q5<=q9/\q11<=q13/\q13<=q10)/\q3+q5<=q5/\(q5<=q9/\q11<=q14/\q14<=q10)/\q3+q8<=q8/\(q8<=q9/\q11<=(7:Int)/\(7:Int)<=q10)/\q3+q16<=q16/\(q16<=q9/\q11<=q21/\q21<=q10)/\q3+q16<=q16/\packV [V.agg [W.int .i64 (2),W.rd (D.int .i64).sl (List.take q16 (List.drop q3 [pw q2 q8,pw q4 q12,pw q7 (7:Nat),pw (List.take q16 q19) q16]))],V.c (W.int .i64 (168))]=A.tup [V.agg [W.int .i64 q1.fst,W.rd (D.int .i64).sl q1.snd.fst],V.c q6]/\q17=[])/\(decide (turnI n q15=(9:Int))=false->(decide (turnI n q15=(10:Int))=true->q3+q20<=q20/\q3+q20<=q20/\q3+q8<=q8/\packV [V.agg [W.int .i64 (2),W.rd (D.int .i64).sl (List.take q8 (List.drop q3 [List.take q20 q18,List.take q20 (List.drop q3 [(-1:Int),q13,q22,(-2:Int),(-2:Int)])]))],V.c (W.int .i64 (1))]=A.tup [V.agg [W.int .i64 q1.fst,W.rd (D.int .i64).sl q1.snd.fst],V.c q6]/\q17=[])/\(decide (turnI n q15=(10:Int))=false->(decide (turnI n q15=(11:Int))=true->q3+q5<=q5/\(q5<=q9/\q11<=q13/\q13<=q10)/\q3+q5<=q5/\(q5<=q9/\q11<=q13/\q13<=q10)/\q3+q8<=q8/\q3+q16<=q16/\q3+q16<=q16/\q3+q16<=q16/\q3+(6:Nat)<=(6:Nat)/\packV [V.agg [W.int .i64 (3),W.rd (D.int .i64).sl (List.take (6:Nat) (List.drop q3 [pw q2 q8,pw q4 q8,List.take q8 (List.drop q3 [q14,q14]),List.take q16 q19,List.take q16 (List.drop q3 [(-1:Int),(-3:Int),q22,q14]),List.take q16 (List.drop q3 [(-2:Int),(-3:Int),q13,q14])]))],V.c (W.int .i64 (8))]=A.tup [V.agg [W.int .i64 q1.fst,W.rd (D.int .i64).sl q1.snd.fst],V.c q6]/\q17=[])/\(decide (turnI n q15=(11:Int))=false->(decide (turnI n q15=(12:Int))=true->q3+q5<=q5/\(q5<=q9/\q11<=(5:Int)/\(5:Int)<=q10)/\q3+q5<=q5/\(q5<=q9/\q11<=q21/\q21<=q10)/\q3+q20<=q20/\q3+q12<=q12/\packV [V.agg [W.int .i64 (2),W.rd (D.int .i64).sl (List.take q12 (List.drop q3 [pw q2 q20,pw q4 q16,List.take q20 q18]))],V.c (W.int .i64 (20))]=A.tup [V.agg [W.int .i64 q1.fst,W.rd (D.int .i64).sl q1.snd.fst],V.c q6]/\q17=[])/\(decide (turnI n q15=(12:Int))=false->q3+q5<=q5/\(q5<=q9/\q11<=(7:Int)/\(7:Int)<=q10)/\q3+q5<=q5/\(q5<=q9/\q11<=q14/\q14<=q10)/\q3+q20<=q20/\q3+q12<=q12/\packV [V.agg [W.int .i64 (2),W.rd (D.int .i64).sl (List.take q12 (List.drop q3 [pw q2 (7:Nat),pw q4 q12,List.take q20 q18]))],V.c (W.int .i64 (21))]=A.tup [V.agg [W.int .i64 q1.fst,W.rd (D.int .i64).sl q1.snd.fst],V.c q6]/\q17=[])))))))))))))) (by kernel_rfl)
 try simp only [true_and,and_true,Nat.zero_add,decide_eq_true_eq,decide_eq_false_iff_not,List.drop_zero,List.take_succ_cons,List.take_zero,Nat.le_refl]
 generalize turnI n 14=k
 refine ⟨⟨by omega,by omega⟩,?_⟩
 show _/\_
 repeat' first
  | (refine And.intro ?_ ?_)
  | intro h
 all_goals first
  | omega
  | (subst h;rfl)
  | (simp only [knownK, *,if_false];rfl)
def cKnownK:Con:=con1 (.int .i64) fun n=>(.t,.tup [.agg [.int .i64 (knownK (turnI n 14)).1,.rd (.sl (.int .i64)) (knownK (turnI n 14)).2.1],.c (.int .i64 (knownK (turnI n 14)).2.2)],[])
theorem cKnownK_ok:ConOk Tryd.prog 17 cKnownK:=con1_ok (by kernel_rfl) fun n _=>known_sem n
noncomputable def gWd9:Gam:=[(21,cWs)]
theorem gWd9_ok:GamOk Tryd.prog gWd9:=gamOk_cons cWs_ok gamOk_nil
def words9 (l:List Int) (g:Int):List (List Int):=(wordsG g 12 l.length l []).take 5
theorem words9_sem (l:List Int) (g:Int) (h:(1<=g/\g<=16)/\l.length<=1000):FnSem Tryd.prog 8 [lsI l,nI g] [] (llI (words9 l g)) []:=by
 refine fnSemF_at (live:=[]) (fzl:=[]) (fz:=[some dL]) gWd9_ok Tryd.func8 (by kernel_rfl) (keep:=0) rfl (by kernel_rfl) 100 ?_
 apply of_eq (q:=let q1:=(↑(wordsG g (12:Int) l.length l []).length:Int);(((1:Int)<=g/\g<=(16:Int))/\((0:Int)<=(12:Int)/\(12:Int)<=(100:Int))/\l.length<=(1000:Nat))/\((0:Int)<=(0:Int)/\(0:Int)<=min q1 (5:Int)/\min q1 (5:Int)<=q1)/\packV [V.c (W.rd (D.int .i64).sl (List.drop (0:Nat) (List.take (min q1 (5:Int)).toNat (wordsG g (12:Int) l.length l []))))]=llI (words9 l g)/\([]:List Ob)=[]) (by kernel_rfl)
 try simp only [true_and,and_true,List.drop_zero,Int.le_refl]
 have e:(min ((wordsG g 12 l.length l []).length:Int) 5).toNat=min (wordsG g 12 l.length l []).length 5:=by omega
 rw [e]
 refine ⟨⟨h.1,by omega,h.2⟩,by omega,?_⟩
 have:(wordsG g 12 l.length l []).take (min (wordsG g 12 l.length l []).length 5)=words9 l g:=by
  unfold words9
  rcases Nat.le_total (wordsG g 12 l.length l []).length 5 with h5 | h5
  . rw [Nat.min_eq_left h5,List.take_of_length_le (Nat.le_refl _),List.take_of_length_le h5]
  . rw [Nat.min_eq_right h5]
 rw [this];rfl
def cWords9:Con:=con2 dI (.int .i64) fun l g=>(.p ((1<=(show Int from g)/\(show Int from g)<=16)/\List.length (α:=Int) l<=1000),llI (words9 l g),[])
theorem cWords9_ok:ConOk Tryd.prog 8 cWords9:=con2_ok (by kernel_rfl) fun l g h=>words9_sem l g h
noncomputable def gGi9:Gam:=[(17,cKnownK),(6,cTurn),(8,cWords9)]
theorem gGi9_ok:GamOk Tryd.prog gGi9:=gamOk_cons cKnownK_ok (gamOk_cons cTurn_ok (gamOk_cons cWords9_ok gamOk_nil))
def given9 (n:Int) (l:List Int):Int×List (List Int) :=
 if n.tmod 2=0 then ((knownK (turnI (IntKind.i64.wrap (n.tdiv 2)) 14)).1,(knownK (turnI (IntKind.i64.wrap (n.tdiv 2)) 14)).2.1)
 else (1+turnI (IntKind.i64.wrap (n.tdiv 2)) 3,words9 l (1+turnI (IntKind.i64.wrap (n.tdiv 2)) 3))
theorem given9_sem (n:Int) (l:List Int) (h:l.length<=1000):FnSem Tryd.prog 5 [nI n,lsI l] [] (prA (given9 n l).1 (given9 n l).2) []:=by
 refine fnSemF_at (live:=[]) (fzl:=[]) (fz:=[some dL]) gGi9_ok Tryd.func5 (by kernel_rfl) (keep:=0) rfl (by kernel_rfl) 100 ?_
 apply of_eq (q:=let q0:=IntKind.i64.wrap;let q1:=((1:Int)+turnI (q0 (n.tdiv (2:Int))) (3:Int));let q2:=(knownK (turnI (q0 (n.tdiv (2:Int))) (14:Int)));(2:Int)≠(0:Int)/\(decide (n.tmod (2:Int)=(0:Int))=true->(2:Int)≠(0:Int)/\packV [V.agg [W.int .i64 q2.fst,W.rd (D.int .i64).sl q2.snd.fst]]=prA (given9 n l).fst (given9 n l).snd/\([]:List Ob)=[])/\(decide (n.tmod (2:Int)=(0:Int))=false->(2:Int)≠(0:Int)/\((1:Int)<=(3:Int)/\(3:Int)<=(1000:Int))/\(((1:Int)<=q0 q1/\q0 q1<=(16:Int))/\l.length<=(1000:Nat))/\packV [V.agg [W.int .i64 (q0 q1),W.rd (D.int .i64).sl (words9 l (q0 q1))]]=prA (given9 n l).fst (given9 n l).snd/\([]:List Ob)=[])) (by kernel_rfl)
 try simp only [true_and,and_true,decide_eq_true_eq,decide_eq_false_iff_not,ne_eq,Int.reduceEq,not_false_eq_true]
 have t:=turn_range (IntKind.i64.wrap (n.tdiv 2)) 3 (by omega)
 rw [wrap64 (n:=1+turnI (IntKind.i64.wrap (n.tdiv 2)) 3) (by omega) (by omega)]
 refine ⟨fun h1=>?_,fun h1=>⟨by omega,⟨by omega,h⟩,?_⟩⟩
 . rw [given9,if_pos h1];rfl
 . rw [given9,if_neg h1];rfl
def cGiven9:Con:=con2 (.int .i64) dI fun n l=>(.p (List.length (α:=Int) l<=1000),prA (given9 n l).1 (given9 n l).2,[])
theorem cGiven9_ok:ConOk Tryd.prog 5 cGiven9:=con2_ok (by kernel_rfl) fun n l h=>given9_sem n l h
/-! ### What is known of them -/
structure Few (g:Int) (rs:List (List Int)):Prop where
 n:rs.length<=6
 w:∀ w∈rs,w.length<=20/\∀ x∈w,x≠0/\-g<=x/\x<=g
def fewB (g:Int) (rs:List (List Int)):Bool:=decide (rs.length<=6)&&rs.all fun w=>decide (w.length<=20)&&w.all fun x=>decide (x≠0/\-g<=x/\x<=g)
theorem fewB_ok {g:Int} {rs:List (List Int)} (h:fewB g rs=true):Few g rs:=by
 simp only [fewB,Bool.and_eq_true,decide_eq_true_eq,List.all_eq_true] at h
 exact ⟨h.1,h.2⟩
theorem ite_both {α:Type} {P:α->Prop} {c:Prop} [Decidable c] {a b:α} (ha:P a) (hb:P b):P (if c then a else b):=by split <;> assumption
theorem knownK_few (k:Int):(1<=(knownK k).1/\(knownK k).1<=3)/\Few (knownK k).1 (knownK k).2.1:=by
 have key:∀ x:Int×List (List Int)×Int,(decide (1<=x.1/\x.1<=3)&&fewB x.1 x.2.1)=true->(1<=x.1/\x.1<=3)/\Few x.1 x.2.1:=fun x h=>by
  rw [Bool.and_eq_true,decide_eq_true_eq] at h
  exact ⟨h.1,fewB_ok h.2⟩
 refine key _ ?_
 unfold knownK
 repeat' refine ite_both (P:=fun x:Int×List (List Int)×Int=>(decide (1<=x.1/\x.1<=3)&&fewB x.1 x.2.1)=true) ?_ ?_
 all_goals decide +kernel
theorem ltr_range {c g:Int} (h:0<=c/\c<2*g):ltrI c≠0/\-g<=ltrI c/\ltrI c<=g:=by
 have e:c.tdiv 2=c / 2:=Int.tdiv_eq_ediv_of_nonneg (by omega)
 have e2:c.tmod 2=c % 2:=Int.tmod_eq_emod_of_nonneg (by omega)
 unfold ltrI
 rw [e,e2]
 split <;> omega
theorem wordO_good {g:Int} (hg:1<=g) (l:List Int):(wordO g l).length=l.length/\∀ x∈wordO g l,x≠0/\-g<=x/\x<=g:=by
 refine ⟨by simp [wordO],fun x hx=>?_⟩
 simp only [wordO,List.mem_map] at hx
 obtain ⟨y,_,rfl⟩:=hx
 have t:=turn_range y (2*g) (by omega)
 exact ltr_range t
theorem wordsG_good {g:Int} (hg:1<=g):∀ (f:Nat) (l:List Int) (acc:List (List Int)),(∀ w∈acc,w.length<=20/\∀ x∈w,x≠0/\-g<=x/\x<=g)->∀ w∈wordsG g 12 f l acc,w.length<=20/\∀ x∈w,x≠0/\-g<=x/\x<=g
 | 0,_,acc,h=>h
 | f+1,[],acc,h=>h
 | f + 1, x :: l, acc, h => by
   rw [wordsG]
   refine wordsG_good hg f _ _ fun w hw=>?_
   rcases List.mem_append.1 hw with hw | hw
   . exact h w hw
   . rw [List.mem_singleton.1 hw]
     obtain ⟨h1,h2⟩:=wordO_good hg (l.take (min (turnI x (12+1)) l.length).toNat)
     have t:=turn_range x (12+1) (by omega)
     rw [List.length_take] at h1
     exact ⟨by omega,h2⟩
theorem words9_few {g:Int} (hg:1<=g) (l:List Int):Few g (words9 l g):=by
 refine ⟨by unfold words9;rw [List.length_take];omega,fun w hw=>?_⟩
 exact wordsG_good hg l.length l [] (fun w hw=>(by cases hw)) w (List.mem_of_mem_take hw)
theorem given9_few (n:Int) (l:List Int):(1<=(given9 n l).1/\(given9 n l).1<=3)/\Few (given9 n l).1 (given9 n l).2:=by
 unfold given9
 split
 . exact knownK_few _
 . have t:=turn_range (IntKind.i64.wrap (n.tdiv 2)) 3 (by omega)
   exact ⟨by simp only;omega,words9_few (by omega) l⟩
end Go.Proofs.YtejehoihhphpiaaDoor
