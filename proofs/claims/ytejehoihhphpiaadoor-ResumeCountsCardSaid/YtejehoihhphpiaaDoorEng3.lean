/- Lists put together, repeated, grown. -/
import Derived.Test.YtejehoihhphpiaaDoorEng2
namespace Go.Proofs.YtejehoihhphpiaaDoor
open Go.Loom Go.Words Go.Eng
set_option maxRecDepth 100000
theorem grow_sem (n:Int) (h:0<=n/\n<=1000000):FnSem Tryd.prog 50 [.p (.c .nil),nI n] [] (slI 0 0) [obI (List.replicate n.toNat 0)]:=by
 refine fnSem_at (live:=[]) gamOk_nil Tryd.func50 (by kernel_rfl) (keep:=0) rfl (by kernel_rfl) 100 ?_
 apply of_eq (q:=let q0:=IntKind.i64.wrap;let q2:=(0:Int);let q1:=(n-q0 (q2-q2));(decide (n<q2)=true->False)/\(decide (n<q2)=false->(decide (q2<q0 q1)=true->(q2=q2/\q2=q2)/\(q2<q0 q1/\(↑(8:Nat):Int)*q0 q1<=(140737488355328:Int))/\(q2<=q2/\q2<=q2/\q2<=(↑(q0 q1).toNat:Int))/\packV [V.c (W.sl (0:Nat) ((0:Nat)+(0:Nat)*(1:Nat)) (0:Nat) (1:Nat))]=slI (0:Nat) (0:Nat)/\[Ob.mk 3 [Fd.a 0 (D.int .i64) (List.replicate (q0 q1).toNat q2)]]=[obI (List.replicate n.toNat q2)])/\(decide (q2<q0 q1)=false->packV [V.c (W.sl 0 0 0 1)]=slI (0:Nat) (0:Nat)/\[Ob.mk 3 [Fd.a 0 (D.int .i64) []]]=[obI (List.replicate n.toNat q2)]))) (by kernel_rfl)
 try simp only [true_and,and_true,Nat.zero_add,Nat.mul_one,decide_eq_true_eq,decide_eq_false_iff_not,Int.not_lt,Int.le_refl]
 rw [wrap64 (n:=0-0) (by omega) (by omega),wrap64 (n:=n-(0-0)) (by omega) (by omega),show n-(0-0)=n by omega]
 refine ⟨fun g=>by omega,fun _=>⟨fun g=>⟨by omega,by omega,rfl,rfl⟩,fun g=>⟨rfl,?_⟩⟩⟩
 rw [show n.toNat=0 by omega];rfl
def cGrowI:Con:={ refs:=[],f:=fun args objs=>match args,objs with | [.p (.c .nil),.p (.c (.int .i64 n))],[]=>some (.p (0<=n/\n<=1000000),slI 0 0,[obI (List.replicate n.toNat 0)]) | _,_=>none }
theorem cGrowI_ok:ConOk Tryd.prog 50 cGrowI:=by
 refine ⟨by kernel_rfl,fun args objs c r objs' e hc=>?_⟩
 simp only [cGrowI] at e
 split at e
 . cases e;exact grow_sem _ hc
 . cases e
noncomputable def gCat:Gam:=[(50,cGrowI)]
theorem gCat_ok:GamOk Tryd.prog gCat:=gamOk_cons cGrowI_ok gamOk_nil
noncomputable def sRep:Site:=mkSiteF Tryd.prog gRep Tryd.f40 0 [([0,0,1,1,1,1,1,1],[7,8])] [] []
theorem rep_loop (x : List Int) (c : Nat) (hL : c * x.length ≤ 1000000) : ∀ (k m : Nat) (l : List Int), k = c - m → (0 < m ∨ c = 0) → m ≤ c → l.length = c * x.length → l.take (m * x.length) = pw x m →
 AtLoop sRep (Says1 (slI 0 (c*x.length)) [obI (pw x c)]) [0,0,1,1,1,1,1,1] (fr [(7,slI 0 (c*x.length)),(8,nI ((m*x.length:Nat):Int))]) (.ofList [obI l])
 | k, m, l, hk, hm, hmc, hl, hr => by
   refine atLoop_at gRep_ok (by kernel_rfl) 100 ?_
   apply of_eq (q:=let q1:=(↑(m*x.length):Int);let q2:=(↑(c*x.length):Int);let q3:=(List.take (q1-(0:Int)).toNat (List.drop ((0:Nat)+(0:Nat)*(1:Nat)) l));(decide (q1<q2)=true->((0:Int)<=q1/\q1<=q2/\q2<=q2)/\((0:Int)<=(0:Int)/\(0:Int)<=q1/\q1<=q2)/\(0:Nat)+(0:Nat)*(1:Nat)+(q1-(0:Int)).toNat<=l.length/\(0:Nat)+m*x.length*(1:Nat)+(q2-q1).toNat<=l.length/\AtLoop sRep (Says1 (slI (0:Nat) (c*x.length)) [obI (pw x c)]) [0,0,1,1,1,1,1,1] (fr [(7,A.p (V.c (W.sl 0 0 (c*x.length) 1))),(8,nI (IntKind.i64.wrap (q1+(↑(q3.length.min (q2-q1).toNat):Int))))]) (Sto.ofList [Ob.mk 3 [Fd.a 0 (D.int .i64) (spl l ((0:Nat)+m*x.length*(1:Nat)) (List.take (q2-q1).toNat q3))]]))/\(decide (q1<q2)=false->packV [V.c (W.sl 0 0 (c*x.length) 1)]=slI (0:Nat) (c*x.length)/\[Ob.mk 3 [Fd.a 0 (D.int .i64) l]]=[obI (pw x c)])) (by kernel_rfl)
   try simp only [true_and,and_true,Nat.zero_add,Nat.mul_one,decide_eq_true_eq,decide_eq_false_iff_not,Int.not_lt,List.drop_zero,Int.le_refl]
   have hnL:m*x.length<=c*x.length:=Nat.mul_le_mul_right _ hmc
   have hpl:(pw x m).length=m*x.length:=pw_length x m
   generalize hn:m*x.length=n at *
   generalize hLL:c*x.length=L at *
   rw [show ((n:Int)-0).toNat=n by omega,show ((L:Int)-n).toNat=L-n by omega,hr,hpl]
   refine ⟨fun h=>⟨by omega,by omega,by omega,by omega,?_⟩,fun h=>?_⟩
   · have hne : m < c := by
      rcases Nat.lt_or_ge m c with h1 | h1
      . exact h1
      . have:m=c:=by omega
        subst this;omega
     rw [wrap64 (n:=(n:Int)+((n.min (L-n):Nat):Int)) (by omega) (by have:=Nat.min_le_right n (L-n);simp only [Nat.min_def] at *;split <;> omega)]
     have hsl:∀ q:List Int,q.length<=L-n->(spl l n q).length=L/\(spl l n q).take (n+q.length)=pw x m++q:=by
      intro q hq
      have e:spl l n q=(pw x m++q)++l.drop (n+q.length):=by rw [spl,hr]
      refine ⟨by rw [e];simp [hpl];omega,?_⟩
      rw [e,show n+q.length=(pw x m++q).length by simp [hpl],List.take_left]
     cases k with
     | zero=>omega
     | succ k =>
       rcases Nat.lt_or_ge c (2*m) with h2 | h2
       . have h3:L-n=(c-m)*x.length:=by rw [Nat.sub_mul,hn,hLL]
         have h4:L-n<=n:=by rw [h3,<-hn];exact Nat.mul_le_mul_right _ (by omega)
         have e1:n.min (L-n)=L-n:=Nat.min_eq_right h4
         have e2:List.take (L-n) (pw x m)=pw x (c-m):=by rw [h3];exact pw_take x (by omega)
         have e3:(pw x (c-m)).length=L-n:=by rw [pw_length,h3]
         obtain ⟨g1,g2⟩:=hsl (pw x (c-m)) (by omega)
         have:=rep_loop x c (by omega) 0 c (spl l n (pw x (c-m))) (by omega) (by omega) (by omega) (by omega) (by
          rw [hLL,show L=n+(pw x (c-m)).length by omega,g2,<-pw_add];congr 1;omega)
         rw [e1,e2,show ((n:Int)+((L-n:Nat):Int))=((L:Nat):Int) by omega]
         rw [hLL] at this
         exact this
       . have h3:2*m*x.length<=L:=by rw [<-hLL];exact Nat.mul_le_mul_right _ h2
         have h4:2*m*x.length=n+n:=by rw [Nat.mul_assoc,hn];omega
         have e1:n.min (L-n)=n:=Nat.min_eq_left (by omega)
         have e2:List.take (L-n) (pw x m)=pw x m:=List.take_of_length_le (by omega)
         obtain ⟨g1,g2⟩:=hsl (pw x m) (by omega)
         have:=rep_loop x c (by omega) (c-2*m) (2*m) (spl l n (pw x m)) (by omega) (by omega) (by omega) (by omega) (by
          rw [h4,show n+n=n+(pw x m).length by omega,g2,<-pw_add];congr 1;omega)
         rw [e1,e2,show ((n:Int)+((n:Nat):Int))=((n+n:Nat):Int) by omega]
         rw [hLL,h4] at this
         exact this
   . have hmc':n=L:=by omega
     have:m=c∨x.length=0:=by
      rcases Nat.lt_or_ge m c with h1 | h1
      . right
        have:=Nat.mul_le_mul_right x.length (show m+1<=c by omega)
        rw [Nat.succ_mul] at this;omega
      . left;omega
     rw [show l=pw x c from ?_];exact ⟨rfl,rfl⟩
     rw [<-List.take_of_length_le (show l.length<=L by omega)]
     rcases this with rfl | h0
     . rw [<-hmc'];exact hr
     . have:(pw x c).length=0:=by rw [pw_length,h0];simp
       rw [List.eq_nil_of_length_eq_zero this]
       rw [h0,Nat.mul_zero] at hLL
       rw [<-hLL];rfl
 termination_by k=>k
theorem repeat_sem (x:List Int) (n:Int) (h:0<=n/\n<=100000/\x.length<=100000/\n.toNat*x.length<=1000000):FnSem Tryd.prog 40 [lsI x,nI n] [] (slI 0 (n.toNat*x.length)) [obI (pw x n.toNat)]:=by
 refine fnSemF_at (live:=[([0,0,1,1,1,1,1,1],[7,8])]) (fzl:=[]) (fz:=[]) gRep_ok Tryd.func40 (by kernel_rfl) (keep:=0) rfl (by kernel_rfl) 100 ?_
 apply of_eq (q:=let q0:=IntKind.i64.wrap;let q1:=(IntKind.u64.wrap (x.length:Int)*IntKind.u64.wrap n);let q2:=decide ((0:Int)<(0:Int));let q3:=decide ((9223372036854775807:Int)<IntKind.u64.wrap (x.length:Int)*IntKind.u64.wrap n);let q4:=(q0 q1);(decide (n<(0:Int))=true->False)/\(decide (n<(0:Int))=false->(((0:Int)<=IntKind.u64.wrap (x.length:Int)/\IntKind.u64.wrap (x.length:Int)<(1073741824:Int))/\(0:Int)<=IntKind.u64.wrap n/\IntKind.u64.wrap n<(1073741824:Int))/\(q2=false->q2=false)/\(q2=false->q2=false)/\((bif q2 then true else q3)=true->False)/\((bif q2 then true else q3)=false->((0:Int)<=q0 q1/\q0 q1<=q0 q1/\(↑(8:Nat):Int)*q0 q1<=(140737488355328:Int))/\(0:Nat)+q4.toNat<=(List.replicate q4.toNat (0:Int)).length/\AtLoop (mkSiteF Tryd.prog gRep Tryd.f40 (0:Nat) [([0,0,1,1,1,1,1,1],[7,8])] [] []) (Says1 (slI (0:Nat) (n.toNat*x.length)) [obI (pw x n.toNat)]) [0,0,1,1,1,1,1,1] (fr [(7,A.p (V.c (W.sl 0 0 q4.toNat (1:Nat)))),(8,nI (↑(x.length.min q4.toNat):Int))]) (Sto.ofList [Ob.mk 3 [Fd.a 0 (D.int .i64) (spl (List.replicate q4.toNat (0:Int)) (0:Nat) (List.take q4.toNat x))]])))) (by kernel_rfl)
 try simp only [imp_self,true_and,Nat.zero_add,Bool.cond_true_left,Bool.or_eq_true,Bool.or_eq_false_iff,decide_eq_true_eq,decide_eq_false_iff_not,Int.not_lt,Int.le_refl]
 obtain ⟨c,rfl⟩:∃ c:Nat,n=c:=⟨n.toNat,by omega⟩
 obtain ⟨h1,h2,h3,h4⟩:=h
 rw [Int.toNat_natCast] at h4
 have e1:IntKind.u64.wrap (x.length:Int)=x.length:=wrapU64 (by omega) (by omega)
 have e2:IntKind.u64.wrap (c:Int)=c:=wrapU64 (by omega) (by omega)
 have e3:(x.length:Int)*(c:Int)=((c*x.length:Nat):Int):=by rw [Nat.mul_comm,Int.natCast_mul]
 rw [e1,e2,e3]
 have e4:IntKind.i64.wrap ((c*x.length:Nat):Int)=((c*x.length:Nat):Int):=wrap64 (by omega) (by omega)
 rw [e4,Int.toNat_natCast]
 refine ⟨fun g=>by omega,fun _=>⟨⟨by omega,by omega⟩,fun g=>by omega,fun _=>⟨by omega,by simp,?_⟩⟩⟩
 cases c with
 | zero =>
   have:=rep_loop x 0 (by omega) 0 0 (spl (List.replicate (0*x.length) 0) 0 (List.take (0*x.length) x)) rfl (.inr rfl) (by omega) (by simp [spl]) (by simp [pw])
   rw [show x.length.min (0*x.length)=0*x.length by simp]
   exact this
 | succ c =>
   have hl:x.length<=(c+1)*x.length:=by rw [Nat.succ_mul];omega
   have e5:List.take ((c+1)*x.length) x=x:=List.take_of_length_le hl
   have e6:x.length.min ((c+1)*x.length)=x.length:=Nat.min_eq_left hl
   rw [e5,e6]
   have:=rep_loop x (c+1) (by omega) (c+1-1) 1 (spl (List.replicate ((c+1)*x.length) 0) 0 x) rfl (by omega) (by omega) (by simp [spl];omega) (by
    rw [Nat.one_mul,spl];simp [pw])
   rw [Nat.one_mul] at this
   exact this
def cRepI:Con:=con2 dI (.int .i64) fun x n=>(.p (0<=(show Int from n)/\(show Int from n)<=100000/\List.length (α:=Int) x<=100000/\(show Int from n).toNat*List.length (α:=Int) x<=1000000),slI 0 ((show Int from n).toNat*List.length (α:=Int) x),[obI (pw x (show Int from n).toNat)])
theorem cRepI_ok:ConOk Tryd.prog 40 cRepI:=con2_ok (by kernel_rfl) fun x n h=>repeat_sem x n h
end Go.Proofs.YtejehoihhphpiaaDoor

namespace Go.Proofs.YtejehoihhphpiaaDoor
open Go.Loom Go.Words Go.Eng
set_option maxRecDepth 100000
noncomputable def gAd:Gam:=[(40,cRepI)]
theorem gAd_ok:GamOk Tryd.prog gAd:=gamOk_cons cRepI_ok gamOk_nil
theorem pw_neg:∀ n,pw [(-1:Int)] n=List.replicate n (-1)
 | 0=>rfl
 | n+1=>by rw [pw,pw_neg n];rfl
theorem add_sem (r:Rn) (T:Fine r) (hl:r.rows.length<=900000):FnSemK Tryd.prog 20 1 [pR] (obs r) (nI r.rows.length) (obs (add r)):=by
 refine fnSemK_at (live:=[]) (fzl:=[]) (fz:=[]) gAd_ok Tryd.func20 (by kernel_rfl) 1 (by kernel_rfl) 100 ?_
 apply of_eq (q:=let q0:=IntKind.i64.wrap;let q1:=(A.p (V.c (W.sl 1 0 r.rows.length 1)));let q2:=(q0 ((2:Int)*r.g));let q3:=(R1.pure (Cd.t.and Cd.t) q1);let q4:=(1:Nat);let q5:=(A.p (V.c (W.sl 2 0 r.par.length 1)));let q6:=(R1.pure (Cd.t.and Cd.t) (nI r.g));let q7:=(0:Nat);let q8:=(R1.pure (Cd.t.and Cd.t) q5);q7+q4<=q4/\((0:Int)<=q0 ((2:Int)*r.g)/\q0 ((2:Int)*r.g)<=(100000:Int)/\q4<=(100000:Nat)/\q2.toNat*q4<=(1000000:Nat))/\(q7=q7/\r.rows.length=r.rows.length/\((2:Int)*r.g).toNat=q2.toNat*q4/\(pw (List.take q4 (List.drop q7 [(-1:Int)])) q2.toNat).length=q2.toNat*q4/\q7<q2.toNat*q4/\(r.rows.length+q4)*(24:Nat)<=(140737488355328:Nat))/\q3.v=q3.v/\q3.v=q3.v/\q3.v=q3.v/\q3.v=q3.v/\q6.v=q6.v/\q6.v=q6.v/\q7+q4<=q4/\(q7+r.par.length<=r.par.length/\(r.par.length+q4)*(8:Nat)<=(140737488355328:Nat))/\q8.v=q8.v/\q8.v=q8.v/\packV [V.c (W.int .i64 (q0 ((↑(r.rows.length+q4):Int)-(1:Int))))]=nI (r.rows.length:Int)/\[Ob.mk 57 [Fd.c (W.int .i64 r.g),Fd.c (W.rd (D.int .i64).sl r.rels),Fd.c (W.rd (D.int .i64).sl r.sub),Fd.c (W.int .i64 r.lim),Fd.c (W.int .i64 (max r.most (q0 (r.live+(1:Int))))),Fd.c (W.int .i64 (q0 (r.live+(1:Int)))),Fd.c (W.int .i64 r.stat),Fd.c (W.int .i64 r.ph),Fd.c (W.int .i64 r.co),Fd.c (W.int .i64 r.ix),Fd.c (W.sl (q7+q4) q7 (r.rows.length+q4) q4),Fd.c (W.sl (q7+q4+q4) q7 (r.par.length+q4) q4),Fd.c (W.sl (q7+q4+q4+q4) q7 r.dn q4)],Ob.mk 22 [Fd.c (W.th (q2.toNat*q4) (r.rows++[pw (List.take q4 (List.drop q7 [(-1:Int)])) q2.toNat]))],Ob.mk 3 [Fd.a 0 (D.int .i64) (List.take r.par.length (List.drop q7 r.par)++List.take q4 (List.drop q7 [(r.par.length:Int)]))],Ob.mk 3 [Fd.a 0 (D.int .i64) r.dl]]=obs (add r)) (by kernel_rfl)
 try simp only [true_and,Nat.zero_add,Nat.mul_one,List.drop_zero,List.take_length,List.take_succ_cons,List.take_zero,Nat.le_refl,Nat.reduceAdd]
 have hg1:1<=r.g:=T.g1
 have hg2:r.g<=16:=T.g2
 have hpl:r.par.length=r.rows.length:=T.len
 have hlv:r.live=(al r.par:Nat):=T.live
 have hal:=al_le r.par
 rw [wrap64 (n:=2*r.g) (by omega) (by omega),wrap64 (n:=r.live+1) (by omega) (by omega),wrap64 (n:=((r.rows.length+1:Nat):Int)-1) (by omega) (by omega),pw_neg,show ((r.rows.length+1:Nat):Int)-1=r.rows.length by omega]
 refine ⟨⟨by omega,by omega,by omega,by omega⟩,⟨by omega,by rw [List.length_replicate],by omega,by omega⟩,by omega,rfl,?_⟩
 simp only [obs,runO,tabO,add,List.length_append,List.length_singleton]
def conR0 (f:Rn->Prop×A×Rn):Con:={ refs:=[true],keep:=some 1,f:=fun args objs=>match args with
 | [.p (.c (.ptr 0 0))]=>match asR objs with
   | some (c,r)=>some (.p (c/\(f r).1),(f r).2.1,obs (f r).2.2)
   | none=>none
 | _=>none }
theorem conR0_ok {P:Program} {fn:FuncId} {f:Rn->Prop×A×Rn} (he:enters P fn=true) (h:∀ r,(f r).1->FnSemK P fn 1 [pR] (obs r) (f r).2.1 (obs (f r).2.2)):ConOk P fn (conR0 f):=by
 refine ⟨he,fun args objs c r objs' e hc=>?_⟩
 simp only [conR0] at e
 split at e
 . split at e
   . rename_i c1 r1 hr
     cases e
     obtain ⟨h1,h2⟩:=hc
     rw [asR_eq hr h1]
     exact h _ h2
   . cases e
 . cases e
def cAddR:Con:=conR0 fun r=>(Fine r/\r.rows.length<=900000,nI r.rows.length,add r)
theorem cAddR_ok:ConOk Tryd.prog 20 cAddR:=conR0_ok (by kernel_rfl) fun r h=>add_sem r h.1 h.2
end Go.Proofs.YtejehoihhphpiaaDoor

namespace Go.Proofs.YtejehoihhphpiaaDoor
open Go.Loom Go.Words Go.Eng
set_option maxRecDepth 100000
abbrev celI (n:Int):Ob:=⟨3,[.c (.int .i64 n)]⟩
abbrev celR (k:Nat):Ob:=⟨29,[.c (.ptr k 0)]⟩
abbrev obM (r:Rn) (N q:Nat):List Ob:=[runO r 4 5 6,celR 0,celI ((N:Int)-q),celI N,tabO r,obI r.par,obI r.dl]
abbrev obC (r:Rn) (N q:Nat):List Ob:=[celR 3,celI ((N:Int)-q),celI N,runO r 4 5 6,tabO r,obI r.par,obI r.dl]
abbrev fnM:A:=.p (.c (.func 23 [(1,0),(2,0),(3,0)]))
def mayR (r:Rn) (q:Nat):Rn×Nat×Bool:=if r.lim<=r.rows.length then ({ r with stat:=2 },q,false) else if q=0 then (r,0,false) else (r,q-1,true)
theorem may_sem (r:Rn) (N q:Nat) (h:q<=N/\N<=1000000):FnSemK Tryd.prog 23 7 [.p (.c (.ptr 0 0)),.p (.c (.ptr 1 0)),.p (.c (.ptr 2 0))] (obC r N q) (bB (mayR r q).2.2) (obC (mayR r q).1 N (mayR r q).2.1):=by
 refine fnSemK_at (live:=[]) (fzl:=[]) (fz:=[]) gamOk_nil Tryd.func23 (by kernel_rfl) 7 (by kernel_rfl) 100 ?_
 apply of_eq (q:=let q1:=(1:Nat);let q2:=(W.sl ((0:Nat)+q1+q1+q1+q1+q1) (0:Nat) r.par.length q1);let q3:=(W.sl ((0:Nat)+q1+q1+q1+q1+q1+q1) (0:Nat) r.dn q1);let q4:=(W.sl ((0:Nat)+q1+q1+q1+q1) (0:Nat) r.rows.length q1);let q5:=(W.ptr ((0:Nat)+q1+q1+q1) (0:Nat));let q6:=(W.th ((2:Int)*r.g).toNat r.rows);let q7:=(W.rd (D.int .i64).sl r.rels);let q8:=(W.rd (D.int .i64).sl r.sub);let q9:=(W.int .i64 (N:Int));(decide (r.lim<=(r.rows.length:Int))=true->packV [V.c (W.bool false)]=bB (mayR r q).snd.snd/\[Ob.mk 29 [Fd.c q5],Ob.mk 3 [Fd.c (W.int .i64 ((N:Int)-(q:Int)))],Ob.mk 3 [Fd.c q9],Ob.mk 57 [Fd.c (W.int .i64 r.g),Fd.c q7,Fd.c q8,Fd.c (W.int .i64 r.lim),Fd.c (W.int .i64 r.most),Fd.c (W.int .i64 r.live),Fd.c (W.int .i64 (2)),Fd.c (W.int .i64 r.ph),Fd.c (W.int .i64 r.co),Fd.c (W.int .i64 r.ix),Fd.c q4,Fd.c q2,Fd.c q3],Ob.mk 22 [Fd.c q6],Ob.mk 3 [Fd.a 0 (D.int .i64) r.par],Ob.mk 3 [Fd.a 0 (D.int .i64) r.dl]]=obC (mayR r q).fst N (mayR r q).snd.fst)/\(decide (r.lim<=(r.rows.length:Int))=false->(decide ((N:Int)-(q:Int)=(N:Int))=true->packV [V.c (W.bool false)]=bB (mayR r q).snd.snd/\[Ob.mk 29 [Fd.c q5],Ob.mk 3 [Fd.c (W.int .i64 ((N:Int)-(q:Int)))],Ob.mk 3 [Fd.c q9],Ob.mk 57 [Fd.c (W.int .i64 r.g),Fd.c q7,Fd.c q8,Fd.c (W.int .i64 r.lim),Fd.c (W.int .i64 r.most),Fd.c (W.int .i64 r.live),Fd.c (W.int .i64 r.stat),Fd.c (W.int .i64 r.ph),Fd.c (W.int .i64 r.co),Fd.c (W.int .i64 r.ix),Fd.c q4,Fd.c q2,Fd.c q3],Ob.mk 22 [Fd.c q6],Ob.mk 3 [Fd.a 0 (D.int .i64) r.par],Ob.mk 3 [Fd.a 0 (D.int .i64) r.dl]]=obC (mayR r q).fst N (mayR r q).snd.fst)/\(decide ((N:Int)-(q:Int)=(N:Int))=false->packV [V.c (W.bool true)]=bB (mayR r q).snd.snd/\[Ob.mk 29 [Fd.c q5],Ob.mk 3 [Fd.c (W.int .i64 (IntKind.i64.wrap ((N:Int)-(q:Int)+(1:Int))))],Ob.mk 3 [Fd.c q9],Ob.mk 57 [Fd.c (W.int .i64 r.g),Fd.c q7,Fd.c q8,Fd.c (W.int .i64 r.lim),Fd.c (W.int .i64 r.most),Fd.c (W.int .i64 r.live),Fd.c (W.int .i64 r.stat),Fd.c (W.int .i64 r.ph),Fd.c (W.int .i64 r.co),Fd.c (W.int .i64 r.ix),Fd.c q4,Fd.c q2,Fd.c q3],Ob.mk 22 [Fd.c q6],Ob.mk 3 [Fd.a 0 (D.int .i64) r.par],Ob.mk 3 [Fd.a 0 (D.int .i64) r.dl]]=obC (mayR r q).fst N (mayR r q).snd.fst))) (by kernel_rfl)
 try simp only [Nat.zero_add,decide_eq_true_eq,decide_eq_false_iff_not,Int.not_le,Nat.reduceAdd]
 refine ⟨fun h1=>?_,fun h1=>⟨fun h2=>?_,fun h2=>?_⟩⟩
 . rw [mayR,if_pos h1];exact ⟨rfl,rfl⟩
 . have h0:q=0:=by omega
   subst h0
   rw [mayR,if_neg (by omega),if_pos rfl];exact ⟨rfl,rfl⟩
 . rw [mayR,if_neg (by omega),if_neg (by omega),wrap64 (n:=(N:Int)-q+1) (by omega) (by omega),show (N:Int)-q+1=(N:Int)-((q-1:Nat):Int) by omega];exact ⟨rfl,rfl⟩
def asM : List Ob → Option (Prop × Rn × Nat × Nat)
 | [a,⟨u,[.c (.ptr 0 0)]⟩,⟨u1,[.c (.int .i64 d)]⟩,⟨u2,[.c (.int .i64 n)]⟩,b,c,e] =>
   bif Nat.beq u 29&&(Nat.beq u1 3&&Nat.beq u2 3) then match asRk 4 5 6 [a,b,c,e] with
    | some (p,r)=>some (p/\0<=d/\d<=n/\n<=1000000,r,n.toNat,(n-d).toNat)
    | none=>none
   else none
 | _=>none
theorem asM_eq {objs:List Ob} {c:Prop} {r:Rn} {N q:Nat} (e:asM objs=some (c,r,N,q)) (hc:c):objs=obM r N q/\q<=N/\N<=1000000:=by
 unfold asM at e
 split at e
 . rename_i a u u1 d u2 n b c e'
   obtain ⟨hb,e1⟩:=Mill.bif_some e
   clear e
   simp only [Bool.and_eq_true] at hb
   obtain ⟨h1,h2,h3⟩:=hb
   cases Nat.eq_of_beq_eq_true h1
   cases Nat.eq_of_beq_eq_true h2
   cases Nat.eq_of_beq_eq_true h3
   split at e1
   . rename_i p r' hr
     cases e1
     obtain ⟨g1,g2,g3,g4⟩:=hc
     have:=asRk_eq hr g1
     simp only [List.cons.injEq] at this
     obtain ⟨rfl,rfl,rfl,rfl,_⟩:=this
     refine ⟨?_,by omega,by omega⟩
     rw [obM,show ((n.toNat:Nat):Int)-((n-d).toNat:Nat)=d by omega,show ((n.toNat:Nat):Int)=n by omega]
   . cases e1
 . cases e
def asC : List Ob → Option (Prop × Rn × Nat × Nat)
 | [⟨u,[.c (.ptr 3 0)]⟩,⟨u1,[.c (.int .i64 d)]⟩,⟨u2,[.c (.int .i64 n)]⟩,a,b,c,e] =>
   bif Nat.beq u 29&&(Nat.beq u1 3&&Nat.beq u2 3) then match asRk 4 5 6 [a,b,c,e] with
    | some (p,r)=>some (p/\0<=d/\d<=n/\n<=1000000,r,n.toNat,(n-d).toNat)
    | none=>none
   else none
 | _=>none
theorem asC_eq {objs:List Ob} {c:Prop} {r:Rn} {N q:Nat} (e:asC objs=some (c,r,N,q)) (hc:c):objs=obC r N q/\q<=N/\N<=1000000:=by
 unfold asC at e
 split at e
 . rename_i u u1 d u2 n a b c e'
   obtain ⟨hb,e1⟩:=Mill.bif_some e
   clear e
   simp only [Bool.and_eq_true] at hb
   obtain ⟨h1,h2,h3⟩:=hb
   cases Nat.eq_of_beq_eq_true h1
   cases Nat.eq_of_beq_eq_true h2
   cases Nat.eq_of_beq_eq_true h3
   split at e1
   . rename_i p r' hr
     cases e1
     obtain ⟨g1,g2,g3,g4⟩:=hc
     have:=asRk_eq hr g1
     simp only [List.cons.injEq] at this
     obtain ⟨rfl,rfl,rfl,rfl,_⟩:=this
     refine ⟨?_,by omega,by omega⟩
     rw [obC,show ((n.toNat:Nat):Int)-((n-d).toNat:Nat)=d by omega,show ((n.toNat:Nat):Int)=n by omega]
   . cases e1
 . cases e
def cMay:Con:={ refs:=[true,true,true],f:=fun args objs=>match args with
 | [.p (.c (.ptr 0 0)),.p (.c (.ptr 1 0)),.p (.c (.ptr 2 0))]=>match asC objs with
   | some (c,r,N,q)=>some (.p c,bB (mayR r q).2.2,obC (mayR r q).1 N (mayR r q).2.1)
   | none=>none
 | _=>none }
theorem cMay_ok:ConOk Tryd.prog 23 cMay:=by
 refine ⟨by kernel_rfl,fun args objs c r objs' e hc=>?_⟩
 simp only [cMay] at e
 split at e
 . split at e
   . rename_i c1 r1 N q hr
     cases e
     obtain ⟨rfl,h1,h2⟩:=asC_eq hr hc
     exact may_sem r1 N q ⟨h1,h2⟩
   . cases e
 . cases e
noncomputable def gFil:Gam:=[(56,cScan),(57,cJoinR),(20,cAddR),(23,cMay)]
theorem gFil_ok:GamOk Tryd.prog gFil:=gamOk_cons cScan_ok (gamOk_cons cJoinR_ok (gamOk_cons cAddR_ok (gamOk_cons cMay_ok gamOk_nil)))
noncomputable def sFil:Site:=mkSiteF Tryd.prog gFil Tryd.f42 4 [([0,1],[0,1,2,3])] [] []
abbrev fiA (x:Rn×Nat×Bool) (N:Nat):A->List Ob->Prop:=Says1 (bB x.2.2) (obM x.1 N x.2.1)
theorem fil_loop (a : Nat) (w : List Int) (x : Rn × Nat × Bool) (N : Nat) (hN : N ≤ 1000000) : ∀ (q : Nat) (r : Rn), Fine r → Wd r.g w → a < r.rows.length → r.rows.length ≤ r.lim → r.lim ≤ 900000 → q ≤ N → x = fillF a w q r →
 AtLoop sFil (fiA x N) [0,1] (fr [(0,pR),(1,nI a),(2,lsI w),(3,fnM)]) (.ofList (obM r N q))
 | q, r, T, hw, ha, hl, hm, hq, hx => by
   refine atLoop_at gFil_ok (by kernel_rfl) 100 ?_
   apply of_eq (q:=let q3:=(scan r a w);let q4:=(1:Nat);let q6:=(0:Nat);let q7:=(2:Int);let q9:=(W.int .i64 (N:Int));let q1:=(mayR q3.fst ((N:Int)-((N:Int)-(q:Int))).toNat);let q5:=(add q1.fst);let q8:=(W.int .i64 ((N:Int)-(↑q1.snd.fst:Int)));let q2:=(join q5 q3.snd.fst q3.snd.snd.fst q1.fst.rows.length);((r.rows.length=r.rows.length/\r.par.length=r.par.length/\(q7*r.g).toNat=(q7*r.g).toNat)/\(0:Int)<=(a:Int)/\Fine r/\Wd r.g w/\a<r.rows.length)/\((!q3.snd.snd.snd)=true->packV [V.c (W.bool true)]=bB x.snd.snd/\[Ob.mk 57 [Fd.c (W.int .i64 q3.fst.g),Fd.c (W.rd (D.int .i64).sl q3.fst.rels),Fd.c (W.rd (D.int .i64).sl q3.fst.sub),Fd.c (W.int .i64 q3.fst.lim),Fd.c (W.int .i64 q3.fst.most),Fd.c (W.int .i64 q3.fst.live),Fd.c (W.int .i64 q3.fst.stat),Fd.c (W.int .i64 q3.fst.ph),Fd.c (W.int .i64 q3.fst.co),Fd.c (W.int .i64 q3.fst.ix),Fd.c (W.sl (q6+q4+q4+q4+q4) q6 q3.fst.rows.length q4),Fd.c (W.sl (q6+q4+q4+q4+q4+q4) q6 q3.fst.par.length q4),Fd.c (W.sl (q6+q4+q4+q4+q4+q4+q4) q6 q3.fst.dn q4)],Ob.mk 29 [Fd.c (W.ptr 0 0)],Ob.mk 3 [Fd.c (W.int .i64 ((N:Int)-(q:Int)))],Ob.mk 3 [Fd.c q9],Ob.mk 22 [Fd.c (W.th (q7*q3.fst.g).toNat q3.fst.rows)],Ob.mk 3 [Fd.a 0 (D.int .i64) q3.fst.par],Ob.mk 3 [Fd.a 0 (D.int .i64) q3.fst.dl]]=obM x.fst N x.snd.fst)/\((!q3.snd.snd.snd)=false->((q3.fst.rows.length=q3.fst.rows.length/\q3.fst.par.length=q3.fst.par.length/\(q7*q3.fst.g).toNat=(q7*q3.fst.g).toNat)/\(0:Int)<=(N:Int)-(q:Int)/\(N:Int)-(q:Int)<=(N:Int)/\(N:Int)<=(1000000:Int))/\((!q1.snd.snd)=true->packV [V.c (W.bool false)]=bB x.snd.snd/\[Ob.mk 57 [Fd.c (W.int .i64 q1.fst.g),Fd.c (W.rd (D.int .i64).sl q1.fst.rels),Fd.c (W.rd (D.int .i64).sl q1.fst.sub),Fd.c (W.int .i64 q1.fst.lim),Fd.c (W.int .i64 q1.fst.most),Fd.c (W.int .i64 q1.fst.live),Fd.c (W.int .i64 q1.fst.stat),Fd.c (W.int .i64 q1.fst.ph),Fd.c (W.int .i64 q1.fst.co),Fd.c (W.int .i64 q1.fst.ix),Fd.c (W.sl (q6+q4+q4+q4+q4) q6 q1.fst.rows.length q4),Fd.c (W.sl (q6+q4+q4+q4+q4+q4) q6 q1.fst.par.length q4),Fd.c (W.sl (q6+q4+q4+q4+q4+q4+q4) q6 q1.fst.dn q4)],Ob.mk 29 [Fd.c (W.ptr 0 0)],Ob.mk 3 [Fd.c q8],Ob.mk 3 [Fd.c q9],Ob.mk 22 [Fd.c (W.th (q7*q1.fst.g).toNat q1.fst.rows)],Ob.mk 3 [Fd.a 0 (D.int .i64) q1.fst.par],Ob.mk 3 [Fd.a 0 (D.int .i64) q1.fst.dl]]=obM x.fst N x.snd.fst)/\((!q1.snd.snd)=false->((q1.fst.rows.length=q1.fst.rows.length/\q1.fst.par.length=q1.fst.par.length/\(q7*q1.fst.g).toNat=(q7*q1.fst.g).toNat)/\Fine q1.fst/\q1.fst.rows.length<=(900000:Nat))/\((q5.rows.length=q5.rows.length/\q5.par.length=q5.par.length/\(q7*q5.g).toNat=(q7*q5.g).toNat)/\(0:Int)<=(↑q3.snd.fst:Int)/\(0:Int)<=(↑q3.snd.snd.fst:Int)/\(0:Int)<=(↑q1.fst.rows.length:Int)/\q3.snd.fst<q5.rows.length/\q1.fst.rows.length<q5.rows.length/\q3.snd.snd.fst<(q7*q5.g).toNat/\q5.g<=(16:Int))/\AtLoop sFil (fiA x N) [0,1] (fr [(0,A.p (V.c (W.ptr 0 0))),(1,nI (a:Int)),(2,lsI w),(3,A.p (V.c (W.func 23 [(1,q6),(2,q6),(3,q6)])))]) (Sto.ofList [Ob.mk 57 [Fd.c (W.int .i64 q2.g),Fd.c (W.rd (D.int .i64).sl q2.rels),Fd.c (W.rd (D.int .i64).sl q2.sub),Fd.c (W.int .i64 q2.lim),Fd.c (W.int .i64 q2.most),Fd.c (W.int .i64 q2.live),Fd.c (W.int .i64 q2.stat),Fd.c (W.int .i64 q2.ph),Fd.c (W.int .i64 q2.co),Fd.c (W.int .i64 q2.ix),Fd.c (W.sl 4 0 q2.rows.length q4),Fd.c (W.sl 5 0 q2.par.length q4),Fd.c (W.sl 6 0 q2.dn q4)],Ob.mk 29 [Fd.c (W.ptr 0 0)],Ob.mk 3 [Fd.c q8],Ob.mk 3 [Fd.c q9],Ob.mk 22 [Fd.c (W.th (q7*q2.g).toNat q2.rows)],Ob.mk 3 [Fd.a 0 (D.int .i64) q2.par],Ob.mk 3 [Fd.a 0 (D.int .i64) q2.dl]])))) (by kernel_rfl)
   try simp only [true_and,and_true,Nat.zero_add,Bool.not_eq_true',Bool.not_eq_false',Nat.reduceAdd]
   have S:=scan_ok T hw ha
   have h1:=S.len
   rw [show ((N:Int)-((N:Int)-(q:Int))).toNat=q by omega]
   have hx':x=if (scan r a w).2.2.2=false then ((scan r a w).1,q,true) else if (mayR (scan r a w).1 q).2.2=false then ((mayR (scan r a w).1 q).1,(mayR (scan r a w).1 q).2.1,false) else fillF a w (q-1) (grow (scan r a w).1 (scan r a w).2.1 (scan r a w).2.2.1):=by
    rw [hx]
    have hl:(scan r a w).1.lim=r.lim:=S.keep.2.2.2.1
    cases q with
    | zero =>
      rw [fillF,<-hl]
      unfold mayR
      split
      . rfl
      . split <;> rfl
    | succ q =>
      rw [fillF,<-hl]
      unfold mayR
      split
      . rfl
      . split <;> rfl
   refine ⟨⟨by omega,T,hw,ha⟩,fun h=>?_,fun h=>⟨⟨by omega,by omega,by omega⟩,fun h2=>?_,fun h2=>?_⟩⟩
   . rw [if_pos h] at hx'
     rw [hx']
     exact ⟨rfl,rfl⟩
   . rw [if_neg (by rw [h];simp),if_pos h2] at hx'
     rw [hx']
     exact ⟨rfl,rfl⟩
   · rw [if_neg (by rw [h]; simp), if_neg (by rw [h2]; simp)] at hx'
     obtain ⟨o1,o2,o3⟩:=S.opn h
     have hm2:(mayR (scan r a w).1 q).1=(scan r a w).1/\(mayR (scan r a w).1 q).2.1=q-1/\(scan r a w).1.rows.length<(scan r a w).1.lim/\0<q:=by
      unfold mayR at h2 ⊢
      split
      . rename_i g;rw [if_pos g] at h2;cases h2
      . rename_i g
        rw [if_neg g] at h2
        split
        . rename_i g2;rw [if_pos g2] at h2;cases h2
        . exact ⟨rfl,rfl,by omega,by omega⟩
     obtain ⟨m1,m2,m3,m4⟩:=hm2
     rw [m1,m2]
     have hs:(scan r a w).1.g=r.g:=S.keep.1
     have hsl:(scan r a w).1.lim=r.lim:=S.keep.2.2.2.1
     have al:=add_len (scan r a w).1
     obtain ⟨g1,g2,g3⟩:=grow_ok S.fine (scan r a w).2.2.1 (show (scan r a w).2.1<(scan r a w).1.rows.length by omega) (by omega)
     have k:=S.keep.trans g3
     have hg2:r.g<=16:=T.g2
     refine ⟨⟨S.fine,by omega⟩,⟨by omega,by omega,by omega,by omega,by omega,by rw [al.2,hs];exact o3,by rw [al.2,hs];exact hg2⟩,?_⟩
     cases q with
     | zero=>omega
     | succ q =>
       exact fil_loop a w x N hN q (grow (scan r a w).1 (scan r a w).2.1 (scan r a w).2.2.1) g1 (by rw [k.1];exact hw) (by omega) (by rw [k.2.2.2.1];omega) (by rw [k.2.2.2.1];exact hm) (by omega) hx'
theorem fil_sem (r:Rn) (N q a:Nat) (w:List Int) (T:Fine r) (hw:Wd r.g w) (h:a<r.rows.length/\r.rows.length<=r.lim/\r.lim<=900000/\q<=N/\N<=1000000):FnSemK Tryd.prog 42 4 [pR,nI a,lsI w,fnM] (obM r N q) (bB (fillF a w q r).2.2) (obM (fillF a w q r).1 N (fillF a w q r).2.1):=by
 refine fnSemK_at (live:=[([0,1],[0,1,2,3])]) (fzl:=[]) (fz:=[]) gFil_ok Tryd.func42 (by kernel_rfl) 4 (by kernel_rfl) 100 ?_
 apply of_eq (q:=AtLoop (mkSiteF Tryd.prog gFil Tryd.f42 (4:Nat) [([0,1],[0,1,2,3])] [] []) (Says1 (bB (fillF a w q r).snd.snd) (obM (fillF a w q r).fst N (fillF a w q r).snd.fst)) [0,1] (fr [(0,A.p (V.c (W.ptr 0 0))),(1,nI (a:Int)),(2,lsI w),(3,A.p (V.c (W.func 23 [(1,(0:Nat)),(2,(0:Nat)),(3,(0:Nat))])))]) (Sto.ofList [Ob.mk 57 [Fd.c (W.int .i64 r.g),Fd.c (W.rd (D.int .i64).sl r.rels),Fd.c (W.rd (D.int .i64).sl r.sub),Fd.c (W.int .i64 r.lim),Fd.c (W.int .i64 r.most),Fd.c (W.int .i64 r.live),Fd.c (W.int .i64 r.stat),Fd.c (W.int .i64 r.ph),Fd.c (W.int .i64 r.co),Fd.c (W.int .i64 r.ix),Fd.c (W.sl 4 0 r.rows.length 1),Fd.c (W.sl 5 0 r.par.length 1),Fd.c (W.sl 6 0 r.dn 1)],Ob.mk 29 [Fd.c (W.ptr 0 0)],Ob.mk 3 [Fd.c (W.int .i64 ((N:Int)-(q:Int)))],Ob.mk 3 [Fd.c (W.int .i64 (N:Int))],Ob.mk 22 [Fd.c (W.th ((2:Int)*r.g).toNat r.rows)],Ob.mk 3 [Fd.a 0 (D.int .i64) r.par],Ob.mk 3 [Fd.a 0 (D.int .i64) r.dl]])) (by kernel_rfl)
 exact fil_loop a w _ N h.2.2.2.2 q r T hw h.1 h.2.1 h.2.2.1 h.2.2.2.1 rfl
def cFill:Con:={ refs:=[true,false,false,true],keep:=some 4,f:=fun args objs=>match args with
 | [.p (.c (.ptr 0 0)),.p (.c (.int .i64 a)),w,.p (.c (.func f [(1,0),(2,0),(3,0)]))]=>bif Nat.beq f 23 then match asD dI w,asM objs with
   | some w,some (c,r,N,q)=>some (.p (c/\0<=a/\Fine r/\Wd r.g w/\a.toNat<r.rows.length/\r.rows.length<=r.lim/\r.lim<=900000),bB (fillF a.toNat w q r).2.2,obM (fillF a.toNat w q r).1 N (fillF a.toNat w q r).2.1)
   | _,_=>none
   else none
 | _=>none }
theorem cFill_ok:ConOk Tryd.prog 42 cFill:=by
 refine ⟨by kernel_rfl,fun args objs c r objs' e hc=>?_⟩
 simp only [cFill] at e
 split at e
 . rename_i a w0 f
   obtain ⟨hb,e1⟩:=Mill.bif_some e
   clear e
   cases Nat.eq_of_beq_eq_true hb
   split at e1
   . rename_i w c1 r1 N q hw hr
     cases e1
     obtain ⟨h1,h2,h3,h4,h5,h6,h7⟩:=hc
     obtain ⟨rfl,g1,g2⟩:=asM_eq hr h1
     have:=fil_sem r1 N q a.toNat w h3 h4 ⟨h5,h6,h7,g1,g2⟩
     rw [<-natI h2] at this
     intro base η Z W vs R hvs hK
     match vs,hvs with
     | [u,v,t,s],⟨a1,a2,a3,a4,_⟩=>exact this base η Z W _ R ⟨a1,a2,asD_rel hw a3,a4,trivial⟩ hK
   . cases e1
 . cases e
noncomputable def gCo3:Gam:=[(57,cJoinR),(20,cAddR),(23,cMay)]
theorem gCo3_ok:GamOk Tryd.prog gCo3:=gamOk_cons cJoinR_ok (gamOk_cons cAddR_ok (gamOk_cons cMay_ok gamOk_nil))
noncomputable def sCo3:Site:=mkSiteF Tryd.prog gCo3 Tryd.f43 4 [([0,1,0,1],[0,1,2,15,16])] [] []
theorem co3_loop (a G : Nat) (x : Rn × Nat × Bool) (N : Nat) (hN : N ≤ 1000000) : ∀ (f c q : Nat) (r : Rn), Fine r → c + f = G → G = (2 * r.g).toNat → a < r.rows.length → r.rows.length ≤ r.lim → r.lim ≤ 900000 → q ≤ N → x = colsF a f c r q →
 AtLoop sCo3 (fiA x N) [0,1,0,1] (fr [(0,pR),(1,nI a),(2,fnM),(15,nI G),(16,nI c)]) (.ofList (obM r N q))
 | f,c,q,r,T,hc,hG,ha,hl,hm,hq,hx=>by
   refine atLoop_at gCo3_ok (by kernel_rfl) 100 ?_
   apply of_eq (q:=let q1:=(mayR r ((N:Int)-((N:Int)-(q:Int))).toNat);let q4:=(1:Nat);let q5:=(0:Nat);let q6:=(W.int .i64 (N:Int));let q7:=(add q1.fst);let q8:=((2:Int)*r.g);let q9:=decide ((0:Int)<=(r.rows.getD (q5+a) []).getD c (0:Int));let q10:=(W.int .i64 ((N:Int)-(↑q1.snd.fst:Int)));let q2:=(join q7 a c q1.fst.rows.length);let q3:=(fr [(0,A.p (V.c (W.ptr 0 0))),(1,nI (a:Int)),(2,A.p (V.c (W.func 23 [(1,q5),(2,q5),(3,q5)]))),(15,nI (G:Int)),(16,nI (IntKind.i64.wrap ((c:Int)+(1:Int))))]);(decide ((c:Int)<(G:Int))=true->((0:Int)<=(a:Int)/\(a:Int)<(r.rows.length:Int))/\q5+a<r.rows.length/\((0:Int)<=(c:Int)/\(c:Int)<(↑q8.toNat:Int))/\(q5+a<r.rows.length/\c<q8.toNat)/\(q9=true->AtLoop sCo3 (fiA x N) [0,1,0,1] q3 (Sto.ofList [Ob.mk 57 [Fd.c (W.int .i64 r.g),Fd.c (W.rd (D.int .i64).sl r.rels),Fd.c (W.rd (D.int .i64).sl r.sub),Fd.c (W.int .i64 r.lim),Fd.c (W.int .i64 r.most),Fd.c (W.int .i64 r.live),Fd.c (W.int .i64 r.stat),Fd.c (W.int .i64 r.ph),Fd.c (W.int .i64 r.co),Fd.c (W.int .i64 r.ix),Fd.c (W.sl 4 0 r.rows.length 1),Fd.c (W.sl 5 0 r.par.length 1),Fd.c (W.sl 6 0 r.dn 1)],Ob.mk 29 [Fd.c (W.ptr 0 0)],Ob.mk 3 [Fd.c (W.int .i64 ((N:Int)-(q:Int)))],Ob.mk 3 [Fd.c q6],Ob.mk 22 [Fd.c (W.th q8.toNat r.rows)],Ob.mk 3 [Fd.a 0 (D.int .i64) r.par],Ob.mk 3 [Fd.a 0 (D.int .i64) r.dl]]))/\(q9=false->((r.rows.length=r.rows.length/\r.par.length=r.par.length/\q8.toNat=q8.toNat)/\(0:Int)<=(N:Int)-(q:Int)/\(N:Int)-(q:Int)<=(N:Int)/\(N:Int)<=(1000000:Int))/\((!q1.snd.snd)=true->packV [V.c (W.bool false)]=bB x.snd.snd/\[Ob.mk 57 [Fd.c (W.int .i64 q1.fst.g),Fd.c (W.rd (D.int .i64).sl q1.fst.rels),Fd.c (W.rd (D.int .i64).sl q1.fst.sub),Fd.c (W.int .i64 q1.fst.lim),Fd.c (W.int .i64 q1.fst.most),Fd.c (W.int .i64 q1.fst.live),Fd.c (W.int .i64 q1.fst.stat),Fd.c (W.int .i64 q1.fst.ph),Fd.c (W.int .i64 q1.fst.co),Fd.c (W.int .i64 q1.fst.ix),Fd.c (W.sl (q5+q4+q4+q4+q4) q5 q1.fst.rows.length q4),Fd.c (W.sl (q5+q4+q4+q4+q4+q4) q5 q1.fst.par.length q4),Fd.c (W.sl (q5+q4+q4+q4+q4+q4+q4) q5 q1.fst.dn q4)],Ob.mk 29 [Fd.c (W.ptr 0 0)],Ob.mk 3 [Fd.c q10],Ob.mk 3 [Fd.c q6],Ob.mk 22 [Fd.c (W.th ((2:Int)*q1.fst.g).toNat q1.fst.rows)],Ob.mk 3 [Fd.a 0 (D.int .i64) q1.fst.par],Ob.mk 3 [Fd.a 0 (D.int .i64) q1.fst.dl]]=obM x.fst N x.snd.fst)/\((!q1.snd.snd)=false->((q1.fst.rows.length=q1.fst.rows.length/\q1.fst.par.length=q1.fst.par.length/\((2:Int)*q1.fst.g).toNat=((2:Int)*q1.fst.g).toNat)/\Fine q1.fst/\q1.fst.rows.length<=(900000:Nat))/\((q7.rows.length=q7.rows.length/\q7.par.length=q7.par.length/\((2:Int)*q7.g).toNat=((2:Int)*q7.g).toNat)/\(0:Int)<=(a:Int)/\(0:Int)<=(c:Int)/\(0:Int)<=(↑q1.fst.rows.length:Int)/\a<q7.rows.length/\q1.fst.rows.length<q7.rows.length/\c<((2:Int)*q7.g).toNat/\q7.g<=(16:Int))/\AtLoop sCo3 (fiA x N) [0,1,0,1] q3 (Sto.ofList [Ob.mk 57 [Fd.c (W.int .i64 q2.g),Fd.c (W.rd (D.int .i64).sl q2.rels),Fd.c (W.rd (D.int .i64).sl q2.sub),Fd.c (W.int .i64 q2.lim),Fd.c (W.int .i64 q2.most),Fd.c (W.int .i64 q2.live),Fd.c (W.int .i64 q2.stat),Fd.c (W.int .i64 q2.ph),Fd.c (W.int .i64 q2.co),Fd.c (W.int .i64 q2.ix),Fd.c (W.sl 4 0 q2.rows.length q4),Fd.c (W.sl 5 0 q2.par.length q4),Fd.c (W.sl 6 0 q2.dn q4)],Ob.mk 29 [Fd.c (W.ptr 0 0)],Ob.mk 3 [Fd.c q10],Ob.mk 3 [Fd.c q6],Ob.mk 22 [Fd.c (W.th ((2:Int)*q2.g).toNat q2.rows)],Ob.mk 3 [Fd.a 0 (D.int .i64) q2.par],Ob.mk 3 [Fd.a 0 (D.int .i64) q2.dl]]))))/\(decide ((c:Int)<(G:Int))=false->packV [V.c (W.bool true)]=bB x.snd.snd/\[Ob.mk 57 [Fd.c (W.int .i64 r.g),Fd.c (W.rd (D.int .i64).sl r.rels),Fd.c (W.rd (D.int .i64).sl r.sub),Fd.c (W.int .i64 r.lim),Fd.c (W.int .i64 r.most),Fd.c (W.int .i64 r.live),Fd.c (W.int .i64 r.stat),Fd.c (W.int .i64 r.ph),Fd.c (W.int .i64 r.co),Fd.c (W.int .i64 r.ix),Fd.c (W.sl (q5+q4+q4+q4+q4) q5 r.rows.length q4),Fd.c (W.sl (q5+q4+q4+q4+q4+q4) q5 r.par.length q4),Fd.c (W.sl (q5+q4+q4+q4+q4+q4+q4) q5 r.dn q4)],Ob.mk 29 [Fd.c (W.ptr 0 0)],Ob.mk 3 [Fd.c (W.int .i64 ((N:Int)-(q:Int)))],Ob.mk 3 [Fd.c q6],Ob.mk 22 [Fd.c (W.th q8.toNat r.rows)],Ob.mk 3 [Fd.a 0 (D.int .i64) r.par],Ob.mk 3 [Fd.a 0 (D.int .i64) r.dl]]=obM x.fst N x.snd.fst)) (by kernel_rfl)
   try simp only [true_and,and_true,Nat.zero_add,Bool.not_eq_true',Bool.not_eq_false',decide_eq_true_eq,decide_eq_false_iff_not,Int.not_lt,Int.not_le,Nat.reduceAdd]
   have hg1:1<=r.g:=T.g1
   have hg2:r.g<=16:=T.g2
   rw [show ((N:Int)-((N:Int)-(q:Int))).toNat=q by omega,wrap64 (n:=(c:Int)+1) (by omega) (by omega)]
   simp only [at2_def]
   refine ⟨fun h=>?_,fun h=>?_⟩
   . cases f with
     | zero=>omega
     | succ f =>
     rw [colsF] at hx
     refine ⟨by omega,ha,by omega,by omega,fun h1=>?_,fun h1=>⟨⟨by omega,by omega,by omega⟩,fun h2=>?_,fun h2=>?_⟩⟩
     . rw [if_pos h1] at hx
       exact co3_loop a G x N hN f (c+1) q r T (by omega) hG ha hl hm hq hx
     · rw [if_neg (by omega)] at hx
       have hx':x=((mayR r q).1,(mayR r q).2.1,false):=by
        rw [hx]
        unfold mayR at h2 ⊢
        split
        . rfl
        . split
          . rfl
          . rename_i g1 g2;rw [if_neg g1,if_neg g2] at h2;cases h2
       rw [hx']
       exact ⟨rfl,rfl⟩
     · rw [if_neg (by omega)] at hx
       have hm2:(mayR r q).1=r/\(mayR r q).2.1=q-1/\r.rows.length<r.lim/\0<q:=by
        unfold mayR at h2 ⊢
        split
        . rename_i g;rw [if_pos g] at h2;cases h2
        . rename_i g
          rw [if_neg g] at h2
          split
          . rename_i g2;rw [if_pos g2] at h2;cases h2
          . exact ⟨rfl,rfl,by omega,by omega⟩
       obtain ⟨m1,m2,m3,m4⟩:=hm2
       rw [m1,m2]
       have al:=add_len r
       obtain ⟨g1,g2,g3⟩:=grow_ok T c ha (by omega)
       rw [if_neg (by omega),if_neg (by omega)] at hx
       refine ⟨⟨T,by omega⟩,⟨by omega,by omega,by omega,by omega,by omega,by rw [al.2];omega,by rw [al.2];exact hg2⟩,?_⟩
       exact co3_loop a G x N hN f (c+1) (q-1) (grow r a c) g1 (by omega) (by rw [g3.1];exact hG) (by omega) (by rw [g3.2.2.2.1];omega) (by rw [g3.2.2.2.1];exact hm) (by omega) hx
   . have:f=0:=by omega
     subst this
     have hx:x=(r,q,true):=hx
     rw [hx]
     exact ⟨rfl,rfl⟩
theorem co3_sem (r:Rn) (N q a:Nat) (T:Fine r) (h:a<r.rows.length/\r.rows.length<=r.lim/\r.lim<=900000/\q<=N/\N<=1000000):FnSemK Tryd.prog 43 4 [pR,nI a,fnM] (obM r N q) (bB (colsF a (2*r.g).toNat 0 r q).2.2) (obM (colsF a (2*r.g).toNat 0 r q).1 N (colsF a (2*r.g).toNat 0 r q).2.1):=by
 refine fnSemK_at (live:=[([0,1,0,1],[0,1,2,15,16])]) (fzl:=[]) (fz:=[]) gCo3_ok Tryd.func43 (by kernel_rfl) 4 (by kernel_rfl) 100 ?_
 apply of_eq (q:=let q1:=(colsF a ((2:Int)*r.g).toNat (0:Nat) r q);((0:Int)<=(a:Int)/\(a:Int)<(r.rows.length:Int))/\(0:Nat)+a<r.rows.length/\AtLoop (mkSiteF Tryd.prog gCo3 Tryd.f43 (4:Nat) [([0,1,0,1],[0,1,2,15,16])] [] []) (Says1 (bB q1.snd.snd) (obM q1.fst N q1.snd.fst)) [0,1,0,1] (fr [(0,A.p (V.c (W.ptr 0 0))),(1,nI (a:Int)),(2,A.p (V.c (W.func 23 [(1,(0:Nat)),(2,(0:Nat)),(3,(0:Nat))]))),(15,nI (↑((2:Int)*r.g).toNat:Int)),(16,nI (0))]) (Sto.ofList [Ob.mk 57 [Fd.c (W.int .i64 r.g),Fd.c (W.rd (D.int .i64).sl r.rels),Fd.c (W.rd (D.int .i64).sl r.sub),Fd.c (W.int .i64 r.lim),Fd.c (W.int .i64 r.most),Fd.c (W.int .i64 r.live),Fd.c (W.int .i64 r.stat),Fd.c (W.int .i64 r.ph),Fd.c (W.int .i64 r.co),Fd.c (W.int .i64 r.ix),Fd.c (W.sl 4 0 r.rows.length 1),Fd.c (W.sl 5 0 r.par.length 1),Fd.c (W.sl 6 0 r.dn 1)],Ob.mk 29 [Fd.c (W.ptr 0 0)],Ob.mk 3 [Fd.c (W.int .i64 ((N:Int)-(q:Int)))],Ob.mk 3 [Fd.c (W.int .i64 (N:Int))],Ob.mk 22 [Fd.c (W.th ((2:Int)*r.g).toNat r.rows)],Ob.mk 3 [Fd.a 0 (D.int .i64) r.par],Ob.mk 3 [Fd.a 0 (D.int .i64) r.dl]])) (by kernel_rfl)
 try simp only [Nat.zero_add]
 exact ⟨by omega,h.1,co3_loop a _ _ N h.2.2.2.2 (2*r.g).toNat 0 q r T (by omega) rfl h.1 h.2.1 h.2.2.1 h.2.2.2.1 rfl⟩
def cCols:Con:={ refs:=[true,false,true],keep:=some 4,f:=fun args objs=>match args with
 | [.p (.c (.ptr 0 0)),.p (.c (.int .i64 a)),.p (.c (.func f [(1,0),(2,0),(3,0)]))]=>bif Nat.beq f 23 then match asM objs with
   | some (c,r,N,q)=>some (.p (c/\0<=a/\Fine r/\a.toNat<r.rows.length/\r.rows.length<=r.lim/\r.lim<=900000),bB (colsF a.toNat (2*r.g).toNat 0 r q).2.2,obM (colsF a.toNat (2*r.g).toNat 0 r q).1 N (colsF a.toNat (2*r.g).toNat 0 r q).2.1)
   | _=>none
   else none
 | _=>none }
theorem cCols_ok:ConOk Tryd.prog 43 cCols:=by
 refine ⟨by kernel_rfl,fun args objs c r objs' e hc=>?_⟩
 simp only [cCols] at e
 split at e
 . rename_i a f
   obtain ⟨hb,e1⟩:=Mill.bif_some e
   clear e
   cases Nat.eq_of_beq_eq_true hb
   split at e1
   . rename_i c1 r1 N q hr
     cases e1
     obtain ⟨h1,h2,h3,h5,h6,h7⟩:=hc
     obtain ⟨rfl,g1,g2⟩:=asM_eq hr h1
     have:=co3_sem r1 N q a.toNat h3 ⟨h5,h6,h7,g1,g2⟩
     rw [<-natI h2] at this
     exact this
   . cases e1
 . cases e
end Go.Proofs.YtejehoihhphpiaaDoor
