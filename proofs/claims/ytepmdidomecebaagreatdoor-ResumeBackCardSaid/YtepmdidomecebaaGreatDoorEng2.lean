/- Enumeration of cosets: a coset more. -/
import Derived.Test.YtepmdidomecebaaGreatDoorEng1
namespace Go.Proofs.YtepmdidomecebaaGreatDoor
open Go.aJ Go.Words Go.cG
set_option maxRecDepth 100000
noncomputable def gAd:bF:=[(99,XS)]
theorem Sb:aS Tryz.prog gAd:=ai VF ay
theorem Jd:∀ n,pw [(-1:Int)] n=List.replicate n (-1)
 | 0=>rfl
 | n+1=>by rw [pw,Jd n];rfl
theorem YZ (r:Rn) (T:bS r) (hl:r.rows.length<=900000):aX Tryz.prog 46 1 [pR] (obs r) (nI r.rows.length) (obs (add r)):=by
 refine bA (live:=[]) (bQ:=[]) (fz:=[]) Sb Tryz.func46 (by kernel_rfl) 1 (by kernel_rfl) 100 ?_;apply of_eq (q:=let q0:=IntKind.i64.wrap;let q1:=(A.p (V.c (W.sl 1 0 r.rows.length 1)));let q2:=(q0 ((2:Int)*r.g));let q3:=(R1.pure (Cd.t.and Cd.t) q1);let q4:=(1:Nat);let q5:=(A.p (V.c (W.sl 2 0 r.par.length 1)));let q6:=(R1.pure (Cd.t.and Cd.t) (nI r.g));let q7:=(0:Nat);let q8:=(R1.pure (Cd.t.and Cd.t) q5);q7+q4<=q4/\((0:Int)<=q0 ((2:Int)*r.g)/\q0 ((2:Int)*r.g)<=(100000:Int)/\q4<=(100000:Nat)/\q2.toNat*q4<=(1000000:Nat))/\(q7=q7/\r.rows.length=r.rows.length/\((2:Int)*r.g).toNat=q2.toNat*q4/\(pw (List.take q4 (List.drop q7 [(-1:Int)])) q2.toNat).length=q2.toNat*q4/\q7<q2.toNat*q4/\(r.rows.length+q4)*(24:Nat)<=(140737488355328:Nat))/\q3.v=q3.v/\q3.v=q3.v/\q3.v=q3.v/\q3.v=q3.v/\q6.v=q6.v/\q6.v=q6.v/\q7+q4<=q4/\(q7+r.par.length<=r.par.length/\(r.par.length+q4)*(8:Nat)<=(140737488355328:Nat))/\q8.v=q8.v/\q8.v=q8.v/\ak [V.c (W.int .i64 (q0 ((↑(r.rows.length+q4):Int)-(1:Int))))]=nI (r.rows.length:Int)/\[Ob.mk 98 [Fd.c (W.int .i64 r.g),Fd.c (W.rd (D.int .i64).sl r.av),Fd.c (W.rd (D.int .i64).sl r.sub),Fd.c (W.int .i64 r.au),Fd.c (W.int .i64 (max r.most (q0 (r.live+(1:Int))))),Fd.c (W.int .i64 (q0 (r.live+(1:Int)))),Fd.c (W.int .i64 r.stat),Fd.c (W.int .i64 r.ph),Fd.c (W.int .i64 r.co),Fd.c (W.int .i64 r.ix),Fd.c (W.sl (q7+q4) q7 (r.rows.length+q4) q4),Fd.c (W.sl (q7+q4+q4) q7 (r.par.length+q4) q4),Fd.c (W.sl (q7+q4+q4+q4) q7 r.dn q4)],Ob.mk 22 [Fd.c (W.th (q2.toNat*q4) (r.rows++[pw (List.take q4 (List.drop q7 [(-1:Int)])) q2.toNat]))],Ob.mk 3 [Fd.a 0 (D.int .i64) (List.take r.par.length (List.drop q7 r.par)++List.take q4 (List.drop q7 [(r.par.length:Int)]))],Ob.mk 3 [Fd.a 0 (D.int .i64) r.dl]]=obs (add r)) (by kernel_rfl)
 try simp only [true_and,Nat.zero_add,Nat.mul_one,List.drop_zero,List.take_length,List.take_succ_cons,List.take_zero,Nat.le_refl,Nat.reduceAdd]
 have rz:1<=r.g:=T.g1;have sy:r.g<=16:=T.g2;have hpl:r.par.length=r.rows.length:=T.len;have hlv:r.live=(al r.par:Nat):=T.live;have hal:=CJ r.par;rw [wrap64 (n:=2*r.g) (by omega) (by omega),wrap64 (n:=r.live+1) (by omega) (by omega),wrap64 (n:=((r.rows.length+1:Nat):Int)-1) (by omega) (by omega),Jd,show ((r.rows.length+1:Nat):Int)-1=r.rows.length by omega];refine ⟨⟨by omega,by omega,by omega,by omega⟩,⟨by omega,by rw [List.length_replicate],by omega,by omega⟩,by omega,rfl,?_⟩;simp only [obs,fZ,f6,add,List.length_append,List.length_singleton]
def sK (f:Rn->Prop×A×Rn):bw:={ refs:=[true],keep:=some 1,f:=fun args aj=>match args with
 | [.p (.c (.ptr 0 0))]=>match CN aj with
   | some (c,r)=>some (.p (c/\(f r).1),(f r).2.1,obs (f r).2.2)
   | none=>none
 | _=>none }
theorem oP {P:Program} {fn:FuncId} {f:Rn->Prop×A×Rn} (he:enters P fn=true) (h:∀ r,(f r).1->aX P fn 1 [pR] (obs r) (f r).2.1 (obs (f r).2.2)):aH P fn (sK f):=by
 refine ⟨he,fun args aj c r aR e hc=>?_⟩;simp only [sK] at e;split at e
 . split at e
   . rename_i c1 r1 hr;cases e;obtain ⟨h1,h2⟩:=hc;rw [p5 hr h1];exact h _ h2
   . cases e
 . cases e
def Oy:bw:=sK fun r=>(bS r/\r.rows.length<=900000,nI r.rows.length,add r)
theorem Je:aH Tryz.prog 46 Oy:=oP (by kernel_rfl) fun r h=>YZ r h.1 h.2
abbrev Jf (n:Int):Ob:=⟨3,[.c (.int .i64 n)]⟩
abbrev celR (k:Nat):Ob:=⟨37,[.c (.ptr k 0)]⟩
abbrev iS (r:Rn) (N q:Nat):List Ob:=[fZ r 4 5 6,celR 0,Jf ((N:Int)-q),Jf N,f6 r,bp r.par,bp r.dl]
abbrev FA (r:Rn) (N q:Nat):List Ob:=[celR 3,Jf ((N:Int)-q),Jf N,fZ r 4 5 6,f6 r,bp r.par,bp r.dl]
abbrev LY:A:=.p (.c (.func 48 [(1,0),(2,0),(3,0)]))
def fF (r:Rn) (q:Nat):Rn×Nat×Bool:=if r.au<=r.rows.length then ({ r with stat:=2 },q,false) else if q=0 then (r,0,false) else (r,q-1,true)
theorem Y0 (r:Rn) (N q:Nat) (h:q<=N/\N<=1000000):aX Tryz.prog 48 7 [.p (.c (.ptr 0 0)),.p (.c (.ptr 1 0)),.p (.c (.ptr 2 0))] (FA r N q) (bB (fF r q).2.2) (FA (fF r q).1 N (fF r q).2.1):=by
 refine bA (live:=[]) (bQ:=[]) (fz:=[]) ay Tryz.func48 (by kernel_rfl) 7 (by kernel_rfl) 100 ?_;apply of_eq (q:=let q1:=(1:Nat);let q2:=(W.sl ((0:Nat)+q1+q1+q1+q1+q1) (0:Nat) r.par.length q1);let q3:=(W.sl ((0:Nat)+q1+q1+q1+q1+q1+q1) (0:Nat) r.dn q1);let q4:=(W.sl ((0:Nat)+q1+q1+q1+q1) (0:Nat) r.rows.length q1);let q5:=(W.ptr ((0:Nat)+q1+q1+q1) (0:Nat));let q6:=(W.th ((2:Int)*r.g).toNat r.rows);let q7:=(W.rd (D.int .i64).sl r.av);let q8:=(W.rd (D.int .i64).sl r.sub);let q9:=(W.int .i64 (N:Int));(decide (r.au<=(r.rows.length:Int))=true->ak [V.c (W.bool false)]=bB (fF r q).snd.snd/\[Ob.mk 37 [Fd.c q5],Ob.mk 3 [Fd.c (W.int .i64 ((N:Int)-(q:Int)))],Ob.mk 3 [Fd.c q9],Ob.mk 98 [Fd.c (W.int .i64 r.g),Fd.c q7,Fd.c q8,Fd.c (W.int .i64 r.au),Fd.c (W.int .i64 r.most),Fd.c (W.int .i64 r.live),Fd.c (W.int .i64 (2)),Fd.c (W.int .i64 r.ph),Fd.c (W.int .i64 r.co),Fd.c (W.int .i64 r.ix),Fd.c q4,Fd.c q2,Fd.c q3],Ob.mk 22 [Fd.c q6],Ob.mk 3 [Fd.a 0 (D.int .i64) r.par],Ob.mk 3 [Fd.a 0 (D.int .i64) r.dl]]=FA (fF r q).fst N (fF r q).snd.fst)/\(decide (r.au<=(r.rows.length:Int))=false->(decide ((N:Int)-(q:Int)=(N:Int))=true->ak [V.c (W.bool false)]=bB (fF r q).snd.snd/\[Ob.mk 37 [Fd.c q5],Ob.mk 3 [Fd.c (W.int .i64 ((N:Int)-(q:Int)))],Ob.mk 3 [Fd.c q9],Ob.mk 98 [Fd.c (W.int .i64 r.g),Fd.c q7,Fd.c q8,Fd.c (W.int .i64 r.au),Fd.c (W.int .i64 r.most),Fd.c (W.int .i64 r.live),Fd.c (W.int .i64 r.stat),Fd.c (W.int .i64 r.ph),Fd.c (W.int .i64 r.co),Fd.c (W.int .i64 r.ix),Fd.c q4,Fd.c q2,Fd.c q3],Ob.mk 22 [Fd.c q6],Ob.mk 3 [Fd.a 0 (D.int .i64) r.par],Ob.mk 3 [Fd.a 0 (D.int .i64) r.dl]]=FA (fF r q).fst N (fF r q).snd.fst)/\(decide ((N:Int)-(q:Int)=(N:Int))=false->ak [V.c (W.bool true)]=bB (fF r q).snd.snd/\[Ob.mk 37 [Fd.c q5],Ob.mk 3 [Fd.c (W.int .i64 (IntKind.i64.wrap ((N:Int)-(q:Int)+(1:Int))))],Ob.mk 3 [Fd.c q9],Ob.mk 98 [Fd.c (W.int .i64 r.g),Fd.c q7,Fd.c q8,Fd.c (W.int .i64 r.au),Fd.c (W.int .i64 r.most),Fd.c (W.int .i64 r.live),Fd.c (W.int .i64 r.stat),Fd.c (W.int .i64 r.ph),Fd.c (W.int .i64 r.co),Fd.c (W.int .i64 r.ix),Fd.c q4,Fd.c q2,Fd.c q3],Ob.mk 22 [Fd.c q6],Ob.mk 3 [Fd.a 0 (D.int .i64) r.par],Ob.mk 3 [Fd.a 0 (D.int .i64) r.dl]]=FA (fF r q).fst N (fF r q).snd.fst))) (by kernel_rfl)
 try simp only [Nat.zero_add,decide_eq_true_eq,decide_eq_false_iff_not,Int.not_le,Nat.reduceAdd]
 refine ⟨fun h1=>?_,fun h1=>⟨fun h2=>?_,fun h2=>?_⟩⟩
 . rw [fF,if_pos h1];exact ⟨rfl,rfl⟩
 . have h0:q=0:=by omega
   subst h0;rw [fF,if_neg (by omega),if_pos rfl];exact ⟨rfl,rfl⟩
 . rw [fF,if_neg (by omega),if_neg (by omega),wrap64 (n:=(N:Int)-q+1) (by omega) (by omega),show (N:Int)-q+1=(N:Int)-((q-1:Nat):Int) by omega];exact ⟨rfl,rfl⟩
def Sc : List Ob → Option (Prop × Rn × Nat × Nat)
 | [a,⟨u,[.c (.ptr 0 0)]⟩,⟨u1,[.c (.int .i64 d)]⟩,⟨u2,[.c (.int .i64 n)]⟩,b,c,e] =>
   bif Nat.beq u 37&&(Nat.beq u1 3&&Nat.beq u2 3) then match IW 4 5 6 [a,b,c,e] with
    | some (p,r)=>some (p/\0<=d/\d<=n/\n<=1000000,r,n.toNat,(n-d).toNat)
    | none=>none
   else none
 | _=>none
theorem Jg {aj:List Ob} {c:Prop} {r:Rn} {N q:Nat} (e:Sc aj=some (c,r,N,q)) (hc:c):aj=iS r N q/\q<=N/\N<=1000000:=by
 unfold Sc at e;split at e
 . rename_i a u u1 d u2 n b c e';obtain ⟨hb,e1⟩:=ar.aD e;clear e;simp only [Bool.and_eq_true] at hb;obtain ⟨h1,h2,h3⟩:=hb;cases Nat.eq_of_beq_eq_true h1;cases Nat.eq_of_beq_eq_true h2;cases Nat.eq_of_beq_eq_true h3;split at e1
   . rename_i p r' hr;cases e1;obtain ⟨g1,g2,g3,g4⟩:=hc;have:=D7 hr g1;simp only [List.cons.injEq] at this;obtain ⟨rfl,rfl,rfl,rfl,_⟩:=this;refine ⟨?_,by omega,by omega⟩;rw [iS,show ((n.toNat:Nat):Int)-((n-d).toNat:Nat)=d by omega,show ((n.toNat:Nat):Int)=n by omega]
   . cases e1
 . cases e
def asC : List Ob → Option (Prop × Rn × Nat × Nat)
 | [⟨u,[.c (.ptr 3 0)]⟩,⟨u1,[.c (.int .i64 d)]⟩,⟨u2,[.c (.int .i64 n)]⟩,a,b,c,e] =>
   bif Nat.beq u 37&&(Nat.beq u1 3&&Nat.beq u2 3) then match IW 4 5 6 [a,b,c,e] with
    | some (p,r)=>some (p/\0<=d/\d<=n/\n<=1000000,r,n.toNat,(n-d).toNat)
    | none=>none
   else none
 | _=>none
theorem asC_eq {aj:List Ob} {c:Prop} {r:Rn} {N q:Nat} (e:asC aj=some (c,r,N,q)) (hc:c):aj=FA r N q/\q<=N/\N<=1000000:=by
 unfold asC at e;split at e
 . rename_i u u1 d u2 n a b c e';obtain ⟨hb,e1⟩:=ar.aD e;clear e;simp only [Bool.and_eq_true] at hb;obtain ⟨h1,h2,h3⟩:=hb;cases Nat.eq_of_beq_eq_true h1;cases Nat.eq_of_beq_eq_true h2;cases Nat.eq_of_beq_eq_true h3;split at e1
   . rename_i p r' hr;cases e1;obtain ⟨g1,g2,g3,g4⟩:=hc;have:=D7 hr g1;simp only [List.cons.injEq] at this;obtain ⟨rfl,rfl,rfl,rfl,_⟩:=this;refine ⟨?_,by omega,by omega⟩;rw [FA,show ((n.toNat:Nat):Int)-((n-d).toNat:Nat)=d by omega,show ((n.toNat:Nat):Int)=n by omega]
   . cases e1
 . cases e
def Oz:bw:={ refs:=[true,true,true],f:=fun args aj=>match args with
 | [.p (.c (.ptr 0 0)),.p (.c (.ptr 1 0)),.p (.c (.ptr 2 0))]=>match asC aj with
   | some (c,r,N,q)=>some (.p c,bB (fF r q).2.2,FA (fF r q).1 N (fF r q).2.1)
   | none=>none
 | _=>none }
theorem LZ:aH Tryz.prog 48 Oz:=by
 refine ⟨by kernel_rfl,fun args aj c r aR e hc=>?_⟩;simp only [Oz] at e;split at e
 . split at e
   . rename_i c1 r1 N q hr;cases e;obtain ⟨rfl,h1,h2⟩:=asC_eq hr hc;exact Y0 r1 N q ⟨h1,h2⟩
   . cases e
 . cases e
noncomputable def VG:bF:=[(134,XQ),(135,yp),(46,Oy),(48,Oz)]
theorem L5:aS Tryz.prog VG:=ai VE (ai sI (ai Je (ai LZ ay)))
noncomputable def sFil:Site:=aY Tryz.prog VG Tryz.f100 4 [([0,1],[0,1,2,3])] [] []
abbrev Sd (x:Rn×Nat×Bool) (N:Nat):A->List Ob->Prop:=ax (bB x.2.2) (iS x.1 N x.2.1)
theorem Jh (a : Nat) (w : List Int) (x : Rn × Nat × Bool) (N : Nat) (hN : N ≤ 1000000) : ∀ (q : Nat) (r : Rn), bS r → Wd r.g w → a < r.rows.length → r.rows.length ≤ r.au → r.au ≤ 900000 → q ≤ N → x = dh a w q r →
 aq sFil (Sd x N) [0,1] (fr [(0,pR),(1,nI a),(2,aZ w),(3,LY)]) (.ofList (iS r N q))
 | q, r, T, hw, ha, hl, hm, hq, hx => by
   refine aK L5 (by kernel_rfl) 100 ?_;apply of_eq (q:=let q3:=(scan r a w);let q4:=(1:Nat);let q6:=(0:Nat);let q7:=(2:Int);let q9:=(W.int .i64 (N:Int));let q1:=(fF q3.fst ((N:Int)-((N:Int)-(q:Int))).toNat);let q5:=(add q1.fst);let q8:=(W.int .i64 ((N:Int)-(↑q1.snd.fst:Int)));let q2:=(join q5 q3.snd.fst q3.snd.snd.fst q1.fst.rows.length);((r.rows.length=r.rows.length/\r.par.length=r.par.length/\(q7*r.g).toNat=(q7*r.g).toNat)/\(0:Int)<=(a:Int)/\bS r/\Wd r.g w/\a<r.rows.length)/\((!q3.snd.snd.snd)=true->ak [V.c (W.bool true)]=bB x.snd.snd/\[Ob.mk 98 [Fd.c (W.int .i64 q3.fst.g),Fd.c (W.rd (D.int .i64).sl q3.fst.av),Fd.c (W.rd (D.int .i64).sl q3.fst.sub),Fd.c (W.int .i64 q3.fst.au),Fd.c (W.int .i64 q3.fst.most),Fd.c (W.int .i64 q3.fst.live),Fd.c (W.int .i64 q3.fst.stat),Fd.c (W.int .i64 q3.fst.ph),Fd.c (W.int .i64 q3.fst.co),Fd.c (W.int .i64 q3.fst.ix),Fd.c (W.sl (q6+q4+q4+q4+q4) q6 q3.fst.rows.length q4),Fd.c (W.sl (q6+q4+q4+q4+q4+q4) q6 q3.fst.par.length q4),Fd.c (W.sl (q6+q4+q4+q4+q4+q4+q4) q6 q3.fst.dn q4)],Ob.mk 37 [Fd.c (W.ptr 0 0)],Ob.mk 3 [Fd.c (W.int .i64 ((N:Int)-(q:Int)))],Ob.mk 3 [Fd.c q9],Ob.mk 22 [Fd.c (W.th (q7*q3.fst.g).toNat q3.fst.rows)],Ob.mk 3 [Fd.a 0 (D.int .i64) q3.fst.par],Ob.mk 3 [Fd.a 0 (D.int .i64) q3.fst.dl]]=iS x.fst N x.snd.fst)/\((!q3.snd.snd.snd)=false->((q3.fst.rows.length=q3.fst.rows.length/\q3.fst.par.length=q3.fst.par.length/\(q7*q3.fst.g).toNat=(q7*q3.fst.g).toNat)/\(0:Int)<=(N:Int)-(q:Int)/\(N:Int)-(q:Int)<=(N:Int)/\(N:Int)<=(1000000:Int))/\((!q1.snd.snd)=true->ak [V.c (W.bool false)]=bB x.snd.snd/\[Ob.mk 98 [Fd.c (W.int .i64 q1.fst.g),Fd.c (W.rd (D.int .i64).sl q1.fst.av),Fd.c (W.rd (D.int .i64).sl q1.fst.sub),Fd.c (W.int .i64 q1.fst.au),Fd.c (W.int .i64 q1.fst.most),Fd.c (W.int .i64 q1.fst.live),Fd.c (W.int .i64 q1.fst.stat),Fd.c (W.int .i64 q1.fst.ph),Fd.c (W.int .i64 q1.fst.co),Fd.c (W.int .i64 q1.fst.ix),Fd.c (W.sl (q6+q4+q4+q4+q4) q6 q1.fst.rows.length q4),Fd.c (W.sl (q6+q4+q4+q4+q4+q4) q6 q1.fst.par.length q4),Fd.c (W.sl (q6+q4+q4+q4+q4+q4+q4) q6 q1.fst.dn q4)],Ob.mk 37 [Fd.c (W.ptr 0 0)],Ob.mk 3 [Fd.c q8],Ob.mk 3 [Fd.c q9],Ob.mk 22 [Fd.c (W.th (q7*q1.fst.g).toNat q1.fst.rows)],Ob.mk 3 [Fd.a 0 (D.int .i64) q1.fst.par],Ob.mk 3 [Fd.a 0 (D.int .i64) q1.fst.dl]]=iS x.fst N x.snd.fst)/\((!q1.snd.snd)=false->((q1.fst.rows.length=q1.fst.rows.length/\q1.fst.par.length=q1.fst.par.length/\(q7*q1.fst.g).toNat=(q7*q1.fst.g).toNat)/\bS q1.fst/\q1.fst.rows.length<=(900000:Nat))/\((q5.rows.length=q5.rows.length/\q5.par.length=q5.par.length/\(q7*q5.g).toNat=(q7*q5.g).toNat)/\(0:Int)<=(↑q3.snd.fst:Int)/\(0:Int)<=(↑q3.snd.snd.fst:Int)/\(0:Int)<=(↑q1.fst.rows.length:Int)/\q3.snd.fst<q5.rows.length/\q1.fst.rows.length<q5.rows.length/\q3.snd.snd.fst<(q7*q5.g).toNat/\q5.g<=(16:Int))/\aq sFil (Sd x N) [0,1] (fr [(0,A.p (V.c (W.ptr 0 0))),(1,nI (a:Int)),(2,aZ w),(3,A.p (V.c (W.func 48 [(1,q6),(2,q6),(3,q6)])))]) (ah.ofList [Ob.mk 98 [Fd.c (W.int .i64 q2.g),Fd.c (W.rd (D.int .i64).sl q2.av),Fd.c (W.rd (D.int .i64).sl q2.sub),Fd.c (W.int .i64 q2.au),Fd.c (W.int .i64 q2.most),Fd.c (W.int .i64 q2.live),Fd.c (W.int .i64 q2.stat),Fd.c (W.int .i64 q2.ph),Fd.c (W.int .i64 q2.co),Fd.c (W.int .i64 q2.ix),Fd.c (W.sl 4 0 q2.rows.length q4),Fd.c (W.sl 5 0 q2.par.length q4),Fd.c (W.sl 6 0 q2.dn q4)],Ob.mk 37 [Fd.c (W.ptr 0 0)],Ob.mk 3 [Fd.c q8],Ob.mk 3 [Fd.c q9],Ob.mk 22 [Fd.c (W.th (q7*q2.g).toNat q2.rows)],Ob.mk 3 [Fd.a 0 (D.int .i64) q2.par],Ob.mk 3 [Fd.a 0 (D.int .i64) q2.dl]])))) (by kernel_rfl)
   try simp only [true_and,and_true,Nat.zero_add,Bool.not_eq_true',Bool.not_eq_false',Nat.reduceAdd]
   have S:=qT T hw ha;have h1:=S.len;rw [show ((N:Int)-((N:Int)-(q:Int))).toNat=q by omega];have hx':x=if (scan r a w).2.2.2=false then ((scan r a w).1,q,true) else if (fF (scan r a w).1 q).2.2=false then ((fF (scan r a w).1 q).1,(fF (scan r a w).1 q).2.1,false) else dh a w (q-1) (grow (scan r a w).1 (scan r a w).2.1 (scan r a w).2.2.1):=by
    rw [hx];have hl:(scan r a w).1.au=r.au:=S.keep.2.2.2.1;cases q with
    | zero =>
      rw [dh,<-hl];unfold fF;split
      . rfl
      . split <;> rfl
    | succ q =>
      rw [dh,<-hl];unfold fF;split
      . rfl
      . split <;> rfl
   refine ⟨⟨by omega,T,hw,ha⟩,fun h=>?_,fun h=>⟨⟨by omega,by omega,by omega⟩,fun h2=>?_,fun h2=>?_⟩⟩
   . rw [if_pos h] at hx';rw [hx'];exact ⟨rfl,rfl⟩
   . rw [if_neg (by rw [h];simp),if_pos h2] at hx';rw [hx'];exact ⟨rfl,rfl⟩
   · rw [if_neg (by rw [h]; simp), if_neg (by rw [h2]; simp)] at hx'
     obtain ⟨o1,o2,o3⟩:=S.opn h;have hm2:(fF (scan r a w).1 q).1=(scan r a w).1/\(fF (scan r a w).1 q).2.1=q-1/\(scan r a w).1.rows.length<(scan r a w).1.au/\0<q:=by
      unfold fF at h2 ⊢;split
      . rename_i g;rw [if_pos g] at h2;cases h2
      . rename_i g;rw [if_neg g] at h2;split
        . rename_i g2;rw [if_pos g2] at h2;cases h2
        . exact ⟨rfl,rfl,by omega,by omega⟩
     obtain ⟨m1,m2,m3,m4⟩:=hm2;rw [m1,m2];have hs:(scan r a w).1.g=r.g:=S.keep.1;have hsl:(scan r a w).1.au=r.au:=S.keep.2.2.2.1;have al:=qR (scan r a w).1;obtain ⟨g1,g2,g3⟩:=nB S.fine (scan r a w).2.2.1 (show (scan r a w).2.1<(scan r a w).1.rows.length by omega) (by omega);have k:=S.keep.trans g3;have sy:r.g<=16:=T.g2;refine ⟨⟨S.fine,by omega⟩,⟨by omega,by omega,by omega,by omega,by omega,by rw [al.2,hs];exact o3,by rw [al.2,hs];exact sy⟩,?_⟩;cases q with
     | zero=>omega
     | succ q =>
       exact Jh a w x N hN q (grow (scan r a w).1 (scan r a w).2.1 (scan r a w).2.2.1) g1 (by rw [k.1];exact hw) (by omega) (by rw [k.2.2.2.1];omega) (by rw [k.2.2.2.1];exact hm) (by omega) hx'
theorem Y1 (r:Rn) (N q a:Nat) (w:List Int) (T:bS r) (hw:Wd r.g w) (h:a<r.rows.length/\r.rows.length<=r.au/\r.au<=900000/\q<=N/\N<=1000000):aX Tryz.prog 100 4 [pR,nI a,aZ w,LY] (iS r N q) (bB (dh a w q r).2.2) (iS (dh a w q r).1 N (dh a w q r).2.1):=by
 refine bA (live:=[([0,1],[0,1,2,3])]) (bQ:=[]) (fz:=[]) L5 Tryz.func100 (by kernel_rfl) 4 (by kernel_rfl) 100 ?_;apply of_eq (q:=aq (aY Tryz.prog VG Tryz.f100 (4:Nat) [([0,1],[0,1,2,3])] [] []) (ax (bB (dh a w q r).snd.snd) (iS (dh a w q r).fst N (dh a w q r).snd.fst)) [0,1] (fr [(0,A.p (V.c (W.ptr 0 0))),(1,nI (a:Int)),(2,aZ w),(3,A.p (V.c (W.func 48 [(1,(0:Nat)),(2,(0:Nat)),(3,(0:Nat))])))]) (ah.ofList [Ob.mk 98 [Fd.c (W.int .i64 r.g),Fd.c (W.rd (D.int .i64).sl r.av),Fd.c (W.rd (D.int .i64).sl r.sub),Fd.c (W.int .i64 r.au),Fd.c (W.int .i64 r.most),Fd.c (W.int .i64 r.live),Fd.c (W.int .i64 r.stat),Fd.c (W.int .i64 r.ph),Fd.c (W.int .i64 r.co),Fd.c (W.int .i64 r.ix),Fd.c (W.sl 4 0 r.rows.length 1),Fd.c (W.sl 5 0 r.par.length 1),Fd.c (W.sl 6 0 r.dn 1)],Ob.mk 37 [Fd.c (W.ptr 0 0)],Ob.mk 3 [Fd.c (W.int .i64 ((N:Int)-(q:Int)))],Ob.mk 3 [Fd.c (W.int .i64 (N:Int))],Ob.mk 22 [Fd.c (W.th ((2:Int)*r.g).toNat r.rows)],Ob.mk 3 [Fd.a 0 (D.int .i64) r.par],Ob.mk 3 [Fd.a 0 (D.int .i64) r.dl]])) (by kernel_rfl);exact Jh a w _ N h.2.2.2.2 q r T hw h.1 h.2.1 h.2.2.1 h.2.2.2.1 rfl
def OA:bw:={ refs:=[true,false,false,true],keep:=some 4,f:=fun args aj=>match args with
 | [.p (.c (.ptr 0 0)),.p (.c (.int .i64 a)),w,.p (.c (.func f [(1,0),(2,0),(3,0)]))]=>bif Nat.beq f 48 then match gb dI w,Sc aj with
   | some w,some (c,r,N,q)=>some (.p (c/\0<=a/\bS r/\Wd r.g w/\a.toNat<r.rows.length/\r.rows.length<=r.au/\r.au<=900000),bB (dh a.toNat w q r).2.2,iS (dh a.toNat w q r).1 N (dh a.toNat w q r).2.1)
   | _,_=>none
   else none
 | _=>none }
theorem VH:aH Tryz.prog 100 OA:=by
 refine ⟨by kernel_rfl,fun args aj c r aR e hc=>?_⟩;simp only [OA] at e;split at e
 . rename_i a w0 f;obtain ⟨hb,e1⟩:=ar.aD e;clear e;cases Nat.eq_of_beq_eq_true hb;split at e1
   . rename_i w c1 r1 N q hw hr;cases e1;obtain ⟨h1,h2,h3,h4,h5,h6,h7⟩:=hc;obtain ⟨rfl,g1,g2⟩:=Jg hr h1;have:=Y1 r1 N q a.toNat w h3 h4 ⟨h5,h6,h7,g1,g2⟩;rw [<-kY h2] at this;intro base η Z W vs R hvs hK
     match vs,hvs with
     | [u,v,t,s],⟨a1,a2,a3,a4,_⟩=>exact this base η Z W _ R ⟨a1,a2,ck hw a3,a4,trivial⟩ hK
   . cases e1
 . cases e
noncomputable def VI:bF:=[(135,yp),(46,Oy),(48,Oz)]
theorem L6:aS Tryz.prog VI:=ai sI (ai Je (ai LZ ay))
noncomputable def VJ:Site:=aY Tryz.prog VI Tryz.f101 4 [([0,1,0,1],[0,1,2,15,16])] [] []
theorem Bh (a G : Nat) (x : Rn × Nat × Bool) (N : Nat) (hN : N ≤ 1000000) : ∀ (f c q : Nat) (r : Rn), bS r → c + f = G → G = (2 * r.g).toNat → a < r.rows.length → r.rows.length ≤ r.au → r.au ≤ 900000 → q ≤ N → x = fE a f c r q →
 aq VJ (Sd x N) [0,1,0,1] (fr [(0,pR),(1,nI a),(2,LY),(15,nI G),(16,nI c)]) (.ofList (iS r N q))
 | f,c,q,r,T,hc,hG,ha,hl,hm,hq,hx=>by
   refine aK L6 (by kernel_rfl) 100 ?_;apply of_eq (q:=let q1:=(fF r ((N:Int)-((N:Int)-(q:Int))).toNat);let q4:=(1:Nat);let q5:=(0:Nat);let q6:=(W.int .i64 (N:Int));let q7:=(add q1.fst);let q8:=((2:Int)*r.g);let q9:=decide ((0:Int)<=(r.rows.getD (q5+a) []).getD c (0:Int));let aC:=(W.int .i64 ((N:Int)-(↑q1.snd.fst:Int)));let q2:=(join q7 a c q1.fst.rows.length);let q3:=(fr [(0,A.p (V.c (W.ptr 0 0))),(1,nI (a:Int)),(2,A.p (V.c (W.func 48 [(1,q5),(2,q5),(3,q5)]))),(15,nI (G:Int)),(16,nI (IntKind.i64.wrap ((c:Int)+(1:Int))))]);(decide ((c:Int)<(G:Int))=true->((0:Int)<=(a:Int)/\(a:Int)<(r.rows.length:Int))/\q5+a<r.rows.length/\((0:Int)<=(c:Int)/\(c:Int)<(↑q8.toNat:Int))/\(q5+a<r.rows.length/\c<q8.toNat)/\(q9=true->aq VJ (Sd x N) [0,1,0,1] q3 (ah.ofList [Ob.mk 98 [Fd.c (W.int .i64 r.g),Fd.c (W.rd (D.int .i64).sl r.av),Fd.c (W.rd (D.int .i64).sl r.sub),Fd.c (W.int .i64 r.au),Fd.c (W.int .i64 r.most),Fd.c (W.int .i64 r.live),Fd.c (W.int .i64 r.stat),Fd.c (W.int .i64 r.ph),Fd.c (W.int .i64 r.co),Fd.c (W.int .i64 r.ix),Fd.c (W.sl 4 0 r.rows.length 1),Fd.c (W.sl 5 0 r.par.length 1),Fd.c (W.sl 6 0 r.dn 1)],Ob.mk 37 [Fd.c (W.ptr 0 0)],Ob.mk 3 [Fd.c (W.int .i64 ((N:Int)-(q:Int)))],Ob.mk 3 [Fd.c q6],Ob.mk 22 [Fd.c (W.th q8.toNat r.rows)],Ob.mk 3 [Fd.a 0 (D.int .i64) r.par],Ob.mk 3 [Fd.a 0 (D.int .i64) r.dl]]))/\(q9=false->((r.rows.length=r.rows.length/\r.par.length=r.par.length/\q8.toNat=q8.toNat)/\(0:Int)<=(N:Int)-(q:Int)/\(N:Int)-(q:Int)<=(N:Int)/\(N:Int)<=(1000000:Int))/\((!q1.snd.snd)=true->ak [V.c (W.bool false)]=bB x.snd.snd/\[Ob.mk 98 [Fd.c (W.int .i64 q1.fst.g),Fd.c (W.rd (D.int .i64).sl q1.fst.av),Fd.c (W.rd (D.int .i64).sl q1.fst.sub),Fd.c (W.int .i64 q1.fst.au),Fd.c (W.int .i64 q1.fst.most),Fd.c (W.int .i64 q1.fst.live),Fd.c (W.int .i64 q1.fst.stat),Fd.c (W.int .i64 q1.fst.ph),Fd.c (W.int .i64 q1.fst.co),Fd.c (W.int .i64 q1.fst.ix),Fd.c (W.sl (q5+q4+q4+q4+q4) q5 q1.fst.rows.length q4),Fd.c (W.sl (q5+q4+q4+q4+q4+q4) q5 q1.fst.par.length q4),Fd.c (W.sl (q5+q4+q4+q4+q4+q4+q4) q5 q1.fst.dn q4)],Ob.mk 37 [Fd.c (W.ptr 0 0)],Ob.mk 3 [Fd.c aC],Ob.mk 3 [Fd.c q6],Ob.mk 22 [Fd.c (W.th ((2:Int)*q1.fst.g).toNat q1.fst.rows)],Ob.mk 3 [Fd.a 0 (D.int .i64) q1.fst.par],Ob.mk 3 [Fd.a 0 (D.int .i64) q1.fst.dl]]=iS x.fst N x.snd.fst)/\((!q1.snd.snd)=false->((q1.fst.rows.length=q1.fst.rows.length/\q1.fst.par.length=q1.fst.par.length/\((2:Int)*q1.fst.g).toNat=((2:Int)*q1.fst.g).toNat)/\bS q1.fst/\q1.fst.rows.length<=(900000:Nat))/\((q7.rows.length=q7.rows.length/\q7.par.length=q7.par.length/\((2:Int)*q7.g).toNat=((2:Int)*q7.g).toNat)/\(0:Int)<=(a:Int)/\(0:Int)<=(c:Int)/\(0:Int)<=(↑q1.fst.rows.length:Int)/\a<q7.rows.length/\q1.fst.rows.length<q7.rows.length/\c<((2:Int)*q7.g).toNat/\q7.g<=(16:Int))/\aq VJ (Sd x N) [0,1,0,1] q3 (ah.ofList [Ob.mk 98 [Fd.c (W.int .i64 q2.g),Fd.c (W.rd (D.int .i64).sl q2.av),Fd.c (W.rd (D.int .i64).sl q2.sub),Fd.c (W.int .i64 q2.au),Fd.c (W.int .i64 q2.most),Fd.c (W.int .i64 q2.live),Fd.c (W.int .i64 q2.stat),Fd.c (W.int .i64 q2.ph),Fd.c (W.int .i64 q2.co),Fd.c (W.int .i64 q2.ix),Fd.c (W.sl 4 0 q2.rows.length q4),Fd.c (W.sl 5 0 q2.par.length q4),Fd.c (W.sl 6 0 q2.dn q4)],Ob.mk 37 [Fd.c (W.ptr 0 0)],Ob.mk 3 [Fd.c aC],Ob.mk 3 [Fd.c q6],Ob.mk 22 [Fd.c (W.th ((2:Int)*q2.g).toNat q2.rows)],Ob.mk 3 [Fd.a 0 (D.int .i64) q2.par],Ob.mk 3 [Fd.a 0 (D.int .i64) q2.dl]]))))/\(decide ((c:Int)<(G:Int))=false->ak [V.c (W.bool true)]=bB x.snd.snd/\[Ob.mk 98 [Fd.c (W.int .i64 r.g),Fd.c (W.rd (D.int .i64).sl r.av),Fd.c (W.rd (D.int .i64).sl r.sub),Fd.c (W.int .i64 r.au),Fd.c (W.int .i64 r.most),Fd.c (W.int .i64 r.live),Fd.c (W.int .i64 r.stat),Fd.c (W.int .i64 r.ph),Fd.c (W.int .i64 r.co),Fd.c (W.int .i64 r.ix),Fd.c (W.sl (q5+q4+q4+q4+q4) q5 r.rows.length q4),Fd.c (W.sl (q5+q4+q4+q4+q4+q4) q5 r.par.length q4),Fd.c (W.sl (q5+q4+q4+q4+q4+q4+q4) q5 r.dn q4)],Ob.mk 37 [Fd.c (W.ptr 0 0)],Ob.mk 3 [Fd.c (W.int .i64 ((N:Int)-(q:Int)))],Ob.mk 3 [Fd.c q6],Ob.mk 22 [Fd.c (W.th q8.toNat r.rows)],Ob.mk 3 [Fd.a 0 (D.int .i64) r.par],Ob.mk 3 [Fd.a 0 (D.int .i64) r.dl]]=iS x.fst N x.snd.fst)) (by kernel_rfl)
   try simp only [true_and,and_true,Nat.zero_add,Bool.not_eq_true',Bool.not_eq_false',decide_eq_true_eq,decide_eq_false_iff_not,Int.not_lt,Int.not_le,Nat.reduceAdd]
   have rz:1<=r.g:=T.g1;have sy:r.g<=16:=T.g2;rw [show ((N:Int)-((N:Int)-(q:Int))).toNat=q by omega,wrap64 (n:=(c:Int)+1) (by omega) (by omega)];simp only [lQ];refine ⟨fun h=>?_,fun h=>?_⟩
   . cases f with
     | zero=>omega
     | succ f =>
     rw [fE] at hx;refine ⟨by omega,ha,by omega,by omega,fun h1=>?_,fun h1=>⟨⟨by omega,by omega,by omega⟩,fun h2=>?_,fun h2=>?_⟩⟩
     . rw [if_pos h1] at hx;exact Bh a G x N hN f (c+1) q r T (by omega) hG ha hl hm hq hx
     · rw [if_neg (by omega)] at hx
       have hx':x=((fF r q).1,(fF r q).2.1,false):=by
        rw [hx];unfold fF at h2 ⊢;split
        . rfl
        . split
          . rfl
          . rename_i g1 g2;rw [if_neg g1,if_neg g2] at h2;cases h2
       rw [hx'];exact ⟨rfl,rfl⟩
     · rw [if_neg (by omega)] at hx
       have hm2:(fF r q).1=r/\(fF r q).2.1=q-1/\r.rows.length<r.au/\0<q:=by
        unfold fF at h2 ⊢;split
        . rename_i g;rw [if_pos g] at h2;cases h2
        . rename_i g;rw [if_neg g] at h2;split
          . rename_i g2;rw [if_pos g2] at h2;cases h2
          . exact ⟨rfl,rfl,by omega,by omega⟩
       obtain ⟨m1,m2,m3,m4⟩:=hm2;rw [m1,m2];have al:=qR r;obtain ⟨g1,g2,g3⟩:=nB T c ha (by omega);rw [if_neg (by omega),if_neg (by omega)] at hx;refine ⟨⟨T,by omega⟩,⟨by omega,by omega,by omega,by omega,by omega,by rw [al.2];omega,by rw [al.2];exact sy⟩,?_⟩;exact Bh a G x N hN f (c+1) (q-1) (grow r a c) g1 (by omega) (by rw [g3.1];exact hG) (by omega) (by rw [g3.2.2.2.1];omega) (by rw [g3.2.2.2.1];exact hm) (by omega) hx
   . have:f=0:=by omega
     subst this;have hx:x=(r,q,true):=hx;rw [hx];exact ⟨rfl,rfl⟩
theorem Y2 (r:Rn) (N q a:Nat) (T:bS r) (h:a<r.rows.length/\r.rows.length<=r.au/\r.au<=900000/\q<=N/\N<=1000000):aX Tryz.prog 101 4 [pR,nI a,LY] (iS r N q) (bB (fE a (2*r.g).toNat 0 r q).2.2) (iS (fE a (2*r.g).toNat 0 r q).1 N (fE a (2*r.g).toNat 0 r q).2.1):=by
 refine bA (live:=[([0,1,0,1],[0,1,2,15,16])]) (bQ:=[]) (fz:=[]) L6 Tryz.func101 (by kernel_rfl) 4 (by kernel_rfl) 100 ?_;apply of_eq (q:=let q1:=(fE a ((2:Int)*r.g).toNat (0:Nat) r q);((0:Int)<=(a:Int)/\(a:Int)<(r.rows.length:Int))/\(0:Nat)+a<r.rows.length/\aq (aY Tryz.prog VI Tryz.f101 (4:Nat) [([0,1,0,1],[0,1,2,15,16])] [] []) (ax (bB q1.snd.snd) (iS q1.fst N q1.snd.fst)) [0,1,0,1] (fr [(0,A.p (V.c (W.ptr 0 0))),(1,nI (a:Int)),(2,A.p (V.c (W.func 48 [(1,(0:Nat)),(2,(0:Nat)),(3,(0:Nat))]))),(15,nI (↑((2:Int)*r.g).toNat:Int)),(16,nI (0))]) (ah.ofList [Ob.mk 98 [Fd.c (W.int .i64 r.g),Fd.c (W.rd (D.int .i64).sl r.av),Fd.c (W.rd (D.int .i64).sl r.sub),Fd.c (W.int .i64 r.au),Fd.c (W.int .i64 r.most),Fd.c (W.int .i64 r.live),Fd.c (W.int .i64 r.stat),Fd.c (W.int .i64 r.ph),Fd.c (W.int .i64 r.co),Fd.c (W.int .i64 r.ix),Fd.c (W.sl 4 0 r.rows.length 1),Fd.c (W.sl 5 0 r.par.length 1),Fd.c (W.sl 6 0 r.dn 1)],Ob.mk 37 [Fd.c (W.ptr 0 0)],Ob.mk 3 [Fd.c (W.int .i64 ((N:Int)-(q:Int)))],Ob.mk 3 [Fd.c (W.int .i64 (N:Int))],Ob.mk 22 [Fd.c (W.th ((2:Int)*r.g).toNat r.rows)],Ob.mk 3 [Fd.a 0 (D.int .i64) r.par],Ob.mk 3 [Fd.a 0 (D.int .i64) r.dl]])) (by kernel_rfl)
 try simp only [Nat.zero_add]
 exact ⟨by omega,h.1,Bh a _ _ N h.2.2.2.2 (2*r.g).toNat 0 q r T (by omega) rfl h.1 h.2.1 h.2.2.1 h.2.2.2.1 rfl⟩
def OB:bw:={ refs:=[true,false,true],keep:=some 4,f:=fun args aj=>match args with
 | [.p (.c (.ptr 0 0)),.p (.c (.int .i64 a)),.p (.c (.func f [(1,0),(2,0),(3,0)]))]=>bif Nat.beq f 48 then match Sc aj with
   | some (c,r,N,q)=>some (.p (c/\0<=a/\bS r/\a.toNat<r.rows.length/\r.rows.length<=r.au/\r.au<=900000),bB (fE a.toNat (2*r.g).toNat 0 r q).2.2,iS (fE a.toNat (2*r.g).toNat 0 r q).1 N (fE a.toNat (2*r.g).toNat 0 r q).2.1)
   | _=>none
   else none
 | _=>none }
theorem VK:aH Tryz.prog 101 OB:=by
 refine ⟨by kernel_rfl,fun args aj c r aR e hc=>?_⟩;simp only [OB] at e;split at e
 . rename_i a f;obtain ⟨hb,e1⟩:=ar.aD e;clear e;cases Nat.eq_of_beq_eq_true hb;split at e1
   . rename_i c1 r1 N q hr;cases e1;obtain ⟨h1,h2,h3,h5,h6,h7⟩:=hc;obtain ⟨rfl,g1,g2⟩:=Jg hr h1;have:=Y2 r1 N q a.toNat h3 ⟨h5,h6,h7,g1,g2⟩;rw [<-kY h2] at this;exact this
   . cases e1
 . cases e
end Go.Proofs.YtepmdidomecebaaGreatDoor
namespace Go.cG
def act (r:Rn) (q:Nat):Rn×Nat×Bool :=
 if r.ph=0/\(r.sub.length:Int)<=r.ix then ({ r with ph:=1,co:=0,ix:=0 },q,false)
 else if r.ph=0 then
  if (dh 0 (r.sub.getD r.ix.toNat []) q r).2.2=false then ((dh 0 (r.sub.getD r.ix.toNat []) q r).1,(dh 0 (r.sub.getD r.ix.toNat []) q r).2.1,true)
  else ({ (dh 0 (r.sub.getD r.ix.toNat []) q r).1 with ix:=r.ix+1 },(dh 0 (r.sub.getD r.ix.toNat []) q r).2.1,false)
 else if r.ph=2 then
  if (fE r.co.toNat (2*r.g).toNat 0 r q).2.2=false then ((fE r.co.toNat (2*r.g).toNat 0 r q).1,(fE r.co.toNat (2*r.g).toNat 0 r q).2.1,true)
  else ({ (fE r.co.toNat (2*r.g).toNat 0 r q).1 with ph:=1,co:=r.co+1,ix:=0 },(fE r.co.toNat (2*r.g).toNat 0 r q).2.1,false)
 else if r.co=r.rows.length then ({ r with ph:=3,co:=0,ix:=0,stat:=1 },q,true)
 else if ¬ (r.par.getD r.co.toNat 0=r.co) then ({ r with ph:=1,co:=r.co+1,ix:=0 },q,false)
 else if (r.av.length:Int)<=r.ix then ({ r with ph:=2,co:=r.co,ix:=0 },q,false)
 else if (dh r.co.toNat (r.av.getD r.ix.toNat []) q r).2.2=false then ((dh r.co.toNat (r.av.getD r.ix.toNat []) q r).1,(dh r.co.toNat (r.av.getD r.ix.toNat []) q r).2.1,true)
 else ({ (dh r.co.toNat (r.av.getD r.ix.toNat []) q r).1 with ix:=r.ix+1 },(dh r.co.toNat (r.av.getD r.ix.toNat []) q r).2.1,false)
structure dZ (r:Rn):Prop where
 fine:bS r
 n1:0<r.rows.length
 au:r.rows.length<=r.au
 OC:r.au<=900000
 av:∀ w∈r.av,Wd r.g w
 sub:∀ w∈r.sub,Wd r.g w
 nr:r.av.length<=1000
 ns:r.sub.length<=1000
 ph:r.ph=0∨r.ph=1∨r.ph=2
 co:0<=r.co/\r.co<=r.rows.length
 ix:0<=r.ix/\r.ix<=1000
 XT:r.ph=2->r.co<r.rows.length
def meas (r:Rn):Nat :=
 if r.ph=0 then (r.au.toNat+1)*(r.av.length+3)+3+(r.sub.length-r.ix.toNat)
 else if r.ph=1 then (r.au.toNat-r.co.toNat)*(r.av.length+3)+(r.av.length-r.ix.toNat)+2
 else (r.au.toNat-r.co.toNat)*(r.av.length+3)+1
structure Acted (r:Rn) (q:Nat) (x:Rn×Nat×Bool):Prop where
 fine:bS x.1
 len:x.1.rows.length+x.2.1=r.rows.length+q
 au:x.1.rows.length<=r.au
 grown:r.rows.length<=x.1.rows.length
 same:x.1.g=r.g/\x.1.av=r.av/\x.1.sub=r.sub/\x.1.au=r.au
 pos:(0<=x.1.ph/\x.1.ph<=3)/\(0<=x.1.co/\x.1.co<=x.1.rows.length)/\(0<=x.1.ix/\x.1.ix<=1000)
 go:x.2.2=false->dZ x.1/\meas x.1<meas r/\x.1.stat=r.stat
 stop:x.2.2=true->x.1.stat=1∨x.1.stat=2∨(x.1.stat=r.stat/\x.2.1=0/\dZ x.1)
theorem jX {l:List (List Int)} {i:Int} (h0:0<=i) (h:i<l.length):l.getD i.toNat []∈l:=fw (by omega)
theorem bS.place {r:Rn} (T:bS r) (p c i s:Int):bS { r with ph:=p,co:=c,ix:=i,stat:=s }:=⟨T.g1,T.g2,T.len,T.par,T.row,T.dy,T.dx,T.live,T.sum⟩
theorem mul_pred {a b:Nat} (h:0<a):a*b=(a-1)*b+b:=by
 obtain ⟨c,rfl⟩:∃ c,a=c+1:=⟨a-1,by omega⟩;rw [Nat.succ_mul];rfl
theorem yq {r:Rn} (G:dZ r) (q:Nat):Acted r q (act r q):=by
 have hg:=G.ix;have hc:=G.co;have hl:=G.au;have hl2:=G.OC;have FB:=G.ph;have sL:=G.nr;have hns:=G.ns;have hn1:=G.n1;unfold act;split
 . rename_i h;refine ⟨G.fine.place 1 0 0 r.stat,rfl,hl,Nat.le_refl _,⟨rfl,rfl,rfl,rfl⟩,⟨by simp only;omega,by simp only;omega,by simp only;omega⟩,fun _=>⟨⟨G.fine.place 1 0 0 r.stat,hn1,hl,hl2,G.av,G.sub,sL,hns,.inr (.inl rfl),by simp only;omega,by simp only;omega,fun h=>by simp only at h;omega⟩,?_,rfl⟩,fun h=>by cases h⟩;unfold meas;rw [if_pos h.1];simp only [Int.reduceEq,if_false,if_true];have:(r.au.toNat+1)*(r.av.length+3)=r.au.toNat*(r.av.length+3)+(r.av.length+3):=Nat.succ_mul _ _;have e:r.au.toNat-(0:Int).toNat=r.au.toNat:=rfl;rw [e];omega
 . rename_i h0;split
   . rename_i hp;have hi:r.ix<r.sub.length:=by omega
     have hw:=G.sub _ (jX hg.1 hi);have F:=oO (a:=0) (w:=r.sub.getD r.ix.toNat []) q G.fine hw hn1 hl hl2;generalize dh 0 (r.sub.getD r.ix.toNat []) q r=x at *;obtain ⟨k1,k2,k3,k4,k5,k6,k7,_⟩:=F.keep;simp only at k1 k2 k3 k4 k5 k6 k7;have f1:=F.len;have f2:=F.au;have f3:=F.grown;split
     . rename_i hx;refine ⟨F.fine,f1,f2,f3,⟨k1,k2,k3,k4⟩,⟨by simp only;omega,by simp only;omega,by simp only;omega⟩,fun h=>(by cases h),fun _=>?_⟩;rcases F.no hx with ⟨h1,_⟩ | ⟨h1,h2,h3⟩
       . exact .inr (.inl h1)
       . exact .inr (.inr ⟨h1,h2,⟨F.fine,by simp only;omega,by simp only;omega,by simp only;omega,by rw [k1,k2];exact G.av,by rw [k1,k3];exact G.sub,by rw [k2];exact sL,by rw [k3];exact hns,by rw [k5];exact FB,by simp only;omega,by simp only;omega,fun h=>by simp only at h;omega⟩⟩)
     . rename_i hx;have hx:x.2.2=true:=by simpa using hx
       refine ⟨F.fine.place x.1.ph x.1.co (r.ix+1) x.1.stat,f1,f2,f3,⟨k1,k2,k3,k4⟩,⟨by simp only;omega,by simp only;omega,by simp only;omega⟩,fun _=>⟨⟨F.fine.place x.1.ph x.1.co (r.ix+1) x.1.stat,by simp only;omega,by simp only;omega,by simp only;omega,by simp only;rw [k1,k2];exact G.av,by simp only;rw [k1,k3];exact G.sub,by simp only;rw [k2];exact sL,by simp only;rw [k3];exact hns,by simp only;rw [k5];exact FB,by simp only;omega,by simp only;omega,fun h=>by simp only at h;omega⟩,?_,F.yes hx⟩,fun h=>by cases h⟩;unfold meas;simp only;rw [k5,if_pos hp,if_pos hp,k4,k2,k3];omega
   . rename_i hp;split
     . rename_i hp2;have hco:=G.XT hp2;have F:=uD (a:=r.co.toNat) (2*r.g).toNat 0 q G.fine (by omega) (by omega) hl hl2;generalize fE r.co.toNat (2*r.g).toNat 0 r q=x at *;obtain ⟨k1,k2,k3,k4,k5,k6,k7,_⟩:=F.keep;simp only at k1 k2 k3 k4 k5 k6 k7;have f1:=F.len;have f2:=F.au;have f3:=F.grown;split
       . rename_i hx;refine ⟨F.fine,f1,f2,f3,⟨k1,k2,k3,k4⟩,⟨by simp only;omega,by simp only;omega,by simp only;omega⟩,fun h=>(by cases h),fun _=>?_⟩;rcases F.no hx with ⟨h1,_⟩ | ⟨h1,h2,h3⟩
         . exact .inr (.inl h1)
         . exact .inr (.inr ⟨h1,h2,⟨F.fine,by simp only;omega,by simp only;omega,by simp only;omega,by rw [k1,k2];exact G.av,by rw [k1,k3];exact G.sub,by rw [k2];exact sL,by rw [k3];exact hns,by rw [k5];exact FB,by simp only;omega,by simp only;omega,fun h=>by simp only;omega⟩⟩)
       . rename_i hx;have hx:x.2.2=true:=by simpa using hx
         refine ⟨F.fine.place 1 (r.co+1) 0 x.1.stat,f1,f2,f3,⟨k1,k2,k3,k4⟩,⟨by simp only;omega,by simp only;omega,by simp only;omega⟩,fun _=>⟨⟨F.fine.place 1 (r.co+1) 0 x.1.stat,by simp only;omega,by simp only;omega,by simp only;omega,by simp only;rw [k1,k2];exact G.av,by simp only;rw [k1,k3];exact G.sub,by simp only;rw [k2];exact sL,by simp only;rw [k3];exact hns,.inr (.inl rfl),by simp only;omega,by simp only;omega,fun h=>by simp only at h;omega⟩,?_,F.yes hx⟩,fun h=>by cases h⟩;unfold meas;simp only [Int.reduceEq,if_false,if_true];rw [if_neg hp,if_neg (by omega),k4,k2];have:=mul_pred (a:=r.au.toNat-r.co.toNat) (b:=r.av.length+3) (by omega);rw [show r.au.toNat-(r.co+1).toNat=r.au.toNat-r.co.toNat-1 by omega];have e:r.av.length-(0:Int).toNat=r.av.length:=rfl;omega
     . rename_i hp2;have hp1:r.ph=1:=by omega
       split
       . exact ⟨G.fine.place 3 0 0 1,rfl,hl,Nat.le_refl _,⟨rfl,rfl,rfl,rfl⟩,⟨by simp only;omega,by simp only;omega,by simp only;omega⟩,fun h=>(by cases h),fun _=>.inl rfl⟩
       . rename_i hne;have hlt:r.co<r.rows.length:=by omega
         split
         . refine ⟨G.fine.place 1 (r.co+1) 0 r.stat,rfl,hl,Nat.le_refl _,⟨rfl,rfl,rfl,rfl⟩,⟨by simp only;omega,by simp only;omega,by simp only;omega⟩,fun _=>⟨⟨G.fine.place 1 (r.co+1) 0 r.stat,hn1,hl,hl2,G.av,G.sub,sL,hns,.inr (.inl rfl),by simp only;omega,by simp only;omega,fun h=>by simp only at h;omega⟩,?_,rfl⟩,fun h=>by cases h⟩;unfold meas;simp only [Int.reduceEq,if_false,if_true];rw [if_neg hp,if_pos hp1];have:=mul_pred (a:=r.au.toNat-r.co.toNat) (b:=r.av.length+3) (by omega);rw [show r.au.toNat-(r.co+1).toNat=r.au.toNat-r.co.toNat-1 by omega];have e:r.av.length-(0:Int).toNat=r.av.length:=rfl;omega
         . split
           . refine ⟨G.fine.place 2 r.co 0 r.stat,rfl,hl,Nat.le_refl _,⟨rfl,rfl,rfl,rfl⟩,⟨by simp only;omega,by simp only;omega,by simp only;omega⟩,fun _=>⟨⟨G.fine.place 2 r.co 0 r.stat,hn1,hl,hl2,G.av,G.sub,sL,hns,.inr (.inr rfl),by simp only;omega,by simp only;omega,fun _=>hlt⟩,?_,rfl⟩,fun h=>by cases h⟩;unfold meas;simp only [Int.reduceEq,if_false];rw [if_neg hp,if_pos hp1];omega
           . rename_i hal hi;have hi:r.ix<r.av.length:=by omega
             have hw:=G.av _ (jX hg.1 hi);have F:=oO (a:=r.co.toNat) (w:=r.av.getD r.ix.toNat []) q G.fine hw (by omega) hl hl2;generalize dh r.co.toNat (r.av.getD r.ix.toNat []) q r=x at *;obtain ⟨k1,k2,k3,k4,k5,k6,k7,_⟩:=F.keep;simp only at k1 k2 k3 k4 k5 k6 k7;have f1:=F.len;have f2:=F.au;have f3:=F.grown;split
             . rename_i hx;refine ⟨F.fine,f1,f2,f3,⟨k1,k2,k3,k4⟩,⟨by simp only;omega,by simp only;omega,by simp only;omega⟩,fun h=>(by cases h),fun _=>?_⟩;rcases F.no hx with ⟨h1,_⟩ | ⟨h1,h2,h3⟩
               . exact .inr (.inl h1)
               . exact .inr (.inr ⟨h1,h2,⟨F.fine,by simp only;omega,by simp only;omega,by simp only;omega,by rw [k1,k2];exact G.av,by rw [k1,k3];exact G.sub,by rw [k2];exact sL,by rw [k3];exact hns,by rw [k5];exact FB,by simp only;omega,by simp only;omega,fun h=>by simp only at h;omega⟩⟩)
             . rename_i hx;have hx:x.2.2=true:=by simpa using hx
               refine ⟨F.fine.place x.1.ph x.1.co (r.ix+1) x.1.stat,f1,f2,f3,⟨k1,k2,k3,k4⟩,⟨by simp only;omega,by simp only;omega,by simp only;omega⟩,fun _=>⟨⟨F.fine.place x.1.ph x.1.co (r.ix+1) x.1.stat,by simp only;omega,by simp only;omega,by simp only;omega,by simp only;rw [k1,k2];exact G.av,by simp only;rw [k1,k3];exact G.sub,by simp only;rw [k2];exact sL,by simp only;rw [k3];exact hns,by simp only;rw [k5];exact FB,by simp only;omega,by simp only;omega,fun h=>by simp only at h;omega⟩,?_,F.yes hx⟩,fun h=>by cases h⟩;unfold meas;simp only;rw [k5,if_neg hp,if_pos hp1,if_neg hp,if_pos hp1,k4,k6,k2];omega
def jS:Nat->Rn->Nat->Option (Rn×Nat)
 | 0,_,_=>none
 | f+1,r,q=>if (act r q).2.2=true then some ((act r q).1,(act r q).2.1) else jS f (act r q).1 (act r q).2.1
theorem nC:∀ (f:Nat) {r:Rn} (q:Nat),dZ r->meas r<f->∃ y,jS f r q=some y
 | 0,_,_,_,h=>by omega
 | f + 1, r, q, G, h => by
   have A:=yq G q;rw [jS];split
   . exact ⟨_,rfl⟩
   . rename_i hx;obtain ⟨g1,g2,_⟩:=A.go (by simpa using hx);exact nC f _ g1 (by omega)
theorem yt:∀ (f k:Nat) {r:Rn} {q:Nat} {y},jS f r q=some y->jS (f+k) r q=some y
 | 0,_,_,_,_,h=>by cases h
 | f+1,k,r,q,y,h=>by
   rw [show f+1+k=(f+k)+1 by omega,jS];rw [jS] at h;split
   . rename_i hx;rw [if_pos hx] at h;exact h
   . rename_i hx;rw [if_neg hx] at h;exact yt f k h
theorem VL {f f':Nat} {r:Rn} {q:Nat} {y y'} (h:jS f r q=some y) (h':jS f' r q=some y'):y=y':=by
 have h1:=yt f f' h;have h2:=yt f' f h';rw [Nat.add_comm] at h2;rw [h1] at h2;exact Option.some.inj h2
def run (r:Rn) (q:Nat):Rn×Nat:=(jS (meas r+1) r q).getD (r,q)
theorem CP {f:Nat} {r:Rn} {q:Nat} {y} (G:dZ r) (h:jS f r q=some y):run r q=y:=by
 obtain ⟨z,hz⟩:=nC (meas r+1) q G (by omega);unfold run;rw [hz];exact VL hz h
structure Ran (r:Rn) (q:Nat) (x:Rn×Nat):Prop where
 fine:bS x.1
 len:x.1.rows.length+x.2=r.rows.length+q
 au:x.1.rows.length<=r.au
 grown:r.rows.length<=x.1.rows.length
 same:x.1.g=r.g/\x.1.av=r.av/\x.1.sub=r.sub/\x.1.au=r.au
 pos:(0<=x.1.ph/\x.1.ph<=3)/\(0<=x.1.co/\x.1.co<=x.1.rows.length)/\(0<=x.1.ix/\x.1.ix<=1000)
 stop:x.1.stat=1∨x.1.stat=2∨(x.1.stat=r.stat/\x.2=0/\dZ x.1)
theorem L7:∀ (f:Nat) {r:Rn} {q:Nat} {y},dZ r->jS f r q=some y->Ran r q y
 | 0,_,_,_,_,h=>by cases h
 | f + 1, r, q, y, G, h => by
   have A:=yq G q;rw [jS] at h;split at h
   . rename_i hx;cases h;exact ⟨A.fine,A.len,A.au,A.grown,A.same,A.pos,A.stop hx⟩
   . rename_i hx;obtain ⟨g1,_,g3⟩:=A.go (by simpa using hx);have R:=L7 f g1 h;obtain ⟨s1,s2,s3,s4⟩:=A.same;obtain ⟨t1,t2,t3,t4⟩:=R.same;have a1:=A.len;have a2:=A.grown;have r1:=R.len;have r2:=R.grown;have r3:=R.au;rw [s4] at r3;refine ⟨R.fine,by omega,r3,by omega,⟨t1.trans s1,t2.trans s2,t3.trans s3,t4.trans s4⟩,R.pos,?_⟩;have:=R.stop;rw [g3] at this;exact this
theorem run_ok {r:Rn} (G:dZ r) (q:Nat):Ran r q (run r q):=by
 obtain ⟨z,hz⟩:=nC (meas r+1) q G (by omega);rw [CP G hz];exact L7 _ G hz
def Pre (a c:Nat) (r:Rn):Prop:=∀ i,i<c->0<=bD r.rows a i
theorem VN {r:Rn} (T:bS r) {a c:Nat} (ha:a<r.rows.length) (hc:c<(2*r.g).toNat) (h:Pre a c r):Pre a (c+1) (grow r a c):=by
 intro i hi;have hrow:∀ l∈r.rows,Row (2*r.g).toNat r.rows.length l:=T.row;have e:(add r).rows.getD a []=r.rows.getD a []:=by
  show (r.rows++[_]).getD a []=_;rw [List.getD_eq_getElem?_getD,List.getElem?_append_left ha,<-List.getD_eq_getElem?_getD]
 have hl:=qR r;show 0<=((jE (jE (add r).rows a c r.rows.length) r.rows.length (cw c) a).getD a []).getD i 0;unfold jE;rw [vP,if_neg (by omega),vP,if_pos ⟨rfl,by omega⟩,e,ku];split
 . omega
 . rename_i hne;have hlen:=(hrow _ (fw ha)).1;exact h i (by omega)
end Go.cG
namespace Go.Proofs.YtepmdidomecebaaGreatDoor
open Go.aJ Go.Words Go.cG
set_option maxRecDepth 100000
noncomputable def gAc:bF:=[(100,OA),(101,OB),(64,IZ)]
theorem gAc_ok:aS Tryz.prog gAc:=ai VH (ai VK (ai Fz ay))
theorem Y3 (r:Rn) (N q:Nat) (G:dZ r) (h:q<=N/\N<=1000000):aX Tryz.prog 49 4 [pR,LY] (iS r N q) (bB (act r q).2.2) (iS (act r q).1 N (act r q).2.1):=by
 refine bA (live:=[]) (bQ:=[]) (fz:=[]) gAc_ok Tryz.func49 (by kernel_rfl) 4 (by kernel_rfl) 100 ?_;apply of_eq (q:=let q0:=IntKind.i64.wrap;let q5:=(1:Nat);let q6:=decide (r.ph=(0:Int));let q9:=(cG.act r q);let aQ:=(0:Nat);let bg:=((2:Int)*r.g);let aV:=(W.int .i64 (0));let aU:=(W.rd (D.int .i64).sl r.av);let bJ:=(W.rd (D.int .i64).sl r.sub);let bK:=(N:Int);let cr:=(r.rows.length:Int);let cD:=(W.int .i64 r.most);let gG:=(W.int .i64 r.live);let dA:=(W.int .i64 r.au);let fB:=(W.ptr 0 0);let eC:=(W.int .i64 r.g);let ez:=(W.int .i64 (1));let jy:=(W.th bg.toNat r.rows);let sM:=decide (r.par.getD r.co.toNat (0:Int)=(r.co.toNat:Int));let nZ:=(W.bool false);let q1:=(bK-(bK-(q:Int)));let q2:=(fE r.co.toNat bg.toNat aQ r q1.toNat);let q3:=(dh r.co.toNat (r.av.getD r.ix.toNat []) q1.toNat r);let q4:=(dh aQ (r.sub.getD r.ix.toNat []) q1.toNat r);let q7:=(aQ+q5+q5+q5+q5+q5+q5);let q8:=(aQ+q5+q5+q5+q5+q5);let aC:=(aQ+q5+q5+q5+q5);let aM:=(W.int .i64 bK);let br:=(W.int .i64 (bK-(q:Int)));let dm:=(W.sl aC aQ r.rows.length q5);let ct:=(W.sl q8 aQ r.par.length q5);let n8:=(W.sl q7 aQ r.dn q5);(q6=true->q6=true)/\(q6=true->q6=true)/\(q6=true->q6=true)/\(q6=true->q6=true)/\(q6=true->q6=true)/\(q6=true->q6=true)/\(q6=true->q6=true)/\(q6=true->q6=true)/\(q6=true->q6=true)/\(q6=true->q6=true)/\((bif q6 then decide ((r.sub.length:Int)<=r.ix) else false)=true->ak [V.c nZ]=bB q9.snd.snd/\[Ob.mk 98 [Fd.c eC,Fd.c aU,Fd.c bJ,Fd.c dA,Fd.c cD,Fd.c gG,Fd.c (W.int .i64 r.stat),Fd.c ez,Fd.c aV,Fd.c aV,Fd.c dm,Fd.c ct,Fd.c n8],Ob.mk 37 [Fd.c fB],Ob.mk 3 [Fd.c br],Ob.mk 3 [Fd.c aM],Ob.mk 22 [Fd.c jy],Ob.mk 3 [Fd.a 0 (D.int .i64) r.par],Ob.mk 3 [Fd.a 0 (D.int .i64) r.dl]]=iS q9.fst N q9.snd.fst)/\((bif q6 then decide ((r.sub.length:Int)<=r.ix) else false)=false->(q6=true->((0:Int)<=r.ix/\r.ix<(r.sub.length:Int))/\r.ix.toNat<r.sub.length/\(((r.rows.length=r.rows.length/\r.par.length=r.par.length/\bg.toNat=bg.toNat)/\(0:Int)<=bK-(q:Int)/\bK-(q:Int)<=bK/\bK<=(1000000:Int))/\(0:Int)<=(0:Int)/\bS r/\Wd r.g (r.sub.getD r.ix.toNat [])/\aQ<r.rows.length/\cr<=r.au/\r.au<=(900000:Int))/\((!q4.snd.snd)=true->ak [V.c (W.bool true)]=bB q9.snd.snd/\[Ob.mk 98 [Fd.c (W.int .i64 q4.fst.g),Fd.c (W.rd (D.int .i64).sl q4.fst.av),Fd.c (W.rd (D.int .i64).sl q4.fst.sub),Fd.c (W.int .i64 q4.fst.au),Fd.c (W.int .i64 q4.fst.most),Fd.c (W.int .i64 q4.fst.live),Fd.c (W.int .i64 q4.fst.stat),Fd.c (W.int .i64 q4.fst.ph),Fd.c (W.int .i64 q4.fst.co),Fd.c (W.int .i64 q4.fst.ix),Fd.c (W.sl aC aQ q4.fst.rows.length q5),Fd.c (W.sl q8 aQ q4.fst.par.length q5),Fd.c (W.sl q7 aQ q4.fst.dn q5)],Ob.mk 37 [Fd.c fB],Ob.mk 3 [Fd.c (W.int .i64 (bK-(↑q4.snd.fst:Int)))],Ob.mk 3 [Fd.c aM],Ob.mk 22 [Fd.c (W.th ((2:Int)*q4.fst.g).toNat q4.fst.rows)],Ob.mk 3 [Fd.a 0 (D.int .i64) q4.fst.par],Ob.mk 3 [Fd.a 0 (D.int .i64) q4.fst.dl]]=iS q9.fst N q9.snd.fst)/\((!q4.snd.snd)=false->ak [V.c nZ]=bB q9.snd.snd/\[Ob.mk 98 [Fd.c (W.int .i64 q4.fst.g),Fd.c (W.rd (D.int .i64).sl q4.fst.av),Fd.c (W.rd (D.int .i64).sl q4.fst.sub),Fd.c (W.int .i64 q4.fst.au),Fd.c (W.int .i64 q4.fst.most),Fd.c (W.int .i64 q4.fst.live),Fd.c (W.int .i64 q4.fst.stat),Fd.c (W.int .i64 q4.fst.ph),Fd.c (W.int .i64 q4.fst.co),Fd.c (W.int .i64 (q0 (q4.fst.ix+(1:Int)))),Fd.c (W.sl aC aQ q4.fst.rows.length q5),Fd.c (W.sl q8 aQ q4.fst.par.length q5),Fd.c (W.sl q7 aQ q4.fst.dn q5)],Ob.mk 37 [Fd.c fB],Ob.mk 3 [Fd.c (W.int .i64 (bK-(↑q4.snd.fst:Int)))],Ob.mk 3 [Fd.c aM],Ob.mk 22 [Fd.c (W.th ((2:Int)*q4.fst.g).toNat q4.fst.rows)],Ob.mk 3 [Fd.a 0 (D.int .i64) q4.fst.par],Ob.mk 3 [Fd.a 0 (D.int .i64) q4.fst.dl]]=iS q9.fst N q9.snd.fst))/\(q6=false->(decide (r.ph=(2:Int))=true->(((r.rows.length=r.rows.length/\r.par.length=r.par.length/\bg.toNat=bg.toNat)/\(0:Int)<=bK-(q:Int)/\bK-(q:Int)<=bK/\bK<=(1000000:Int))/\(0:Int)<=r.co/\bS r/\r.co.toNat<r.rows.length/\cr<=r.au/\r.au<=(900000:Int))/\((!q2.snd.snd)=true->ak [V.c (W.bool true)]=bB q9.snd.snd/\[Ob.mk 98 [Fd.c (W.int .i64 q2.fst.g),Fd.c (W.rd (D.int .i64).sl q2.fst.av),Fd.c (W.rd (D.int .i64).sl q2.fst.sub),Fd.c (W.int .i64 q2.fst.au),Fd.c (W.int .i64 q2.fst.most),Fd.c (W.int .i64 q2.fst.live),Fd.c (W.int .i64 q2.fst.stat),Fd.c (W.int .i64 q2.fst.ph),Fd.c (W.int .i64 q2.fst.co),Fd.c (W.int .i64 q2.fst.ix),Fd.c (W.sl aC aQ q2.fst.rows.length q5),Fd.c (W.sl q8 aQ q2.fst.par.length q5),Fd.c (W.sl q7 aQ q2.fst.dn q5)],Ob.mk 37 [Fd.c fB],Ob.mk 3 [Fd.c (W.int .i64 (bK-(↑q2.snd.fst:Int)))],Ob.mk 3 [Fd.c aM],Ob.mk 22 [Fd.c (W.th ((2:Int)*q2.fst.g).toNat q2.fst.rows)],Ob.mk 3 [Fd.a 0 (D.int .i64) q2.fst.par],Ob.mk 3 [Fd.a 0 (D.int .i64) q2.fst.dl]]=iS q9.fst N q9.snd.fst)/\((!q2.snd.snd)=false->ak [V.c nZ]=bB q9.snd.snd/\[Ob.mk 98 [Fd.c (W.int .i64 q2.fst.g),Fd.c (W.rd (D.int .i64).sl q2.fst.av),Fd.c (W.rd (D.int .i64).sl q2.fst.sub),Fd.c (W.int .i64 q2.fst.au),Fd.c (W.int .i64 q2.fst.most),Fd.c (W.int .i64 q2.fst.live),Fd.c (W.int .i64 q2.fst.stat),Fd.c ez,Fd.c (W.int .i64 (q0 (q2.fst.co+(1:Int)))),Fd.c aV,Fd.c (W.sl aC aQ q2.fst.rows.length q5),Fd.c (W.sl q8 aQ q2.fst.par.length q5),Fd.c (W.sl q7 aQ q2.fst.dn q5)],Ob.mk 37 [Fd.c fB],Ob.mk 3 [Fd.c (W.int .i64 (bK-(↑q2.snd.fst:Int)))],Ob.mk 3 [Fd.c aM],Ob.mk 22 [Fd.c (W.th ((2:Int)*q2.fst.g).toNat q2.fst.rows)],Ob.mk 3 [Fd.a 0 (D.int .i64) q2.fst.par],Ob.mk 3 [Fd.a 0 (D.int .i64) q2.fst.dl]]=iS q9.fst N q9.snd.fst))/\(decide (r.ph=(2:Int))=false->(decide (r.co=cr)=true->ak [V.c (W.bool true)]=bB q9.snd.snd/\[Ob.mk 98 [Fd.c eC,Fd.c aU,Fd.c bJ,Fd.c dA,Fd.c cD,Fd.c gG,Fd.c ez,Fd.c (W.int .i64 (3)),Fd.c aV,Fd.c aV,Fd.c dm,Fd.c ct,Fd.c n8],Ob.mk 37 [Fd.c fB],Ob.mk 3 [Fd.c br],Ob.mk 3 [Fd.c aM],Ob.mk 22 [Fd.c jy],Ob.mk 3 [Fd.a 0 (D.int .i64) r.par],Ob.mk 3 [Fd.a 0 (D.int .i64) r.dl]]=iS q9.fst N q9.snd.fst)/\(decide (r.co=cr)=false->((r.rows.length=r.rows.length/\r.par.length=r.par.length/\bg.toNat=bg.toNat)/\(0:Int)<=r.co/\r.co.toNat<r.par.length)/\((!sM)=true->ak [V.c nZ]=bB q9.snd.snd/\[Ob.mk 98 [Fd.c eC,Fd.c aU,Fd.c bJ,Fd.c dA,Fd.c cD,Fd.c gG,Fd.c (W.int .i64 r.stat),Fd.c ez,Fd.c (W.int .i64 (q0 (r.co+(1:Int)))),Fd.c aV,Fd.c dm,Fd.c ct,Fd.c n8],Ob.mk 37 [Fd.c fB],Ob.mk 3 [Fd.c br],Ob.mk 3 [Fd.c aM],Ob.mk 22 [Fd.c jy],Ob.mk 3 [Fd.a 0 (D.int .i64) r.par],Ob.mk 3 [Fd.a 0 (D.int .i64) r.dl]]=iS q9.fst N q9.snd.fst)/\((!sM)=false->(decide ((r.av.length:Int)<=r.ix)=true->ak [V.c nZ]=bB q9.snd.snd/\[Ob.mk 98 [Fd.c eC,Fd.c aU,Fd.c bJ,Fd.c dA,Fd.c cD,Fd.c gG,Fd.c (W.int .i64 r.stat),Fd.c (W.int .i64 (2)),Fd.c (W.int .i64 r.co),Fd.c aV,Fd.c dm,Fd.c ct,Fd.c n8],Ob.mk 37 [Fd.c fB],Ob.mk 3 [Fd.c br],Ob.mk 3 [Fd.c aM],Ob.mk 22 [Fd.c jy],Ob.mk 3 [Fd.a 0 (D.int .i64) r.par],Ob.mk 3 [Fd.a 0 (D.int .i64) r.dl]]=iS q9.fst N q9.snd.fst)/\(decide ((r.av.length:Int)<=r.ix)=false->((0:Int)<=r.ix/\r.ix<(r.av.length:Int))/\r.ix.toNat<r.av.length/\(((r.rows.length=r.rows.length/\r.par.length=r.par.length/\bg.toNat=bg.toNat)/\(0:Int)<=bK-(q:Int)/\bK-(q:Int)<=bK/\bK<=(1000000:Int))/\(0:Int)<=r.co/\bS r/\Wd r.g (r.av.getD r.ix.toNat [])/\r.co.toNat<r.rows.length/\cr<=r.au/\r.au<=(900000:Int))/\((!q3.snd.snd)=true->ak [V.c (W.bool true)]=bB q9.snd.snd/\[Ob.mk 98 [Fd.c (W.int .i64 q3.fst.g),Fd.c (W.rd (D.int .i64).sl q3.fst.av),Fd.c (W.rd (D.int .i64).sl q3.fst.sub),Fd.c (W.int .i64 q3.fst.au),Fd.c (W.int .i64 q3.fst.most),Fd.c (W.int .i64 q3.fst.live),Fd.c (W.int .i64 q3.fst.stat),Fd.c (W.int .i64 q3.fst.ph),Fd.c (W.int .i64 q3.fst.co),Fd.c (W.int .i64 q3.fst.ix),Fd.c (W.sl aC aQ q3.fst.rows.length q5),Fd.c (W.sl q8 aQ q3.fst.par.length q5),Fd.c (W.sl q7 aQ q3.fst.dn q5)],Ob.mk 37 [Fd.c fB],Ob.mk 3 [Fd.c (W.int .i64 (bK-(↑q3.snd.fst:Int)))],Ob.mk 3 [Fd.c aM],Ob.mk 22 [Fd.c (W.th ((2:Int)*q3.fst.g).toNat q3.fst.rows)],Ob.mk 3 [Fd.a 0 (D.int .i64) q3.fst.par],Ob.mk 3 [Fd.a 0 (D.int .i64) q3.fst.dl]]=iS q9.fst N q9.snd.fst)/\((!q3.snd.snd)=false->ak [V.c nZ]=bB q9.snd.snd/\[Ob.mk 98 [Fd.c (W.int .i64 q3.fst.g),Fd.c (W.rd (D.int .i64).sl q3.fst.av),Fd.c (W.rd (D.int .i64).sl q3.fst.sub),Fd.c (W.int .i64 q3.fst.au),Fd.c (W.int .i64 q3.fst.most),Fd.c (W.int .i64 q3.fst.live),Fd.c (W.int .i64 q3.fst.stat),Fd.c (W.int .i64 q3.fst.ph),Fd.c (W.int .i64 q3.fst.co),Fd.c (W.int .i64 (q0 (q3.fst.ix+(1:Int)))),Fd.c (W.sl aC aQ q3.fst.rows.length q5),Fd.c (W.sl q8 aQ q3.fst.par.length q5),Fd.c (W.sl q7 aQ q3.fst.dn q5)],Ob.mk 37 [Fd.c fB],Ob.mk 3 [Fd.c (W.int .i64 (bK-(↑q3.snd.fst:Int)))],Ob.mk 3 [Fd.c aM],Ob.mk 22 [Fd.c (W.th ((2:Int)*q3.fst.g).toNat q3.fst.rows)],Ob.mk 3 [Fd.a 0 (D.int .i64) q3.fst.par],Ob.mk 3 [Fd.a 0 (D.int .i64) q3.fst.dl]]=iS q9.fst N q9.snd.fst)))))))) (by kernel_rfl)
 try simp only [imp_self,true_and,and_true,Nat.zero_add,Bool.cond_false_right,Bool.and_eq_true,Bool.and_eq_false_imp,Bool.not_eq_true',Bool.not_eq_false',decide_eq_true_eq,decide_eq_false_iff_not,Int.not_le,Int.le_refl,Nat.reduceAdd]
 have hg:=G.ix;have hc:=G.co;have hl:=G.au;have hl2:=G.OC;have FB:=G.ph;have hn1:=G.n1;have hns:=G.ns;have sL:=G.nr;have hpl:r.par.length=r.rows.length:=G.fine.len;rw [show ((N:Int)-((N:Int)-(q:Int))).toNat=q by omega];have hq:0<=(N:Int)-q/\(N:Int)-q<=N/\(N:Int)<=1000000:=by omega
 rw [wrap64 (n:=r.co+1) (by omega) (by omega)];refine ⟨fun h1=>?_,fun h1=>⟨fun h2=>?_,fun h2=>⟨fun h3=>?_,fun h3=>⟨fun h4=>?_,fun h4=>?_⟩⟩⟩⟩
 . rw [cG.act,if_pos h1];exact ⟨rfl,rfl⟩
 . have hi:r.ix<r.sub.length:=h1 h2;have hw:=G.sub _ (jX hg.1 hi);have F:=oO (a:=0) (w:=r.sub.getD r.ix.toNat []) q G.fine hw hn1 hl hl2;obtain ⟨_,_,_,_,_,_,k7,_⟩:=F.keep;simp only at k7;refine ⟨by omega,by omega,⟨hq,G.fine,hw,hn1,hl,hl2⟩,fun h=>?_,fun h=>?_⟩
   . rw [cG.act,if_neg (by omega),if_pos h2,if_pos h];exact ⟨rfl,rfl⟩
   . rw [k7,wrap64 (n:=r.ix+1) (by omega) (by omega),cG.act,if_neg (by omega),if_pos h2,if_neg (by rw [h];simp)];exact ⟨rfl,rfl⟩
 . have hco:=G.XT h3;have F:=uD (a:=r.co.toNat) (2*r.g).toNat 0 q G.fine (by omega) (by omega) hl hl2;obtain ⟨_,_,_,_,_,k6,_,_⟩:=F.keep;simp only at k6;refine ⟨⟨hq,hc.1,G.fine,by omega,hl,hl2⟩,fun h=>?_,fun h=>?_⟩
   . rw [cG.act,if_neg (by omega),if_neg h2,if_pos h3,if_pos h];exact ⟨rfl,rfl⟩
   . rw [k6,wrap64 (n:=r.co+1) (by omega) (by omega),cG.act,if_neg (by omega),if_neg h2,if_pos h3,if_neg (by rw [h];simp)];exact ⟨rfl,rfl⟩
 . rw [cG.act,if_neg (by omega),if_neg h2,if_neg h3,if_pos h4];exact ⟨rfl,rfl⟩
 . have hp1:r.ph=1:=by omega
   have bP:r.co.toNat<r.rows.length:=by omega
   refine ⟨by omega,fun h5=>?_,fun h5=>⟨fun h6=>?_,fun h6=>?_⟩⟩
   . rw [cG.act,if_neg (by omega),if_neg h2,if_neg h3,if_neg h4,if_pos (by omega)];exact ⟨rfl,rfl⟩
   . rw [cG.act,if_neg (by omega),if_neg h2,if_neg h3,if_neg h4,if_neg (by omega),if_pos h6];exact ⟨rfl,rfl⟩
   . have hw:=G.av _ (jX hg.1 h6);have F:=oO (a:=r.co.toNat) (w:=r.av.getD r.ix.toNat []) q G.fine hw bP hl hl2;obtain ⟨_,_,_,_,_,_,k7,_⟩:=F.keep;simp only at k7;refine ⟨by omega,by omega,⟨hq,hc.1,G.fine,hw,bP,hl,hl2⟩,fun h=>?_,fun h=>?_⟩
     . rw [cG.act,if_neg (by omega),if_neg h2,if_neg h3,if_neg h4,if_neg (by omega),if_neg (by omega),if_pos h];exact ⟨rfl,rfl⟩
     . rw [k7,wrap64 (n:=r.ix+1) (by omega) (by omega),cG.act,if_neg (by omega),if_neg h2,if_neg h3,if_neg h4,if_neg (by omega),if_neg (by omega),if_neg (by rw [h];simp)];exact ⟨rfl,rfl⟩
def VO:bw:={ refs:=[true,true],keep:=some 4,f:=fun args aj=>match args with
 | [.p (.c (.ptr 0 0)),.p (.c (.func f [(1,0),(2,0),(3,0)]))]=>bif Nat.beq f 48 then match Sc aj with
   | some (c,r,N,q)=>some (.p (c/\dZ r),bB (cG.act r q).2.2,iS (cG.act r q).1 N (cG.act r q).2.1)
   | _=>none
   else none
 | _=>none }
theorem Y4:aH Tryz.prog 49 VO:=by
 refine ⟨by kernel_rfl,fun args aj c r aR e hc=>?_⟩;simp only [VO] at e;split at e
 . rename_i f;obtain ⟨hb,e1⟩:=ar.aD e;clear e;cases Nat.eq_of_beq_eq_true hb;split at e1
   . rename_i c1 r1 N q hr;cases e1;obtain ⟨h1,h2⟩:=hc;obtain ⟨rfl,g1,g2⟩:=Jg hr h1;exact Y3 r1 N q h2 ⟨g1,g2⟩
   . cases e1
 . cases e
theorem Sg (r:Rn):aX Tryz.prog 47 1 [pR] (obs r) (bB (decide (0<r.rows.length))) (obs r):=by
 refine bA (live:=[]) (bQ:=[]) (fz:=[]) ay Tryz.func47 (by kernel_rfl) 1 (by kernel_rfl) 100 ?_;apply of_eq (q:=(true=true->true=true)/\(true=true->true=true)/\(true=true->true=true)/\(true=true->true=true)/\(true=true->true=true)/\(true=true->true=true)/\ak [V.c (W.bool (bif true then decide ((0:Int)<(r.rows.length:Int)) else false))]=bB (decide ((0:Nat)<r.rows.length))/\[Ob.mk 98 [Fd.c (W.int .i64 r.g),Fd.c (W.rd (D.int .i64).sl r.av),Fd.c (W.rd (D.int .i64).sl r.sub),Fd.c (W.int .i64 r.au),Fd.c (W.int .i64 r.most),Fd.c (W.int .i64 r.live),Fd.c (W.int .i64 r.stat),Fd.c (W.int .i64 r.ph),Fd.c (W.int .i64 r.co),Fd.c (W.int .i64 r.ix),Fd.c (W.sl ((0:Nat)+(1:Nat)) (0:Nat) r.rows.length (1:Nat)),Fd.c (W.sl ((0:Nat)+(1:Nat)+(1:Nat)) (0:Nat) r.par.length (1:Nat)),Fd.c (W.sl ((0:Nat)+(1:Nat)+(1:Nat)+(1:Nat)) (0:Nat) r.dn (1:Nat))],Ob.mk 22 [Fd.c (W.th ((2:Int)*r.g).toNat r.rows)],Ob.mk 3 [Fd.a 0 (D.int .i64) r.par],Ob.mk 3 [Fd.a 0 (D.int .i64) r.dl]]=obs r) (by kernel_rfl)
 try simp only [imp_self,true_and,and_true,Nat.zero_add,Bool.cond_false_right,Nat.reduceAdd]
 rw [Bool.true_and];simp only [ak,Int.natCast_pos]
def CQ:bw:=sK fun r=>(True,bB (decide (0<r.rows.length)),r)
theorem yu:aH Tryz.prog 47 CQ:=oP (by kernel_rfl) fun r _=>Sg r
noncomputable def gVa:bF:=[(49,VO),(47,CQ)]
theorem CR:aS Tryz.prog gVa:=ai Y4 (ai yu ay)
noncomputable def sStp:Site:=aY Tryz.prog gVa Tryz.f15 1 [([0,0,1,1,1,1],[2,6,7])] [] []
theorem Ji (N:Nat) (hN:N<=1000000) (y:Rn×Nat):∀ (f:Nat) (r:Rn) (q:Nat),dZ r->q<=N->jS f r q=some y->
 aq sStp (ax (.aF [.c (.int .i64 ((N:Int)-y.2)),.c (.int .i64 0)]) (obs y.1)) [0,0,1,1,1,1] (fr [(2,.p (.c (.ptr 1 0))),(6,.p (.c (.ptr 2 0))),(7,LY)]) (.ofList (iS r N q))
 | f,r,q,G,hq,hf=>by
   refine aK CR (by kernel_rfl) 100 ?_;apply of_eq (q:=let q1:=(cG.act r ((N:Int)-((N:Int)-(q:Int))).toNat);let q2:=(1:Nat);let q3:=(W.int .i64 ((N:Int)-(↑q1.snd.fst:Int)));(((r.rows.length=r.rows.length/\r.par.length=r.par.length/\((2:Int)*r.g).toNat=((2:Int)*r.g).toNat)/\(0:Int)<=(N:Int)-(q:Int)/\(N:Int)-(q:Int)<=(N:Int)/\(N:Int)<=(1000000:Int))/\dZ r)/\((!q1.snd.snd)=true->aq sStp (ax (A.aF [V.c (W.int .i64 ((N:Int)-(y.snd:Int))),V.c (W.int .i64 (0))]) (obs y.fst)) [0,0,1,1,1,1] (fr [(2,A.p (V.c (W.ptr 1 0))),(6,A.p (V.c (W.ptr 2 0))),(7,A.p (V.c (W.func 48 [(1,(0:Nat)),(2,(0:Nat)),(3,(0:Nat))])))]) (ah.ofList [Ob.mk 98 [Fd.c (W.int .i64 q1.fst.g),Fd.c (W.rd (D.int .i64).sl q1.fst.av),Fd.c (W.rd (D.int .i64).sl q1.fst.sub),Fd.c (W.int .i64 q1.fst.au),Fd.c (W.int .i64 q1.fst.most),Fd.c (W.int .i64 q1.fst.live),Fd.c (W.int .i64 q1.fst.stat),Fd.c (W.int .i64 q1.fst.ph),Fd.c (W.int .i64 q1.fst.co),Fd.c (W.int .i64 q1.fst.ix),Fd.c (W.sl 4 0 q1.fst.rows.length q2),Fd.c (W.sl 5 0 q1.fst.par.length q2),Fd.c (W.sl 6 0 q1.fst.dn q2)],Ob.mk 37 [Fd.c (W.ptr 0 0)],Ob.mk 3 [Fd.c q3],Ob.mk 3 [Fd.c (W.int .i64 (N:Int))],Ob.mk 22 [Fd.c (W.th ((2:Int)*q1.fst.g).toNat q1.fst.rows)],Ob.mk 3 [Fd.a 0 (D.int .i64) q1.fst.par],Ob.mk 3 [Fd.a 0 (D.int .i64) q1.fst.dl]]))/\((!q1.snd.snd)=false->ak [V.c q3,V.c (W.int .i64 (0))]=A.aF [V.c (W.int .i64 ((N:Int)-(y.snd:Int))),V.c (W.int .i64 (0))]/\[Ob.mk 98 [Fd.c (W.int .i64 q1.fst.g),Fd.c (W.rd (D.int .i64).sl q1.fst.av),Fd.c (W.rd (D.int .i64).sl q1.fst.sub),Fd.c (W.int .i64 q1.fst.au),Fd.c (W.int .i64 q1.fst.most),Fd.c (W.int .i64 q1.fst.live),Fd.c (W.int .i64 q1.fst.stat),Fd.c (W.int .i64 q1.fst.ph),Fd.c (W.int .i64 q1.fst.co),Fd.c (W.int .i64 q1.fst.ix),Fd.c (W.sl ((0:Nat)+q2) (0:Nat) q1.fst.rows.length q2),Fd.c (W.sl ((0:Nat)+q2+q2) (0:Nat) q1.fst.par.length q2),Fd.c (W.sl ((0:Nat)+q2+q2+q2) (0:Nat) q1.fst.dn q2)],Ob.mk 22 [Fd.c (W.th ((2:Int)*q1.fst.g).toNat q1.fst.rows)],Ob.mk 3 [Fd.a 0 (D.int .i64) q1.fst.par],Ob.mk 3 [Fd.a 0 (D.int .i64) q1.fst.dl]]=obs y.fst)) (by kernel_rfl)
   try simp only [true_and,and_true,Nat.zero_add,Bool.not_eq_true',Bool.not_eq_false',Nat.reduceAdd]
   have A:=yq G q;have al:=A.len;have ag:=A.grown;rw [show ((N:Int)-((N:Int)-(q:Int))).toNat=q by omega];refine ⟨⟨⟨by omega,by omega,by omega⟩,G⟩,fun h=>?_,fun h=>?_⟩
   . obtain ⟨g1,_,_⟩:=A.go h;cases f with
     | zero=>cases hf
     | succ f =>
       rw [jS,if_neg (by rw [h];simp)] at hf;exact Ji N hN y f (cG.act r q).1 (cG.act r q).2.1 g1 (by omega) hf
   . cases f with
     | zero=>cases hf
     | succ f =>
       rw [jS,if_pos h] at hf;cases hf;exact ⟨rfl,rfl⟩
def bM (r:Rn) (n:Int):Rn×Int×Int:=if n<1 then (r,0,2) else if ¬ r.stat=0 then (r,0,13) else ((cG.run r n.toNat).1,n-(cG.run r n.toNat).2,0)
theorem VP (r:Rn) (n:Int) (h:0<r.rows.length/\n<=1000000/\(1<=n->r.stat=0->dZ r)):aX Tryz.prog 15 1 [pR,nI n] (obs r) (.aF [.c (.int .i64 (bM r n).2.1),.c (.int .i64 (bM r n).2.2)]) (obs (bM r n).1):=by
 refine bA (live:=[([0,0,1,1,1,1],[2,6,7])]) (bQ:=[]) (fz:=[]) CR Tryz.func15 (by kernel_rfl) 1 (by kernel_rfl) 100 ?_;apply of_eq (q:=let q1:=(W.sl ((0:Nat)+(1:Nat)+(1:Nat)+(1:Nat)) (0:Nat) r.dn (1:Nat));let q2:=(W.sl ((0:Nat)+(1:Nat)+(1:Nat)) (0:Nat) r.par.length (1:Nat));let q3:=(W.sl ((0:Nat)+(1:Nat)) (0:Nat) r.rows.length (1:Nat));let q4:=(W.int .i64 (bM r n).snd.fst);let q5:=(W.int .i64 (bM r n).snd.snd);let q6:=(W.th ((2:Int)*r.g).toNat r.rows);let q7:=(W.rd (D.int .i64).sl r.av);let q8:=(W.rd (D.int .i64).sl r.sub);let q9:=(W.int .i64 r.most);let aC:=(W.int .i64 r.live);let aM:=(W.int .i64 r.stat);let aQ:=(W.int .i64 r.au);let bg:=(W.int .i64 r.ph);let br:=(W.int .i64 r.co);let aV:=(W.int .i64 r.ix);let aU:=(W.int .i64 (0));let bJ:=(W.int .i64 r.g);((r.rows.length=r.rows.length/\r.par.length=r.par.length/\((2:Int)*r.g).toNat=((2:Int)*r.g).toNat)/\True)/\((!decide ((0:Nat)<r.rows.length))=true->ak [V.c aU,V.c (W.int .i64 (1))]=A.aF [V.c q4,V.c q5]/\[Ob.mk 98 [Fd.c bJ,Fd.c q7,Fd.c q8,Fd.c aQ,Fd.c q9,Fd.c aC,Fd.c aM,Fd.c bg,Fd.c br,Fd.c aV,Fd.c q3,Fd.c q2,Fd.c q1],Ob.mk 22 [Fd.c q6],Ob.mk 3 [Fd.a 0 (D.int .i64) r.par],Ob.mk 3 [Fd.a 0 (D.int .i64) r.dl]]=obs (bM r n).fst)/\((!decide ((0:Nat)<r.rows.length))=false->(decide (n<(1:Int))=true->ak [V.c aU,V.c (W.int .i64 (2))]=A.aF [V.c q4,V.c q5]/\[Ob.mk 98 [Fd.c bJ,Fd.c q7,Fd.c q8,Fd.c aQ,Fd.c q9,Fd.c aC,Fd.c aM,Fd.c bg,Fd.c br,Fd.c aV,Fd.c q3,Fd.c q2,Fd.c q1],Ob.mk 22 [Fd.c q6],Ob.mk 3 [Fd.a 0 (D.int .i64) r.par],Ob.mk 3 [Fd.a 0 (D.int .i64) r.dl]]=obs (bM r n).fst)/\(decide (n<(1:Int))=false->((!decide (r.stat=(0:Int)))=true->ak [V.c aU,V.c (W.int .i64 (13))]=A.aF [V.c q4,V.c q5]/\[Ob.mk 98 [Fd.c bJ,Fd.c q7,Fd.c q8,Fd.c aQ,Fd.c q9,Fd.c aC,Fd.c aM,Fd.c bg,Fd.c br,Fd.c aV,Fd.c q3,Fd.c q2,Fd.c q1],Ob.mk 22 [Fd.c q6],Ob.mk 3 [Fd.a 0 (D.int .i64) r.par],Ob.mk 3 [Fd.a 0 (D.int .i64) r.dl]]=obs (bM r n).fst)/\((!decide (r.stat=(0:Int)))=false->aq (aY Tryz.prog gVa Tryz.f15 (1:Nat) [([0,0,1,1,1,1],[2,6,7])] [] []) (ax (A.aF [V.c q4,V.c q5]) (obs (bM r n).fst)) [0,0,1,1,1,1] (fr [(2,A.p (V.c (W.ptr 1 0))),(6,A.p (V.c (W.ptr 2 0))),(7,A.p (V.c (W.func 48 [(1,(0:Nat)),(2,(0:Nat)),(3,(0:Nat))])))]) (ah.ofList [Ob.mk 98 [Fd.c bJ,Fd.c q7,Fd.c q8,Fd.c aQ,Fd.c q9,Fd.c aC,Fd.c aM,Fd.c bg,Fd.c br,Fd.c aV,Fd.c (W.sl 4 0 r.rows.length 1),Fd.c (W.sl 5 0 r.par.length 1),Fd.c (W.sl 6 0 r.dn 1)],Ob.mk 37 [Fd.c (W.ptr 0 0)],Ob.mk 3 [Fd.c aU],Ob.mk 3 [Fd.c (W.int .i64 n)],Ob.mk 22 [Fd.c q6],Ob.mk 3 [Fd.a 0 (D.int .i64) r.par],Ob.mk 3 [Fd.a 0 (D.int .i64) r.dl]]))))) (by kernel_rfl)
 try simp only [true_and,and_true,Nat.zero_add,Bool.not_eq_true',Bool.not_eq_false',decide_eq_true_eq,decide_eq_false_iff_not,Int.not_lt,Nat.reduceAdd]
 obtain ⟨h1,h2,h3⟩:=h;refine ⟨fun g=>absurd h1 g,fun _=>⟨fun g=>?_,fun g=>⟨fun g2=>?_,fun g2=>?_⟩⟩⟩
 . rw [bM,if_pos g];exact ⟨rfl,rfl⟩
 . rw [bM,if_neg (by omega),if_pos g2];exact ⟨rfl,rfl⟩
 . have G:=h3 g g2;rw [bM,if_neg (by omega),if_neg (by rw [g2];simp)];obtain ⟨y,hy⟩:=nC (meas r+1) n.toNat G (by omega);rw [CP G hy];have:=Ji n.toNat (by omega) y (meas r+1) r n.toNat G (Nat.le_refl _) hy;simp only [iS,Jf,Int.sub_self] at this;rw [<-kY (show 0<=n by omega)] at this;exact this
def CS:bw:={ refs:=[true,false],keep:=some 1,f:=fun args aj=>match args with
 | [.p (.c (.ptr 0 0)),.p (.c (.int .i64 n))]=>match CN aj with
   | some (c,r)=>some (.p (c/\0<r.rows.length/\n<=1000000/\(1<=n->r.stat=0->dZ r)),.aF [.c (.int .i64 (bM r n).2.1),.c (.int .i64 (bM r n).2.2)],obs (bM r n).1)
   | none=>none
 | _=>none }
theorem Bj:aH Tryz.prog 15 CS:=by
 refine ⟨by kernel_rfl,fun args aj c r aR e hc=>?_⟩;simp only [CS] at e;split at e
 . rename_i n;split at e
   . rename_i c1 r1 hr;cases e;obtain ⟨h1,h2⟩:=hc;rw [p5 hr h1];exact VP _ _ h2
   . cases e
 . cases e
theorem VQ (r:Rn):aX Tryz.prog 28 1 [pR] (obs r) (.aF [.c (.int .i64 r.rows.length),.c (.int .i64 (if 0<r.rows.length then r.live else 0))]) (obs r):=by
 refine bA (live:=[]) (bQ:=[]) (fz:=[]) CR Tryz.func28 (by kernel_rfl) 1 (by kernel_rfl) 100 ?_;apply of_eq (q:=let q1:=(1:Nat);let q2:=(0:Nat);let q3:=(W.int .i64 (r.rows.length:Int));let q4:=(W.int .i64 (if q2<r.rows.length then r.live else (0:Int)));((r.rows.length=r.rows.length/\r.par.length=r.par.length/\((2:Int)*r.g).toNat=((2:Int)*r.g).toNat)/\True)/\((!decide (q2<r.rows.length))=true->ak [V.c (W.int .i64 (0)),V.c (W.int .i64 (0))]=A.aF [V.c q3,V.c q4]/\[Ob.mk 98 [Fd.c (W.int .i64 r.g),Fd.c (W.rd (D.int .i64).sl r.av),Fd.c (W.rd (D.int .i64).sl r.sub),Fd.c (W.int .i64 r.au),Fd.c (W.int .i64 r.most),Fd.c (W.int .i64 r.live),Fd.c (W.int .i64 r.stat),Fd.c (W.int .i64 r.ph),Fd.c (W.int .i64 r.co),Fd.c (W.int .i64 r.ix),Fd.c (W.sl (q2+q1) q2 r.rows.length q1),Fd.c (W.sl (q2+q1+q1) q2 r.par.length q1),Fd.c (W.sl (q2+q1+q1+q1) q2 r.dn q1)],Ob.mk 22 [Fd.c (W.th ((2:Int)*r.g).toNat r.rows)],Ob.mk 3 [Fd.a 0 (D.int .i64) r.par],Ob.mk 3 [Fd.a 0 (D.int .i64) r.dl]]=obs r)/\((!decide (q2<r.rows.length))=false->ak [V.c q3,V.c (W.int .i64 r.live)]=A.aF [V.c q3,V.c q4]/\[Ob.mk 98 [Fd.c (W.int .i64 r.g),Fd.c (W.rd (D.int .i64).sl r.av),Fd.c (W.rd (D.int .i64).sl r.sub),Fd.c (W.int .i64 r.au),Fd.c (W.int .i64 r.most),Fd.c (W.int .i64 r.live),Fd.c (W.int .i64 r.stat),Fd.c (W.int .i64 r.ph),Fd.c (W.int .i64 r.co),Fd.c (W.int .i64 r.ix),Fd.c (W.sl (q2+q1) q2 r.rows.length q1),Fd.c (W.sl (q2+q1+q1) q2 r.par.length q1),Fd.c (W.sl (q2+q1+q1+q1) q2 r.dn q1)],Ob.mk 22 [Fd.c (W.th ((2:Int)*r.g).toNat r.rows)],Ob.mk 3 [Fd.a 0 (D.int .i64) r.par],Ob.mk 3 [Fd.a 0 (D.int .i64) r.dl]]=obs r)) (by kernel_rfl)
 try simp only [true_and,and_true,Nat.zero_add,Bool.not_eq_true',Bool.not_eq_false',decide_eq_true_eq,decide_eq_false_iff_not,Nat.reduceAdd]
 refine ⟨fun h=>?_,fun h=>?_⟩
 . rw [if_neg h,show r.rows.length=0 by omega];rfl
 . rw [if_pos h];rfl
def OD:bw:=sK fun r=>(True,.aF [.c (.int .i64 r.rows.length),.c (.int .i64 (if 0<r.rows.length then r.live else 0))],r)
theorem Jj:aH Tryz.prog 28 OD:=oP (by kernel_rfl) fun r _=>VQ r
theorem VR (r:Rn):aX Tryz.prog 14 1 [pR] (obs r) (nI (if 0<r.rows.length then r.stat else 0)) (obs r):=by
 refine bA (live:=[]) (bQ:=[]) (fz:=[]) CR Tryz.func14 (by kernel_rfl) 1 (by kernel_rfl) 100 ?_;apply of_eq (q:=let q1:=(1:Nat);let q2:=(0:Nat);((r.rows.length=r.rows.length/\r.par.length=r.par.length/\((2:Int)*r.g).toNat=((2:Int)*r.g).toNat)/\True)/\((!decide (q2<r.rows.length))=true->ak [V.c (W.int .i64 (0))]=nI (if q2<r.rows.length then r.stat else (0:Int))/\[Ob.mk 98 [Fd.c (W.int .i64 r.g),Fd.c (W.rd (D.int .i64).sl r.av),Fd.c (W.rd (D.int .i64).sl r.sub),Fd.c (W.int .i64 r.au),Fd.c (W.int .i64 r.most),Fd.c (W.int .i64 r.live),Fd.c (W.int .i64 r.stat),Fd.c (W.int .i64 r.ph),Fd.c (W.int .i64 r.co),Fd.c (W.int .i64 r.ix),Fd.c (W.sl (q2+q1) q2 r.rows.length q1),Fd.c (W.sl (q2+q1+q1) q2 r.par.length q1),Fd.c (W.sl (q2+q1+q1+q1) q2 r.dn q1)],Ob.mk 22 [Fd.c (W.th ((2:Int)*r.g).toNat r.rows)],Ob.mk 3 [Fd.a 0 (D.int .i64) r.par],Ob.mk 3 [Fd.a 0 (D.int .i64) r.dl]]=obs r)/\((!decide (q2<r.rows.length))=false->ak [V.c (W.int .i64 r.stat)]=nI (if q2<r.rows.length then r.stat else (0:Int))/\[Ob.mk 98 [Fd.c (W.int .i64 r.g),Fd.c (W.rd (D.int .i64).sl r.av),Fd.c (W.rd (D.int .i64).sl r.sub),Fd.c (W.int .i64 r.au),Fd.c (W.int .i64 r.most),Fd.c (W.int .i64 r.live),Fd.c (W.int .i64 r.stat),Fd.c (W.int .i64 r.ph),Fd.c (W.int .i64 r.co),Fd.c (W.int .i64 r.ix),Fd.c (W.sl (q2+q1) q2 r.rows.length q1),Fd.c (W.sl (q2+q1+q1) q2 r.par.length q1),Fd.c (W.sl (q2+q1+q1+q1) q2 r.dn q1)],Ob.mk 22 [Fd.c (W.th ((2:Int)*r.g).toNat r.rows)],Ob.mk 3 [Fd.a 0 (D.int .i64) r.par],Ob.mk 3 [Fd.a 0 (D.int .i64) r.dl]]=obs r)) (by kernel_rfl)
 try simp only [true_and,and_true,Nat.zero_add,Bool.not_eq_true',Bool.not_eq_false',decide_eq_true_eq,decide_eq_false_iff_not,Nat.reduceAdd]
 refine ⟨fun h=>?_,fun h=>?_⟩
 . rw [if_neg h];rfl
 . rw [if_pos h];rfl
def Gs:bw:=sK fun r=>(True,nI (if 0<r.rows.length then r.stat else 0),r)
theorem Bl:aH Tryz.prog 14 Gs:=oP (by kernel_rfl) fun r _=>VR r
abbrev fnG:A:=.p (.c (.func 97 [(0,0)]))
theorem Si (x g:Int) (r:List (List Int)):aT Tryz.prog 97 [nI x,.p (.c (.ptr 0 0))] [gT g r] (bB (eU g x)) [gT g r]:=by
 refine bI (live:=[]) ay Tryz.func97 (by kernel_rfl) (keep:=1) rfl (by kernel_rfl) 100 ?_;apply of_eq (q:=let q1:=decide (x<IntKind.i64.wrap ((0:Int)-g));let q2:=decide (x=(0:Int));(q2=false->q2=false)/\(q2=false->q2=false)/\(q2=false->q2=false)/\(q2=false->q2=false)/\(q2=false->q2=false)/\((bif q2 then true else q1)=false->(bif q2 then true else q1)=false)/\((bif q2 then true else q1)=false->(bif q2 then true else q1)=false)/\((bif q2 then true else q1)=false->(bif q2 then true else q1)=false)/\((bif q2 then true else q1)=false->(bif q2 then true else q1)=false)/\ak [V.c (W.bool (bif bif q2 then true else q1 then true else decide (g<x)))]=bB (eU g x)/\[Ob.mk 25 [Fd.c (W.int .i64 g),Fd.c (W.rd (D.int .i64).sl r)]]=[gT g r]) (by kernel_rfl)
 try simp only [imp_self,true_and,and_true,Bool.cond_true_left,Bool.or_eq_false_iff,decide_eq_false_iff_not,Int.not_lt]
 rfl
def Jk:bw:={ refs:=[false,true],f:=fun args aj=>match args,aj with | [.p (.c (.int .i64 x)),.p (.c (.ptr 0 0))],[⟨t,[.c (.int .i64 g),.c (.rd (.sl (.int .i64)) r)]⟩]=>(bif Nat.beq t 25 then some (.t,bB (eU g x),[gT g r]) else none) | _,_=>none }
theorem Sj:aH Tryz.prog 97 Jk:=by
 refine ⟨by kernel_rfl,fun args aj c r aR e hc=>?_⟩;simp only [Jk] at e;split at e
 . rename_i x t g r;obtain ⟨ht,e⟩:=ar.aD e;have ht:=Nat.eq_of_beq_eq_true ht;subst ht;cases e;exact Si x g r
 . cases e
noncomputable def VS:bF:=[(97,Jk)]
theorem L8:aS Tryz.prog VS:=ai Sj ay
noncomputable def sIxG:Site:=eB Tryz.prog VS Tryz.f128 1 [([0,1,0,1],[0,1,7,8])]
theorem Jl (w:List Int) (g:Int) (r:List (List Int)) (hl:w.length<=1000000):∀ (k i:Nat),k=w.length-i->i<=w.length->
 aq sIxG (ax (nI (kX g (w.drop i) i)) [gT g r]) [0,1,0,1] (fr [(0,aZ w),(1,fnG),(7,nI w.length),(8,nI i)]) (.ofList [gT g r])
 | k,i,hk,hi=>by
   refine aK L8 (by kernel_rfl) 100 ?_;apply of_eq (q:=let q1:=(W.rd (D.int .i64).sl r);(decide ((i:Int)<(w.length:Int))=true->((0:Int)<=(i:Int)/\(i:Int)<(w.length:Int))/\i<w.length/\(eU g (w.getD i (0:Int))=true->ak [V.c (W.int .i64 (i:Int))]=nI (kX g (List.drop i w) i)/\[Ob.mk 25 [Fd.c (W.int .i64 g),Fd.c q1]]=[gT g r])/\(eU g (w.getD i (0:Int))=false->aq sIxG (ax (nI (kX g (List.drop i w) i)) [gT g r]) [0,1,0,1] (fr [(0,aZ w),(1,A.p (V.c (W.func 97 [(0,(0:Nat))]))),(7,nI (w.length:Int)),(8,nI (IntKind.i64.wrap ((i:Int)+(1:Int))))]) (ah.ofList [Ob.mk 25 [Fd.c (W.int .i64 g),Fd.c q1]])))/\(decide ((i:Int)<(w.length:Int))=false->ak [V.c (W.int .i64 (-1))]=nI (kX g (List.drop i w) i)/\[Ob.mk 25 [Fd.c (W.int .i64 g),Fd.c q1]]=[gT g r])) (by kernel_rfl)
   try simp only [and_true,decide_eq_true_eq,decide_eq_false_iff_not,Int.not_lt]
   rw [wrap64 (n:=(i:Int)+1) (by omega) (by omega)];refine ⟨fun h=>⟨by omega,by omega,fun g=>?_,fun g=>?_⟩,fun h=>?_⟩
   . rw [iA (by omega),kX,if_pos g];rfl
   . rw [iA (by omega),kX,g,if_neg (by simp)];cases k with
     | zero=>omega
     | succ k=>exact Jl w _ r hl k (i+1) (by omega) (by omega)
   . rw [List.drop_eq_nil_of_le (by omega)];rfl
theorem Y5 (w:List Int) (g:Int) (r:List (List Int)) (hl:w.length<=1000000):aT Tryz.prog 128 [aZ w,fnG] [gT g r] (nI (kX g w 0)) [gT g r]:=by
 refine bI (live:=[([0,1,0,1],[0,1,7,8])]) L8 Tryz.func128 (by kernel_rfl) (keep:=1) rfl (by kernel_rfl) 100 ?_;apply of_eq (q:=aq (eB Tryz.prog VS Tryz.f128 (1:Nat) [([0,1,0,1],[0,1,7,8])]) (ax (nI (kX g w (0:Nat))) [gT g r]) [0,1,0,1] (fr [(0,aZ w),(1,A.p (V.c (W.func 97 [(0,(0:Nat))]))),(7,nI (w.length:Int)),(8,nI (0))]) (ah.ofList [Ob.mk 25 [Fd.c (W.int .i64 g),Fd.c (W.rd (D.int .i64).sl r)]])) (by kernel_rfl);exact Jl w g r hl w.length 0 (by omega) (by omega)
def VT:bw:={ refs:=[false,true],f:=fun args aj=>match args,aj with | [x,.p (.c (.func f [(0,0)]))],[⟨t,[.c (.int .i64 g),.c (.rd (.sl (.int .i64)) r)]⟩]=>(bif Nat.beq f 97&&Nat.beq t 25 then (match gb dI x with | some w=>some (.p (List.length (α:=Int) w<=1000000),nI (kX g w 0),[gT g r]) | none=>none) else none) | _,_=>none }
theorem Y6:aH Tryz.prog 128 VT:=by
 refine ⟨by kernel_rfl,fun args aj c r aR e hc=>?_⟩;simp only [VT] at e;split at e
 . rename_i x f t g r;obtain ⟨ht,e⟩:=ar.aD e;simp only [Bool.and_eq_true] at ht;have h1:=Nat.eq_of_beq_eq_true ht.1;have h2:=Nat.eq_of_beq_eq_true ht.2;subst h1 h2;split at e
   . rename_i w hw;cases e;exact (Y5 w g r hc).args fun η Z vs h=>by
      cases vs with
      | nil=>exact h.elim
      | cons v vs=>exact ⟨ck hw h.1,h.2⟩
   . cases e
 . cases e
noncomputable def gCo2G:bF:=[(128,VT)]
theorem VU:aS Tryz.prog gCo2G:=ai Y6 ay
theorem Y7 (w:List Int) (g:Int) (r:List (List Int)) (hl:w.length<=1000000):aT Tryz.prog 88 [aZ w,fnG] [gT g r] (bB (w.any (eU g))) [gT g r]:=by
 refine bI (live:=[]) VU Tryz.func88 (by kernel_rfl) (keep:=1) rfl (by kernel_rfl) 100 ?_;apply of_eq (q:=w.length<=(1000000:Nat)/\ak [V.c (W.bool (decide ((0:Int)<=kX g w (0:Nat))))]=bB (w.any (eU g))/\[Ob.mk 25 [Fd.c (W.int .i64 g),Fd.c (W.rd (D.int .i64).sl r)]]=[gT g r]) (by kernel_rfl)
 try simp only [and_true]
 refine ⟨hl,?_⟩;rw [DZ];rfl
def VW:bw:={ refs:=[false,true],f:=fun args aj=>match args,aj with | [x,.p (.c (.func f [(0,0)]))],[⟨t,[.c (.int .i64 g),.c (.rd (.sl (.int .i64)) r)]⟩]=>(bif Nat.beq f 97&&Nat.beq t 25 then (match gb dI x with | some w=>some (.p (List.length (α:=Int) w<=1000000),bB (List.any w (eU g)),[gT g r]) | none=>none) else none) | _,_=>none }
theorem Y8:aH Tryz.prog 88 VW:=by
 refine ⟨by kernel_rfl,fun args aj c r aR e hc=>?_⟩;simp only [VW] at e;split at e
 . rename_i x f t g r;obtain ⟨ht,e⟩:=ar.aD e;simp only [Bool.and_eq_true] at ht;have h1:=Nat.eq_of_beq_eq_true ht.1;have h2:=Nat.eq_of_beq_eq_true ht.2;subst h1 h2;split at e
   . rename_i w hw;cases e;exact (Y7 w g r hc).args fun η Z vs h=>by
      cases vs with
      | nil=>exact h.elim
      | cons v vs=>exact ⟨ck hw h.1,h.2⟩
   . cases e
 . cases e
abbrev obL1 (l:List (List Int)):Ob:=⟨79,[.a 1 (.sl (.int .i64)) l]⟩
noncomputable def gOw:bF:=[(98,RN)]
theorem Sk:aS Tryz.prog gOw:=ai RO ay
noncomputable def sOw:Site:=aY Tryz.prog gOw Tryz.f45 0 [([0,1,0,1,1],[3,9,10,11])] [] [some dL]
theorem Jm (r:List (List Int)) (hr:Sh r) (hl:r.length<=1000000):∀ (n i:Nat) (l:List (List Int)),n=r.length-i->i<=r.length->l.length=r.length->l.take i=r.take i->
 aq sOw (ax (bT r) []) [0,1,0,1,1] (fr [(3,gi 0 r.length),(9,bT r),(10,nI r.length),(11,nI i)]) (.ofList [obL1 l])
 | n,i,l,hn,hi,h1,h2=>by
   refine aK Sk (by kernel_rfl) 100 ?_;apply of_eq (q:=(decide ((i:Int)<(r.length:Int))=true->((0:Int)<=(i:Int)/\(i:Int)<(r.length:Int))/\i<r.length/\(r.getD i []).length<=(1000000:Nat)/\((0:Int)<=(i:Int)/\(i:Int)<(r.length:Int))/\(0:Nat)+i<l.length/\aq sOw (ax (bT r) []) [0,1,0,1,1] (fr [(3,A.p (V.c (W.sl 0 0 r.length 1))),(9,bT r),(10,nI (r.length:Int)),(11,nI (IntKind.i64.wrap ((i:Int)+(1:Int))))]) (ah.ofList [Ob.mk 79 [Fd.a 1 (D.int .i64).sl (l.set ((0:Nat)+i) (r.getD i []))]]))/\(decide ((i:Int)<(r.length:Int))=false->(0:Nat)+r.length<=l.length/\ak [V.c (W.rd (D.int .i64).sl (List.take r.length (List.drop (0:Nat) l)))]=bT r/\([]:List Ob)=[])) (by kernel_rfl)
   try simp only [and_true,Nat.zero_add,decide_eq_true_eq,decide_eq_false_iff_not,Int.not_lt,List.drop_zero]
   rw [wrap64 (n:=(i:Int)+1) (by omega) (by omega)];refine ⟨fun h=>⟨by omega,by omega,hr.get i,by omega,by omega,?_⟩,fun h=>⟨by omega,?_⟩⟩
   . cases n with
     | zero=>omega
     | succ n =>
       refine Jm r hr hl n (i+1) _ (by omega) (by omega) (by rw [List.length_set];exact h1) ?_;rw [vJ (by omega:i<r.length),vJ (by rw [List.length_set];omega),List.take_set_of_le (Nat.le_refl _),h2,vP,if_pos ⟨rfl,by omega⟩]
   . have:i=r.length:=by omega
     subst this;rw [h2,List.take_length];rfl
theorem Y9 (r:List (List Int)) (hr:Sh r) (hl:r.length<=1000000):aT Tryz.prog 45 [bT r] [] (bT r) []:=by
 refine cJ (live:=[([0,1,0,1,1],[3,9,10,11])]) (bQ:=[]) (fz:=[some dL]) Sk Tryz.func45 (by kernel_rfl) (keep:=0) rfl (by kernel_rfl) 100 ?_;apply of_eq (q:=((0:Int)<=(r.length:Int)/\(r.length:Int)<=(r.length:Int)/\(↑(24:Nat):Int)*(r.length:Int)<=(140737488355328:Int))/\aq (aY Tryz.prog gOw Tryz.f45 (0:Nat) [([0,1,0,1,1],[3,9,10,11])] [] [some dL]) (ax (bT r) []) [0,1,0,1,1] (fr [(3,A.p (V.c (W.sl 0 0 r.length 1))),(9,bT r),(10,nI (r.length:Int)),(11,nI (0))]) (ah.ofList [Ob.mk 79 [Fd.a 1 (D.int .i64).sl (List.replicate r.length ([]:List Int))]])) (by kernel_rfl)
 try simp only [true_and,Int.le_refl]
 refine ⟨by omega,?_⟩;exact Jm r hr hl r.length 0 _ (by omega) (by omega) (by simp) (by simp)
def XU:bw:=jC dL fun r=>(.p (Sh r/\List.length (α:=List Int) r<=1000000),bT r,[])
theorem VX:aH Tryz.prog 45 XU:=fD (by kernel_rfl) fun r h=>Y9 r h.1 h.2
noncomputable def Sl:bF:=[(88,VW),(36,Rk)]
theorem CT:aS Tryz.prog Sl:=ai Y8 (ai Rl ay)
abbrev uE:List (List Nat×List Nat):=[([0,1,0,1,1,1],[1,2,3,9,20,21,22])]
noncomputable def sGv:Site:=aY Tryz.prog Sl Tryz.f44 0 uE [] []
theorem L9 (g au:Int) (r sub:List (List Int)) (hl:1<=au/\au<=20000) (hs:sub.length<=100/\sub.flatten.length<=4000) (hb:∀ w∈sub,w.any (eU g)=false):∀ (n i:Nat),n=sub.length-i->i<=sub.length->
 aq sGv (ax (nI 0) []) [0,1,0,1,1,1] (fr [(1,bT sub),(2,nI au),(3,.p (.c (.ptr 0 0))),(9,nI (sub.take i).flatten.length),(20,bT sub),(21,nI sub.length),(22,nI i)]) (.ofList [gT g r])
 | n,i,hn,hi=>by
   refine aK CT (by kernel_rfl) 100 ?_;apply of_eq (q:=let q1:=decide ((4000:Int)<(↑(List.take i sub).flatten.length:Int));let q2:=decide ((100:Int)<(sub.length:Int));let q3:=decide (au<(1:Int));(decide ((i:Int)<(sub.length:Int))=true->((0:Int)<=(i:Int)/\(i:Int)<(sub.length:Int))/\i<sub.length/\(sub.getD i []).length<=(1000000:Nat)/\((sub.getD i []).any (eU g)=true->ak [V.c (W.int .i64 (2))]=nI (0:Int)/\([]:List Ob)=[])/\((sub.getD i []).any (eU g)=false->aq sGv (ax (nI (0:Int)) []) [0,1,0,1,1,1] (fr [(1,bT sub),(2,nI au),(3,A.p (V.c (W.ptr 0 0))),(9,nI (IntKind.i64.wrap ((↑(List.take i sub).flatten.length:Int)+(↑(sub.getD i []).length:Int)))),(20,bT sub),(21,nI (sub.length:Int)),(22,nI (IntKind.i64.wrap ((i:Int)+(1:Int))))]) (ah.ofList [Ob.mk 25 [Fd.c (W.int .i64 g),Fd.c (W.rd (D.int .i64).sl r)]])))/\(decide ((i:Int)<(sub.length:Int))=false->(q2=false->q2=false)/\(q2=false->q2=false)/\((bif q2 then true else q1)=false->(bif q2 then true else q1)=false)/\((bif q2 then true else q1)=false->(bif q2 then true else q1)=false)/\((bif bif q2 then true else q1 then true else q3)=false->(bif bif q2 then true else q1 then true else q3)=false)/\((bif bif q2 then true else q1 then true else q3)=false->(bif bif q2 then true else q1 then true else q3)=false)/\((bif bif bif q2 then true else q1 then true else q3 then true else decide ((20000:Int)<au))=true->ak [V.c (W.int .i64 (2))]=nI (0:Int)/\([]:List Ob)=[])/\((bif bif bif q2 then true else q1 then true else q3 then true else decide ((20000:Int)<au))=false->ak [V.c (W.int .i64 (0))]=nI (0:Int)/\([]:List Ob)=[]))) (by kernel_rfl)
   try simp only [imp_self,true_and,and_true,Bool.cond_true_left,Bool.or_eq_true,Bool.or_eq_false_iff,decide_eq_true_eq,decide_eq_false_iff_not,Int.not_lt]
   have hle:=nj sub (i+1);have hle0:=nj sub i;rw [wrap64 (n:=(i:Int)+1) (by omega) (by omega)];refine ⟨fun h=>?_,fun h=>⟨fun h1=>by omega,fun h1=>rfl⟩⟩
   . have fX:i<sub.length:=by omega
     have e:=pW fX;rw [e,List.length_append] at hle;rw [wrap64 (n:=((sub.take i).flatten.length:Int)+(sub.getD i []).length) (by omega) (by omega)];have hbi:=hb _ (fw fX);refine ⟨by omega,fX,by omega,fun h1=>(by rw [hbi] at h1;cases h1),fun _=>?_⟩;cases n with
     | zero=>omega
     | succ n =>
       have:=L9 g au r sub hl hs hb n (i+1) (by omega) (by omega);rw [e,List.length_append,Int.natCast_add] at this;exact this
theorem FC (g au:Int) (r sub:List (List Int)) (hr:Sh r) (hc:(eK g r).1=0) (hl:1<=au/\au<=20000) (hs:sub.length<=100/\sub.flatten.length<=4000) (hb:∀ w∈sub,w.any (eU g)=false):aT Tryz.prog 44 [nV g r,bT sub,nI au] [] (nI 0) []:=by
 refine bI (live:=uE) CT Tryz.func44 (by kernel_rfl) (keep:=0) rfl (by kernel_rfl) 100 ?_;apply of_eq (q:=Sh r/\((!decide ((eK g r).fst=(0:Int)))=true->ak [V.c (W.int .i64 (eK g r).fst)]=nI (0:Int)/\([]:List Ob)=[])/\((!decide ((eK g r).fst=(0:Int)))=false->aq (eB Tryz.prog Sl Tryz.f44 (0:Nat) uE) (ax (nI (0:Int)) []) [0,1,0,1,1,1] (fr [(1,bT sub),(2,nI au),(3,A.p (V.c (W.ptr 0 0))),(9,nI (0)),(20,bT sub),(21,nI (sub.length:Int)),(22,nI (0))]) (ah.ofList [Ob.mk 25 [Fd.c (W.int .i64 g),Fd.c (W.rd (D.int .i64).sl r)]]))) (by kernel_rfl)
 try simp only [and_true,Bool.not_eq_true',Bool.not_eq_false',decide_eq_true_eq,decide_eq_false_iff_not]
 exact ⟨hr,fun h=>absurd hc h,fun _=>L9 g au r sub hl hs hb sub.length 0 (by omega) (by omega)⟩
structure Begins (g au:Int) (r sub:List (List Int)):Prop where
 sh:Sh r
 eK:(eK g r).1=0
 au:1<=au/\au<=20000
 subs:sub.length<=100/\sub.flatten.length<=4000
 bad:∀ w∈sub,w.any (eU g)=false
def yx (f:Int->List (List Int)->List (List Int)->Int->Cd×A×List Ob):bw:={ refs:=[],f:=fun args aj=>match args,aj with
 | [x,s,.p (.c (.int .i64 n))],[]=>(match Rj x,gb dL s with | some (g,r),some s=>some (f g r s n) | _,_=>none)
 | _,_=>none }
theorem yA {P:Program} {f:FuncId} {c:Int->List (List Int)->List (List Int)->Int->Cd×A×List Ob} (he:enters P f=true) (h:∀ g r s n,(c g r s n).1->aT P f [nV g r,bT s,nI n] [] (c g r s n).2.1 (c g r s n).2.2):aH P f (yx c):=by
 refine ⟨he,fun args aj cd r aR e hc=>?_⟩;simp only [yx] at e;split at e
 . rename_i x s n;split at e
   . rename_i g r' s' hx hs;have e:=Option.some.inj e;have:=h g r' s' n (by rw [e];exact hc);rw [e] at this;exact this.args fun η Z vs hv=>by
      match vs,hv with
      | [u,v,t],⟨a1,a2,a3,_⟩=>exact ⟨D3 hx a1,ck hs a2,a3,trivial⟩
   . cases e
 . cases e
def Jo:bw:=yx fun g r s n=>(.p (Begins g n r s),nI 0,[])
theorem FD:aH Tryz.prog 44 Jo:=yA (by kernel_rfl) fun g r s n h=>FC g n r s h.sh h.eK h.au h.subs h.bad
def eD (g au:Int) (av sub:List (List Int)):Rn:={ g:=g,av:=av,sub:=sub,au:=au,most:=1,live:=1,stat:=0,ph:=0,co:=0,ix:=0,rows:=[List.replicate (2*g).toNat (-1)],par:=[0],dl:=[],dn:=0 }
abbrev zeroO (g au:Int) (av sub:List (List Int)):Ob:=⟨98,[.c (.int .i64 g),.c (.rd (.sl (.int .i64)) av),.c (.rd (.sl (.int .i64)) sub),.c (.int .i64 au),.c (.int .i64 0),.c (.int .i64 0),.c (.int .i64 0),.c (.int .i64 0),.c (.int .i64 0),.c (.int .i64 0),.c .nil,.c .nil,.c .nil]⟩
abbrev n9 (r:Rn):List Ob:=[⟨98,[.c (.int .i64 r.g),.c (.rd (.sl (.int .i64)) r.av),.c (.rd (.sl (.int .i64)) r.sub),.c (.int .i64 r.au),.c (.int .i64 r.most),.c (.int .i64 r.live),.c (.int .i64 r.stat),.c (.int .i64 r.ph),.c (.int .i64 r.co),.c (.int .i64 r.ix),.c (.sl 1 0 r.rows.length 1),.c (.sl 2 0 r.par.length 1),.c .nil]⟩,f6 r,bp r.par]
theorem VY (g au:Int) (av sub:List (List Int)) (hg:1<=g/\g<=16):aX Tryz.prog 46 1 [pR] [zeroO g au av sub] (nI 0) (n9 (eD g au av sub)):=by
 refine bA (live:=[]) (bQ:=[]) (fz:=[]) Sb Tryz.func46 (by kernel_rfl) 1 (by kernel_rfl) 100 ?_;apply of_eq (q:=let q0:=IntKind.i64.wrap;let q1:=(Cd.t.and Cd.t);let q2:=(q0 ((2:Int)*g));let q3:=(A.p (V.c W.nil));let q4:=(R1.pure q1 q3);let q5:=(1:Nat);let q6:=(W.int .i64 (0));(0:Nat)+q5<=q5/\((0:Int)<=q0 ((2:Int)*g)/\q0 ((2:Int)*g)<=(100000:Int)/\q5<=(100000:Nat)/\q2.toNat*q5<=(1000000:Nat))/\((pw (List.take q5 (List.drop (0:Nat) [(-1:Int)])) q2.toNat).length=q2.toNat*q5/\(0:Nat)<q2.toNat*q5/\(24:Nat)<=(140737488355328:Nat))/\q4.v=q4.v/\q4.v=q4.v/\q4.v=q4.v/\q4.v=q4.v/\(R1.pure q1 (nI g)).v=(R1.pure q1 (nI g)).v/\(R1.pure q1 (nI g)).v=(R1.pure q1 (nI g)).v/\(0:Nat)+q5<=q5/\q5*(8:Nat)<=(140737488355328:Nat)/\q4.v=q4.v/\q4.v=q4.v/\ak [V.c (W.int .i64 (q0 ((↑q5:Int)-(1:Int))))]=nI (0:Int)/\[Ob.mk 98 [Fd.c (W.int .i64 g),Fd.c (W.rd (D.int .i64).sl av),Fd.c (W.rd (D.int .i64).sl sub),Fd.c (W.int .i64 au),Fd.c (W.int .i64 (max (0:Int) (q0 ((0:Int)+(1:Int))))),Fd.c (W.int .i64 (q0 ((0:Int)+(1:Int)))),Fd.c q6,Fd.c q6,Fd.c q6,Fd.c q6,Fd.c (W.sl ((0:Nat)+q5) (0:Nat) q5 q5),Fd.c (W.sl ((0:Nat)+q5+q5) (0:Nat) q5 q5),Fd.c W.nil],Ob.mk 22 [Fd.c (W.th (q2.toNat*q5) [pw (List.take q5 (List.drop (0:Nat) [(-1:Int)])) q2.toNat])],Ob.mk 3 [Fd.a 0 (D.int .i64) (List.take q5 (List.drop (0:Nat) [(0:Int)]))]]=n9 (eD g au av sub)) (by kernel_rfl)
 try simp only [true_and,Nat.zero_add,Nat.mul_one,List.drop_zero,List.take_succ_cons,List.take_zero,Nat.le_refl,Nat.reduceAdd]
 rw [wrap64 (n:=2*g) (by omega) (by omega),wrap64 (n:=0+1) (by omega) (by omega),wrap64 (n:=((1:Nat):Int)-1) (by omega) (by omega),Jd];refine ⟨⟨by omega,by omega,by omega,by omega⟩,⟨by rw [List.length_replicate],by omega,by omega⟩,by omega,rfl,rfl⟩
def OE:bw:={ refs:=[true],keep:=some 1,f:=fun args aj=>match args,aj with
 | [.p (.c (.ptr 0 0))],[⟨t,[.c (.int .i64 g),.c (.rd (.sl (.int .i64)) av),.c (.rd (.sl (.int .i64)) sub),.c (.int .i64 au),.c (.int .i64 0),.c (.int .i64 0),.c (.int .i64 0),.c (.int .i64 0),.c (.int .i64 0),.c (.int .i64 0),.c .nil,.c .nil,.c .nil]⟩] =>
   bif Nat.beq t 98 then some (.p (1<=g/\g<=16),nI 0,n9 (eD g au av sub)) else none
 | _,_=>none }
theorem VZ:aH Tryz.prog 46 OE:=by
 refine ⟨by kernel_rfl,fun args aj c r aR e hc=>?_⟩;simp only [OE] at e;split at e
 . obtain ⟨hb,e1⟩:=ar.aD e;clear e;cases Nat.eq_of_beq_eq_true hb;cases e1;exact VY _ _ _ _ hc
 . cases e
noncomputable def gNw:bF:=[(44,Jo),(45,XU),(46,OE)]
theorem gNw_ok:aS Tryz.prog gNw:=ai FD (ai VX (ai VZ ay))
theorem Sm {g x:Int} (hg:1<=g/\g<=16) (h:eU g x=false):x≠0/\-g<=x/\x<=g:=by
 unfold eU at h;rw [wrap64 (n:=0-g) (by omega) (by omega)] at h;simp only [Bool.or_eq_false_iff,decide_eq_false_iff_not] at h;omega
theorem Jp {g:Int} (hg:1<=g/\g<=16) {w:List Int} (h:w.any (eU g)=false) (hl:w.length<=1000000):Wd g w:=by
 refine ⟨hl,fun x hx=>Sm hg ?_⟩;rw [List.any_eq_false] at h;simpa using h x hx
theorem Jq {g:Int}:∀ {r:List (List Int)} {left i:Int},(mB g r left i).1=0->left<=4000->∀ w∈r,w.any (eU g)=false/\w.length<=4000
 | [],_,_,_,_,w,hw=>by cases hw
 | x :: r, left, i, h, hl, w, hw => by
   rw [mB] at h;split at h
   . cases h
   . rename_i h1;split at h
     . cases h
     . rename_i h2;rcases List.mem_cons.1 hw with rfl | hw
       . exact ⟨by simpa using h2,by omega⟩
       . exact Jq h (by omega) w hw
theorem Jr {g:Int} {r:List (List Int)} (h:(eK g r).1=0):(1<=g/\g<=16)/\r.length<=100/\∀ w∈r,w.any (eU g)=false/\w.length<=4000:=by
 unfold eK at h;split at h
 . cases h
 . rename_i h1;split at h
   . cases h
   . rename_i h2;exact ⟨by omega,by omega,Jq h (by omega)⟩
theorem Bm {w:List Int}:∀ {l:List (List Int)},w∈l->w.length<=l.flatten.length
 | x::l,h=>by
   rw [List.flatten_cons,List.length_append];rcases List.mem_cons.1 h with rfl | h
   . omega
   . have:=Bm h;omega
theorem Begins.good {g au:Int} {av sub:List (List Int)} (B:Begins g au av sub):dZ (eD g au av sub):=by
 obtain ⟨hg,hn,hw⟩:=Jr B.eK;have hl:=B.au;have hs:=B.subs;refine ⟨⟨hg.1,hg.2,rfl,⟨(by show (1:Nat)<=1000000;omega),fun a ha=>?_⟩,fun l hl=>?_,Nat.le_refl _,fun x hx=>(by cases hx),rfl,Nat.le_refl _⟩,Nat.one_pos,hl.1,by show au<=900000;omega,fun w hw'=>Jp hg (hw w hw').1 (by have:=(hw w hw').2;omega),fun w hw'=>Jp hg (B.bad w hw') (by have:w.length<=sub.flatten.length:=Bm hw';omega),by show av.length<=1000;omega,by show sub.length<=1000;omega,.inl rfl,⟨Int.le_refl _,by show (0:Int)<=1;omega⟩,⟨Int.le_refl _,by show (0:Int)<=1000;omega⟩,fun h=>by cases h⟩
 . have:a=0:=by
    have:a<1:=ha;omega
   subst this;exact ⟨Int.le_refl _,Int.le_refl _⟩
 . have hl:l=List.replicate (2*g).toNat (-1):=List.mem_singleton.1 hl;subst hl;refine ⟨List.length_replicate,fun x hx=>?_⟩;rw [List.eq_of_mem_replicate hx];exact ⟨Int.le_refl _,by show (-1:Int)<1;omega⟩
theorem Sn {base : Nat} {η : Eta} {Z : Zeta} {r : Rn} {w : World} (h0 : r.dn = 0) (h1 : r.dl = []) (R : St base η Z (.ofList (n9 r)) w) : St base η Z (.ofList (obs r)) w := by
 have hf:∀ n,3<=n->η n=none:=R.fresh;have h3:η 3=none:=hf 3 (Nat.le_refl _);have back:∀ n o p,(ah.ofList (obs r)).get n=some o->η n=some p->n<3/\∃ o1,(ah.ofList (n9 r)).get n=some o1:=by
  intro n o p h hp;have hn:n<3:=by
   rcases Nat.lt_or_ge n 3 with h | h
   . exact h
   . rw [hf n h] at hp;cases hp
  refine ⟨hn,?_⟩
  match n,hn with
  | 0,_=>exact ⟨_,by rw [ah.aL];rfl⟩
  | 1,_=>exact ⟨_,by rw [ah.aL];rfl⟩
  | 2,_=>exact ⟨_,by rw [ah.aL];rfl⟩
 refine ⟨fun n o p h hp=>?_,fun n o h hp=>?_,fun n o h=>?_,fun n n' o o' p p' b h h' hne hp hp'=>?_,R.zs,fun n hn=>hf n (by have:(ah.ofList (obs r)).next=4:=rfl;omega),R.eX,fun n o p h hp=>?_⟩
 . obtain ⟨hn,o1,ja⟩:=back n o p h hp;rw [ah.aL] at h
   match n,hn with
   | 0, _ =>
     cases h;obtain ⟨a,b,L⟩:=R.aj 0 _ p (by rw [ah.aL];rfl) hp;refine ⟨a,b,?_⟩;obtain ⟨c,fz,l1,l2,l3,l4⟩:=L.there (by simp [Ob.ew,Ob.isMap,Ob.gQ,Ob.cells,Fd.cells]);refine cY.plain (by simp [Ob.ew,Ob.isMap,Ob.gQ,Ob.cells,Fd.cells]) ⟨c,fz,l1,l2,fun i x hx=>?_,l4.plain fun hB=>by obtain ⟨q,e⟩:=hB (.int .i64 r.g) (by simp [Ob.cells,Fd.cells]);cases e⟩ (L.size (by simp [Ob.ew,Ob.isMap,Ob.gQ,Ob.cells,Fd.cells]));rcases Nat.lt_or_ge i 12 with hi | hi
     . refine l3 i x ?_;rw [<-hx]
       match i,hi with
       | 0,_ | 1,_ | 2,_ | 3,_ | 4,_ | 5,_ | 6,_ | 7,_ | 8,_ | 9,_ | 10,_ | 11,_=>rfl
     . have hi2:i=12:=by
        have:=(List.getElem?_eq_some_iff.1 hx).1;have:i<13:=this;omega
       subst hi2;have hx:some (W.sl 3 0 r.dn 1)=some x:=hx;cases hx;obtain ⟨v,v1,v2,v3⟩:=l3 12 .nil rfl;exact ⟨v,v1,.inl ⟨h0,v2⟩,v3⟩
   | 1,_=>exact R.aj 1 o p (by rw [ah.aL];exact h) hp
   | 2,_=>exact R.aj 2 o p (by rw [ah.aL];exact h) hp
 . rw [ah.aL] at h
   match n,h with
   | 0,_=>exact absurd (R.bO 0 _ (by rw [ah.aL];rfl) hp) (by simp [Ob.cells,Fd.cells])
   | 1,h=>exact R.bO 1 o (by rw [ah.aL];exact h) hp
   | 2,h=>exact R.bO 2 o (by rw [ah.aL];exact h) hp
   | 3,h =>
     have h:some (bp r.dl)=some o:=h;cases h;simp [Ob.cells,Fd.cells,h1]
 . rw [ah.aL] at h;exact (List.getElem?_eq_some_iff.1 h).1
 . obtain ⟨_,o1,g1⟩:=back n o p h hp;obtain ⟨_,o2,g2⟩:=back n' o' p' h' hp';exact R.iz n n' o1 o2 p p' b g1 g2 hne hp hp'
 . obtain ⟨_,o1,g1⟩:=back n o p h hp;exact R.sat n o1 p g1 hp
theorem aX.bO {P:Program} {f:FuncId} {keep:Nat} {args:List A} {aj:List Ob} {x:A} {r:Rn} (h0:r.dn=0) (h1:r.dl=[]) (h:aX P f keep args aj x (n9 r)):aX P f keep args aj x (obs r):=by
 intro base η Z w vs R hvs hK;refine (h base η Z w vs R hvs hK).mono ?_;rintro e w' ⟨u,aB,Z',rfl,mv,hx⟩;refine ⟨u,aB,Z',rfl,⟨mv.le,Sn h0 h1 mv.st,⟨mv.step.os,mv.step.tape,mv.step.output,mv.step.size,mv.step.block,fun b ⟨n,o,p,hn,hp,hb⟩=>mv.step.own b ?_,mv.step.bZ,mv.step.fj,rfl⟩⟩,hx⟩;have hn3:n<3:=by
  rcases Nat.lt_or_ge n 3 with h | h
  . exact h
  . have:aB n=none:=mv.st.fresh n h;rw [this] at hp;cases hp
 match n,hn3 with
 | 0,_=>exact ⟨0,_,p,by rw [ah.aL];rfl,hp,hb⟩
 | 1,_=>exact ⟨1,_,p,by rw [ah.aL];rfl,hp,hb⟩
 | 2,_=>exact ⟨2,_,p,by rw [ah.aL];rfl,hp,hb⟩
theorem V0 (g au:Int) (av sub:List (List Int)) (B:Begins g au av sub):aT Tryz.prog 13 [nV g av,bT sub,nI au] [] (.aF [.c (.ptr 0 0),.c (.int .i64 0)]) (n9 (eD g au av sub)):=by
 refine bA (live:=[]) (bQ:=[]) (fz:=[]) gNw_ok Tryz.func13 (by kernel_rfl) 0 (by kernel_rfl) 100 ?_;apply of_eq (q:=let q1:=(eD g au av sub);let q2:=(R1.pure (Cd.t.and Cd.t) (nI g));let q3:=(W.int .i64 (0));Begins g au av sub/\((!decide ((0:Int)=(0:Int)))=true->ak [V.c W.cn,V.c q3]=A.aF [V.c (W.ptr 0 0),V.c q3]/\[]=n9 q1)/\((!decide ((0:Int)=(0:Int)))=false->(Sh av/\av.length<=(1000000:Nat))/\(Sh sub/\sub.length<=(1000000:Nat))/\q2.v=q2.v/\q2.v=q2.v/\q2.v=q2.v/\((1:Int)<=g/\g<=(16:Int))/\ak [V.c (W.ptr 0 0),V.c q3]=A.aF [V.c (W.ptr 0 0),V.c q3]/\[Ob.mk 98 [Fd.c (W.int .i64 q1.g),Fd.c (W.rd (D.int .i64).sl q1.av),Fd.c (W.rd (D.int .i64).sl q1.sub),Fd.c (W.int .i64 q1.au),Fd.c (W.int .i64 q1.most),Fd.c (W.int .i64 q1.live),Fd.c (W.int .i64 q1.stat),Fd.c (W.int .i64 q1.ph),Fd.c (W.int .i64 q1.co),Fd.c (W.int .i64 q1.ix),Fd.c (W.sl ((0:Nat)+(1:Nat)) (0:Nat) (1:Nat) (1:Nat)),Fd.c (W.sl ((0:Nat)+(1:Nat)+(1:Nat)) (0:Nat) (1:Nat) (1:Nat)),Fd.c W.nil],Ob.mk 22 [Fd.c (W.th ((2:Int)*q1.g).toNat q1.rows)],Ob.mk 3 [Fd.a 0 (D.int .i64) q1.par]]=n9 q1)) (by kernel_rfl)
 try simp only [true_and,Nat.zero_add,Bool.not_eq_true',Bool.not_eq_false',decide_eq_true_eq,decide_eq_false_iff_not,Nat.reduceAdd]
 obtain ⟨hg,hn,hw⟩:=Jr B.eK;have hs:=B.subs;refine ⟨B,fun h=>absurd trivial h,fun _=>⟨⟨B.sh,by omega⟩,⟨fun w hw'=>by have:=Bm hw';omega,by omega⟩,hg,rfl,rfl⟩⟩
theorem Ma (g au:Int) (av sub:List (List Int)) (B:Begins g au av sub):aT Tryz.prog 13 [nV g av,bT sub,nI au] [] (.aF [.c (.ptr 0 0),.c (.int .i64 0)]) (obs (eD g au av sub)) :=
 aX.bO rfl rfl (V0 g au av sub B)
def cNew:bw:=yx fun g r s n=>(.p (Begins g n r s),.aF [.c (.ptr 0 0),.c (.int .i64 0)],obs (eD g n r s))
theorem Za:aH Tryz.prog 13 cNew:=yA (by kernel_rfl) fun g r s n h=>Ma g n r s h
end Go.Proofs.YtepmdidomecebaaGreatDoor
