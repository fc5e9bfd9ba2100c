/- Enumeration of cosets: acts and steps in the program. -/
import Derived.Test.YtejehoihhphpiaaDoorEng3
import Derived.Test.YtejehoihhphpiaaDoorEng4
namespace Go.Proofs.YtejehoihhphpiaaDoor
open Go.Loom Go.Words Go.Eng
set_option maxRecDepth 100000
noncomputable def gAc:Gam:=[(42,cFill),(43,cCols),(33,cAlive)]
theorem gAc_ok:GamOk Tryd.prog gAc:=gamOk_cons cFill_ok (gamOk_cons cCols_ok (gamOk_cons cAlive_ok gamOk_nil))
theorem act_sem (r:Rn) (N q:Nat) (G:GoodR r) (h:q<=N/\N<=1000000):FnSemK Tryd.prog 24 4 [pR,fnM] (obM r N q) (bB (act r q).2.2) (obM (act r q).1 N (act r q).2.1):=by
 refine fnSemK_at (live:=[]) (fzl:=[]) (fz:=[]) gAc_ok Tryd.func24 (by kernel_rfl) 4 (by kernel_rfl) 100 ?_
 apply of_eq (q:=let q0:=IntKind.i64.wrap;let q5:=(1:Nat);let q6:=decide (r.ph=(0:Int));let q9:=(Eng.act r q);let q12:=(0:Nat);let q13:=((2:Int)*r.g);let q15:=(W.int .i64 (0));let q16:=(W.rd (D.int .i64).sl r.rels);let q17:=(W.rd (D.int .i64).sl r.sub);let q18:=(N:Int);let q21:=(r.rows.length:Int);let q22:=(W.int .i64 r.most);let q23:=(W.int .i64 r.live);let q24:=(W.int .i64 r.lim);let q25:=(W.ptr 0 0);let q26:=(W.int .i64 r.g);let q27:=(W.int .i64 (1));let q28:=(W.th q13.toNat r.rows);let q29:=decide (r.par.getD r.co.toNat (0:Int)=(r.co.toNat:Int));let q31:=(W.bool false);let q1:=(q18-(q18-(q:Int)));let q2:=(colsF r.co.toNat q13.toNat q12 r q1.toNat);let q3:=(fillF r.co.toNat (r.rels.getD r.ix.toNat []) q1.toNat r);let q4:=(fillF q12 (r.sub.getD r.ix.toNat []) q1.toNat r);let q7:=(q12+q5+q5+q5+q5+q5+q5);let q8:=(q12+q5+q5+q5+q5+q5);let q10:=(q12+q5+q5+q5+q5);let q11:=(W.int .i64 q18);let q14:=(W.int .i64 (q18-(q:Int)));let q19:=(W.sl q10 q12 r.rows.length q5);let q20:=(W.sl q8 q12 r.par.length q5);let q30:=(W.sl q7 q12 r.dn q5);(q6=true->q6=true)/\(q6=true->q6=true)/\(q6=true->q6=true)/\(q6=true->q6=true)/\(q6=true->q6=true)/\(q6=true->q6=true)/\(q6=true->q6=true)/\(q6=true->q6=true)/\(q6=true->q6=true)/\(q6=true->q6=true)/\((bif q6 then decide ((r.sub.length:Int)<=r.ix) else false)=true->packV [V.c q31]=bB q9.snd.snd/\[Ob.mk 57 [Fd.c q26,Fd.c q16,Fd.c q17,Fd.c q24,Fd.c q22,Fd.c q23,Fd.c (W.int .i64 r.stat),Fd.c q27,Fd.c q15,Fd.c q15,Fd.c q19,Fd.c q20,Fd.c q30],Ob.mk 29 [Fd.c q25],Ob.mk 3 [Fd.c q14],Ob.mk 3 [Fd.c q11],Ob.mk 22 [Fd.c q28],Ob.mk 3 [Fd.a 0 (D.int .i64) r.par],Ob.mk 3 [Fd.a 0 (D.int .i64) r.dl]]=obM q9.fst N q9.snd.fst)/\((bif q6 then decide ((r.sub.length:Int)<=r.ix) else false)=false->(q6=true->((0:Int)<=r.ix/\r.ix<(r.sub.length:Int))/\r.ix.toNat<r.sub.length/\(((r.rows.length=r.rows.length/\r.par.length=r.par.length/\q13.toNat=q13.toNat)/\(0:Int)<=q18-(q:Int)/\q18-(q:Int)<=q18/\q18<=(1000000:Int))/\(0:Int)<=(0:Int)/\Fine r/\Wd r.g (r.sub.getD r.ix.toNat [])/\q12<r.rows.length/\q21<=r.lim/\r.lim<=(900000:Int))/\((!q4.snd.snd)=true->packV [V.c (W.bool true)]=bB q9.snd.snd/\[Ob.mk 57 [Fd.c (W.int .i64 q4.fst.g),Fd.c (W.rd (D.int .i64).sl q4.fst.rels),Fd.c (W.rd (D.int .i64).sl q4.fst.sub),Fd.c (W.int .i64 q4.fst.lim),Fd.c (W.int .i64 q4.fst.most),Fd.c (W.int .i64 q4.fst.live),Fd.c (W.int .i64 q4.fst.stat),Fd.c (W.int .i64 q4.fst.ph),Fd.c (W.int .i64 q4.fst.co),Fd.c (W.int .i64 q4.fst.ix),Fd.c (W.sl q10 q12 q4.fst.rows.length q5),Fd.c (W.sl q8 q12 q4.fst.par.length q5),Fd.c (W.sl q7 q12 q4.fst.dn q5)],Ob.mk 29 [Fd.c q25],Ob.mk 3 [Fd.c (W.int .i64 (q18-(↑q4.snd.fst:Int)))],Ob.mk 3 [Fd.c q11],Ob.mk 22 [Fd.c (W.th ((2:Int)*q4.fst.g).toNat q4.fst.rows)],Ob.mk 3 [Fd.a 0 (D.int .i64) q4.fst.par],Ob.mk 3 [Fd.a 0 (D.int .i64) q4.fst.dl]]=obM q9.fst N q9.snd.fst)/\((!q4.snd.snd)=false->packV [V.c q31]=bB q9.snd.snd/\[Ob.mk 57 [Fd.c (W.int .i64 q4.fst.g),Fd.c (W.rd (D.int .i64).sl q4.fst.rels),Fd.c (W.rd (D.int .i64).sl q4.fst.sub),Fd.c (W.int .i64 q4.fst.lim),Fd.c (W.int .i64 q4.fst.most),Fd.c (W.int .i64 q4.fst.live),Fd.c (W.int .i64 q4.fst.stat),Fd.c (W.int .i64 q4.fst.ph),Fd.c (W.int .i64 q4.fst.co),Fd.c (W.int .i64 (q0 (q4.fst.ix+(1:Int)))),Fd.c (W.sl q10 q12 q4.fst.rows.length q5),Fd.c (W.sl q8 q12 q4.fst.par.length q5),Fd.c (W.sl q7 q12 q4.fst.dn q5)],Ob.mk 29 [Fd.c q25],Ob.mk 3 [Fd.c (W.int .i64 (q18-(↑q4.snd.fst:Int)))],Ob.mk 3 [Fd.c q11],Ob.mk 22 [Fd.c (W.th ((2:Int)*q4.fst.g).toNat q4.fst.rows)],Ob.mk 3 [Fd.a 0 (D.int .i64) q4.fst.par],Ob.mk 3 [Fd.a 0 (D.int .i64) q4.fst.dl]]=obM q9.fst N q9.snd.fst))/\(q6=false->(decide (r.ph=(2:Int))=true->(((r.rows.length=r.rows.length/\r.par.length=r.par.length/\q13.toNat=q13.toNat)/\(0:Int)<=q18-(q:Int)/\q18-(q:Int)<=q18/\q18<=(1000000:Int))/\(0:Int)<=r.co/\Fine r/\r.co.toNat<r.rows.length/\q21<=r.lim/\r.lim<=(900000:Int))/\((!q2.snd.snd)=true->packV [V.c (W.bool true)]=bB q9.snd.snd/\[Ob.mk 57 [Fd.c (W.int .i64 q2.fst.g),Fd.c (W.rd (D.int .i64).sl q2.fst.rels),Fd.c (W.rd (D.int .i64).sl q2.fst.sub),Fd.c (W.int .i64 q2.fst.lim),Fd.c (W.int .i64 q2.fst.most),Fd.c (W.int .i64 q2.fst.live),Fd.c (W.int .i64 q2.fst.stat),Fd.c (W.int .i64 q2.fst.ph),Fd.c (W.int .i64 q2.fst.co),Fd.c (W.int .i64 q2.fst.ix),Fd.c (W.sl q10 q12 q2.fst.rows.length q5),Fd.c (W.sl q8 q12 q2.fst.par.length q5),Fd.c (W.sl q7 q12 q2.fst.dn q5)],Ob.mk 29 [Fd.c q25],Ob.mk 3 [Fd.c (W.int .i64 (q18-(↑q2.snd.fst:Int)))],Ob.mk 3 [Fd.c q11],Ob.mk 22 [Fd.c (W.th ((2:Int)*q2.fst.g).toNat q2.fst.rows)],Ob.mk 3 [Fd.a 0 (D.int .i64) q2.fst.par],Ob.mk 3 [Fd.a 0 (D.int .i64) q2.fst.dl]]=obM q9.fst N q9.snd.fst)/\((!q2.snd.snd)=false->packV [V.c q31]=bB q9.snd.snd/\[Ob.mk 57 [Fd.c (W.int .i64 q2.fst.g),Fd.c (W.rd (D.int .i64).sl q2.fst.rels),Fd.c (W.rd (D.int .i64).sl q2.fst.sub),Fd.c (W.int .i64 q2.fst.lim),Fd.c (W.int .i64 q2.fst.most),Fd.c (W.int .i64 q2.fst.live),Fd.c (W.int .i64 q2.fst.stat),Fd.c q27,Fd.c (W.int .i64 (q0 (q2.fst.co+(1:Int)))),Fd.c q15,Fd.c (W.sl q10 q12 q2.fst.rows.length q5),Fd.c (W.sl q8 q12 q2.fst.par.length q5),Fd.c (W.sl q7 q12 q2.fst.dn q5)],Ob.mk 29 [Fd.c q25],Ob.mk 3 [Fd.c (W.int .i64 (q18-(↑q2.snd.fst:Int)))],Ob.mk 3 [Fd.c q11],Ob.mk 22 [Fd.c (W.th ((2:Int)*q2.fst.g).toNat q2.fst.rows)],Ob.mk 3 [Fd.a 0 (D.int .i64) q2.fst.par],Ob.mk 3 [Fd.a 0 (D.int .i64) q2.fst.dl]]=obM q9.fst N q9.snd.fst))/\(decide (r.ph=(2:Int))=false->(decide (r.co=q21)=true->packV [V.c (W.bool true)]=bB q9.snd.snd/\[Ob.mk 57 [Fd.c q26,Fd.c q16,Fd.c q17,Fd.c q24,Fd.c q22,Fd.c q23,Fd.c q27,Fd.c (W.int .i64 (3)),Fd.c q15,Fd.c q15,Fd.c q19,Fd.c q20,Fd.c q30],Ob.mk 29 [Fd.c q25],Ob.mk 3 [Fd.c q14],Ob.mk 3 [Fd.c q11],Ob.mk 22 [Fd.c q28],Ob.mk 3 [Fd.a 0 (D.int .i64) r.par],Ob.mk 3 [Fd.a 0 (D.int .i64) r.dl]]=obM q9.fst N q9.snd.fst)/\(decide (r.co=q21)=false->((r.rows.length=r.rows.length/\r.par.length=r.par.length/\q13.toNat=q13.toNat)/\(0:Int)<=r.co/\r.co.toNat<r.par.length)/\((!q29)=true->packV [V.c q31]=bB q9.snd.snd/\[Ob.mk 57 [Fd.c q26,Fd.c q16,Fd.c q17,Fd.c q24,Fd.c q22,Fd.c q23,Fd.c (W.int .i64 r.stat),Fd.c q27,Fd.c (W.int .i64 (q0 (r.co+(1:Int)))),Fd.c q15,Fd.c q19,Fd.c q20,Fd.c q30],Ob.mk 29 [Fd.c q25],Ob.mk 3 [Fd.c q14],Ob.mk 3 [Fd.c q11],Ob.mk 22 [Fd.c q28],Ob.mk 3 [Fd.a 0 (D.int .i64) r.par],Ob.mk 3 [Fd.a 0 (D.int .i64) r.dl]]=obM q9.fst N q9.snd.fst)/\((!q29)=false->(decide ((r.rels.length:Int)<=r.ix)=true->packV [V.c q31]=bB q9.snd.snd/\[Ob.mk 57 [Fd.c q26,Fd.c q16,Fd.c q17,Fd.c q24,Fd.c q22,Fd.c q23,Fd.c (W.int .i64 r.stat),Fd.c (W.int .i64 (2)),Fd.c (W.int .i64 r.co),Fd.c q15,Fd.c q19,Fd.c q20,Fd.c q30],Ob.mk 29 [Fd.c q25],Ob.mk 3 [Fd.c q14],Ob.mk 3 [Fd.c q11],Ob.mk 22 [Fd.c q28],Ob.mk 3 [Fd.a 0 (D.int .i64) r.par],Ob.mk 3 [Fd.a 0 (D.int .i64) r.dl]]=obM q9.fst N q9.snd.fst)/\(decide ((r.rels.length:Int)<=r.ix)=false->((0:Int)<=r.ix/\r.ix<(r.rels.length:Int))/\r.ix.toNat<r.rels.length/\(((r.rows.length=r.rows.length/\r.par.length=r.par.length/\q13.toNat=q13.toNat)/\(0:Int)<=q18-(q:Int)/\q18-(q:Int)<=q18/\q18<=(1000000:Int))/\(0:Int)<=r.co/\Fine r/\Wd r.g (r.rels.getD r.ix.toNat [])/\r.co.toNat<r.rows.length/\q21<=r.lim/\r.lim<=(900000:Int))/\((!q3.snd.snd)=true->packV [V.c (W.bool true)]=bB q9.snd.snd/\[Ob.mk 57 [Fd.c (W.int .i64 q3.fst.g),Fd.c (W.rd (D.int .i64).sl q3.fst.rels),Fd.c (W.rd (D.int .i64).sl q3.fst.sub),Fd.c (W.int .i64 q3.fst.lim),Fd.c (W.int .i64 q3.fst.most),Fd.c (W.int .i64 q3.fst.live),Fd.c (W.int .i64 q3.fst.stat),Fd.c (W.int .i64 q3.fst.ph),Fd.c (W.int .i64 q3.fst.co),Fd.c (W.int .i64 q3.fst.ix),Fd.c (W.sl q10 q12 q3.fst.rows.length q5),Fd.c (W.sl q8 q12 q3.fst.par.length q5),Fd.c (W.sl q7 q12 q3.fst.dn q5)],Ob.mk 29 [Fd.c q25],Ob.mk 3 [Fd.c (W.int .i64 (q18-(↑q3.snd.fst:Int)))],Ob.mk 3 [Fd.c q11],Ob.mk 22 [Fd.c (W.th ((2:Int)*q3.fst.g).toNat q3.fst.rows)],Ob.mk 3 [Fd.a 0 (D.int .i64) q3.fst.par],Ob.mk 3 [Fd.a 0 (D.int .i64) q3.fst.dl]]=obM q9.fst N q9.snd.fst)/\((!q3.snd.snd)=false->packV [V.c q31]=bB q9.snd.snd/\[Ob.mk 57 [Fd.c (W.int .i64 q3.fst.g),Fd.c (W.rd (D.int .i64).sl q3.fst.rels),Fd.c (W.rd (D.int .i64).sl q3.fst.sub),Fd.c (W.int .i64 q3.fst.lim),Fd.c (W.int .i64 q3.fst.most),Fd.c (W.int .i64 q3.fst.live),Fd.c (W.int .i64 q3.fst.stat),Fd.c (W.int .i64 q3.fst.ph),Fd.c (W.int .i64 q3.fst.co),Fd.c (W.int .i64 (q0 (q3.fst.ix+(1:Int)))),Fd.c (W.sl q10 q12 q3.fst.rows.length q5),Fd.c (W.sl q8 q12 q3.fst.par.length q5),Fd.c (W.sl q7 q12 q3.fst.dn q5)],Ob.mk 29 [Fd.c q25],Ob.mk 3 [Fd.c (W.int .i64 (q18-(↑q3.snd.fst:Int)))],Ob.mk 3 [Fd.c q11],Ob.mk 22 [Fd.c (W.th ((2:Int)*q3.fst.g).toNat q3.fst.rows)],Ob.mk 3 [Fd.a 0 (D.int .i64) q3.fst.par],Ob.mk 3 [Fd.a 0 (D.int .i64) q3.fst.dl]]=obM q9.fst N q9.snd.fst)))))))) (by kernel_rfl)
 try simp only [imp_self,true_and,and_true,Nat.zero_add,Bool.cond_false_right,Bool.and_eq_true,Bool.and_eq_false_imp,Bool.not_eq_true',Bool.not_eq_false',decide_eq_true_eq,decide_eq_false_iff_not,Int.not_le,Int.le_refl,Nat.reduceAdd]
 have hg:=G.ix
 have hc:=G.co
 have hl:=G.lim
 have hl2:=G.lim2
 have hph:=G.ph
 have hn1:=G.n1
 have hns:=G.ns
 have hnr:=G.nr
 have hpl:r.par.length=r.rows.length:=G.fine.len
 rw [show ((N:Int)-((N:Int)-(q:Int))).toNat=q by omega]
 have hq:0<=(N:Int)-q/\(N:Int)-q<=N/\(N:Int)<=1000000:=by omega
 rw [wrap64 (n:=r.co+1) (by omega) (by omega)]
 refine ⟨fun h1=>?_,fun h1=>⟨fun h2=>?_,fun h2=>⟨fun h3=>?_,fun h3=>⟨fun h4=>?_,fun h4=>?_⟩⟩⟩⟩
 . rw [Eng.act,if_pos h1];exact ⟨rfl,rfl⟩
 . have hi:r.ix<r.sub.length:=h1 h2
   have hw:=G.sub _ (getL_memS hg.1 hi)
   have F:=fill_ok (a:=0) (w:=r.sub.getD r.ix.toNat []) q G.fine hw hn1 hl hl2
   obtain ⟨_,_,_,_,_,_,k7,_⟩:=F.keep
   simp only at k7
   refine ⟨by omega,by omega,⟨hq,G.fine,hw,hn1,hl,hl2⟩,fun h=>?_,fun h=>?_⟩
   . rw [Eng.act,if_neg (by omega),if_pos h2,if_pos h];exact ⟨rfl,rfl⟩
   . rw [k7,wrap64 (n:=r.ix+1) (by omega) (by omega),Eng.act,if_neg (by omega),if_pos h2,if_neg (by rw [h];simp)];exact ⟨rfl,rfl⟩
 . have hco:=G.co2 h3
   have F:=cols_ok (a:=r.co.toNat) (2*r.g).toNat 0 q G.fine (by omega) (by omega) hl hl2
   obtain ⟨_,_,_,_,_,k6,_,_⟩:=F.keep
   simp only at k6
   refine ⟨⟨hq,hc.1,G.fine,by omega,hl,hl2⟩,fun h=>?_,fun h=>?_⟩
   . rw [Eng.act,if_neg (by omega),if_neg h2,if_pos h3,if_pos h];exact ⟨rfl,rfl⟩
   . rw [k6,wrap64 (n:=r.co+1) (by omega) (by omega),Eng.act,if_neg (by omega),if_neg h2,if_pos h3,if_neg (by rw [h];simp)];exact ⟨rfl,rfl⟩
 . rw [Eng.act,if_neg (by omega),if_neg h2,if_neg h3,if_pos h4];exact ⟨rfl,rfl⟩
 . have hp1:r.ph=1:=by omega
   have hcl:r.co.toNat<r.rows.length:=by omega
   refine ⟨by omega,fun h5=>?_,fun h5=>⟨fun h6=>?_,fun h6=>?_⟩⟩
   . rw [Eng.act,if_neg (by omega),if_neg h2,if_neg h3,if_neg h4,if_pos (by omega)];exact ⟨rfl,rfl⟩
   . rw [Eng.act,if_neg (by omega),if_neg h2,if_neg h3,if_neg h4,if_neg (by omega),if_pos h6];exact ⟨rfl,rfl⟩
   . have hw:=G.rels _ (getL_memS hg.1 h6)
     have F:=fill_ok (a:=r.co.toNat) (w:=r.rels.getD r.ix.toNat []) q G.fine hw hcl hl hl2
     obtain ⟨_,_,_,_,_,_,k7,_⟩:=F.keep
     simp only at k7
     refine ⟨by omega,by omega,⟨hq,hc.1,G.fine,hw,hcl,hl,hl2⟩,fun h=>?_,fun h=>?_⟩
     . rw [Eng.act,if_neg (by omega),if_neg h2,if_neg h3,if_neg h4,if_neg (by omega),if_neg (by omega),if_pos h];exact ⟨rfl,rfl⟩
     . rw [k7,wrap64 (n:=r.ix+1) (by omega) (by omega),Eng.act,if_neg (by omega),if_neg h2,if_neg h3,if_neg h4,if_neg (by omega),if_neg (by omega),if_neg (by rw [h];simp)];exact ⟨rfl,rfl⟩
def cAct:Con:={ refs:=[true,true],keep:=some 4,f:=fun args objs=>match args with
 | [.p (.c (.ptr 0 0)),.p (.c (.func f [(1,0),(2,0),(3,0)]))]=>bif Nat.beq f 23 then match asM objs with
   | some (c,r,N,q)=>some (.p (c/\GoodR r),bB (Eng.act r q).2.2,obM (Eng.act r q).1 N (Eng.act r q).2.1)
   | _=>none
   else none
 | _=>none }
theorem cAct_ok:ConOk Tryd.prog 24 cAct:=by
 refine ⟨by kernel_rfl,fun args objs c r objs' e hc=>?_⟩
 simp only [cAct] at e
 split at e
 . rename_i f
   obtain ⟨hb,e1⟩:=Mill.bif_some e
   clear e
   cases Nat.eq_of_beq_eq_true hb
   split at e1
   . rename_i c1 r1 N q hr
     cases e1
     obtain ⟨h1,h2⟩:=hc
     obtain ⟨rfl,g1,g2⟩:=asM_eq hr h1
     exact act_sem r1 N q h2 ⟨g1,g2⟩
   . cases e1
 . cases e
/-! ### Small methods -/
theorem valid_sem (r:Rn):FnSemK Tryd.prog 22 1 [pR] (obs r) (bB (decide (0<r.rows.length))) (obs r):=by
 refine fnSemK_at (live:=[]) (fzl:=[]) (fz:=[]) gamOk_nil Tryd.func22 (by kernel_rfl) 1 (by kernel_rfl) 100 ?_
 apply of_eq (q:=(true=true->true=true)/\(true=true->true=true)/\(true=true->true=true)/\(true=true->true=true)/\(true=true->true=true)/\(true=true->true=true)/\packV [V.c (W.bool (bif true then decide ((0:Int)<(r.rows.length:Int)) else false))]=bB (decide ((0:Nat)<r.rows.length))/\[Ob.mk 57 [Fd.c (W.int .i64 r.g),Fd.c (W.rd (D.int .i64).sl r.rels),Fd.c (W.rd (D.int .i64).sl r.sub),Fd.c (W.int .i64 r.lim),Fd.c (W.int .i64 r.most),Fd.c (W.int .i64 r.live),Fd.c (W.int .i64 r.stat),Fd.c (W.int .i64 r.ph),Fd.c (W.int .i64 r.co),Fd.c (W.int .i64 r.ix),Fd.c (W.sl ((0:Nat)+(1:Nat)) (0:Nat) r.rows.length (1:Nat)),Fd.c (W.sl ((0:Nat)+(1:Nat)+(1:Nat)) (0:Nat) r.par.length (1:Nat)),Fd.c (W.sl ((0:Nat)+(1:Nat)+(1:Nat)+(1:Nat)) (0:Nat) r.dn (1:Nat))],Ob.mk 22 [Fd.c (W.th ((2:Int)*r.g).toNat r.rows)],Ob.mk 3 [Fd.a 0 (D.int .i64) r.par],Ob.mk 3 [Fd.a 0 (D.int .i64) r.dl]]=obs r) (by kernel_rfl)
 try simp only [imp_self,true_and,and_true,Nat.zero_add,Bool.cond_false_right,Nat.reduceAdd]
 rw [Bool.true_and]
 simp only [packV,Int.natCast_pos]
def cValid:Con:=conR0 fun r=>(True,bB (decide (0<r.rows.length)),r)
theorem cValid_ok:ConOk Tryd.prog 22 cValid:=conR0_ok (by kernel_rfl) fun r _=>valid_sem r
noncomputable def gVa:Gam:=[(24,cAct),(22,cValid)]
theorem gVa_ok:GamOk Tryd.prog gVa:=gamOk_cons cAct_ok (gamOk_cons cValid_ok gamOk_nil)
noncomputable def sStp:Site:=mkSiteF Tryd.prog gVa Tryd.f9 1 [([0,0,1,1,1,1],[2,6,7])] [] []
theorem stp_loop (N:Nat) (hN:N<=1000000) (y:Rn×Nat):∀ (f:Nat) (r:Rn) (q:Nat),GoodR r->q<=N->runF f r q=some y->
 AtLoop sStp (Says1 (.tup [.c (.int .i64 ((N:Int)-y.2)),.c (.int .i64 0)]) (obs y.1)) [0,0,1,1,1,1] (fr [(2,.p (.c (.ptr 1 0))),(6,.p (.c (.ptr 2 0))),(7,fnM)]) (.ofList (obM r N q))
 | f,r,q,G,hq,hf=>by
   refine atLoop_at gVa_ok (by kernel_rfl) 100 ?_
   apply of_eq (q:=let q1:=(Eng.act r ((N:Int)-((N:Int)-(q:Int))).toNat);let q2:=(1:Nat);let q3:=(W.int .i64 ((N:Int)-(↑q1.snd.fst:Int)));(((r.rows.length=r.rows.length/\r.par.length=r.par.length/\((2:Int)*r.g).toNat=((2:Int)*r.g).toNat)/\(0:Int)<=(N:Int)-(q:Int)/\(N:Int)-(q:Int)<=(N:Int)/\(N:Int)<=(1000000:Int))/\GoodR r)/\((!q1.snd.snd)=true->AtLoop sStp (Says1 (A.tup [V.c (W.int .i64 ((N:Int)-(y.snd:Int))),V.c (W.int .i64 (0))]) (obs y.fst)) [0,0,1,1,1,1] (fr [(2,A.p (V.c (W.ptr 1 0))),(6,A.p (V.c (W.ptr 2 0))),(7,A.p (V.c (W.func 23 [(1,(0:Nat)),(2,(0:Nat)),(3,(0:Nat))])))]) (Sto.ofList [Ob.mk 57 [Fd.c (W.int .i64 q1.fst.g),Fd.c (W.rd (D.int .i64).sl q1.fst.rels),Fd.c (W.rd (D.int .i64).sl q1.fst.sub),Fd.c (W.int .i64 q1.fst.lim),Fd.c (W.int .i64 q1.fst.most),Fd.c (W.int .i64 q1.fst.live),Fd.c (W.int .i64 q1.fst.stat),Fd.c (W.int .i64 q1.fst.ph),Fd.c (W.int .i64 q1.fst.co),Fd.c (W.int .i64 q1.fst.ix),Fd.c (W.sl 4 0 q1.fst.rows.length q2),Fd.c (W.sl 5 0 q1.fst.par.length q2),Fd.c (W.sl 6 0 q1.fst.dn q2)],Ob.mk 29 [Fd.c (W.ptr 0 0)],Ob.mk 3 [Fd.c q3],Ob.mk 3 [Fd.c (W.int .i64 (N:Int))],Ob.mk 22 [Fd.c (W.th ((2:Int)*q1.fst.g).toNat q1.fst.rows)],Ob.mk 3 [Fd.a 0 (D.int .i64) q1.fst.par],Ob.mk 3 [Fd.a 0 (D.int .i64) q1.fst.dl]]))/\((!q1.snd.snd)=false->packV [V.c q3,V.c (W.int .i64 (0))]=A.tup [V.c (W.int .i64 ((N:Int)-(y.snd:Int))),V.c (W.int .i64 (0))]/\[Ob.mk 57 [Fd.c (W.int .i64 q1.fst.g),Fd.c (W.rd (D.int .i64).sl q1.fst.rels),Fd.c (W.rd (D.int .i64).sl q1.fst.sub),Fd.c (W.int .i64 q1.fst.lim),Fd.c (W.int .i64 q1.fst.most),Fd.c (W.int .i64 q1.fst.live),Fd.c (W.int .i64 q1.fst.stat),Fd.c (W.int .i64 q1.fst.ph),Fd.c (W.int .i64 q1.fst.co),Fd.c (W.int .i64 q1.fst.ix),Fd.c (W.sl ((0:Nat)+q2) (0:Nat) q1.fst.rows.length q2),Fd.c (W.sl ((0:Nat)+q2+q2) (0:Nat) q1.fst.par.length q2),Fd.c (W.sl ((0:Nat)+q2+q2+q2) (0:Nat) q1.fst.dn q2)],Ob.mk 22 [Fd.c (W.th ((2:Int)*q1.fst.g).toNat q1.fst.rows)],Ob.mk 3 [Fd.a 0 (D.int .i64) q1.fst.par],Ob.mk 3 [Fd.a 0 (D.int .i64) q1.fst.dl]]=obs y.fst)) (by kernel_rfl)
   try simp only [true_and,and_true,Nat.zero_add,Bool.not_eq_true',Bool.not_eq_false',Nat.reduceAdd]
   have A:=act_ok G q
   have al:=A.len
   have ag:=A.grown
   rw [show ((N:Int)-((N:Int)-(q:Int))).toNat=q by omega]
   refine ⟨⟨⟨by omega,by omega,by omega⟩,G⟩,fun h=>?_,fun h=>?_⟩
   . obtain ⟨g1,_,_⟩:=A.go h
     cases f with
     | zero=>cases hf
     | succ f =>
       rw [runF,if_neg (by rw [h];simp)] at hf
       exact stp_loop N hN y f (Eng.act r q).1 (Eng.act r q).2.1 g1 (by omega) hf
   . cases f with
     | zero=>cases hf
     | succ f =>
       rw [runF,if_pos h] at hf
       cases hf
       exact ⟨rfl,rfl⟩
def stepR (r:Rn) (n:Int):Rn×Int×Int:=if n<1 then (r,0,2) else if ¬ r.stat=0 then (r,0,13) else ((Eng.run r n.toNat).1,n-(Eng.run r n.toNat).2,0)
theorem step_sem (r:Rn) (n:Int) (h:0<r.rows.length/\n<=1000000/\(1<=n->r.stat=0->GoodR r)):FnSemK Tryd.prog 9 1 [pR,nI n] (obs r) (.tup [.c (.int .i64 (stepR r n).2.1),.c (.int .i64 (stepR r n).2.2)]) (obs (stepR r n).1):=by
 refine fnSemK_at (live:=[([0,0,1,1,1,1],[2,6,7])]) (fzl:=[]) (fz:=[]) gVa_ok Tryd.func9 (by kernel_rfl) 1 (by kernel_rfl) 100 ?_
 apply of_eq (q:=let q1:=(W.sl ((0:Nat)+(1:Nat)+(1:Nat)+(1:Nat)) (0:Nat) r.dn (1:Nat));let q2:=(W.sl ((0:Nat)+(1:Nat)+(1:Nat)) (0:Nat) r.par.length (1:Nat));let q3:=(W.sl ((0:Nat)+(1:Nat)) (0:Nat) r.rows.length (1:Nat));let q4:=(W.int .i64 (stepR r n).snd.fst);let q5:=(W.int .i64 (stepR r n).snd.snd);let q6:=(W.th ((2:Int)*r.g).toNat r.rows);let q7:=(W.rd (D.int .i64).sl r.rels);let q8:=(W.rd (D.int .i64).sl r.sub);let q9:=(W.int .i64 r.most);let q10:=(W.int .i64 r.live);let q11:=(W.int .i64 r.stat);let q12:=(W.int .i64 r.lim);let q13:=(W.int .i64 r.ph);let q14:=(W.int .i64 r.co);let q15:=(W.int .i64 r.ix);let q16:=(W.int .i64 (0));let q17:=(W.int .i64 r.g);((r.rows.length=r.rows.length/\r.par.length=r.par.length/\((2:Int)*r.g).toNat=((2:Int)*r.g).toNat)/\True)/\((!decide ((0:Nat)<r.rows.length))=true->packV [V.c q16,V.c (W.int .i64 (1))]=A.tup [V.c q4,V.c q5]/\[Ob.mk 57 [Fd.c q17,Fd.c q7,Fd.c q8,Fd.c q12,Fd.c q9,Fd.c q10,Fd.c q11,Fd.c q13,Fd.c q14,Fd.c q15,Fd.c q3,Fd.c q2,Fd.c q1],Ob.mk 22 [Fd.c q6],Ob.mk 3 [Fd.a 0 (D.int .i64) r.par],Ob.mk 3 [Fd.a 0 (D.int .i64) r.dl]]=obs (stepR r n).fst)/\((!decide ((0:Nat)<r.rows.length))=false->(decide (n<(1:Int))=true->packV [V.c q16,V.c (W.int .i64 (2))]=A.tup [V.c q4,V.c q5]/\[Ob.mk 57 [Fd.c q17,Fd.c q7,Fd.c q8,Fd.c q12,Fd.c q9,Fd.c q10,Fd.c q11,Fd.c q13,Fd.c q14,Fd.c q15,Fd.c q3,Fd.c q2,Fd.c q1],Ob.mk 22 [Fd.c q6],Ob.mk 3 [Fd.a 0 (D.int .i64) r.par],Ob.mk 3 [Fd.a 0 (D.int .i64) r.dl]]=obs (stepR r n).fst)/\(decide (n<(1:Int))=false->((!decide (r.stat=(0:Int)))=true->packV [V.c q16,V.c (W.int .i64 (13))]=A.tup [V.c q4,V.c q5]/\[Ob.mk 57 [Fd.c q17,Fd.c q7,Fd.c q8,Fd.c q12,Fd.c q9,Fd.c q10,Fd.c q11,Fd.c q13,Fd.c q14,Fd.c q15,Fd.c q3,Fd.c q2,Fd.c q1],Ob.mk 22 [Fd.c q6],Ob.mk 3 [Fd.a 0 (D.int .i64) r.par],Ob.mk 3 [Fd.a 0 (D.int .i64) r.dl]]=obs (stepR r n).fst)/\((!decide (r.stat=(0:Int)))=false->AtLoop (mkSiteF Tryd.prog gVa Tryd.f9 (1:Nat) [([0,0,1,1,1,1],[2,6,7])] [] []) (Says1 (A.tup [V.c q4,V.c q5]) (obs (stepR r n).fst)) [0,0,1,1,1,1] (fr [(2,A.p (V.c (W.ptr 1 0))),(6,A.p (V.c (W.ptr 2 0))),(7,A.p (V.c (W.func 23 [(1,(0:Nat)),(2,(0:Nat)),(3,(0:Nat))])))]) (Sto.ofList [Ob.mk 57 [Fd.c q17,Fd.c q7,Fd.c q8,Fd.c q12,Fd.c q9,Fd.c q10,Fd.c q11,Fd.c q13,Fd.c q14,Fd.c q15,Fd.c (W.sl 4 0 r.rows.length 1),Fd.c (W.sl 5 0 r.par.length 1),Fd.c (W.sl 6 0 r.dn 1)],Ob.mk 29 [Fd.c (W.ptr 0 0)],Ob.mk 3 [Fd.c q16],Ob.mk 3 [Fd.c (W.int .i64 n)],Ob.mk 22 [Fd.c q6],Ob.mk 3 [Fd.a 0 (D.int .i64) r.par],Ob.mk 3 [Fd.a 0 (D.int .i64) r.dl]]))))) (by kernel_rfl)
 try simp only [true_and,and_true,Nat.zero_add,Bool.not_eq_true',Bool.not_eq_false',decide_eq_true_eq,decide_eq_false_iff_not,Int.not_lt,Nat.reduceAdd]
 obtain ⟨h1,h2,h3⟩:=h
 refine ⟨fun g=>absurd h1 g,fun _=>⟨fun g=>?_,fun g=>⟨fun g2=>?_,fun g2=>?_⟩⟩⟩
 . rw [stepR,if_pos g];exact ⟨rfl,rfl⟩
 . rw [stepR,if_neg (by omega),if_pos g2];exact ⟨rfl,rfl⟩
 . have G:=h3 g g2
   rw [stepR,if_neg (by omega),if_neg (by rw [g2];simp)]
   obtain ⟨y,hy⟩:=runF_some (meas r+1) n.toNat G (by omega)
   rw [run_of G hy]
   have:=stp_loop n.toNat (by omega) y (meas r+1) r n.toNat G (Nat.le_refl _) hy
   simp only [obM,celI,Int.sub_self] at this
   rw [<-natI (show 0<=n by omega)] at this
   exact this
def cStep:Con:={ refs:=[true,false],keep:=some 1,f:=fun args objs=>match args with
 | [.p (.c (.ptr 0 0)),.p (.c (.int .i64 n))]=>match asR objs with
   | some (c,r)=>some (.p (c/\0<r.rows.length/\n<=1000000/\(1<=n->r.stat=0->GoodR r)),.tup [.c (.int .i64 (stepR r n).2.1),.c (.int .i64 (stepR r n).2.2)],obs (stepR r n).1)
   | none=>none
 | _=>none }
theorem cStep_ok:ConOk Tryd.prog 9 cStep:=by
 refine ⟨by kernel_rfl,fun args objs c r objs' e hc=>?_⟩
 simp only [cStep] at e
 split at e
 . rename_i n
   split at e
   . rename_i c1 r1 hr
     cases e
     obtain ⟨h1,h2⟩:=hc
     rw [asR_eq hr h1]
     exact step_sem _ _ h2
   . cases e
 . cases e
theorem prog_sem (r:Rn):FnSemK Tryd.prog 10 1 [pR] (obs r) (.tup [.c (.int .i64 r.rows.length),.c (.int .i64 (if 0<r.rows.length then r.live else 0))]) (obs r):=by
 refine fnSemK_at (live:=[]) (fzl:=[]) (fz:=[]) gVa_ok Tryd.func10 (by kernel_rfl) 1 (by kernel_rfl) 100 ?_
 apply of_eq (q:=let q1:=(1:Nat);let q2:=(0:Nat);let q3:=(W.int .i64 (r.rows.length:Int));let q4:=(W.int .i64 (if q2<r.rows.length then r.live else (0:Int)));((r.rows.length=r.rows.length/\r.par.length=r.par.length/\((2:Int)*r.g).toNat=((2:Int)*r.g).toNat)/\True)/\((!decide (q2<r.rows.length))=true->packV [V.c (W.int .i64 (0)),V.c (W.int .i64 (0))]=A.tup [V.c q3,V.c q4]/\[Ob.mk 57 [Fd.c (W.int .i64 r.g),Fd.c (W.rd (D.int .i64).sl r.rels),Fd.c (W.rd (D.int .i64).sl r.sub),Fd.c (W.int .i64 r.lim),Fd.c (W.int .i64 r.most),Fd.c (W.int .i64 r.live),Fd.c (W.int .i64 r.stat),Fd.c (W.int .i64 r.ph),Fd.c (W.int .i64 r.co),Fd.c (W.int .i64 r.ix),Fd.c (W.sl (q2+q1) q2 r.rows.length q1),Fd.c (W.sl (q2+q1+q1) q2 r.par.length q1),Fd.c (W.sl (q2+q1+q1+q1) q2 r.dn q1)],Ob.mk 22 [Fd.c (W.th ((2:Int)*r.g).toNat r.rows)],Ob.mk 3 [Fd.a 0 (D.int .i64) r.par],Ob.mk 3 [Fd.a 0 (D.int .i64) r.dl]]=obs r)/\((!decide (q2<r.rows.length))=false->packV [V.c q3,V.c (W.int .i64 r.live)]=A.tup [V.c q3,V.c q4]/\[Ob.mk 57 [Fd.c (W.int .i64 r.g),Fd.c (W.rd (D.int .i64).sl r.rels),Fd.c (W.rd (D.int .i64).sl r.sub),Fd.c (W.int .i64 r.lim),Fd.c (W.int .i64 r.most),Fd.c (W.int .i64 r.live),Fd.c (W.int .i64 r.stat),Fd.c (W.int .i64 r.ph),Fd.c (W.int .i64 r.co),Fd.c (W.int .i64 r.ix),Fd.c (W.sl (q2+q1) q2 r.rows.length q1),Fd.c (W.sl (q2+q1+q1) q2 r.par.length q1),Fd.c (W.sl (q2+q1+q1+q1) q2 r.dn q1)],Ob.mk 22 [Fd.c (W.th ((2:Int)*r.g).toNat r.rows)],Ob.mk 3 [Fd.a 0 (D.int .i64) r.par],Ob.mk 3 [Fd.a 0 (D.int .i64) r.dl]]=obs r)) (by kernel_rfl)
 try simp only [true_and,and_true,Nat.zero_add,Bool.not_eq_true',Bool.not_eq_false',decide_eq_true_eq,decide_eq_false_iff_not,Nat.reduceAdd]
 refine ⟨fun h=>?_,fun h=>?_⟩
 . rw [if_neg h,show r.rows.length=0 by omega];rfl
 . rw [if_pos h];rfl
def cProg:Con:=conR0 fun r=>(True,.tup [.c (.int .i64 r.rows.length),.c (.int .i64 (if 0<r.rows.length then r.live else 0))],r)
theorem cProg_ok:ConOk Tryd.prog 10 cProg:=conR0_ok (by kernel_rfl) fun r _=>prog_sem r
theorem stat_sem (r:Rn):FnSemK Tryd.prog 11 1 [pR] (obs r) (nI (if 0<r.rows.length then r.stat else 0)) (obs r):=by
 refine fnSemK_at (live:=[]) (fzl:=[]) (fz:=[]) gVa_ok Tryd.func11 (by kernel_rfl) 1 (by kernel_rfl) 100 ?_
 apply of_eq (q:=let q1:=(1:Nat);let q2:=(0:Nat);((r.rows.length=r.rows.length/\r.par.length=r.par.length/\((2:Int)*r.g).toNat=((2:Int)*r.g).toNat)/\True)/\((!decide (q2<r.rows.length))=true->packV [V.c (W.int .i64 (0))]=nI (if q2<r.rows.length then r.stat else (0:Int))/\[Ob.mk 57 [Fd.c (W.int .i64 r.g),Fd.c (W.rd (D.int .i64).sl r.rels),Fd.c (W.rd (D.int .i64).sl r.sub),Fd.c (W.int .i64 r.lim),Fd.c (W.int .i64 r.most),Fd.c (W.int .i64 r.live),Fd.c (W.int .i64 r.stat),Fd.c (W.int .i64 r.ph),Fd.c (W.int .i64 r.co),Fd.c (W.int .i64 r.ix),Fd.c (W.sl (q2+q1) q2 r.rows.length q1),Fd.c (W.sl (q2+q1+q1) q2 r.par.length q1),Fd.c (W.sl (q2+q1+q1+q1) q2 r.dn q1)],Ob.mk 22 [Fd.c (W.th ((2:Int)*r.g).toNat r.rows)],Ob.mk 3 [Fd.a 0 (D.int .i64) r.par],Ob.mk 3 [Fd.a 0 (D.int .i64) r.dl]]=obs r)/\((!decide (q2<r.rows.length))=false->packV [V.c (W.int .i64 r.stat)]=nI (if q2<r.rows.length then r.stat else (0:Int))/\[Ob.mk 57 [Fd.c (W.int .i64 r.g),Fd.c (W.rd (D.int .i64).sl r.rels),Fd.c (W.rd (D.int .i64).sl r.sub),Fd.c (W.int .i64 r.lim),Fd.c (W.int .i64 r.most),Fd.c (W.int .i64 r.live),Fd.c (W.int .i64 r.stat),Fd.c (W.int .i64 r.ph),Fd.c (W.int .i64 r.co),Fd.c (W.int .i64 r.ix),Fd.c (W.sl (q2+q1) q2 r.rows.length q1),Fd.c (W.sl (q2+q1+q1) q2 r.par.length q1),Fd.c (W.sl (q2+q1+q1+q1) q2 r.dn q1)],Ob.mk 22 [Fd.c (W.th ((2:Int)*r.g).toNat r.rows)],Ob.mk 3 [Fd.a 0 (D.int .i64) r.par],Ob.mk 3 [Fd.a 0 (D.int .i64) r.dl]]=obs r)) (by kernel_rfl)
 try simp only [true_and,and_true,Nat.zero_add,Bool.not_eq_true',Bool.not_eq_false',decide_eq_true_eq,decide_eq_false_iff_not,Nat.reduceAdd]
 refine ⟨fun h=>?_,fun h=>?_⟩
 . rw [if_neg h];rfl
 . rw [if_pos h];rfl
def cStat:Con:=conR0 fun r=>(True,nI (if 0<r.rows.length then r.stat else 0),r)
theorem cStat_ok:ConOk Tryd.prog 11 cStat:=conR0_ok (by kernel_rfl) fun r _=>stat_sem r
end Go.Proofs.YtejehoihhphpiaaDoor

namespace Go.Proofs.YtejehoihhphpiaaDoor
open Go.Loom Go.Words Go.Eng
set_option maxRecDepth 100000
abbrev fnG:A:=.p (.c (.func 38 [(0,0)]))
theorem clos_semG (x g:Int) (r:List (List Int)):FnSem Tryd.prog 38 [nI x,.p (.c (.ptr 0 0))] [obP g r] (bB (badL g x)) [obP g r]:=by
 refine fnSem_at (live:=[]) gamOk_nil Tryd.func38 (by kernel_rfl) (keep:=1) rfl (by kernel_rfl) 100 ?_
 apply of_eq (q:=let q1:=decide (x<IntKind.i64.wrap ((0:Int)-g));let q2:=decide (x=(0:Int));(q2=false->q2=false)/\(q2=false->q2=false)/\(q2=false->q2=false)/\(q2=false->q2=false)/\(q2=false->q2=false)/\((bif q2 then true else q1)=false->(bif q2 then true else q1)=false)/\((bif q2 then true else q1)=false->(bif q2 then true else q1)=false)/\((bif q2 then true else q1)=false->(bif q2 then true else q1)=false)/\((bif q2 then true else q1)=false->(bif q2 then true else q1)=false)/\packV [V.c (W.bool (bif bif q2 then true else q1 then true else decide (g<x)))]=bB (badL g x)/\[Ob.mk 26 [Fd.c (W.int .i64 g),Fd.c (W.rd (D.int .i64).sl r)]]=[obP g r]) (by kernel_rfl)
 try simp only [imp_self,true_and,and_true,Bool.cond_true_left,Bool.or_eq_false_iff,decide_eq_false_iff_not,Int.not_lt]
 rfl
def cClosG:Con:={ refs:=[false,true],f:=fun args objs=>match args,objs with | [.p (.c (.int .i64 x)),.p (.c (.ptr 0 0))],[⟨t,[.c (.int .i64 g),.c (.rd (.sl (.int .i64)) r)]⟩]=>(bif Nat.beq t 26 then some (.t,bB (badL g x),[obP g r]) else none) | _,_=>none }
theorem cClos_okG:ConOk Tryd.prog 38 cClosG:=by
 refine ⟨by kernel_rfl,fun args objs c r objs' e hc=>?_⟩
 simp only [cClosG] at e
 split at e
 . rename_i x t g r
   obtain ⟨ht,e⟩:=Mill.bif_some e
   have ht:=Nat.eq_of_beq_eq_true ht
   subst ht
   cases e
   exact clos_semG x g r
 . cases e
noncomputable def gIxG:Gam:=[(38,cClosG)]
theorem gIx_okG:GamOk Tryd.prog gIxG:=gamOk_cons cClos_okG gamOk_nil
noncomputable def sIxG:Site:=mkSite Tryd.prog gIxG Tryd.f53 1 [([0,1,0,1],[0,1,7,8])]
theorem ix_loopG (w:List Int) (g:Int) (r:List (List Int)) (hl:w.length<=1000000):∀ (k i:Nat),k=w.length-i->i<=w.length->
 AtLoop sIxG (Says1 (nI (ixL g (w.drop i) i)) [obP g r]) [0,1,0,1] (fr [(0,lsI w),(1,fnG),(7,nI w.length),(8,nI i)]) (.ofList [obP g r])
 | k,i,hk,hi=>by
   refine atLoop_at gIx_okG (by kernel_rfl) 100 ?_
   apply of_eq (q:=let q1:=(W.rd (D.int .i64).sl r);(decide ((i:Int)<(w.length:Int))=true->((0:Int)<=(i:Int)/\(i:Int)<(w.length:Int))/\i<w.length/\(badL g (w.getD i (0:Int))=true->packV [V.c (W.int .i64 (i:Int))]=nI (ixL g (List.drop i w) i)/\[Ob.mk 26 [Fd.c (W.int .i64 g),Fd.c q1]]=[obP g r])/\(badL g (w.getD i (0:Int))=false->AtLoop sIxG (Says1 (nI (ixL g (List.drop i w) i)) [obP g r]) [0,1,0,1] (fr [(0,lsI w),(1,A.p (V.c (W.func 38 [(0,(0:Nat))]))),(7,nI (w.length:Int)),(8,nI (IntKind.i64.wrap ((i:Int)+(1:Int))))]) (Sto.ofList [Ob.mk 26 [Fd.c (W.int .i64 g),Fd.c q1]])))/\(decide ((i:Int)<(w.length:Int))=false->packV [V.c (W.int .i64 (-1))]=nI (ixL g (List.drop i w) i)/\[Ob.mk 26 [Fd.c (W.int .i64 g),Fd.c q1]]=[obP g r])) (by kernel_rfl)
   try simp only [and_true,decide_eq_true_eq,decide_eq_false_iff_not,Int.not_lt]
   rw [wrap64 (n:=(i:Int)+1) (by omega) (by omega)]
   refine ⟨fun h=>⟨by omega,by omega,fun g=>?_,fun g=>?_⟩,fun h=>?_⟩
   . rw [getD_lt (by omega),ixL,if_pos g];rfl
   . rw [getD_lt (by omega),ixL,g,if_neg (by simp)]
     cases k with
     | zero=>omega
     | succ k=>exact ix_loopG w _ r hl k (i+1) (by omega) (by omega)
   . rw [List.drop_eq_nil_of_le (by omega)];rfl
theorem ix_semG (w:List Int) (g:Int) (r:List (List Int)) (hl:w.length<=1000000):FnSem Tryd.prog 53 [lsI w,fnG] [obP g r] (nI (ixL g w 0)) [obP g r]:=by
 refine fnSem_at (live:=[([0,1,0,1],[0,1,7,8])]) gIx_okG Tryd.func53 (by kernel_rfl) (keep:=1) rfl (by kernel_rfl) 100 ?_
 apply of_eq (q:=AtLoop (mkSite Tryd.prog gIxG Tryd.f53 (1:Nat) [([0,1,0,1],[0,1,7,8])]) (Says1 (nI (ixL g w (0:Nat))) [obP g r]) [0,1,0,1] (fr [(0,lsI w),(1,A.p (V.c (W.func 38 [(0,(0:Nat))]))),(7,nI (w.length:Int)),(8,nI (0))]) (Sto.ofList [Ob.mk 26 [Fd.c (W.int .i64 g),Fd.c (W.rd (D.int .i64).sl r)]])) (by kernel_rfl)
 exact ix_loopG w g r hl w.length 0 (by omega) (by omega)
def cIxG:Con:={ refs:=[false,true],f:=fun args objs=>match args,objs with | [x,.p (.c (.func f [(0,0)]))],[⟨t,[.c (.int .i64 g),.c (.rd (.sl (.int .i64)) r)]⟩]=>(bif Nat.beq f 38&&Nat.beq t 26 then (match asD dI x with | some w=>some (.p (List.length (α:=Int) w<=1000000),nI (ixL g w 0),[obP g r]) | none=>none) else none) | _,_=>none }
theorem cIx_okG:ConOk Tryd.prog 53 cIxG:=by
 refine ⟨by kernel_rfl,fun args objs c r objs' e hc=>?_⟩
 simp only [cIxG] at e
 split at e
 . rename_i x f t g r
   obtain ⟨ht,e⟩:=Mill.bif_some e
   simp only [Bool.and_eq_true] at ht
   have h1:=Nat.eq_of_beq_eq_true ht.1
   have h2:=Nat.eq_of_beq_eq_true ht.2
   subst h1 h2
   split at e
   . rename_i w hw
     cases e
     exact (ix_semG w g r hc).args fun η Z vs h=>by
      cases vs with
      | nil=>exact h.elim
      | cons v vs=>exact ⟨asD_rel hw h.1,h.2⟩
   . cases e
 . cases e
noncomputable def gCo2G:Gam:=[(53,cIxG)]
theorem gCo2_okG:GamOk Tryd.prog gCo2G:=gamOk_cons cIx_okG gamOk_nil
theorem co_semG (w:List Int) (g:Int) (r:List (List Int)) (hl:w.length<=1000000):FnSem Tryd.prog 37 [lsI w,fnG] [obP g r] (bB (w.any (badL g))) [obP g r]:=by
 refine fnSem_at (live:=[]) gCo2_okG Tryd.func37 (by kernel_rfl) (keep:=1) rfl (by kernel_rfl) 100 ?_
 apply of_eq (q:=w.length<=(1000000:Nat)/\packV [V.c (W.bool (decide ((0:Int)<=ixL g w (0:Nat))))]=bB (w.any (badL g))/\[Ob.mk 26 [Fd.c (W.int .i64 g),Fd.c (W.rd (D.int .i64).sl r)]]=[obP g r]) (by kernel_rfl)
 try simp only [and_true]
 refine ⟨hl,?_⟩
 rw [ixL_any];rfl
def cCoG:Con:={ refs:=[false,true],f:=fun args objs=>match args,objs with | [x,.p (.c (.func f [(0,0)]))],[⟨t,[.c (.int .i64 g),.c (.rd (.sl (.int .i64)) r)]⟩]=>(bif Nat.beq f 38&&Nat.beq t 26 then (match asD dI x with | some w=>some (.p (List.length (α:=Int) w<=1000000),bB (List.any w (badL g)),[obP g r]) | none=>none) else none) | _,_=>none }
theorem cCo_okG:ConOk Tryd.prog 37 cCoG:=by
 refine ⟨by kernel_rfl,fun args objs c r objs' e hc=>?_⟩
 simp only [cCoG] at e
 split at e
 . rename_i x f t g r
   obtain ⟨ht,e⟩:=Mill.bif_some e
   simp only [Bool.and_eq_true] at ht
   have h1:=Nat.eq_of_beq_eq_true ht.1
   have h2:=Nat.eq_of_beq_eq_true ht.2
   subst h1 h2
   split at e
   . rename_i w hw
     cases e
     exact (co_semG w g r hc).args fun η Z vs h=>by
      cases vs with
      | nil=>exact h.elim
      | cons v vs=>exact ⟨asD_rel hw h.1,h.2⟩
   . cases e
 . cases e
/-! ### Copies of lists -/
abbrev obL1 (l:List (List Int)):Ob:=⟨41,[.a 1 (.sl (.int .i64)) l]⟩
noncomputable def gOw:Gam:=[(39,cClone)]
theorem gOw_ok:GamOk Tryd.prog gOw:=gamOk_cons cClone_ok gamOk_nil
noncomputable def sOw:Site:=mkSiteF Tryd.prog gOw Tryd.f19 0 [([0,1,0,1,1],[3,9,10,11])] [] [some dL]
theorem own_loop (r:List (List Int)) (hr:Sh r) (hl:r.length<=1000000):∀ (n i:Nat) (l:List (List Int)),n=r.length-i->i<=r.length->l.length=r.length->l.take i=r.take i->
 AtLoop sOw (Says1 (llI r) []) [0,1,0,1,1] (fr [(3,slI 0 r.length),(9,llI r),(10,nI r.length),(11,nI i)]) (.ofList [obL1 l])
 | n,i,l,hn,hi,h1,h2=>by
   refine atLoop_at gOw_ok (by kernel_rfl) 100 ?_
   apply of_eq (q:=(decide ((i:Int)<(r.length:Int))=true->((0:Int)<=(i:Int)/\(i:Int)<(r.length:Int))/\i<r.length/\(r.getD i []).length<=(1000000:Nat)/\((0:Int)<=(i:Int)/\(i:Int)<(r.length:Int))/\(0:Nat)+i<l.length/\AtLoop sOw (Says1 (llI r) []) [0,1,0,1,1] (fr [(3,A.p (V.c (W.sl 0 0 r.length 1))),(9,llI r),(10,nI (r.length:Int)),(11,nI (IntKind.i64.wrap ((i:Int)+(1:Int))))]) (Sto.ofList [Ob.mk 41 [Fd.a 1 (D.int .i64).sl (l.set ((0:Nat)+i) (r.getD i []))]]))/\(decide ((i:Int)<(r.length:Int))=false->(0:Nat)+r.length<=l.length/\packV [V.c (W.rd (D.int .i64).sl (List.take r.length (List.drop (0:Nat) l)))]=llI r/\([]:List Ob)=[])) (by kernel_rfl)
   try simp only [and_true,Nat.zero_add,decide_eq_true_eq,decide_eq_false_iff_not,Int.not_lt,List.drop_zero]
   rw [wrap64 (n:=(i:Int)+1) (by omega) (by omega)]
   refine ⟨fun h=>⟨by omega,by omega,hr.get i,by omega,by omega,?_⟩,fun h=>⟨by omega,?_⟩⟩
   . cases n with
     | zero=>omega
     | succ n =>
       refine own_loop r hr hl n (i+1) _ (by omega) (by omega) (by rw [List.length_set];exact h1) ?_
       rw [takeL_snoc (by omega:i<r.length),takeL_snoc (by rw [List.length_set];omega),List.take_set_of_le (Nat.le_refl _),h2,getL_set,if_pos ⟨rfl,by omega⟩]
   . have:i=r.length:=by omega
     subst this
     rw [h2,List.take_length];rfl
theorem own_sem (r:List (List Int)) (hr:Sh r) (hl:r.length<=1000000):FnSem Tryd.prog 19 [llI r] [] (llI r) []:=by
 refine fnSemF_at (live:=[([0,1,0,1,1],[3,9,10,11])]) (fzl:=[]) (fz:=[some dL]) gOw_ok Tryd.func19 (by kernel_rfl) (keep:=0) rfl (by kernel_rfl) 100 ?_
 apply of_eq (q:=((0:Int)<=(r.length:Int)/\(r.length:Int)<=(r.length:Int)/\(↑(24:Nat):Int)*(r.length:Int)<=(140737488355328:Int))/\AtLoop (mkSiteF Tryd.prog gOw Tryd.f19 (0:Nat) [([0,1,0,1,1],[3,9,10,11])] [] [some dL]) (Says1 (llI r) []) [0,1,0,1,1] (fr [(3,A.p (V.c (W.sl 0 0 r.length 1))),(9,llI r),(10,nI (r.length:Int)),(11,nI (0))]) (Sto.ofList [Ob.mk 41 [Fd.a 1 (D.int .i64).sl (List.replicate r.length ([]:List Int))]])) (by kernel_rfl)
 try simp only [true_and,Int.le_refl]
 refine ⟨by omega,?_⟩
 exact own_loop r hr hl r.length 0 _ (by omega) (by omega) (by simp) (by simp)
def cOwnL:Con:=con1 dL fun r=>(.p (Sh r/\List.length (α:=List Int) r<=1000000),llI r,[])
theorem cOwnL_ok:ConOk Tryd.prog 19 cOwnL:=con1_ok (by kernel_rfl) fun r h=>own_sem r h.1 h.2
/-! ### The arguments of a run -/
noncomputable def gGv:Gam:=[(37,cCoG),(36,cCheck)]
theorem gGv_ok:GamOk Tryd.prog gGv:=gamOk_cons cCo_okG (gamOk_cons cCheck_ok gamOk_nil)
abbrev liveGv:List (List Nat×List Nat):=[([0,1,0,1,1,1],[1,2,3,9,20,21,22])]
noncomputable def sGv:Site:=mkSiteF Tryd.prog gGv Tryd.f18 0 liveGv [] []
theorem gv_loop (g lim:Int) (r sub:List (List Int)) (hl:1<=lim/\lim<=20000) (hs:sub.length<=100/\sub.flatten.length<=4000) (hb:∀ w∈sub,w.any (badL g)=false):∀ (n i:Nat),n=sub.length-i->i<=sub.length->
 AtLoop sGv (Says1 (nI 0) []) [0,1,0,1,1,1] (fr [(1,llI sub),(2,nI lim),(3,.p (.c (.ptr 0 0))),(9,nI (sub.take i).flatten.length),(20,llI sub),(21,nI sub.length),(22,nI i)]) (.ofList [obP g r])
 | n,i,hn,hi=>by
   refine atLoop_at gGv_ok (by kernel_rfl) 100 ?_
   apply of_eq (q:=let q1:=decide ((4000:Int)<(↑(List.take i sub).flatten.length:Int));let q2:=decide ((100:Int)<(sub.length:Int));let q3:=decide (lim<(1:Int));(decide ((i:Int)<(sub.length:Int))=true->((0:Int)<=(i:Int)/\(i:Int)<(sub.length:Int))/\i<sub.length/\(sub.getD i []).length<=(1000000:Nat)/\((sub.getD i []).any (badL g)=true->packV [V.c (W.int .i64 (2))]=nI (0:Int)/\([]:List Ob)=[])/\((sub.getD i []).any (badL g)=false->AtLoop sGv (Says1 (nI (0:Int)) []) [0,1,0,1,1,1] (fr [(1,llI sub),(2,nI lim),(3,A.p (V.c (W.ptr 0 0))),(9,nI (IntKind.i64.wrap ((↑(List.take i sub).flatten.length:Int)+(↑(sub.getD i []).length:Int)))),(20,llI sub),(21,nI (sub.length:Int)),(22,nI (IntKind.i64.wrap ((i:Int)+(1:Int))))]) (Sto.ofList [Ob.mk 26 [Fd.c (W.int .i64 g),Fd.c (W.rd (D.int .i64).sl r)]])))/\(decide ((i:Int)<(sub.length:Int))=false->(q2=false->q2=false)/\(q2=false->q2=false)/\((bif q2 then true else q1)=false->(bif q2 then true else q1)=false)/\((bif q2 then true else q1)=false->(bif q2 then true else q1)=false)/\((bif bif q2 then true else q1 then true else q3)=false->(bif bif q2 then true else q1 then true else q3)=false)/\((bif bif q2 then true else q1 then true else q3)=false->(bif bif q2 then true else q1 then true else q3)=false)/\((bif bif bif q2 then true else q1 then true else q3 then true else decide ((20000:Int)<lim))=true->packV [V.c (W.int .i64 (2))]=nI (0:Int)/\([]:List Ob)=[])/\((bif bif bif q2 then true else q1 then true else q3 then true else decide ((20000:Int)<lim))=false->packV [V.c (W.int .i64 (0))]=nI (0:Int)/\([]:List Ob)=[]))) (by kernel_rfl)
   try simp only [imp_self,true_and,and_true,Bool.cond_true_left,Bool.or_eq_true,Bool.or_eq_false_iff,decide_eq_true_eq,decide_eq_false_iff_not,Int.not_lt]
   have hle:=flat_le sub (i+1)
   have hle0:=flat_le sub i
   rw [wrap64 (n:=(i:Int)+1) (by omega) (by omega)]
   refine ⟨fun h=>?_,fun h=>⟨fun h1=>by omega,fun h1=>rfl⟩⟩
   . have hil:i<sub.length:=by omega
     have e:=flat_snoc hil
     rw [e,List.length_append] at hle
     rw [wrap64 (n:=((sub.take i).flatten.length:Int)+(sub.getD i []).length) (by omega) (by omega)]
     have hbi:=hb _ (getL_mem hil)
     refine ⟨by omega,hil,by omega,fun h1=>(by rw [hbi] at h1;cases h1),fun _=>?_⟩
     cases n with
     | zero=>omega
     | succ n =>
       have:=gv_loop g lim r sub hl hs hb n (i+1) (by omega) (by omega)
       rw [e,List.length_append,Int.natCast_add] at this
       exact this
theorem given_sem (g lim:Int) (r sub:List (List Int)) (hr:Sh r) (hc:(chk g r).1=0) (hl:1<=lim/\lim<=20000) (hs:sub.length<=100/\sub.flatten.length<=4000) (hb:∀ w∈sub,w.any (badL g)=false):FnSem Tryd.prog 18 [prA g r,llI sub,nI lim] [] (nI 0) []:=by
 refine fnSem_at (live:=liveGv) gGv_ok Tryd.func18 (by kernel_rfl) (keep:=0) rfl (by kernel_rfl) 100 ?_
 apply of_eq (q:=Sh r/\((!decide ((chk g r).fst=(0:Int)))=true->packV [V.c (W.int .i64 (chk g r).fst)]=nI (0:Int)/\([]:List Ob)=[])/\((!decide ((chk g r).fst=(0:Int)))=false->AtLoop (mkSite Tryd.prog gGv Tryd.f18 (0:Nat) liveGv) (Says1 (nI (0:Int)) []) [0,1,0,1,1,1] (fr [(1,llI sub),(2,nI lim),(3,A.p (V.c (W.ptr 0 0))),(9,nI (0)),(20,llI sub),(21,nI (sub.length:Int)),(22,nI (0))]) (Sto.ofList [Ob.mk 26 [Fd.c (W.int .i64 g),Fd.c (W.rd (D.int .i64).sl r)]]))) (by kernel_rfl)
 try simp only [and_true,Bool.not_eq_true',Bool.not_eq_false',decide_eq_true_eq,decide_eq_false_iff_not]
 exact ⟨hr,fun h=>absurd hc h,fun _=>gv_loop g lim r sub hl hs hb sub.length 0 (by omega) (by omega)⟩
structure Begins (g lim:Int) (r sub:List (List Int)):Prop where
 sh:Sh r
 chk:(chk g r).1=0
 lim:1<=lim/\lim<=20000
 subs:sub.length<=100/\sub.flatten.length<=4000
 bad:∀ w∈sub,w.any (badL g)=false
def conPLI (f:Int->List (List Int)->List (List Int)->Int->Cd×A×List Ob):Con:={ refs:=[],f:=fun args objs=>match args,objs with
 | [x,s,.p (.c (.int .i64 n))],[]=>(match asP x,asD dL s with | some (g,r),some s=>some (f g r s n) | _,_=>none)
 | _,_=>none }
theorem conPLI_ok {P:Program} {f:FuncId} {c:Int->List (List Int)->List (List Int)->Int->Cd×A×List Ob} (he:enters P f=true) (h:∀ g r s n,(c g r s n).1->FnSem P f [prA g r,llI s,nI n] [] (c g r s n).2.1 (c g r s n).2.2):ConOk P f (conPLI c):=by
 refine ⟨he,fun args objs cd r objs' e hc=>?_⟩
 simp only [conPLI] at e
 split at e
 . rename_i x s n
   split at e
   . rename_i g r' s' hx hs
     have e:=Option.some.inj e
     have:=h g r' s' n (by rw [e];exact hc)
     rw [e] at this
     exact this.args fun η Z vs hv=>by
      match vs,hv with
      | [u,v,t],⟨a1,a2,a3,_⟩=>exact ⟨asP_rel hx a1,asD_rel hs a2,a3,trivial⟩
   . cases e
 . cases e
def cGiven:Con:=conPLI fun g r s n=>(.p (Begins g n r s),nI 0,[])
theorem cGiven_ok:ConOk Tryd.prog 18 cGiven:=conPLI_ok (by kernel_rfl) fun g r s n h=>given_sem g n r s h.sh h.chk h.lim h.subs h.bad
/-! ### A run begins -/
def rn0 (g lim:Int) (rels sub:List (List Int)):Rn:={ g:=g,rels:=rels,sub:=sub,lim:=lim,most:=1,live:=1,stat:=0,ph:=0,co:=0,ix:=0,rows:=[List.replicate (2*g).toNat (-1)],par:=[0],dl:=[],dn:=0 }
abbrev zeroO (g lim:Int) (rels sub:List (List Int)):Ob:=⟨57,[.c (.int .i64 g),.c (.rd (.sl (.int .i64)) rels),.c (.rd (.sl (.int .i64)) sub),.c (.int .i64 lim),.c (.int .i64 0),.c (.int .i64 0),.c (.int .i64 0),.c (.int .i64 0),.c (.int .i64 0),.c (.int .i64 0),.c .nil,.c .nil,.c .nil]⟩
abbrev firstO (r:Rn):List Ob:=[⟨57,[.c (.int .i64 r.g),.c (.rd (.sl (.int .i64)) r.rels),.c (.rd (.sl (.int .i64)) r.sub),.c (.int .i64 r.lim),.c (.int .i64 r.most),.c (.int .i64 r.live),.c (.int .i64 r.stat),.c (.int .i64 r.ph),.c (.int .i64 r.co),.c (.int .i64 r.ix),.c (.sl 1 0 r.rows.length 1),.c (.sl 2 0 r.par.length 1),.c .nil]⟩,tabO r,obI r.par]
theorem add0_sem (g lim:Int) (rels sub:List (List Int)) (hg:1<=g/\g<=16):FnSemK Tryd.prog 20 1 [pR] [zeroO g lim rels sub] (nI 0) (firstO (rn0 g lim rels sub)):=by
 refine fnSemK_at (live:=[]) (fzl:=[]) (fz:=[]) gAd_ok Tryd.func20 (by kernel_rfl) 1 (by kernel_rfl) 100 ?_
 apply of_eq (q:=let q0:=IntKind.i64.wrap;let q1:=(Cd.t.and Cd.t);let q2:=(q0 ((2:Int)*g));let q3:=(A.p (V.c W.nil));let q4:=(R1.pure q1 q3);let q5:=(1:Nat);let q6:=(W.int .i64 (0));(0:Nat)+q5<=q5/\((0:Int)<=q0 ((2:Int)*g)/\q0 ((2:Int)*g)<=(100000:Int)/\q5<=(100000:Nat)/\q2.toNat*q5<=(1000000:Nat))/\((pw (List.take q5 (List.drop (0:Nat) [(-1:Int)])) q2.toNat).length=q2.toNat*q5/\(0:Nat)<q2.toNat*q5/\(24:Nat)<=(140737488355328:Nat))/\q4.v=q4.v/\q4.v=q4.v/\q4.v=q4.v/\q4.v=q4.v/\(R1.pure q1 (nI g)).v=(R1.pure q1 (nI g)).v/\(R1.pure q1 (nI g)).v=(R1.pure q1 (nI g)).v/\(0:Nat)+q5<=q5/\q5*(8:Nat)<=(140737488355328:Nat)/\q4.v=q4.v/\q4.v=q4.v/\packV [V.c (W.int .i64 (q0 ((↑q5:Int)-(1:Int))))]=nI (0:Int)/\[Ob.mk 57 [Fd.c (W.int .i64 g),Fd.c (W.rd (D.int .i64).sl rels),Fd.c (W.rd (D.int .i64).sl sub),Fd.c (W.int .i64 lim),Fd.c (W.int .i64 (max (0:Int) (q0 ((0:Int)+(1:Int))))),Fd.c (W.int .i64 (q0 ((0:Int)+(1:Int)))),Fd.c q6,Fd.c q6,Fd.c q6,Fd.c q6,Fd.c (W.sl ((0:Nat)+q5) (0:Nat) q5 q5),Fd.c (W.sl ((0:Nat)+q5+q5) (0:Nat) q5 q5),Fd.c W.nil],Ob.mk 22 [Fd.c (W.th (q2.toNat*q5) [pw (List.take q5 (List.drop (0:Nat) [(-1:Int)])) q2.toNat])],Ob.mk 3 [Fd.a 0 (D.int .i64) (List.take q5 (List.drop (0:Nat) [(0:Int)]))]]=firstO (rn0 g lim rels sub)) (by kernel_rfl)
 try simp only [true_and,Nat.zero_add,Nat.mul_one,List.drop_zero,List.take_succ_cons,List.take_zero,Nat.le_refl,Nat.reduceAdd]
 rw [wrap64 (n:=2*g) (by omega) (by omega),wrap64 (n:=0+1) (by omega) (by omega),wrap64 (n:=((1:Nat):Int)-1) (by omega) (by omega),pw_neg]
 refine ⟨⟨by omega,by omega,by omega,by omega⟩,⟨by rw [List.length_replicate],by omega,by omega⟩,by omega,rfl,rfl⟩
def cAdd0:Con:={ refs:=[true],keep:=some 1,f:=fun args objs=>match args,objs with
 | [.p (.c (.ptr 0 0))],[⟨t,[.c (.int .i64 g),.c (.rd (.sl (.int .i64)) rels),.c (.rd (.sl (.int .i64)) sub),.c (.int .i64 lim),.c (.int .i64 0),.c (.int .i64 0),.c (.int .i64 0),.c (.int .i64 0),.c (.int .i64 0),.c (.int .i64 0),.c .nil,.c .nil,.c .nil]⟩] =>
   bif Nat.beq t 57 then some (.p (1<=g/\g<=16),nI 0,firstO (rn0 g lim rels sub)) else none
 | _,_=>none }
theorem cAdd0_ok:ConOk Tryd.prog 20 cAdd0:=by
 refine ⟨by kernel_rfl,fun args objs c r objs' e hc=>?_⟩
 simp only [cAdd0] at e
 split at e
 . obtain ⟨hb,e1⟩:=Mill.bif_some e
   clear e
   cases Nat.eq_of_beq_eq_true hb
   cases e1
   exact add0_sem _ _ _ _ hc
 . cases e
noncomputable def gNw:Gam:=[(18,cGiven),(19,cOwnL),(20,cAdd0)]
theorem gNw_ok:GamOk Tryd.prog gNw:=gamOk_cons cGiven_ok (gamOk_cons cOwnL_ok (gamOk_cons cAdd0_ok gamOk_nil))
/-! ### What the checks say -/
theorem bad_false {g x:Int} (hg:1<=g/\g<=16) (h:badL g x=false):x≠0/\-g<=x/\x<=g:=by
 unfold badL at h
 rw [wrap64 (n:=0-g) (by omega) (by omega)] at h
 simp only [Bool.or_eq_false_iff,decide_eq_false_iff_not] at h
 omega
theorem any_good {g:Int} (hg:1<=g/\g<=16) {w:List Int} (h:w.any (badL g)=false) (hl:w.length<=1000000):Wd g w:=by
 refine ⟨hl,fun x hx=>bad_false hg ?_⟩
 rw [List.any_eq_false] at h
 simpa using h x hx
theorem chkGo_ok {g:Int}:∀ {r:List (List Int)} {left i:Int},(chkGo g r left i).1=0->left<=4000->∀ w∈r,w.any (badL g)=false/\w.length<=4000
 | [],_,_,_,_,w,hw=>by cases hw
 | x :: r, left, i, h, hl, w, hw => by
   rw [chkGo] at h
   split at h
   . cases h
   . rename_i h1
     split at h
     . cases h
     . rename_i h2
       rcases List.mem_cons.1 hw with rfl | hw
       . exact ⟨by simpa using h2,by omega⟩
       . exact chkGo_ok h (by omega) w hw
theorem chk_ok {g:Int} {r:List (List Int)} (h:(chk g r).1=0):(1<=g/\g<=16)/\r.length<=100/\∀ w∈r,w.any (badL g)=false/\w.length<=4000:=by
 unfold chk at h
 split at h
 . cases h
 . rename_i h1
   split at h
   . cases h
   . rename_i h2
     exact ⟨by omega,by omega,chkGo_ok h (by omega)⟩
theorem len_flat {w:List Int}:∀ {l:List (List Int)},w∈l->w.length<=l.flatten.length
 | x::l,h=>by
   rw [List.flatten_cons,List.length_append]
   rcases List.mem_cons.1 h with rfl | h
   . omega
   . have:=len_flat h;omega
theorem Begins.good {g lim:Int} {rels sub:List (List Int)} (B:Begins g lim rels sub):GoodR (rn0 g lim rels sub):=by
 obtain ⟨hg,hn,hw⟩:=chk_ok B.chk
 have hl:=B.lim
 have hs:=B.subs
 refine ⟨⟨hg.1,hg.2,rfl,⟨(by show (1:Nat)<=1000000;omega),fun a ha=>?_⟩,fun l hl=>?_,Nat.le_refl _,fun x hx=>(by cases hx),rfl,Nat.le_refl _⟩,Nat.one_pos,hl.1,by show lim<=900000;omega,fun w hw'=>any_good hg (hw w hw').1 (by have:=(hw w hw').2;omega),fun w hw'=>any_good hg (B.bad w hw') (by have:w.length<=sub.flatten.length:=len_flat hw';omega),by show rels.length<=1000;omega,by show sub.length<=1000;omega,.inl rfl,⟨Int.le_refl _,by show (0:Int)<=1;omega⟩,⟨Int.le_refl _,by show (0:Int)<=1000;omega⟩,fun h=>by cases h⟩
 . have:a=0:=by
    have:a<1:=ha
    omega
   subst this
   exact ⟨Int.le_refl _,Int.le_refl _⟩
 . have hl:l=List.replicate (2*g).toNat (-1):=List.mem_singleton.1 hl
   subst hl
   refine ⟨List.length_replicate,fun x hx=>?_⟩
   rw [List.eq_of_mem_replicate hx]
   exact ⟨Int.le_refl _,by show (-1:Int)<1;omega⟩
/-! ### The list of the dying that is nil -/
theorem nil_ghost {base : Nat} {η : Eta} {Z : Zeta} {r : Rn} {w : World} (h0 : r.dn = 0) (h1 : r.dl = []) (R : St base η Z (.ofList (firstO r)) w) : St base η Z (.ofList (obs r)) w := by
 have hf:∀ n,3<=n->η n=none:=R.fresh
 have h3:η 3=none:=hf 3 (Nat.le_refl _)
 have back:∀ n o p,(Sto.ofList (obs r)).get n=some o->η n=some p->n<3/\∃ o1,(Sto.ofList (firstO r)).get n=some o1:=by
  intro n o p h hp
  have hn:n<3:=by
   rcases Nat.lt_or_ge n 3 with h | h
   . exact h
   . rw [hf n h] at hp;cases hp
  refine ⟨hn,?_⟩
  match n,hn with
  | 0,_=>exact ⟨_,by rw [Sto.get_ofList];rfl⟩
  | 1,_=>exact ⟨_,by rw [Sto.get_ofList];rfl⟩
  | 2,_=>exact ⟨_,by rw [Sto.get_ofList];rfl⟩
 refine ⟨fun n o p h hp=>?_,fun n o h hp=>?_,fun n o h=>?_,fun n n' o o' p p' b h h' hne hp hp'=>?_,R.zs,fun n hn=>hf n (by have:(Sto.ofList (obs r)).next=4:=rfl;omega),R.basele,fun n o p h hp=>?_⟩
 . obtain ⟨hn,o1,ho1⟩:=back n o p h hp
   rw [Sto.get_ofList] at h
   match n,hn with
   | 0, _ =>
     cases h
     obtain ⟨a,b,L⟩:=R.objs 0 _ p (by rw [Sto.get_ofList];rfl) hp
     refine ⟨a,b,?_⟩
     obtain ⟨c,fz,l1,l2,l3,l4⟩:=L.there (by simp [Ob.isM,Ob.isMap,Ob.isT,Ob.cells,Fd.cells])
     refine Lies.plain (by simp [Ob.isM,Ob.isMap,Ob.isT,Ob.cells,Fd.cells]) ⟨c,fz,l1,l2,fun i x hx=>?_,l4.plain fun hB=>by obtain ⟨q,e⟩:=hB (.int .i64 r.g) (by simp [Ob.cells,Fd.cells]);cases e⟩ (L.size (by simp [Ob.isM,Ob.isMap,Ob.isT,Ob.cells,Fd.cells]))
     rcases Nat.lt_or_ge i 12 with hi | hi
     . refine l3 i x ?_
       rw [<-hx]
       match i,hi with
       | 0,_ | 1,_ | 2,_ | 3,_ | 4,_ | 5,_ | 6,_ | 7,_ | 8,_ | 9,_ | 10,_ | 11,_=>rfl
     . have hi2:i=12:=by
        have:=(List.getElem?_eq_some_iff.1 hx).1
        have:i<13:=this
        omega
       subst hi2
       have hx:some (W.sl 3 0 r.dn 1)=some x:=hx
       cases hx
       obtain ⟨v,v1,v2,v3⟩:=l3 12 .nil rfl
       exact ⟨v,v1,.inl ⟨h0,v2⟩,v3⟩
   | 1,_=>exact R.objs 1 o p (by rw [Sto.get_ofList];exact h) hp
   | 2,_=>exact R.objs 2 o p (by rw [Sto.get_ofList];exact h) hp
 . rw [Sto.get_ofList] at h
   match n,h with
   | 0,_=>exact absurd (R.ghost 0 _ (by rw [Sto.get_ofList];rfl) hp) (by simp [Ob.cells,Fd.cells])
   | 1,h=>exact R.ghost 1 o (by rw [Sto.get_ofList];exact h) hp
   | 2,h=>exact R.ghost 2 o (by rw [Sto.get_ofList];exact h) hp
   | 3,h =>
     have h:some (obI r.dl)=some o:=h
     cases h
     simp [Ob.cells,Fd.cells,h1]
 . rw [Sto.get_ofList] at h
   exact (List.getElem?_eq_some_iff.1 h).1
 . obtain ⟨_,o1,g1⟩:=back n o p h hp
   obtain ⟨_,o2,g2⟩:=back n' o' p' h' hp'
   exact R.dis n n' o1 o2 p p' b g1 g2 hne hp hp'
 . obtain ⟨_,o1,g1⟩:=back n o p h hp
   exact R.sat n o1 p g1 hp
theorem FnSemK.ghost {P:Program} {f:FuncId} {keep:Nat} {args:List A} {objs:List Ob} {x:A} {r:Rn} (h0:r.dn=0) (h1:r.dl=[]) (h:FnSemK P f keep args objs x (firstO r)):FnSemK P f keep args objs x (obs r):=by
 intro base η Z w vs R hvs hK
 refine (h base η Z w vs R hvs hK).mono ?_
 rintro e w' ⟨u,η',Z',rfl,mv,hx⟩
 refine ⟨u,η',Z',rfl,⟨mv.le,nil_ghost h0 h1 mv.st,⟨mv.step.os,mv.step.tape,mv.step.output,mv.step.size,mv.step.block,fun b ⟨n,o,p,hn,hp,hb⟩=>mv.step.own b ?_,mv.step.zle,mv.step.znew,rfl⟩⟩,hx⟩
 have hn3:n<3:=by
  rcases Nat.lt_or_ge n 3 with h | h
  . exact h
  . have:η' n=none:=mv.st.fresh n h
    rw [this] at hp;cases hp
 match n,hn3 with
 | 0,_=>exact ⟨0,_,p,by rw [Sto.get_ofList];rfl,hp,hb⟩
 | 1,_=>exact ⟨1,_,p,by rw [Sto.get_ofList];rfl,hp,hb⟩
 | 2,_=>exact ⟨2,_,p,by rw [Sto.get_ofList];rfl,hp,hb⟩
theorem new_sem0 (g lim:Int) (rels sub:List (List Int)) (B:Begins g lim rels sub):FnSem Tryd.prog 7 [prA g rels,llI sub,nI lim] [] (.tup [.c (.ptr 0 0),.c (.int .i64 0)]) (firstO (rn0 g lim rels sub)):=by
 refine fnSemK_at (live:=[]) (fzl:=[]) (fz:=[]) gNw_ok Tryd.func7 (by kernel_rfl) 0 (by kernel_rfl) 100 ?_
 apply of_eq (q:=let q1:=(rn0 g lim rels sub);let q2:=(R1.pure (Cd.t.and Cd.t) (nI g));let q3:=(W.int .i64 (0));Begins g lim rels sub/\((!decide ((0:Int)=(0:Int)))=true->packV [V.c W.nilptr,V.c q3]=A.tup [V.c (W.ptr 0 0),V.c q3]/\[]=firstO q1)/\((!decide ((0:Int)=(0:Int)))=false->(Sh rels/\rels.length<=(1000000:Nat))/\(Sh sub/\sub.length<=(1000000:Nat))/\q2.v=q2.v/\q2.v=q2.v/\q2.v=q2.v/\((1:Int)<=g/\g<=(16:Int))/\packV [V.c (W.ptr 0 0),V.c q3]=A.tup [V.c (W.ptr 0 0),V.c q3]/\[Ob.mk 57 [Fd.c (W.int .i64 q1.g),Fd.c (W.rd (D.int .i64).sl q1.rels),Fd.c (W.rd (D.int .i64).sl q1.sub),Fd.c (W.int .i64 q1.lim),Fd.c (W.int .i64 q1.most),Fd.c (W.int .i64 q1.live),Fd.c (W.int .i64 q1.stat),Fd.c (W.int .i64 q1.ph),Fd.c (W.int .i64 q1.co),Fd.c (W.int .i64 q1.ix),Fd.c (W.sl ((0:Nat)+(1:Nat)) (0:Nat) (1:Nat) (1:Nat)),Fd.c (W.sl ((0:Nat)+(1:Nat)+(1:Nat)) (0:Nat) (1:Nat) (1:Nat)),Fd.c W.nil],Ob.mk 22 [Fd.c (W.th ((2:Int)*q1.g).toNat q1.rows)],Ob.mk 3 [Fd.a 0 (D.int .i64) q1.par]]=firstO q1)) (by kernel_rfl)
 try simp only [true_and,Nat.zero_add,Bool.not_eq_true',Bool.not_eq_false',decide_eq_true_eq,decide_eq_false_iff_not,Nat.reduceAdd]
 obtain ⟨hg,hn,hw⟩:=chk_ok B.chk
 have hs:=B.subs
 refine ⟨B,fun h=>absurd trivial h,fun _=>⟨⟨B.sh,by omega⟩,⟨fun w hw'=>by have:=len_flat hw';omega,by omega⟩,hg,rfl,rfl⟩⟩
theorem new_sem (g lim:Int) (rels sub:List (List Int)) (B:Begins g lim rels sub):FnSem Tryd.prog 7 [prA g rels,llI sub,nI lim] [] (.tup [.c (.ptr 0 0),.c (.int .i64 0)]) (obs (rn0 g lim rels sub)) :=
 FnSemK.ghost rfl rfl (new_sem0 g lim rels sub B)
def cNew:Con:=conPLI fun g r s n=>(.p (Begins g n r s),.tup [.c (.ptr 0 0),.c (.int .i64 0)],obs (rn0 g n r s))
theorem cNew_ok:ConOk Tryd.prog 7 cNew:=conPLI_ok (by kernel_rfl) fun g r s n h=>new_sem g n r s h
end Go.Proofs.YtejehoihhphpiaaDoor
