/- How many cosets there were at most; runs that can be saved. -/
import Derived.Test.YtejehoihhphpiaaDoorEng4
import Derived.Test.YtejehoihhphpiaaDoorGiven1
import Derived.Test.YtejehoihhphpiaaDoorKnown1
import Derived.Test.YtejehoihhphpiaaDoorLoom4
namespace Go.Eng

structure Mo (r:Rn):Prop where
 lo:r.live<=r.most
 hi:r.most<=r.rows.length
def Less (a b:Rn):Prop:=b.most=a.most/\b.live<=a.live
theorem Less.refl (a:Rn):Less a a:=⟨rfl,Int.le_refl _⟩
theorem Less.trans {a b c:Rn} (h:Less a b) (k:Less b c):Less a c:=⟨k.1.trans h.1,Int.le_trans k.2 h.2⟩
theorem merge_less (r:Rn) (a b:Nat):Less r (merge r a b):=by
 unfold merge
 split
 . exact Less.refl _
 . exact ⟨rfl,by show r.live-1<=r.live;omega⟩
theorem cell_less (r:Rn) (e c:Nat):Less r (cell r e c):=by
 unfold cell
 split
 . exact Less.refl _
 . unfold cellV
   split
   . exact merge_less (deadR r e c) _ _
   . split
     . exact merge_less (deadR r e c) _ _
     . exact Less.refl _
theorem cells_less (e:Nat):∀ (f c:Nat) (r:Rn),Less r (cellsF e f c r)
 | 0,_,_=>Less.refl _
 | f+1,c,r=>(cell_less r e c).trans (cells_less e f (c+1) _)
theorem die_less (k2:Nat):∀ (f k:Nat) (r:Rn),Less r (dieF k2 f k r)
 | 0,_,_=>Less.refl _
 | f+1,k,r=>by
   rw [dieF]
   split
   . exact (cells_less _ _ _ r).trans (die_less k2 f (k+1) _)
   . exact Less.refl _
theorem coincide_less (r:Rn) (a b:Nat):Less r (coincide r a b) :=
 (merge_less { r with dn:=0 } a b).trans (die_less _ _ _ _)
theorem scan_less (r:Rn) (a:Nat) (w:List Int):Less r (scan r a w).1:=by
 unfold scan scanB scanE
 split
 . exact coincide_less _ _ _
 . split
   . exact Less.refl _
   . exact Less.refl _
theorem Fine.live_le {r:Rn} (T:Fine r):r.live<=r.rows.length:=by
 have h1:r.live=(al r.par:Nat):=T.live
 have h2:r.par.length=r.rows.length:=T.len
 have h3:=al_le r.par
 omega
theorem Fine.live_pos {r:Rn} (T:Fine r) (h:0<r.rows.length):1<=r.live:=by
 have h1:r.live=(al r.par:Nat):=T.live
 have h2:r.par.length=r.rows.length:=T.len
 have h3:=al_pos (par:=r.par) T.par (by omega)
 omega
theorem grow_mo {r:Rn} (T:Fine r) (M:Mo r) (f c:Nat):Mo (grow r f c):=by
 have h1:=T.live_le
 have h2:=M.hi
 have h3:(grow r f c).rows.length=r.rows.length+1:=(join_len _ _ _ _).1.trans (add_len r).1
 have h4:(grow r f c).live=r.live+1:=rfl
 have h5:(grow r f c).most=max r.most (r.live+1):=rfl
 exact ⟨by omega,by omega⟩
theorem scan_mo {r:Rn} (T:Fine r) (M:Mo r) {w:List Int} (hw:Wd r.g w) {a:Nat} (ha:a<r.rows.length):Mo (scan r a w).1:=by
 have S:=scan_ok T hw ha
 have L:=scan_less r a w
 have h1:=S.len
 have h2:=L.1
 have h3:=L.2
 have h4:=M.lo
 have h5:=M.hi
 exact ⟨by omega,by omega⟩
theorem fill_mo {a:Nat} {w:List Int}:∀ (q:Nat) {r:Rn},Fine r->Wd r.g w->a<r.rows.length->r.rows.length<=r.lim->r.lim<=900000->Mo r->Mo (fillF a w q r).1
 | 0,r,T,hw,ha,hl,hm,M=>by
   have m:=scan_mo T M hw ha
   rw [fillF]
   split
   . exact m
   . split
     . exact ⟨m.lo,m.hi⟩
     . exact m
 | q + 1, r, T, hw, ha, hl, hm, M => by
   have m:=scan_mo T M hw ha
   have S:=scan_ok T hw ha
   have h1:=S.len
   rw [fillF]
   split
   . exact m
   . split
     . exact ⟨m.lo,m.hi⟩
     . rename_i h2 h3
       obtain ⟨o1,o2,o3⟩:=S.opn (by simpa using h2)
       obtain ⟨g1,g2,g3⟩:=grow_ok S.fine (scan r a w).2.2.1 (show (scan r a w).2.1<(scan r a w).1.rows.length by omega) (by omega)
       have k:=S.keep.trans g3
       exact fill_mo (a:=a) (w:=w) q g1 (by rw [k.1];exact hw) (by omega) (by rw [k.2.2.2.1];omega) (by rw [k.2.2.2.1];exact hm) (grow_mo S.fine m _ _)
theorem cols_mo {a:Nat}:∀ (f c:Nat) (q:Nat) {r:Rn},Fine r->c+f=(2*r.g).toNat->a<r.rows.length->r.rows.length<=r.lim->r.lim<=900000->Mo r->Mo (colsF a f c r q).1
 | 0,c,q,r,T,hc,ha,hl,hm,M=>M
 | f + 1, c, q, r, T, hc, ha, hl, hm, M => by
   rw [colsF]
   split
   . exact cols_mo f (c+1) q T (by omega) ha hl hm M
   . split
     . exact ⟨M.lo,M.hi⟩
     . split
       . exact M
       . obtain ⟨g1,g2,g3⟩:=grow_ok T c ha (by omega)
         exact cols_mo (a:=a) f (c+1) (q-1) g1 (by rw [g3.1];omega) (by omega) (by rw [g3.2.2.2.1];omega) (by rw [g3.2.2.2.1];exact hm) (grow_mo T M _ _)
theorem act_mo {r:Rn} (G:GoodR r) (q:Nat) (M:Mo r):Mo (act r q).1:=by
 have hg:=G.ix
 have hc:=G.co
 have hl:=G.lim
 have hl2:=G.lim2
 have hph:=G.ph
 have hn1:=G.n1
 unfold act
 split
 . exact ⟨M.lo,M.hi⟩
 . rename_i h0
   split
   . rename_i hp
     have hi:r.ix<r.sub.length:=by omega
     have hw:=G.sub _ (getL_memS hg.1 hi)
     have F:=fill_mo (a:=0) (w:=r.sub.getD r.ix.toNat []) q G.fine hw hn1 hl hl2 M
     split <;> exact ⟨F.lo,F.hi⟩
   . rename_i hp
     split
     . rename_i hp2
       have hco:=G.co2 hp2
       have F:=cols_mo (a:=r.co.toNat) (2*r.g).toNat 0 q G.fine (by omega) (by omega) hl hl2 M
       split <;> exact ⟨F.lo,F.hi⟩
     . rename_i hp2
       split
       . exact ⟨M.lo,M.hi⟩
       . rename_i hne
         have hlt:r.co<r.rows.length:=by omega
         split
         . exact ⟨M.lo,M.hi⟩
         . split
           . exact ⟨M.lo,M.hi⟩
           . rename_i hal hi
             have hi:r.ix<r.rels.length:=by omega
             have hw:=G.rels _ (getL_memS hg.1 hi)
             have F:=fill_mo (a:=r.co.toNat) (w:=r.rels.getD r.ix.toNat []) q G.fine hw (by omega) hl hl2 M
             split <;> exact ⟨F.lo,F.hi⟩
theorem runF_mo':∀ (f:Nat) {r:Rn} {q:Nat} {y},GoodR r->Mo r->runF f r q=some y->Mo y.1
 | 0,_,_,_,_,_,h=>by cases h
 | f + 1, r, q, y, G, M, h => by
   have A:=act_ok G q
   have m:=act_mo G q M
   rw [runF] at h
   split at h
   . cases h;exact m
   . rename_i hx
     obtain ⟨g1,_,g3⟩:=A.go (by simpa using hx)
     exact runF_mo' f g1 m h
theorem run_mo {r:Rn} (G:GoodR r) (q:Nat) (M:Mo r):Mo (run r q).1:=by
 obtain ⟨z,hz⟩:=runF_some (meas r+1) q G (by omega)
 rw [run_of G hz]
 exact runF_mo' _ G M hz
end Go.Eng

namespace Go.Proofs.YtejehoihhphpiaaDoor
open Go.Loom Go.Words Go.Eng
set_option maxRecDepth 100000
noncomputable def gCts:Gam:=[(4,cKnown39),(5,cGiven9),(8,cWords9),(6,cTurn),(7,cNew),(9,cStep),(10,cProg),(11,cStat),(12,cSave)]
theorem gCts_ok:GamOk Tryd.prog gCts:=gamOk_cons cKnown39_ok (gamOk_cons cGiven9_ok (gamOk_cons cWords9_ok (gamOk_cons cTurn_ok (gamOk_cons cNew_ok (gamOk_cons cStep_ok (gamOk_cons cProg_ok (gamOk_cons cStat_ok (gamOk_cons cSave_ok gamOk_nil))))))))
/-! ### What steps bring about -/
structure Stp (r:Rn) (N:Int) (x:Rn×Int×Int):Prop where
 err:x.2.2=0
 len:(x.1.rows.length:Int)=r.rows.length+x.2.1
 rng:0<=x.2.1/\x.2.1<=N
 lim:x.1.rows.length<=r.lim
 live:1<=x.1.live/\x.1.live<=x.1.rows.length
 fine:Fine x.1
 mo:Mo x.1
 same:x.1.g=r.g/\x.1.rels=r.rels/\x.1.sub=r.sub/\x.1.lim=r.lim
 pos:(0<=x.1.ph/\x.1.ph<=3)/\(0<=x.1.co/\x.1.co<=x.1.rows.length)/\(0<=x.1.ix/\x.1.ix<=1000)
 stat:0<=x.1.stat/\x.1.stat<=2
 go:x.1.stat=0->x.2.1=N/\GoodR x.1
theorem step_eq {r:Rn} (hs:r.stat=0) {N:Int} (hN:1<=N):stepR r N=((Eng.run r N.toNat).1,N-(Eng.run r N.toNat).2,0):=by
 rw [stepR,if_neg (by omega),if_neg (by rw [hs];simp)]
theorem stepR_ok {r:Rn} (G:GoodR r) (M:Mo r) (hs:r.stat=0) {N:Int} (hN:1<=N):Stp r N (stepR r N):=by
 have R:=run_ok G N.toNat
 have m:=run_mo G N.toNat M
 have h1:=R.len
 have h2:=R.grown
 have h3:=G.n1
 have lp:=R.fine.live_pos (by omega)
 have ll:=R.fine.live_le
 have hst:=R.stop
 rw [step_eq hs hN]
 refine ⟨rfl,by simp only;omega,by simp only;omega,R.lim,⟨lp,ll⟩,R.fine,m,R.same,R.pos,?_,fun h0=>?_⟩
 . simp only
   rcases hst with h | h | ⟨h,_⟩ <;> omega
 . have h0:(Eng.run r N.toNat).1.stat=0:=h0
   rcases hst with h | h | ⟨_,h,hg⟩
   . omega
   . omega
   . exact ⟨by simp only;omega,hg⟩
theorem stepR_add {r:Rn} (G:GoodR r) (hs:r.stat=0) {M N:Int} (hM:1<=M) (hN:1<=N) :
 ((stepR r M).1.stat≠0->stepR r (M+N)=stepR r M)/\((stepR r M).1.stat=0->(stepR r M).2.1=M->(stepR r (M+N)).1=(stepR (stepR r M).1 N).1/\(stepR r (M+N)).2.1=M+(stepR (stepR r M).1 N).2.1):=by
 have A:=run_add G hs M.toNat N.toNat
 rw [step_eq hs hM,step_eq hs (show 1<=M+N by omega),show (M+N).toNat=M.toNat+N.toNat by omega]
 refine ⟨fun h=>?_,fun h h2=>?_⟩
 . rw [A.1 h]
   simp only [Prod.mk.injEq,and_true,true_and]
   omega
 . have h:(Eng.run r M.toNat).1.stat=0:=h
   rw [step_eq h hN,A.2 h]
   refine ⟨rfl,?_⟩
   simp only
   omega
theorem sv_of {r:Rn} (F:Fine r) (m:Mo r) (h0:0<r.rows.length) (h1:r.rows.length<=1000) (hg:1<=r.g/\r.g<=3) (hr:Few r.g r.rels) (hs:Few r.g r.sub) (hl:0<=r.lim/\r.lim<=1000000) (hst:0<=r.stat/\r.stat<=2) (hp:(0<=r.ph/\r.ph<=3)/\(0<=r.co/\r.co<=r.rows.length)/\(0<=r.ix/\r.ix<=1000)):Sv r:=by
 have hlen:r.par.length=r.rows.length:=F.len
 have hpar:Par r.par:=F.par
 have hrow:∀ l∈r.rows,Row (2*r.g).toNat r.rows.length l:=F.row
 have hlo:=m.lo
 have hhi:=m.hi
 have hlp:=F.live_pos h0
 have hw:∀ {rs:List (List Int)},Few r.g rs->∀ w∈rs,GoodW 16 w/\w.length<100:=fun H w hw=>by
  obtain ⟨a,b⟩:=H.w w hw
  exact ⟨fun x hx=>by have:=b x hx;omega,by omega⟩
 refine ⟨h0,h1,hlen,fun l hl=>?_,fun x hx=>?_,⟨by omega,by omega⟩,⟨by omega,by omega⟩,⟨by omega,by omega⟩,⟨by omega,by omega⟩,⟨by omega,by omega⟩,⟨by omega,by omega⟩,⟨by omega,by omega⟩,hw hr,hw hs,by have:=hr.n;omega,by have:=hs.n;omega⟩
 . obtain ⟨a,b⟩:=hrow l hl
   exact ⟨by omega,fun x hx=>by have:=b x hx;exact ⟨by omega,by omega⟩⟩
 . obtain ⟨i,hi,rfl⟩:=List.getElem_of_mem hx
   have:=hpar.2 i hi
   rw [List.getD_eq_getElem?_getD,List.getElem?_eq_getElem hi] at this
   have this:0<=r.par[i]/\r.par[i]<=i:=this
   exact ⟨by omega,by omega⟩
theorem sv_stp {r0:Rn} {N:Int} {x:Rn×Int×Int} (X:Stp r0 N x) {g:Int} {rs ss:List (List Int)} (hx:0<x.1.rows.length) (hl:r0.lim=200) (h:r0.g=g/\r0.rels=rs/\r0.sub=ss) (hg:1<=g/\g<=3) (hr:Few g rs) (hs:Few g ss):Sv x.1:=by
 obtain ⟨a,b,c,d⟩:=X.same
 obtain ⟨h1,h2,h3⟩:=h
 have xl:=X.lim
 refine sv_of X.fine X.mo hx (by omega) (by rw [a,h1];exact hg) (by rw [a,h1,b,h2];exact hr) (by rw [a,h1,c,h3];exact hs) (by rw [d];omega) X.stat X.pos
theorem chkGo_few {g:Int} (hg:1<=g/\g<=16):∀ (rs:List (List Int)) (left i:Int),(∀ w∈rs,w.length<=20/\∀ x∈w,x≠0/\-g<=x/\x<=g)->20*(rs.length:Int)<=left->(chkGo g rs left i).1=0
 | [],_,_,_,_=>rfl
 | w :: rs, left, i, h, hl => by
   obtain ⟨h1,h2⟩:=h w (by simp)
   rw [List.length_cons] at hl
   rw [chkGo,if_neg (by omega),if_neg]
   . exact chkGo_few hg rs _ _ (fun w hw=>h w (by simp [hw])) (by omega)
   . rw [Bool.not_eq_true,List.any_eq_false]
     intro x hx
     have:=h2 x hx
     have e:IntKind.i64.wrap (0-g)=0-g:=wrap64 (by omega) (by omega)
     simp only [badL,Bool.or_eq_true,decide_eq_true_eq,e]
     omega
theorem flat_few:∀ (rs:List (List Int)),(∀ w∈rs,w.length<=20)->rs.flatten.length<=20*rs.length
 | [],_=>Nat.le_refl _
 | w::rs,h=>by
   have h1:=h w (by simp)
   have h2:=flat_few rs fun w hw=>h w (by simp [hw])
   rw [List.flatten_cons,List.length_append,List.length_cons]
   omega
theorem few_begins {g:Int} {rels sub:List (List Int)} (lim:Int) (hl:1<=lim/\lim<=20000) (hg:1<=g/\g<=3) (hr:Few g rels) (hs:Few g sub):Begins g lim rels sub:=by
 have hrn:=hr.n
 have hsn:=hs.n
 have hf:=flat_few sub fun w hw=>(hs.w w hw).1
 refine ⟨fun w hw=>by have:=(hr.w w hw).1;omega,?_,hl,⟨by omega,by omega⟩,fun w hw=>?_⟩
 . rw [chk,if_neg (by omega),if_neg (by omega)]
   exact chkGo_few (by omega) rels _ _ hr.w (by omega)
 . rw [List.any_eq_false]
   intro x hx
   have:=(hs.w w hw).2 x hx
   have e:IntKind.i64.wrap (0-g)=0-g:=wrap64 (by omega) (by omega)
   simp only [badL,Bool.or_eq_true,decide_eq_true_eq,e]
   omega
theorem counts_sem (which m n:Int) (l k:List Int):FnSem Tryd.prog 3 [nI which,nI m,nI n,lsI l,lsI k] [] (bB true) []:=by
 refine fnSem_at (live:=[]) gCts_ok Tryd.func3 (by kernel_rfl) (keep:=0) rfl (by kernel_rfl) 300 ?_
 apply of_eq (q:=let q0:=IntKind.i64.wrap;let q8:=(0:Int);let q16:=decide (q8=q8);let q17:=decide ((60:Int)<(l.length:Int));let q18:=((1:Int)+turnI m (40:Int));let q21:=(given9 which l);let q24:=([]:List Ob);let q26:=(1:Nat);let q29:=((1:Int)+turnI n (40:Int));let q32:=(W.bool false);let q4:=(A.p (V.agg (List.take (2:Nat) (List.drop (0:Nat) (Ob.mk 26 (Fd.c (W.int .i64 q21.fst)::Fd.c (W.rd (D.int .i64).sl q21.snd)::List.append._f [] PUnit.unit [])).cells))));let q7:=(rn0 q21.fst (200:Int) q21.snd (words9 k q21.fst));let q15:=(q0 q18+q0 q29);let q23:=(R1.pure Cd.t q4);let q27:=((2:Int)*q7.g);let q1:=(stepR q7 (q0 q18));let q2:=(stepR q7 (q0 q15));let q3:=(stepR q1.fst (q0 q29));let q5:=decide ((↑q1.fst.rows.length:Int)=q0 ((1:Int)+q1.snd.fst));let q6:=decide ((↑q1.fst.rows.length:Int)<if (0:Nat)<q1.fst.rows.length then q1.fst.live else q8);let q9:=decide ((if (0:Nat)<q1.fst.rows.length then q1.fst.stat else q8)=q8);let q10:=decide ((if (0:Nat)<q1.fst.rows.length then q1.fst.live else q8)<(1:Int));let q11:=decide (q1.snd.snd=q8);let q12:=decide (q2.snd.snd=q8);let q13:=decide ((if (0:Nat)<q3.fst.rows.length then q3.fst.stat else q8)=q8);let q14:=decide (q3.snd.snd=q8);let q19:=((2:Int)*q1.fst.g);let q20:=decide (q0 (q1.snd.fst+q3.snd.fst)=q2.snd.fst);let q22:=decide (packI (saveT q3.fst)=packI (saveT q2.fst));let q25:=decide (q0 q18<q1.snd.fst);let q28:=decide (q2.snd.fst=q1.snd.fst);let q30:=((2:Int)*q2.fst.g);let q31:=((2:Int)*q3.fst.g);(q17=false->q17=false)/\(q17=false->q17=false)/\(q17=false->q17=false)/\((bif q17 then true else decide ((30:Int)<(k.length:Int)))=true->packV [V.c (W.bool true)]=bB true/\q24=[])/\((bif q17 then true else decide ((30:Int)<(k.length:Int)))=false->l.length<=(1000:Nat)/\((1:Int)<=(40:Int)/\(40:Int)<=(1000:Int))/\((1:Int)<=(40:Int)/\(40:Int)<=(1000:Int))/\(((1:Int)<=q21.fst/\q21.fst<=(16:Int))/\k.length<=(1000:Nat))/\Begins q21.fst (200:Int) q21.snd (words9 k q21.fst)/\q23.v=q23.v/\q23.v=q23.v/\(((1:Int)<=q21.fst/\q21.fst<=(16:Int))/\k.length<=(1000:Nat))/\Begins q21.fst (200:Int) q21.snd (words9 k q21.fst)/\q23.v=q23.v/\q23.v=q23.v/\((!q16)=false->(!q16)=false)/\((!q16)=false->(!q16)=false)/\((bif !q16 then true else !q16)=false->(bif !q16 then true else !q16)=false)/\((bif !q16 then true else !q16)=false->(bif !q16 then true else !q16)=false)/\((bif bif !q16 then true else !q16 then true else false)=false->(bif bif !q16 then true else !q16 then true else false)=false)/\((bif bif !q16 then true else !q16 then true else false)=false->(bif bif !q16 then true else !q16 then true else false)=false)/\((bif bif bif !q16 then true else !q16 then true else false then true else false)=true->packV [V.c q32]=bB true/\q24=[])/\((bif bif bif !q16 then true else !q16 then true else false then true else false)=false->((q26=q26/\q26=q26/\q27.toNat=q27.toNat)/\(0:Nat)<q26/\q0 q18<=(1000000:Int)/\((1:Int)<=q0 q18->q7.stat=q8->GoodR q7))/\((q1.fst.rows.length=q1.fst.rows.length/\q1.fst.par.length=q1.fst.par.length/\q19.toNat=q19.toNat)/\True)/\((!q11)=false->(!q11)=false)/\((!q11)=false->(!q11)=false)/\((!q11)=false->(!q11)=false)/\((!q11)=false->(!q11)=false)/\((bif !q11 then true else !q5)=false->(bif !q11 then true else !q5)=false)/\((bif !q11 then true else !q5)=false->(bif !q11 then true else !q5)=false)/\((bif !q11 then true else !q5)=false->(bif !q11 then true else !q5)=false)/\((bif bif !q11 then true else !q5 then true else q6)=false->(bif bif !q11 then true else !q5 then true else q6)=false)/\((bif bif !q11 then true else !q5 then true else q6)=false->(bif bif !q11 then true else !q5 then true else q6)=false)/\((bif bif bif !q11 then true else !q5 then true else q6 then true else q10)=false->(bif bif bif !q11 then true else !q5 then true else q6 then true else q10)=false)/\((bif bif bif !q11 then true else !q5 then true else q6 then true else q10)=false->(bif bif bif !q11 then true else !q5 then true else q6 then true else q10)=false)/\((bif bif bif !q11 then true else !q5 then true else q6 then true else q10)=false->(bif bif bif !q11 then true else !q5 then true else q6 then true else q10)=false)/\((bif bif bif bif !q11 then true else !q5 then true else q6 then true else q10 then true else q25)=false->(bif bif bif bif !q11 then true else !q5 then true else q6 then true else q10 then true else q25)=false/\((q1.fst.rows.length=q1.fst.rows.length/\q1.fst.par.length=q1.fst.par.length/\q19.toNat=q19.toNat)/\True)/\(q9=true->q9=true)/\(q9=true->q9=true)/\(q9=true->q9=true)/\((bif q9 then !decide (q1.snd.fst=q0 q18) else false)=true->packV [V.c q32]=bB true/\q24=[])/\((bif q9 then !decide (q1.snd.fst=q0 q18) else false)=false->((q1.fst.rows.length=q1.fst.rows.length/\q1.fst.par.length=q1.fst.par.length/\q19.toNat=q19.toNat)/\True)/\((!q9)=true->((q26=q26/\q26=q26/\q27.toNat=q27.toNat)/\(0:Nat)<q26/\q0 q15<=(1000000:Int)/\((1:Int)<=q0 q15->q7.stat=q8->GoodR q7))/\(true=true->true=true)/\(true=true->true=true)/\((bif true then q12 else false)=true->(bif true then q12 else false)=true)/\((bif true then q12 else false)=true->(bif true then q12 else false)=true)/\((bif true then q12 else false)=true->(bif true then q12 else false)=true)/\((bif bif true then q12 else false then q28 else false)=true->(bif bif true then q12 else false then q28 else false)=true/\((q2.fst.rows.length=q2.fst.rows.length/\q2.fst.par.length=q2.fst.par.length/\q30.toNat=q30.toNat)/\Sv q2.fst)/\((q1.fst.rows.length=q1.fst.rows.length/\q1.fst.par.length=q1.fst.par.length/\q19.toNat=q19.toNat)/\Sv q1.fst)/\packV [V.c (W.bool (decide (packI (saveT q2.fst)=packI (saveT q1.fst))))]=bB true/\q24=[])/\((bif bif true then q12 else false then q28 else false)=!true->packV [V.c q32]=bB true/\q24=[]))/\((!q9)=false->((q1.fst.rows.length=q1.fst.rows.length/\q1.fst.par.length=q1.fst.par.length/\q19.toNat=q19.toNat)/\(0:Nat)<q1.fst.rows.length/\q0 q29<=(1000000:Int)/\((1:Int)<=q0 q29->q1.fst.stat=q8->GoodR q1.fst))/\((q26=q26/\q26=q26/\q27.toNat=q27.toNat)/\(0:Nat)<q26/\q0 q15<=(1000000:Int)/\((1:Int)<=q0 q15->q7.stat=q8->GoodR q7))/\(true=true->true=true)/\(true=true->true=true)/\((bif true then q14 else false)=true->(bif true then q14 else false)=true)/\((bif true then q14 else false)=true->(bif true then q14 else false)=true)/\((bif bif true then q14 else false then q12 else false)=true->(bif bif true then q14 else false then q12 else false)=true)/\((bif bif true then q14 else false then q12 else false)=true->(bif bif true then q14 else false then q12 else false)=true)/\((bif bif true then q14 else false then q12 else false)=true->(bif bif true then q14 else false then q12 else false)=true)/\((bif bif true then q14 else false then q12 else false)=true->(bif bif true then q14 else false then q12 else false)=true)/\((bif bif true then q14 else false then q12 else false)=true->(bif bif true then q14 else false then q12 else false)=true)/\((bif bif bif true then q14 else false then q12 else false then q20 else false)=true->(bif bif bif true then q14 else false then q12 else false then q20 else false)=true/\((q3.fst.rows.length=q3.fst.rows.length/\q3.fst.par.length=q3.fst.par.length/\q31.toNat=q31.toNat)/\Sv q3.fst)/\((q2.fst.rows.length=q2.fst.rows.length/\q2.fst.par.length=q2.fst.par.length/\q30.toNat=q30.toNat)/\Sv q2.fst)/\(q22=true->q22=true/\((q3.fst.rows.length=q3.fst.rows.length/\q3.fst.par.length=q3.fst.par.length/\q31.toNat=q31.toNat)/\True)/\((!q13)=false->(!q13)=false)/\((!q13)=false->(!q13)=false)/\((!q13)=false->(!q13)=false)/\packV [V.c (W.bool (bif !q13 then true else decide (q3.snd.fst=q0 q29)))]=bB true/\q24=[])/\(q22=!true->packV [V.c q32]=bB true/\q24=[]))/\((bif bif bif true then q14 else false then q12 else false then q20 else false)=!true->packV [V.c q32]=bB true/\q24=[]))))/\((bif bif bif bif !q11 then true else !q5 then true else q6 then true else q10 then true else q25)=!false->packV [V.c q32]=bB true/\q24=[])))) (by kernel_rfl)
 try simp only [imp_self,true_and,and_true,Bool.cond_true_left,Bool.cond_false_right,Bool.or_eq_true,Bool.or_eq_false_iff,Bool.and_eq_true,Bool.and_eq_false_imp,Bool.not_eq_true',Bool.not_eq_false',decide_eq_true_eq,decide_eq_false_iff_not,Int.not_lt,List.drop_zero]
 have tm:=turn_range m 40 (by omega)
 have tn:=turn_range n 40 (by omega)
 obtain ⟨hg,hr⟩:=given9_few which l
 have hs:=words9_few hg.1 k
 have B:=few_begins 200 (by omega) hg hr hs
 have e1:IntKind.i64.wrap (1+turnI m 40)=1+turnI m 40:=wrap64 (by omega) (by omega)
 have e2:IntKind.i64.wrap (1+turnI n 40)=1+turnI n 40:=wrap64 (by omega) (by omega)
 have e3:IntKind.i64.wrap (1+turnI m 40+(1+turnI n 40))=1+turnI m 40+(1+turnI n 40):=wrap64 (by omega) (by omega)
 simp only [e1,e2,e3]
 clear e1 e2 e3
 generalize turnI m 40=M at *
 generalize turnI n 40=N at *
 have G:=B.good
 have m0:Mo (rn0 (given9 which l).1 200 (given9 which l).2 (words9 k (given9 which l).1)):=⟨Int.le_refl _,Int.le_refl _⟩
 have s0:(rn0 (given9 which l).1 200 (given9 which l).2 (words9 k (given9 which l).1)).stat=0:=rfl
 have l0:(rn0 (given9 which l).1 200 (given9 which l).2 (words9 k (given9 which l).1)).rows.length=1:=rfl
 have hlim:(rn0 (given9 which l).1 200 (given9 which l).2 (words9 k (given9 which l).1)).lim=200:=rfl
 have hsame:(rn0 (given9 which l).1 200 (given9 which l).2 (words9 k (given9 which l).1)).g=(given9 which l).1/\(rn0 (given9 which l).1 200 (given9 which l).2 (words9 k (given9 which l).1)).rels=(given9 which l).2/\(rn0 (given9 which l).1 200 (given9 which l).2 (words9 k (given9 which l).1)).sub=words9 k (given9 which l).1:=⟨rfl,rfl,rfl⟩
 generalize given9 which l=gg at *
 generalize words9 k gg.1=ww at *
 generalize rn0 gg.1 200 gg.2 ww=r0 at *
 have X:=stepR_ok G m0 s0 (N:=1+M) (by omega)
 have Y:=stepR_ok G m0 s0 (N:=1+M+(1+N)) (by omega)
 have A:=stepR_add G s0 (M:=1+M) (N:=1+N) (by omega) (by omega)
 have Zf:(stepR r0 (1+M)).1.stat=0->Stp (stepR r0 (1+M)).1 (1+N) (stepR (stepR r0 (1+M)).1 (1+N)):=fun h=>stepR_ok (X.go h).2 X.mo h (by omega)
 have ZG:∀ h,_:=fun h=>(X.go h).2
 generalize stepR r0 (1+M+(1+N))=y at *
 generalize stepR r0 (1+M)=x at *
 generalize stepR x.1 (1+N)=z at *
 have x1:=X.len
 have x2:=X.rng
 have x3:=X.lim
 have xp:0<x.1.rows.length:=by omega
 have y1:=Y.len
 have y2:=Y.rng
 have y3:=Y.lim
 have yp:0<y.1.rows.length:=by omega
 have e4:IntKind.i64.wrap (1+x.2.1)=1+x.2.1:=wrap64 (by omega) (by omega)
 simp only [if_pos xp,X.err,Y.err,e4]
 clear ZG
 have SX:=sv_stp X xp hlim hsame hg hr hs
 have SY:=sv_stp Y yp hlim hsame hg hr hs
 have xl:=X.live
 have hg16:1<=gg.1/\gg.1<=16:=by omega
 refine ⟨fun _=>rfl,fun hlk=>⟨by omega,by omega,by omega,⟨hg16,by omega⟩,B,⟨hg16,by omega⟩,B,fun h=>by simp at h,fun _=>⟨⟨by omega,by omega,fun _ _=>G⟩,fun _=>⟨by omega,fun h=>absurd (X.go h.1).1 h.2,fun hgo=>⟨fun hne=>⟨⟨by omega,by omega,fun _ _=>G⟩,fun h=>⟨h,SY,SX,?_⟩,fun h=>?_⟩,fun heq=>?_⟩⟩,fun h=>?_⟩⟩⟩
 . rw [A.1 hne];simp only [decide_true];rfl
 . rw [A.1 hne] at h;simp at h
 . obtain ⟨gx,GX⟩:=X.go heq
   have Z:=Zf heq
   obtain ⟨A1,A2⟩:=A.2 heq gx
   have z1:=Z.len
   have z2:=Z.rng
   have zp:0<z.1.rows.length:=by omega
   have SZ:=sv_stp Z zp (X.same.2.2.2.trans hlim) ⟨X.same.1.trans hsame.1,X.same.2.1.trans hsame.2.1,X.same.2.2.1.trans hsame.2.2⟩ hg hr hs
   have e5:IntKind.i64.wrap (1+M+z.2.1)=1+M+z.2.1:=wrap64 (by omega) (by omega)
   rw [A1,A2]
   simp only [Z.err,e5,gx,if_pos zp]
   refine ⟨⟨by omega,by omega,fun _ _=>GX⟩,⟨by omega,by omega,fun _ _=>G⟩,fun h=>⟨h,SZ,SZ,fun _=>⟨trivial,?_⟩,fun h=>?_⟩,fun h=>?_⟩
   rotate_left
   . rw [decide_eq_true trivial] at h;cases h
   . simp only [decide_true,Bool.and_self,Bool.not_true,Bool.true_eq_false] at h
   by_cases h0:z.1.stat=0
   . rw [(Z.go h0).1];simp only [decide_true,Bool.or_true];rfl
   . simp only [h0,decide_false,Bool.not_false,Bool.true_or];rfl
 . have h1:¬ (x.1.rows.length:Int)<x.1.live:=by omega
   have h2:¬ x.1.live<1:=by omega
   have h3:¬ 1+M<x.2.1:=by omega
   have h4:(x.1.rows.length:Int)=1+x.2.1:=by omega
   simp [h2,h3,h4] at h
   omega
theorem counts_all:ForArgs (fun args=>FnSem Tryd.prog 3 args [] (dat .bool true) []) [.int .i64,.int .i64,.int .i64,.sl (.int .i64),.sl (.int .i64)] [] :=
 fun w _ m _ n _ l _ k _=>counts_sem w m n l k
end Go.Proofs.YtejehoihhphpiaaDoor
