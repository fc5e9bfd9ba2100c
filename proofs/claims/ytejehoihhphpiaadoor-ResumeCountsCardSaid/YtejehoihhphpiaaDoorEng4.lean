/- Enumeration of cosets in steps: acts, runs, and runs cut in two. -/
import Derived.Test.YtejehoihhphpiaaDoorEng1
namespace Go.Eng

def act (r:Rn) (q:Nat):Rn×Nat×Bool :=
 if r.ph=0/\(r.sub.length:Int)<=r.ix then ({ r with ph:=1,co:=0,ix:=0 },q,false)
 else if r.ph=0 then
  if (fillF 0 (r.sub.getD r.ix.toNat []) q r).2.2=false then ((fillF 0 (r.sub.getD r.ix.toNat []) q r).1,(fillF 0 (r.sub.getD r.ix.toNat []) q r).2.1,true)
  else ({ (fillF 0 (r.sub.getD r.ix.toNat []) q r).1 with ix:=r.ix+1 },(fillF 0 (r.sub.getD r.ix.toNat []) q r).2.1,false)
 else if r.ph=2 then
  if (colsF r.co.toNat (2*r.g).toNat 0 r q).2.2=false then ((colsF r.co.toNat (2*r.g).toNat 0 r q).1,(colsF r.co.toNat (2*r.g).toNat 0 r q).2.1,true)
  else ({ (colsF r.co.toNat (2*r.g).toNat 0 r q).1 with ph:=1,co:=r.co+1,ix:=0 },(colsF r.co.toNat (2*r.g).toNat 0 r q).2.1,false)
 else if r.co=r.rows.length then ({ r with ph:=3,co:=0,ix:=0,stat:=1 },q,true)
 else if ¬ (r.par.getD r.co.toNat 0=r.co) then ({ r with ph:=1,co:=r.co+1,ix:=0 },q,false)
 else if (r.rels.length:Int)<=r.ix then ({ r with ph:=2,co:=r.co,ix:=0 },q,false)
 else if (fillF r.co.toNat (r.rels.getD r.ix.toNat []) q r).2.2=false then ((fillF r.co.toNat (r.rels.getD r.ix.toNat []) q r).1,(fillF r.co.toNat (r.rels.getD r.ix.toNat []) q r).2.1,true)
 else ({ (fillF r.co.toNat (r.rels.getD r.ix.toNat []) q r).1 with ix:=r.ix+1 },(fillF r.co.toNat (r.rels.getD r.ix.toNat []) q r).2.1,false)
structure GoodR (r:Rn):Prop where
 fine:Fine r
 n1:0<r.rows.length
 lim:r.rows.length<=r.lim
 lim2:r.lim<=900000
 rels:∀ w∈r.rels,Wd r.g w
 sub:∀ w∈r.sub,Wd r.g w
 nr:r.rels.length<=1000
 ns:r.sub.length<=1000
 ph:r.ph=0∨r.ph=1∨r.ph=2
 co:0<=r.co/\r.co<=r.rows.length
 ix:0<=r.ix/\r.ix<=1000
 co2:r.ph=2->r.co<r.rows.length
def meas (r:Rn):Nat :=
 if r.ph=0 then (r.lim.toNat+1)*(r.rels.length+3)+3+(r.sub.length-r.ix.toNat)
 else if r.ph=1 then (r.lim.toNat-r.co.toNat)*(r.rels.length+3)+(r.rels.length-r.ix.toNat)+2
 else (r.lim.toNat-r.co.toNat)*(r.rels.length+3)+1
structure Acted (r:Rn) (q:Nat) (x:Rn×Nat×Bool):Prop where
 fine:Fine x.1
 len:x.1.rows.length+x.2.1=r.rows.length+q
 lim:x.1.rows.length<=r.lim
 grown:r.rows.length<=x.1.rows.length
 same:x.1.g=r.g/\x.1.rels=r.rels/\x.1.sub=r.sub/\x.1.lim=r.lim
 pos:(0<=x.1.ph/\x.1.ph<=3)/\(0<=x.1.co/\x.1.co<=x.1.rows.length)/\(0<=x.1.ix/\x.1.ix<=1000)
 go:x.2.2=false->GoodR x.1/\meas x.1<meas r/\x.1.stat=r.stat
 stop:x.2.2=true->x.1.stat=1∨x.1.stat=2∨(x.1.stat=r.stat/\x.2.1=0/\GoodR x.1)
theorem getL_memS {l:List (List Int)} {i:Int} (h0:0<=i) (h:i<l.length):l.getD i.toNat []∈l:=getL_mem (by omega)
theorem Fine.place {r:Rn} (T:Fine r) (p c i s:Int):Fine { r with ph:=p,co:=c,ix:=i,stat:=s }:=⟨T.g1,T.g2,T.len,T.par,T.row,T.dy,T.dx,T.live,T.sum⟩
theorem mul_pred {a b:Nat} (h:0<a):a*b=(a-1)*b+b:=by
 obtain ⟨c,rfl⟩:∃ c,a=c+1:=⟨a-1,by omega⟩
 rw [Nat.succ_mul];rfl
theorem act_ok {r:Rn} (G:GoodR r) (q:Nat):Acted r q (act r q):=by
 have hg:=G.ix
 have hc:=G.co
 have hl:=G.lim
 have hl2:=G.lim2
 have hph:=G.ph
 have hnr:=G.nr
 have hns:=G.ns
 have hn1:=G.n1
 unfold act
 split
 . rename_i h
   refine ⟨G.fine.place 1 0 0 r.stat,rfl,hl,Nat.le_refl _,⟨rfl,rfl,rfl,rfl⟩,⟨by simp only;omega,by simp only;omega,by simp only;omega⟩,fun _=>⟨⟨G.fine.place 1 0 0 r.stat,hn1,hl,hl2,G.rels,G.sub,hnr,hns,.inr (.inl rfl),by simp only;omega,by simp only;omega,fun h=>by simp only at h;omega⟩,?_,rfl⟩,fun h=>by cases h⟩
   unfold meas
   rw [if_pos h.1]
   simp only [Int.reduceEq,if_false,if_true]
   have:(r.lim.toNat+1)*(r.rels.length+3)=r.lim.toNat*(r.rels.length+3)+(r.rels.length+3):=Nat.succ_mul _ _
   have e:r.lim.toNat-(0:Int).toNat=r.lim.toNat:=rfl
   rw [e]
   omega
 . rename_i h0
   split
   . rename_i hp
     have hi:r.ix<r.sub.length:=by omega
     have hw:=G.sub _ (getL_memS hg.1 hi)
     have F:=fill_ok (a:=0) (w:=r.sub.getD r.ix.toNat []) q G.fine hw hn1 hl hl2
     generalize fillF 0 (r.sub.getD r.ix.toNat []) q r=x at *
     obtain ⟨k1,k2,k3,k4,k5,k6,k7,_⟩:=F.keep
     simp only at k1 k2 k3 k4 k5 k6 k7
     have f1:=F.len
     have f2:=F.lim
     have f3:=F.grown
     split
     . rename_i hx
       refine ⟨F.fine,f1,f2,f3,⟨k1,k2,k3,k4⟩,⟨by simp only;omega,by simp only;omega,by simp only;omega⟩,fun h=>(by cases h),fun _=>?_⟩
       rcases F.no hx with ⟨h1,_⟩ | ⟨h1,h2,h3⟩
       . exact .inr (.inl h1)
       . exact .inr (.inr ⟨h1,h2,⟨F.fine,by simp only;omega,by simp only;omega,by simp only;omega,by rw [k1,k2];exact G.rels,by rw [k1,k3];exact G.sub,by rw [k2];exact hnr,by rw [k3];exact hns,by rw [k5];exact hph,by simp only;omega,by simp only;omega,fun h=>by simp only at h;omega⟩⟩)
     . rename_i hx
       have hx:x.2.2=true:=by simpa using hx
       refine ⟨F.fine.place x.1.ph x.1.co (r.ix+1) x.1.stat,f1,f2,f3,⟨k1,k2,k3,k4⟩,⟨by simp only;omega,by simp only;omega,by simp only;omega⟩,fun _=>⟨⟨F.fine.place x.1.ph x.1.co (r.ix+1) x.1.stat,by simp only;omega,by simp only;omega,by simp only;omega,by simp only;rw [k1,k2];exact G.rels,by simp only;rw [k1,k3];exact G.sub,by simp only;rw [k2];exact hnr,by simp only;rw [k3];exact hns,by simp only;rw [k5];exact hph,by simp only;omega,by simp only;omega,fun h=>by simp only at h;omega⟩,?_,F.yes hx⟩,fun h=>by cases h⟩
       unfold meas
       simp only
       rw [k5,if_pos hp,if_pos hp,k4,k2,k3]
       omega
   . rename_i hp
     split
     . rename_i hp2
       have hco:=G.co2 hp2
       have F:=cols_ok (a:=r.co.toNat) (2*r.g).toNat 0 q G.fine (by omega) (by omega) hl hl2
       generalize colsF r.co.toNat (2*r.g).toNat 0 r q=x at *
       obtain ⟨k1,k2,k3,k4,k5,k6,k7,_⟩:=F.keep
       simp only at k1 k2 k3 k4 k5 k6 k7
       have f1:=F.len
       have f2:=F.lim
       have f3:=F.grown
       split
       . rename_i hx
         refine ⟨F.fine,f1,f2,f3,⟨k1,k2,k3,k4⟩,⟨by simp only;omega,by simp only;omega,by simp only;omega⟩,fun h=>(by cases h),fun _=>?_⟩
         rcases F.no hx with ⟨h1,_⟩ | ⟨h1,h2,h3⟩
         . exact .inr (.inl h1)
         . exact .inr (.inr ⟨h1,h2,⟨F.fine,by simp only;omega,by simp only;omega,by simp only;omega,by rw [k1,k2];exact G.rels,by rw [k1,k3];exact G.sub,by rw [k2];exact hnr,by rw [k3];exact hns,by rw [k5];exact hph,by simp only;omega,by simp only;omega,fun h=>by simp only;omega⟩⟩)
       . rename_i hx
         have hx:x.2.2=true:=by simpa using hx
         refine ⟨F.fine.place 1 (r.co+1) 0 x.1.stat,f1,f2,f3,⟨k1,k2,k3,k4⟩,⟨by simp only;omega,by simp only;omega,by simp only;omega⟩,fun _=>⟨⟨F.fine.place 1 (r.co+1) 0 x.1.stat,by simp only;omega,by simp only;omega,by simp only;omega,by simp only;rw [k1,k2];exact G.rels,by simp only;rw [k1,k3];exact G.sub,by simp only;rw [k2];exact hnr,by simp only;rw [k3];exact hns,.inr (.inl rfl),by simp only;omega,by simp only;omega,fun h=>by simp only at h;omega⟩,?_,F.yes hx⟩,fun h=>by cases h⟩
         unfold meas
         simp only [Int.reduceEq,if_false,if_true]
         rw [if_neg hp,if_neg (by omega),k4,k2]
         have:=mul_pred (a:=r.lim.toNat-r.co.toNat) (b:=r.rels.length+3) (by omega)
         rw [show r.lim.toNat-(r.co+1).toNat=r.lim.toNat-r.co.toNat-1 by omega]
         have e:r.rels.length-(0:Int).toNat=r.rels.length:=rfl
         omega
     . rename_i hp2
       have hp1:r.ph=1:=by omega
       split
       . exact ⟨G.fine.place 3 0 0 1,rfl,hl,Nat.le_refl _,⟨rfl,rfl,rfl,rfl⟩,⟨by simp only;omega,by simp only;omega,by simp only;omega⟩,fun h=>(by cases h),fun _=>.inl rfl⟩
       . rename_i hne
         have hlt:r.co<r.rows.length:=by omega
         split
         . refine ⟨G.fine.place 1 (r.co+1) 0 r.stat,rfl,hl,Nat.le_refl _,⟨rfl,rfl,rfl,rfl⟩,⟨by simp only;omega,by simp only;omega,by simp only;omega⟩,fun _=>⟨⟨G.fine.place 1 (r.co+1) 0 r.stat,hn1,hl,hl2,G.rels,G.sub,hnr,hns,.inr (.inl rfl),by simp only;omega,by simp only;omega,fun h=>by simp only at h;omega⟩,?_,rfl⟩,fun h=>by cases h⟩
           unfold meas
           simp only [Int.reduceEq,if_false,if_true]
           rw [if_neg hp,if_pos hp1]
           have:=mul_pred (a:=r.lim.toNat-r.co.toNat) (b:=r.rels.length+3) (by omega)
           rw [show r.lim.toNat-(r.co+1).toNat=r.lim.toNat-r.co.toNat-1 by omega]
           have e:r.rels.length-(0:Int).toNat=r.rels.length:=rfl
           omega
         . split
           . refine ⟨G.fine.place 2 r.co 0 r.stat,rfl,hl,Nat.le_refl _,⟨rfl,rfl,rfl,rfl⟩,⟨by simp only;omega,by simp only;omega,by simp only;omega⟩,fun _=>⟨⟨G.fine.place 2 r.co 0 r.stat,hn1,hl,hl2,G.rels,G.sub,hnr,hns,.inr (.inr rfl),by simp only;omega,by simp only;omega,fun _=>hlt⟩,?_,rfl⟩,fun h=>by cases h⟩
             unfold meas
             simp only [Int.reduceEq,if_false]
             rw [if_neg hp,if_pos hp1]
             omega
           . rename_i hal hi
             have hi:r.ix<r.rels.length:=by omega
             have hw:=G.rels _ (getL_memS hg.1 hi)
             have F:=fill_ok (a:=r.co.toNat) (w:=r.rels.getD r.ix.toNat []) q G.fine hw (by omega) hl hl2
             generalize fillF r.co.toNat (r.rels.getD r.ix.toNat []) q r=x at *
             obtain ⟨k1,k2,k3,k4,k5,k6,k7,_⟩:=F.keep
             simp only at k1 k2 k3 k4 k5 k6 k7
             have f1:=F.len
             have f2:=F.lim
             have f3:=F.grown
             split
             . rename_i hx
               refine ⟨F.fine,f1,f2,f3,⟨k1,k2,k3,k4⟩,⟨by simp only;omega,by simp only;omega,by simp only;omega⟩,fun h=>(by cases h),fun _=>?_⟩
               rcases F.no hx with ⟨h1,_⟩ | ⟨h1,h2,h3⟩
               . exact .inr (.inl h1)
               . exact .inr (.inr ⟨h1,h2,⟨F.fine,by simp only;omega,by simp only;omega,by simp only;omega,by rw [k1,k2];exact G.rels,by rw [k1,k3];exact G.sub,by rw [k2];exact hnr,by rw [k3];exact hns,by rw [k5];exact hph,by simp only;omega,by simp only;omega,fun h=>by simp only at h;omega⟩⟩)
             . rename_i hx
               have hx:x.2.2=true:=by simpa using hx
               refine ⟨F.fine.place x.1.ph x.1.co (r.ix+1) x.1.stat,f1,f2,f3,⟨k1,k2,k3,k4⟩,⟨by simp only;omega,by simp only;omega,by simp only;omega⟩,fun _=>⟨⟨F.fine.place x.1.ph x.1.co (r.ix+1) x.1.stat,by simp only;omega,by simp only;omega,by simp only;omega,by simp only;rw [k1,k2];exact G.rels,by simp only;rw [k1,k3];exact G.sub,by simp only;rw [k2];exact hnr,by simp only;rw [k3];exact hns,by simp only;rw [k5];exact hph,by simp only;omega,by simp only;omega,fun h=>by simp only at h;omega⟩,?_,F.yes hx⟩,fun h=>by cases h⟩
               unfold meas
               simp only
               rw [k5,if_neg hp,if_pos hp1,if_neg hp,if_pos hp1,k4,k6,k2]
               omega
/-! ### Runs -/
def runF:Nat->Rn->Nat->Option (Rn×Nat)
 | 0,_,_=>none
 | f+1,r,q=>if (act r q).2.2=true then some ((act r q).1,(act r q).2.1) else runF f (act r q).1 (act r q).2.1
theorem runF_some:∀ (f:Nat) {r:Rn} (q:Nat),GoodR r->meas r<f->∃ y,runF f r q=some y
 | 0,_,_,_,h=>by omega
 | f + 1, r, q, G, h => by
   have A:=act_ok G q
   rw [runF]
   split
   . exact ⟨_,rfl⟩
   . rename_i hx
     obtain ⟨g1,g2,_⟩:=A.go (by simpa using hx)
     exact runF_some f _ g1 (by omega)
theorem runF_mono:∀ (f k:Nat) {r:Rn} {q:Nat} {y},runF f r q=some y->runF (f+k) r q=some y
 | 0,_,_,_,_,h=>by cases h
 | f+1,k,r,q,y,h=>by
   rw [show f+1+k=(f+k)+1 by omega,runF]
   rw [runF] at h
   split
   . rename_i hx;rw [if_pos hx] at h;exact h
   . rename_i hx;rw [if_neg hx] at h;exact runF_mono f k h
theorem runF_det {f f':Nat} {r:Rn} {q:Nat} {y y'} (h:runF f r q=some y) (h':runF f' r q=some y'):y=y':=by
 have h1:=runF_mono f f' h
 have h2:=runF_mono f' f h'
 rw [Nat.add_comm] at h2
 rw [h1] at h2
 exact Option.some.inj h2
def run (r:Rn) (q:Nat):Rn×Nat:=(runF (meas r+1) r q).getD (r,q)
theorem run_of {f:Nat} {r:Rn} {q:Nat} {y} (G:GoodR r) (h:runF f r q=some y):run r q=y:=by
 obtain ⟨z,hz⟩:=runF_some (meas r+1) q G (by omega)
 unfold run
 rw [hz]
 exact runF_det hz h
structure Ran (r:Rn) (q:Nat) (x:Rn×Nat):Prop where
 fine:Fine x.1
 len:x.1.rows.length+x.2=r.rows.length+q
 lim:x.1.rows.length<=r.lim
 grown:r.rows.length<=x.1.rows.length
 same:x.1.g=r.g/\x.1.rels=r.rels/\x.1.sub=r.sub/\x.1.lim=r.lim
 pos:(0<=x.1.ph/\x.1.ph<=3)/\(0<=x.1.co/\x.1.co<=x.1.rows.length)/\(0<=x.1.ix/\x.1.ix<=1000)
 stop:x.1.stat=1∨x.1.stat=2∨(x.1.stat=r.stat/\x.2=0/\GoodR x.1)
theorem runF_ok:∀ (f:Nat) {r:Rn} {q:Nat} {y},GoodR r->runF f r q=some y->Ran r q y
 | 0,_,_,_,_,h=>by cases h
 | f + 1, r, q, y, G, h => by
   have A:=act_ok G q
   rw [runF] at h
   split at h
   . rename_i hx
     cases h
     exact ⟨A.fine,A.len,A.lim,A.grown,A.same,A.pos,A.stop hx⟩
   . rename_i hx
     obtain ⟨g1,_,g3⟩:=A.go (by simpa using hx)
     have R:=runF_ok f g1 h
     obtain ⟨s1,s2,s3,s4⟩:=A.same
     obtain ⟨t1,t2,t3,t4⟩:=R.same
     have a1:=A.len
     have a2:=A.grown
     have r1:=R.len
     have r2:=R.grown
     have r3:=R.lim
     rw [s4] at r3
     refine ⟨R.fine,by omega,r3,by omega,⟨t1.trans s1,t2.trans s2,t3.trans s3,t4.trans s4⟩,R.pos,?_⟩
     have:=R.stop
     rw [g3] at this
     exact this
theorem run_ok {r:Rn} (G:GoodR r) (q:Nat):Ran r q (run r q):=by
 obtain ⟨z,hz⟩:=runF_some (meas r+1) q G (by omega)
 rw [run_of G hz]
 exact runF_ok _ G hz
/-! ### A run cut in two -/
theorem fill_add {a:Nat} {w:List Int} (n:Nat):∀ (m:Nat) {r:Rn},Fine r->Wd r.g w->a<r.rows.length->r.rows.length<=r.lim->r.lim<=900000->
 fillF a w (m+n) r=if (fillF a w m r).2.2=true then ((fillF a w m r).1,(fillF a w m r).2.1+n,true) else if r.lim<=(fillF a w m r).1.rows.length then ((fillF a w m r).1,(fillF a w m r).2.1+n,false) else fillF a w n (fillF a w m r).1
 | 0,r,T,hw,ha,hl,hm=>by
   have S:=scan_ok T hw ha
   rw [Nat.zero_add]
   by_cases h1:(scan r a w).2.2.2=false
   . have e:fillF a w 0 r=((scan r a w).1,0,true):=by rw [fillF,if_pos h1]
     have e2:fillF a w n r=((scan r a w).1,n,true):=by cases n <;> rw [fillF,if_pos h1]
     rw [e,e2];simp
   . by_cases h2:r.lim<=(scan r a w).1.rows.length
     . have e:fillF a w 0 r=({ (scan r a w).1 with stat:=2 },0,false):=by rw [fillF,if_neg h1,if_pos h2]
       have e2:fillF a w n r=({ (scan r a w).1 with stat:=2 },n,false):=by cases n <;> rw [fillF,if_neg h1,if_pos h2]
       rw [e,e2]
       simp only [Bool.false_eq_true,if_false,Nat.zero_add]
       rw [if_pos h2]
     . have e:fillF a w 0 r=((scan r a w).1,0,false):=by rw [fillF,if_neg h1,if_neg h2]
       rw [e]
       simp only [Bool.false_eq_true,if_false]
       rw [if_neg h2,(S.opn (by simpa using h1)).1]
 | m + 1, r, T, hw, ha, hl, hm => by
   have S:=scan_ok T hw ha
   rw [show m+1+n=(m+n)+1 by omega]
   by_cases h1:(scan r a w).2.2.2=false
   . have e:fillF a w (m+1) r=((scan r a w).1,m+1,true):=by rw [fillF,if_pos h1]
     have e2:fillF a w (m+n+1) r=((scan r a w).1,m+n+1,true):=by rw [fillF,if_pos h1]
     rw [e,e2]
     simp only [if_true]
     rw [show m+n+1=m+1+n by omega]
   . by_cases h2:r.lim<=(scan r a w).1.rows.length
     . have e:fillF a w (m+1) r=({ (scan r a w).1 with stat:=2 },m+1,false):=by rw [fillF,if_neg h1,if_pos h2]
       have e2:fillF a w (m+n+1) r=({ (scan r a w).1 with stat:=2 },m+n+1,false):=by rw [fillF,if_neg h1,if_pos h2]
       rw [e,e2]
       simp only [Bool.false_eq_true,if_false]
       rw [if_pos h2,show m+n+1=m+1+n by omega]
     . have e:fillF a w (m+1) r=fillF a w m (grow (scan r a w).1 (scan r a w).2.1 (scan r a w).2.2.1):=by rw [fillF,if_neg h1,if_neg h2]
       have e2:fillF a w (m+n+1) r=fillF a w (m+n) (grow (scan r a w).1 (scan r a w).2.1 (scan r a w).2.2.1):=by rw [fillF,if_neg h1,if_neg h2]
       obtain ⟨o1,o2,o3⟩:=S.opn (by simpa using h1)
       have hsl:=S.len
       obtain ⟨g1,g2,g3⟩:=grow_ok S.fine (scan r a w).2.2.1 (show (scan r a w).2.1<(scan r a w).1.rows.length by omega) (by omega)
       have k:=S.keep.trans g3
       have ih:=fill_add (a:=a) (w:=w) n m g1 (by rw [k.1];exact hw) (by omega) (by rw [k.2.2.2.1];omega) (by rw [k.2.2.2.1];exact hm)
       rw [e,e2,ih,k.2.2.2.1]
theorem par_app {l:List Int} {x:Int} {i:Nat} (h:i<l.length):(l++[x]).getD i 0=l.getD i 0:=by
 rw [List.getD_eq_getElem?_getD,List.getElem?_append_left h,<-List.getD_eq_getElem?_getD]
theorem fill_par {a:Nat} {w:List Int}:∀ (m:Nat) {r:Rn},Fine r->Wd r.g w->a<r.rows.length->r.rows.length<=r.lim->r.lim<=900000->(fillF a w m r).2.2=false->∀ i,i<r.rows.length->(fillF a w m r).1.par.getD i 0=r.par.getD i 0
 | 0,r,T,hw,ha,hl,hm,hx,i,hi=>by
   have S:=scan_ok T hw ha
   rw [fillF] at hx ⊢
   split at hx
   . cases hx
   . rename_i h1
     have h1':(scan r a w).2.2.2=true:=by simpa using h1
     rw [if_neg h1]
     split
     . show (scan r a w).1.par.getD i 0=_
       rw [(S.opn h1').1]
     . show (scan r a w).1.par.getD i 0=_
       rw [(S.opn h1').1]
 | m + 1, r, T, hw, ha, hl, hm, hx, i, hi => by
   have S:=scan_ok T hw ha
   rw [fillF] at hx ⊢
   split at hx
   . cases hx
   . rename_i h1
     have h1':(scan r a w).2.2.2=true:=by simpa using h1
     rw [if_neg h1]
     split
     . show (scan r a w).1.par.getD i 0=_
       rw [(S.opn h1').1]
     . rename_i h2
       rw [if_neg h2] at hx
       obtain ⟨o1,o2,o3⟩:=S.opn h1'
       have hsl:=S.len
       obtain ⟨g1,g2,g3⟩:=grow_ok S.fine (scan r a w).2.2.1 (show (scan r a w).2.1<(scan r a w).1.rows.length by omega) (by omega)
       have k:=S.keep.trans g3
       rw [fill_par m g1 (by rw [k.1];exact hw) (by omega) (by rw [k.2.2.2.1];omega) (by rw [k.2.2.2.1];exact hm) hx i (by omega)]
       show ((scan r a w).1.par++[((scan r a w).1.par.length:Int)]).getD i 0=_
       have:(scan r a w).1.par.length=(scan r a w).1.rows.length:=S.fine.len
       rw [par_app (by omega),o1]
def Pre (a c:Nat) (r:Rn):Prop:=∀ i,i<c->0<=at2 r.rows a i
theorem cols_skip {a:Nat} {r:Rn} {q:Nat}:∀ (k c f:Nat),Pre a (c+k) r->colsF a (f+k) c r q=colsF a f (c+k) r q
 | 0,_,_,_=>rfl
 | k+1,c,f,h=>by
   rw [show f+(k+1)=(f+k)+1 by omega,colsF,if_pos (h c (by omega)),cols_skip k (c+1) f (by rw [show c+1+k=c+(k+1) by omega];exact h),show c+1+k=c+(k+1) by omega]
theorem grow_pre {r:Rn} (T:Fine r) {a c:Nat} (ha:a<r.rows.length) (hc:c<(2*r.g).toNat) (h:Pre a c r):Pre a (c+1) (grow r a c):=by
 intro i hi
 have hrow:∀ l∈r.rows,Row (2*r.g).toNat r.rows.length l:=T.row
 have e:(add r).rows.getD a []=r.rows.getD a []:=by
  show (r.rows++[_]).getD a []=_
  rw [List.getD_eq_getElem?_getD,List.getElem?_append_left ha,<-List.getD_eq_getElem?_getD]
 have hl:=add_len r
 show 0<=((set2 (set2 (add r).rows a c r.rows.length) r.rows.length (flipc c) a).getD a []).getD i 0
 unfold set2
 rw [getL_set,if_neg (by omega),getL_set,if_pos ⟨rfl,by omega⟩,e,getD_set]
 split
 . omega
 . rename_i hne
   have hlen:=(hrow _ (getL_mem ha)).1
   exact h i (by omega)
theorem cols_add {a:Nat} (n:Nat):∀ (f c m:Nat) {r:Rn},Fine r->c+f=(2*r.g).toNat->a<r.rows.length->r.rows.length<=r.lim->r.lim<=900000->Pre a c r->
 colsF a f c r (m+n)=if (colsF a f c r m).2.2=true then ((colsF a f c r m).1,(colsF a f c r m).2.1+n,true) else if r.lim<=(colsF a f c r m).1.rows.length then ((colsF a f c r m).1,(colsF a f c r m).2.1+n,false) else colsF a (2*r.g).toNat 0 (colsF a f c r m).1 n
 | 0,c,m,r,T,hc,ha,hl,hm,hp=>by
   show (r,m+n,true)=if ((r,m,true):Rn×Nat×Bool).2.2=true then _ else _
   simp [colsF]
 | f + 1, c, m, r, T, hc, ha, hl, hm, hp => by
   by_cases h1:0<=at2 r.rows a c
   . have e:∀ q,colsF a (f+1) c r q=colsF a f (c+1) r q:=fun q=>by rw [colsF,if_pos h1]
     rw [e,e]
     refine cols_add n f (c+1) m T (by omega) ha hl hm fun i hi=>?_
     rcases Nat.lt_or_ge i c with h | h
     . exact hp i h
     . rw [show i=c by omega];exact h1
   . by_cases h2:r.lim<=r.rows.length
     . have e:∀ q,colsF a (f+1) c r q=({ r with stat:=2 },q,false):=fun q=>by rw [colsF,if_neg h1,if_pos h2]
       rw [e,e]
       simp only [Bool.false_eq_true,if_false]
       rw [if_pos h2]
     . by_cases h3:m=0
       . subst h3
         have e:colsF a (f+1) c r 0=(r,0,false):=by rw [colsF,if_neg h1,if_neg h2,if_pos rfl]
         rw [e,Nat.zero_add]
         simp only [Bool.false_eq_true,if_false]
         rw [if_neg h2]
         have:=cols_skip (a:=a) (r:=r) (q:=n) c 0 (f+1) (by rw [Nat.zero_add];exact hp)
         rw [Nat.zero_add] at this
         rw [<-this,show f+1+c=(2*r.g).toNat by omega]
       . have e:∀ q,q≠0->colsF a (f+1) c r q=colsF a f (c+1) (grow r a c) (q-1):=fun q hq=>by rw [colsF,if_neg h1,if_neg h2,if_neg hq]
         obtain ⟨g1,g2,g3⟩:=grow_ok T c ha (by omega)
         have ih:=cols_add (a:=a) n f (c+1) (m-1) g1 (by rw [g3.1];omega) (by omega) (by rw [g3.2.2.2.1];omega) (by rw [g3.2.2.2.1];exact hm) (grow_pre T ha (by omega) hp)
         rw [e m h3,e (m+n) (by omega),show m+n-1=m-1+n by omega,ih,g3.2.2.2.1,g3.1]
theorem act_add {r:Rn} (G:GoodR r) (hs:r.stat=0) (m n:Nat) :
 ((act r m).2.2=false->act r (m+n)=((act r m).1,(act r m).2.1+n,false))/\((act r m).2.2=true->(act r m).1.stat≠0->act r (m+n)=((act r m).1,(act r m).2.1+n,true))/\((act r m).2.2=true->(act r m).1.stat=0->act r (m+n)=act (act r m).1 n):=by
 have hg:=G.ix
 have hc:=G.co
 have hl:=G.lim
 have hl2:=G.lim2
 have hph:=G.ph
 have hn1:=G.n1
 by_cases c1:r.ph=0/\(r.sub.length:Int)<=r.ix
 . have e:∀ q,act r q=({ r with ph:=1,co:=0,ix:=0 },q,false):=fun q=>by unfold act;rw [if_pos c1]
   rw [e,e]
   exact ⟨fun _=>rfl,fun h=>(by cases h),fun h=>(by cases h)⟩
 by_cases c2:r.ph=0
 . have e:∀ q,act r q=if (fillF 0 (r.sub.getD r.ix.toNat []) q r).2.2=false then ((fillF 0 (r.sub.getD r.ix.toNat []) q r).1,(fillF 0 (r.sub.getD r.ix.toNat []) q r).2.1,true)
    else ({ (fillF 0 (r.sub.getD r.ix.toNat []) q r).1 with ix:=r.ix+1 },(fillF 0 (r.sub.getD r.ix.toNat []) q r).2.1,false):=fun q=>by unfold act;rw [if_neg c1,if_pos c2]
   have hi:r.ix<r.sub.length:=by omega
   have hw:=G.sub _ (getL_memS hg.1 hi)
   have F:=fill_ok (a:=0) (w:=r.sub.getD r.ix.toNat []) m G.fine hw hn1 hl hl2
   have A:=fill_add (a:=0) (w:=r.sub.getD r.ix.toNat []) n m G.fine hw hn1 hl hl2
   rw [e m,e (m+n),A]
   obtain ⟨k1,k2,k3,k4,k5,k6,k7,_⟩:=F.keep
   simp only at k1 k2 k3 k4 k5 k6 k7
   have hcc:∀ q,act (fillF 0 (r.sub.getD r.ix.toNat []) m r).1 q=if (fillF 0 (r.sub.getD r.ix.toNat []) q (fillF 0 (r.sub.getD r.ix.toNat []) m r).1).2.2=false then ((fillF 0 (r.sub.getD r.ix.toNat []) q (fillF 0 (r.sub.getD r.ix.toNat []) m r).1).1,(fillF 0 (r.sub.getD r.ix.toNat []) q (fillF 0 (r.sub.getD r.ix.toNat []) m r).1).2.1,true)
    else ({ (fillF 0 (r.sub.getD r.ix.toNat []) q (fillF 0 (r.sub.getD r.ix.toNat []) m r).1).1 with ix:=r.ix+1 },(fillF 0 (r.sub.getD r.ix.toNat []) q (fillF 0 (r.sub.getD r.ix.toNat []) m r).1).2.1,false):=fun q=>by
    unfold act;rw [k5,k3,k7,if_neg c1,if_pos c2]
   generalize fillF 0 (r.sub.getD r.ix.toNat []) m r=x at *
   have fno:=F.no
   cases hx:x.2.2 with
   | true =>
     simp only [Bool.true_eq_false,if_false,if_true]
     exact ⟨fun _=>(by first | rfl | trivial),fun h=>(by cases h),fun h=>(by cases h)⟩
   | false =>
     simp only [Bool.false_eq_true,if_false,if_true]
     refine ⟨fun h=>(by cases h),fun _ h=>?_,fun _ h=>?_⟩
     . rcases fno hx with ⟨h1,h2⟩ | ⟨h1,h2,h3⟩
       . rw [if_pos h2];simp
       . omega
     . rw [hcc]
       rcases fno hx with ⟨h1,h2⟩ | ⟨h1,h2,h3⟩
       . omega
       . rw [if_neg (show ¬ r.lim<=(x.1.rows.length:Int) by omega)]
 by_cases c3:r.ph=2
 . have e:∀ q,act r q=if (colsF r.co.toNat (2*r.g).toNat 0 r q).2.2=false then ((colsF r.co.toNat (2*r.g).toNat 0 r q).1,(colsF r.co.toNat (2*r.g).toNat 0 r q).2.1,true)
    else ({ (colsF r.co.toNat (2*r.g).toNat 0 r q).1 with ph:=1,co:=r.co+1,ix:=0 },(colsF r.co.toNat (2*r.g).toNat 0 r q).2.1,false):=fun q=>by unfold act;rw [if_neg c1,if_neg c2,if_pos c3]
   have hco:=G.co2 c3
   have F:=cols_ok (a:=r.co.toNat) (2*r.g).toNat 0 m G.fine (by omega) (by omega) hl hl2
   have A:=cols_add (a:=r.co.toNat) n (2*r.g).toNat 0 m G.fine (by omega) (by omega) hl hl2 (fun i hi=>by omega)
   rw [e m,e (m+n),A]
   obtain ⟨k1,k2,k3,k4,k5,k6,k7,_⟩:=F.keep
   simp only at k1 k2 k3 k4 k5 k6 k7
   have hcc:∀ q,act (colsF r.co.toNat (2*r.g).toNat 0 r m).1 q=if (colsF r.co.toNat (2*r.g).toNat 0 (colsF r.co.toNat (2*r.g).toNat 0 r m).1 q).2.2=false then ((colsF r.co.toNat (2*r.g).toNat 0 (colsF r.co.toNat (2*r.g).toNat 0 r m).1 q).1,(colsF r.co.toNat (2*r.g).toNat 0 (colsF r.co.toNat (2*r.g).toNat 0 r m).1 q).2.1,true)
    else ({ (colsF r.co.toNat (2*r.g).toNat 0 (colsF r.co.toNat (2*r.g).toNat 0 r m).1 q).1 with ph:=1,co:=r.co+1,ix:=0 },(colsF r.co.toNat (2*r.g).toNat 0 (colsF r.co.toNat (2*r.g).toNat 0 r m).1 q).2.1,false):=fun q=>by
    unfold act;rw [k5,k3,k7,if_neg c1,if_neg c2,if_pos c3,k6,k1]
   generalize colsF r.co.toNat (2*r.g).toNat 0 r m=x at *
   have fno:=F.no
   cases hx:x.2.2 with
   | true =>
     simp only [Bool.true_eq_false,if_false,if_true]
     exact ⟨fun _=>(by first | rfl | trivial),fun h=>(by cases h),fun h=>(by cases h)⟩
   | false =>
     simp only [Bool.false_eq_true,if_false,if_true]
     refine ⟨fun h=>(by cases h),fun _ h=>?_,fun _ h=>?_⟩
     . rcases fno hx with ⟨h1,h2⟩ | ⟨h1,h2,h3⟩
       . rw [if_pos h2];simp
       . omega
     . rw [hcc]
       rcases fno hx with ⟨h1,h2⟩ | ⟨h1,h2,h3⟩
       . omega
       . rw [if_neg (show ¬ r.lim<=(x.1.rows.length:Int) by omega)]
 by_cases c4:r.co=r.rows.length
 . have e:∀ q,act r q=({ r with ph:=3,co:=0,ix:=0,stat:=1 },q,true):=fun q=>by unfold act;rw [if_neg c1,if_neg c2,if_neg c3,if_pos c4]
   rw [e,e]
   exact ⟨fun h=>(by cases h),fun _ _=>rfl,fun _ h=>by simp at h⟩
 by_cases c5:¬ (r.par.getD r.co.toNat 0=r.co)
 . have e:∀ q,act r q=({ r with ph:=1,co:=r.co+1,ix:=0 },q,false):=fun q=>by unfold act;rw [if_neg c1,if_neg c2,if_neg c3,if_neg c4,if_pos c5]
   rw [e,e]
   exact ⟨fun _=>rfl,fun h=>(by cases h),fun h=>(by cases h)⟩
 by_cases c6:(r.rels.length:Int)<=r.ix
 . have e:∀ q,act r q=({ r with ph:=2,co:=r.co,ix:=0 },q,false):=fun q=>by unfold act;rw [if_neg c1,if_neg c2,if_neg c3,if_neg c4,if_neg c5,if_pos c6]
   rw [e,e]
   exact ⟨fun _=>rfl,fun h=>(by cases h),fun h=>(by cases h)⟩
 have e:∀ q,act r q=if (fillF r.co.toNat (r.rels.getD r.ix.toNat []) q r).2.2=false then ((fillF r.co.toNat (r.rels.getD r.ix.toNat []) q r).1,(fillF r.co.toNat (r.rels.getD r.ix.toNat []) q r).2.1,true)
  else ({ (fillF r.co.toNat (r.rels.getD r.ix.toNat []) q r).1 with ix:=r.ix+1 },(fillF r.co.toNat (r.rels.getD r.ix.toNat []) q r).2.1,false):=fun q=>by unfold act;rw [if_neg c1,if_neg c2,if_neg c3,if_neg c4,if_neg c5,if_neg c6]
 have hi:r.ix<r.rels.length:=by omega
 have hw:=G.rels _ (getL_memS hg.1 hi)
 have F:=fill_ok (a:=r.co.toNat) (w:=r.rels.getD r.ix.toNat []) m G.fine hw (by omega) hl hl2
 have A:=fill_add (a:=r.co.toNat) (w:=r.rels.getD r.ix.toNat []) n m G.fine hw (by omega) hl hl2
 have B:=fill_par (a:=r.co.toNat) (w:=r.rels.getD r.ix.toNat []) m G.fine hw (by omega) hl hl2
 rw [e m,e (m+n),A]
 obtain ⟨k1,k2,k3,k4,k5,k6,k7,_⟩:=F.keep
 simp only at k1 k2 k3 k4 k5 k6 k7
 have f3:=F.grown
 have hcc:(fillF r.co.toNat (r.rels.getD r.ix.toNat []) m r).2.2=false->∀ q,act (fillF r.co.toNat (r.rels.getD r.ix.toNat []) m r).1 q=if (fillF r.co.toNat (r.rels.getD r.ix.toNat []) q (fillF r.co.toNat (r.rels.getD r.ix.toNat []) m r).1).2.2=false then ((fillF r.co.toNat (r.rels.getD r.ix.toNat []) q (fillF r.co.toNat (r.rels.getD r.ix.toNat []) m r).1).1,(fillF r.co.toNat (r.rels.getD r.ix.toNat []) q (fillF r.co.toNat (r.rels.getD r.ix.toNat []) m r).1).2.1,true)
  else ({ (fillF r.co.toNat (r.rels.getD r.ix.toNat []) q (fillF r.co.toNat (r.rels.getD r.ix.toNat []) m r).1).1 with ix:=r.ix+1 },(fillF r.co.toNat (r.rels.getD r.ix.toNat []) q (fillF r.co.toNat (r.rels.getD r.ix.toNat []) m r).1).2.1,false):=fun hx q=>by
  have b:=B hx r.co.toNat (by omega)
  unfold act
  rw [k5,k3,k7,if_neg c1,if_neg c2,if_neg c3,k6,if_neg (show ¬ r.co=((fillF r.co.toNat (r.rels.getD r.ix.toNat []) m r).1.rows.length:Int) by omega),b,if_neg c5,k2,if_neg c6]
 generalize fillF r.co.toNat (r.rels.getD r.ix.toNat []) m r=x at *
 have fno:=F.no
 cases hx:x.2.2 with
 | true =>
   simp only [Bool.true_eq_false,if_false,if_true]
   exact ⟨fun _=>(by first | rfl | trivial),fun h=>(by cases h),fun h=>(by cases h)⟩
 | false =>
   simp only [Bool.false_eq_true,if_false,if_true]
   refine ⟨fun h=>(by cases h),fun _ h=>?_,fun _ h=>?_⟩
   . rcases fno hx with ⟨h1,h2⟩ | ⟨h1,h2,h3⟩
     . rw [if_pos h2];simp
     . omega
   . rw [hcc hx]
     rcases fno hx with ⟨h1,h2⟩ | ⟨h1,h2,h3⟩
     . omega
     . rw [if_neg (show ¬ r.lim<=(x.1.rows.length:Int) by omega)]
theorem runF_add (n:Nat):∀ (f m:Nat) {r:Rn} {y},GoodR r->r.stat=0->runF f r m=some y->
 (y.1.stat≠0->∃ f',runF f' r (m+n)=some (y.1,y.2+n))/\(y.1.stat=0->∀ f2 z,runF f2 y.1 n=some z->∃ f',runF f' r (m+n)=some z)
 | 0,_,_,_,_,_,h=>by cases h
 | f + 1, m, r, y, G, hs, h => by
   obtain ⟨a1,a2,a3⟩:=act_add G hs m n
   have A:=act_ok G m
   rw [runF] at h
   split at h
   . rename_i hx
     cases h
     refine ⟨fun h=>⟨1,?_⟩,fun h f2 z hz=>?_⟩
     . rw [runF,a2 hx h];rfl
     . cases f2 with
       | zero=>cases hz
       | succ f2 =>
         refine ⟨f2+1,?_⟩
         rw [runF,a3 hx h]
         rw [runF] at hz
         exact hz
   . rename_i hx
     have hx:(act r m).2.2=false:=by simpa using hx
     obtain ⟨g1,g2,g3⟩:=A.go hx
     obtain ⟨i1,i2⟩:=runF_add n f (act r m).2.1 g1 (g3.trans hs) h
     have e:=a1 hx
     refine ⟨fun h=>?_,fun h f2 z hz=>?_⟩
     . obtain ⟨f',h'⟩:=i1 h
       refine ⟨f'+1,?_⟩
       rw [runF,e]
       exact h'
     . obtain ⟨f',h'⟩:=i2 h f2 z hz
       refine ⟨f'+1,?_⟩
       rw [runF,e]
       exact h'
theorem run_add {r:Rn} (G:GoodR r) (hs:r.stat=0) (m n:Nat) :
 ((run r m).1.stat≠0->run r (m+n)=((run r m).1,(run r m).2+n))/\((run r m).1.stat=0->run r (m+n)=run (run r m).1 n):=by
 obtain ⟨z,hz⟩:=runF_some (meas r+1) m G (by omega)
 have R:=runF_ok _ G hz
 rw [run_of G hz]
 obtain ⟨i1,i2⟩:=runF_add n _ m G hs hz
 refine ⟨fun h=>?_,fun h=>?_⟩
 . obtain ⟨f',h'⟩:=i1 h
   exact run_of G h'
 . have G':GoodR z.1:=by
    rcases R.stop with h1 | h1 | ⟨_,_,h1⟩
    . omega
    . omega
    . exact h1
   obtain ⟨z2,hz2⟩:=runF_some (meas z.1+1) n G' (by omega)
   obtain ⟨f',h'⟩:=i2 h _ _ hz2
   rw [run_of G h',run_of G' hz2]
end Go.Eng
