/- The table of a run. -/
import Derived.Test.YtmajgbnpplgaoaaGreatDoorSave1
import Derived.Test.YtmajgbnpplgaoaaGreatDoorRows2
import Derived.Test.YtmajgbnpplgaoaaGreatDoorEng1
import Derived.Test.YtmajgbnpplgaoaaGreatDoorLoom4
namespace Go.Proofs.YtmajgbnpplgaoaaGreatDoor
open Go.ax Go.Words Go.cU
set_option maxRecDepth 100000
abbrev pO (r:Rn) (u:List (List Int)):A:=.aL [.c (.rd (.sl (.int .i64)) u),.agg [.int .i64 r.ah.length,.int .i64 r.aQ,.int .i64 0],.c (.int .i64 0)]
def uK (aj:List Int):Nat->Nat->Mp->Mp
 | 0,_,m=>m
 | n+1,i,m=>uK aj n (i+1) (if aj.getD i 0=(i:Int) then QI i m.length m else m)
def xO (aj:List Int) (m:Mp):Nat->List (List Int)->List (List Int)
 | _,[]=>[]
 | i,l::ls=>if aj.getD i 0=(i:Int) then l.map (ud m)::xO aj m (i+1) ls else xO aj m (i+1) ls
def jD (r:Rn):List (List Int):=xO r.aj (uK r.aj r.ah.length 0 []) 0 r.ah
noncomputable def Zx:bS:=[(22,DE),(39,Fj),(40,Yj)]
theorem zS:bt Tryz.prog Zx:=ar zu (ar Qx (ar aa9 aC))
abbrev pTa:List Nat:=[0,1,0,1,1,1,1]
abbrev pTb:List Nat:=[0,1,0,1,1,1,1,1,1]
abbrev pTc:List Nat:=[0,1,0,1,0,1,1,0,0,1,1,0,0,1,0,1,1,1,1,1,1]
abbrev zT:List (List Nat×List Nat):=[(pTa,[0,3,5,28,29]),(pTb,[0,3,5,7,43,44,45]),(pTc,[0,3,5,7,10,43,44,45,56,57,58])]
noncomputable def zU:bD:=bN Tryz.prog Zx Tryz.f12 1 zT [] [some dL,none,none]
abbrev Zy:Ob:=⟨47,[.c (.int .i64 0),.c (.int .i64 0),.c (.int .i64 0)]⟩
structure uf (r:Rn):Prop where
 g:1<=r.g/\r.g<=16
 n:0<r.ah.length/\r.ah.length<=1000000
 pl:r.aj.length=r.ah.length
 rw:∀ l∈r.ah,l.length=(2*r.g).toNat
 std:H9 r.g (jD r) ((mV (jD r)).getD [])
theorem tb_c (r:Rn) (u:List (List Int)) (H:uf r) (m:Mp) (t:List (List Int)) (ht:t.length<=1000000) (a:Nat) (ha:a<r.ah.length)
 (hN:av zU (aG (pO r u) (obs r)) pTb (fr [(0,pR),(3,.p (.c (.ptr 1 0))),(5,.p (.c (.mp 2))),(7,.p (.c (.sl 3 0 (t.length+1) 1))),(43,.p (.c (.sl 4 0 r.ah.length 1))),(44,nI r.ah.length),(45,nI (a+1:Nat))]) (.ofList [bW r 4 5 6,Zy,Cx m,nM (t++[(r.ah.getD a []).map (ud m)]),bJ r,aD r.aj,aD r.dl])):∀ (n i:Nat) (l:List Int),n=(2*r.g).toNat-i->i<=(2*r.g).toNat->l.length=(2*r.g).toNat->l.take i=((r.ah.getD a []).take i).map (ud m)->
 av zU (aG (pO r u) (obs r)) pTc (fr [(0,pR),(3,.p (.c (.ptr 1 0))),(5,.p (.c (.mp 2))),(7,.p (.c (.sl 3 0 t.length 1))),(10,.p (.c (.sl 4 0 (2*r.g).toNat 1))),(43,.p (.c (.sl 5 0 r.ah.length 1))),(44,nI r.ah.length),(45,nI a),(56,.p (.c (.row 5 a (2*r.g).toNat))),(57,nI (2*r.g).toNat),(58,nI i)]) (.ofList [bW r 5 6 7,Zy,Cx m,nM t,aD l,bJ r,aD r.aj,aD r.dl])
 | n,i,l,hn,hi,hl,hli=>by
   have hg:=H.g
   have U5:=H.n
   have hw:=H.rw _ (iK ha)
   refine aX zS (by kernel_rfl) 100 ?_
   apply of_eq (q:=let q2:=((2:Int)*r.g);let q3:=Ob.mk 91 [Fd.m (D.int .i64) (D.int .i64) m];let q1:=(↑q2.toNat:Int);(decide ((i:Int)<q1)=true->((0:Int)<=(i:Int)/\(i:Int)<q1)/\(a<r.ah.length/\i<q2.toNat)/\((0:Int)<=(i:Int)/\(i:Int)<q1)/\(0:Nat)+i<l.length/\av zU (aG (pO r u) (obs r)) [0,1,0,1,0,1,1,0,0,1,1,0,0,1,0,1,1,1,1,1,1] (fr [(0,aR 0 0),(3,aR 1 0),(5,aP (W.mp (2:Nat))),(7,aS 3 0 t.length),(10,aS 4 0 q2.toNat),(43,aS 5 0 r.ah.length),(44,nI (r.ah.length:Int)),(45,nI (a:Int)),(56,aP (W.row (5:Nat) a q2.toNat)),(57,nI q1),(58,nI (IntKind.i64.wrap ((i:Int)+1)))]) (ai.ofList [bW r 5 6 7,Ob.mk 47 [fI (0),fI (0),fI (0)],q3,nM t,aD (l.set ((0:Nat)+i) (p7 (D.int .i64) (D.int .i64) m ((r.ah.getD a []).getD i (0:Int)))),bJ r,aD r.aj,aD r.dl]))/\(decide ((i:Int)<q1)=false->(0:Nat)+q2.toNat<=l.length/\(0:Nat)+1<=1/\((0:Nat)+t.length<=t.length/\(t.length+1)*24<=140737488355328)/\av zU (aG (pO r u) (obs r)) [0,1,0,1,1,1,1,1,1] (fr [(0,aR 0 0),(3,aR 1 0),(5,aP (W.mp (2:Nat))),(7,aS 3 0 (t.length+1)),(43,aS 4 0 r.ah.length),(44,nI (r.ah.length:Int)),(45,nI (IntKind.i64.wrap ((a:Int)+1)))]) (ai.ofList [bW r 4 5 6,Ob.mk 47 [fI (0),fI (0),fI (0)],q3,nM (List.take t.length (List.drop (0:Nat) t)++List.take (1:Nat) (List.drop (0:Nat) ([]++[List.take q2.toNat (List.drop (0:Nat) l)]))),bJ r,aD r.aj,aD r.dl]))) (by kernel_rfl)
   try simp only [sL]
   rw [wrap64 (n:=(i:Int)+1) (by omega) (by omega),wrap64 (n:=(a:Int)+1) (by omega) (by omega)]
   refine ⟨fun h1=>?_,fun h1=>?_⟩
   . refine ⟨by omega,⟨ha,by omega⟩,by omega,by omega,?_⟩
     cases n with
     | zero=>omega
     | succ n =>
       refine tb_c r u H m t ht a ha hN n (i+1) _ (by omega) (by omega) (by rw [List.length_set];exact hl) ?_
       rw [List.take_succ_eq_append_getElem (by rw [List.length_set];omega),List.take_set_of_le (Nat.le_refl _),hli,List.getElem_set_self,List.take_succ_eq_append_getElem (by omega),List.map_append,List.map_cons,List.map_nil]
       congr 2
       rw [List.getD_eq_getElem?_getD,List.getElem?_eq_getElem (by omega)]
       rfl
   . have e:i=(2*r.g).toNat:=by omega
     subst e
     rw [List.take_of_length_le (show (r.ah.getD a []).length<=_ by omega)] at hli
     rw [hli]
     exact ⟨by omega,by omega,hN⟩
theorem QL (aj:List Int) (m:Mp) (i:Nat) (l:List Int) (ls:List (List Int)):xO aj m i (l::ls)=if aj.getD i 0=(i:Int) then l.map (ud m)::xO aj m (i+1) ls else xO aj m (i+1) ls:=rfl
theorem Yk (r:Rn) (H:uf r):∀ (n i:Nat) (t:List (List Int)),n=r.ah.length-i->i<=r.ah.length->t.length<=i->t++xO r.aj (uK r.aj r.ah.length 0 []) i (r.ah.drop i)=jD r->
 av zU (aG (pO r ((mV (jD r)).getD [])) (obs r)) pTb (fr [(0,pR),(3,.p (.c (.ptr 1 0))),(5,.p (.c (.mp 2))),(7,.p (.c (.sl 3 0 t.length 1))),(43,.p (.c (.sl 4 0 r.ah.length 1))),(44,nI r.ah.length),(45,nI i)]) (.ofList [bW r 4 5 6,Zy,Cx (uK r.aj r.ah.length 0 []),nM t,bJ r,aD r.aj,aD r.dl])
 | n, i, t, hn, hi, ht, e => by
   have hg:=H.g
   have U5:=H.n
   have hpl:=H.pl
   refine aX zS (by kernel_rfl) 100 ?_
   apply of_eq (q:=let q2:=Ob.mk 91 [Fd.m (D.int .i64) (D.int .i64) (uK r.aj r.ah.length (0:Nat) [])];let q3:=(r.ah.length:Int);let q4:=(List.take t.length (List.drop (0:Nat) t));let q5:=((2:Int)*r.g);let q1:=(↑q5.toNat:Int);(decide ((i:Int)<q3)=true->((0:Int)<=(i:Int)/\(i:Int)<q3)/\(0:Nat)+i<r.ah.length/\((r.ah.length=r.ah.length/\r.aj.length=r.aj.length/\q5.toNat=q5.toNat)/\(0:Int)<=(i:Int)/\i<r.aj.length)/\(decide (r.aj.getD i (0:Int)=(i:Int))=true->((0:Int)<=q1/\q1<=q1/\(↑(8:Nat):Int)*q1<=140737488355328)/\av zU (aG (pO r ((mV (jD r)).getD [])) (obs r)) [0,1,0,1,0,1,1,0,0,1,1,0,0,1,0,1,1,1,1,1,1] (fr [(0,aR 0 0),(3,aR 1 0),(5,aP (W.mp (2:Nat))),(7,aS 3 0 t.length),(10,aS 4 0 q5.toNat),(43,aS 5 0 r.ah.length),(44,nI q3),(45,nI (i:Int)),(56,aP (W.row (5:Nat) ((0:Nat)+i) q5.toNat)),(57,nI q1),(58,nI (0))]) (ai.ofList [bW r 5 6 7,Ob.mk 47 [fI (0),fI (0),fI (0)],q2,nM t,aD (List.replicate q5.toNat (0:Int)),bJ r,aD r.aj,Ob.mk 3 [Fd.a 0 (D.int .i64) r.dl]]))/\(decide (r.aj.getD i (0:Int)=(i:Int))=false->av zU (aG (pO r ((mV (jD r)).getD [])) (obs r)) [0,1,0,1,1,1,1,1,1] (fr [(0,aR 0 0),(3,aR 1 0),(5,aP (W.mp (2:Nat))),(7,aS 3 0 t.length),(43,aS 4 0 r.ah.length),(44,nI q3),(45,nI (IntKind.i64.wrap ((i:Int)+1)))]) (ai.ofList [bW r 4 5 6,Ob.mk 47 [fI (0),fI (0),fI (0)],q2,nM t,bJ r,aD r.aj,aD r.dl])))/\(decide ((i:Int)<q3)=false->(0:Nat)+t.length<=t.length/\H9 r.g q4 ((mV q4).getD [])/\aB [V.c (wL ((mV q4).getD [])),V.agg [wI q3,wI r.aQ,wI (0)],vI (0)]=pO r ((mV (jD r)).getD [])/\[Ob.mk 60 [fI r.g,fL r.aN,fL r.sub,fI r.aJ,fI r.aQ,fI r.aq,fI r.aI,fI r.ph,fI r.co,fI r.ix,fS 1 0 r.ah.length,fS 2 0 r.aj.length,fS 3 0 r.dn],bJ r,aD r.aj,aD r.dl]=obs r)) (by kernel_rfl)
   try simp only [sL]
   rw [wrap64 (n:=(i:Int)+1) (by omega) (by omega)]
   refine ⟨fun h1=>?_,fun h1=>?_⟩
   . have ic:i<r.ah.length:=by omega
     have hd:r.ah.drop i=r.ah.getD i []::r.ah.drop (i+1):=by
      rw [List.drop_eq_getElem_cons ic,List.getD_eq_getElem?_getD,List.getElem?_eq_getElem ic];rfl
     rw [hd,QL] at e
     cases n with
     | zero=>omega
     | succ n =>
       refine ⟨by omega,ic,by omega,fun h2=>⟨by omega,?_⟩,fun h2=>?_⟩
       . rw [if_pos h2] at e
         have nx:=Yk r H n (i+1) (t++[(r.ah.getD i []).map (ud (uK r.aj r.ah.length 0 []))]) (by omega) (by omega) (by simp;omega) (by rw [List.append_assoc];exact e)
         rw [List.length_append,List.length_singleton] at nx
         exact tb_c r _ H _ t (by omega) i ic nx _ 0 _ rfl (Nat.zero_le _) (by rw [List.length_replicate]) rfl
       . rw [if_neg h2] at e
         exact Yk r H n (i+1) t (by omega) (by omega) (by omega) e
   . rw [List.drop_eq_nil_of_le (by omega)] at e
     have e:t=jD r:=by rw [<-e];exact (List.append_nil t).symm
     rw [e]
     exact ⟨H.std,rfl⟩
theorem Yl (r:Rn) (H:uf r):∀ (n i:Nat) (m:Mp),n=r.ah.length-i->i<=r.ah.length->uK r.aj n i m=uK r.aj r.ah.length 0 []->
 av zU (aG (pO r ((mV (jD r)).getD [])) (obs r)) pTa (fr [(0,pR),(3,.p (.c (.ptr 1 0))),(5,.p (.c (.mp 2))),(28,nI r.ah.length),(29,nI i)]) (.ofList [bW r 3 4 5,Zy,Cx m,bJ r,aD r.aj,aD r.dl])
 | n, i, m, hn, hi, e => by
   have U5:=H.n
   have hpl:=H.pl
   refine aX zS (by kernel_rfl) 100 ?_
   apply of_eq (q:=let q2:=(pO r ((mV (jD r)).getD []));let q3:=Ob.mk 47 [fI (0),fI (0),fI (0)];let q4:=Ob.mk 91 [Fd.m (D.int .i64) (D.int .i64) m];let q5:=(r.ah.length:Int);let q1:=(fr [(0,aR 0 0),(3,aR 1 0),(5,aP (W.mp (2:Nat))),(28,nI q5),(29,nI (IntKind.i64.wrap ((i:Int)+1)))]);(decide ((i:Int)<q5)=true->((r.ah.length=r.ah.length/\r.aj.length=r.aj.length/\((2:Int)*r.g).toNat=((2:Int)*r.g).toNat)/\(0:Int)<=(i:Int)/\i<r.aj.length)/\(decide (r.aj.getD i (0:Int)=(i:Int))=true->av zU (aG q2 (obs r)) [0,1,0,1,1,1,1] q1 (ai.ofList [bW r 3 4 5,q3,Ob.mk 91 [Fd.m (D.int .i64) (D.int .i64) (kR (D.int .i64) (D.int .i64) (i:Int) (↑(List.length m):Int) m)],bJ r,aD r.aj,aD r.dl]))/\(decide (r.aj.getD i (0:Int)=(i:Int))=false->av zU (aG q2 (obs r)) [0,1,0,1,1,1,1] q1 (ai.ofList [Ob.mk 60 [fI r.g,fL r.aN,fL r.sub,fI r.aJ,fI r.aQ,fI r.aq,fI r.aI,fI r.ph,fI r.co,fI r.ix,fS 3 0 r.ah.length,fS 4 0 r.aj.length,fS 5 0 r.dn],q3,q4,bJ r,aD r.aj,aD r.dl])))/\(decide ((i:Int)<q5)=false->av zU (aG q2 (obs r)) [0,1,0,1,1,1,1,1,1] (fr [(0,aR 0 0),(3,aR 1 0),(5,aP (W.mp (2:Nat))),(7,aS 3 0 0),(43,aS 4 0 r.ah.length),(44,nI q5),(45,nI (0))]) (ai.ofList [bW r 4 5 6,q3,q4,nM ([]),bJ r,aD r.aj,aD r.dl]))) (by kernel_rfl)
   try simp only [sL]
   rw [wrap64 (n:=(i:Int)+1) (by omega) (by omega)]
   refine ⟨fun h1=>?_,fun h1=>?_⟩
   . cases n with
     | zero=>omega
     | succ n =>
       rw [uK] at e
       refine ⟨by omega,fun h2=>?_,fun h2=>?_⟩
       . rw [if_pos h2] at e
         exact Yl r H n (i+1) _ (by omega) (by omega) e
       . rw [if_neg h2] at e
         exact Yl r H n (i+1) _ (by omega) (by omega) e
   . have:n=0:=by omega
     subst this
     rw [show m=uK r.aj r.ah.length 0 [] from e]
     exact Yk r H _ 0 [] rfl (Nat.zero_le _) (Nat.zero_le _) rfl
theorem U6 (r:Rn) (H:uf r) (hs:r.aI=1):bA Tryz.prog 12 1 [pR] (obs r) (pO r ((mV (jD r)).getD [])) (obs r):=by
 have U5:=H.n
 refine di (aq:=zT) (cE:=[]) (fz:=[some dL,none,none]) zS Tryz.func12 (by kernel_rfl) 1 (by kernel_rfl) 100 ?_
 apply of_eq (q:=let q1:=V.c (wL (List.take (0:Nat) (List.drop (0:Nat) [])));((r.ah.length=r.ah.length/\r.aj.length=r.aj.length/\((2:Int)*r.g).toNat=((2:Int)*r.g).toNat)/\True)/\((!decide ((0:Nat)<r.ah.length))=true->(0:Nat)<=0/\aB [q1,V.agg [wI (0),wI (0),wI (0)],vI (1)]=pO r ((mV (jD r)).getD [])/\[bW r (1:Nat) (2:Nat) (3:Nat),bJ r,aD r.aj,aD r.dl]=obs r)/\((!decide ((0:Nat)<r.ah.length))=false->((!decide (r.aI=1))=true->(0:Nat)<=0/\aB [q1,V.agg [wI (0),wI (0),wI (0)],vI (13)]=pO r ((mV (jD r)).getD [])/\[Ob.mk 60 [fI r.g,fL r.aN,fL r.sub,fI r.aJ,fI r.aQ,fI r.aq,fI r.aI,fI r.ph,fI r.co,fI r.ix,fS 1 0 r.ah.length,fS 2 0 r.aj.length,fS 3 0 r.dn],bJ r,aD r.aj,aD r.dl]=obs r)/\((!decide (r.aI=1))=false->av (bN Tryz.prog Zx Tryz.f12 (1:Nat) zT [] [some dL,none,none]) (aG (pO r ((mV (jD r)).getD [])) (obs r)) [0,1,0,1,1,1,1] (fr [(0,aR 0 0),(3,aR 1 0),(5,aP (W.mp (2:Nat))),(28,nI (r.ah.length:Int)),(29,nI (0))]) (ai.ofList [bW r 3 4 5,Ob.mk 47 [fI (0),fI (0),fI (0)],Ob.mk 91 [Fd.m (D.int .i64) (D.int .i64) []],bJ r,aD r.aj,aD r.dl])))) (by kernel_rfl)
 try simp only [sL]
 exact ⟨fun h=>absurd U5.1 h,fun _=>⟨fun h=>absurd hs h,fun _=>Yl r H _ 0 [] rfl (Nat.zero_le _) rfl⟩⟩
abbrev QM:A:=.aL [.c (.rd (.sl (.int .i64)) []),.agg [.int .i64 0,.int .i64 0,.int .i64 0],.c (.int .i64 13)]
theorem Ym (r:Rn) (hn:0<r.ah.length) (hs:r.aI≠1):bA Tryz.prog 12 1 [pR] (obs r) QM (obs r):=by
 refine di (aq:=zT) (cE:=[]) (fz:=[some dL,none,none]) zS Tryz.func12 (by kernel_rfl) 1 (by kernel_rfl) 100 ?_
 apply of_eq (q:=let q1:=[bW r (1:Nat) (2:Nat) (3:Nat),bJ r,aD r.aj,aD r.dl]=obs r;let q2:=V.c (wL (List.take (0:Nat) (List.drop (0:Nat) [])));((r.ah.length=r.ah.length/\r.aj.length=r.aj.length/\((2:Int)*r.g).toNat=((2:Int)*r.g).toNat)/\True)/\((!decide ((0:Nat)<r.ah.length))=true->(0:Nat)<=0/\aB [q2,V.agg [wI (0),wI (0),wI (0)],vI (1)]=QM/\q1)/\((!decide ((0:Nat)<r.ah.length))=false->((!decide (r.aI=1))=true->(0:Nat)<=0/\aB [q2,V.agg [wI (0),wI (0),wI (0)],vI (13)]=QM/\q1)/\((!decide (r.aI=1))=false->av (bN Tryz.prog Zx Tryz.f12 (1:Nat) zT [] [some dL,none,none]) (aG QM (obs r)) [0,1,0,1,1,1,1] (fr [(0,aR 0 0),(3,aR 1 0),(5,aP (W.mp (2:Nat))),(28,nI (r.ah.length:Int)),(29,nI (0))]) (ai.ofList [bW r 3 4 5,Ob.mk 47 [fI (0),fI (0),fI (0)],Ob.mk 91 [Fd.m (D.int .i64) (D.int .i64) []],bJ r,aD r.aj,aD r.dl])))) (by kernel_rfl)
 try simp only [sL]
 exact ⟨fun h=>absurd hn h,fun _=>⟨fun _=>rfl,fun h=>absurd h hs⟩⟩
end Go.Proofs.YtmajgbnpplgaoaaGreatDoor
namespace Go.cU
structure Mo (r:Rn):Prop where
 lo:r.aq<=r.aQ
 hi:r.aQ<=r.ah.length
def Less (a b:Rn):Prop:=b.aQ=a.aQ/\b.aq<=a.aq
theorem Less.refl (a:Rn):Less a a:=⟨rfl,Int.le_refl _⟩
theorem Less.trans {a b c:Rn} (h:Less a b) (k:Less b c):Less a c:=⟨k.1.trans h.1,Int.le_trans k.2 h.2⟩
theorem xH (r:Rn) (a b:Nat):Less r (gJ r a b):=by
 unfold gJ
 split
 . exact Less.refl _
 . exact ⟨rfl,by show r.aq-1<=r.aq;omega⟩
theorem UO (r:Rn) (e c:Nat):Less r (cell r e c):=by
 unfold cell
 split
 . exact Less.refl _
 . unfold qz
   split
   . exact xH (nB r e c) _ _
   . split
     . exact xH (nB r e c) _ _
     . exact Less.refl _
theorem Ei (e:Nat):∀ (f c:Nat) (r:Rn),Less r (mH e f c r)
 | 0,_,_=>Less.refl _
 | f+1,c,r=>(UO r e c).trans (Ei e f (c+1) _)
theorem Lr (k2:Nat):∀ (f k:Nat) (r:Rn),Less r (pH k2 f k r)
 | 0,_,_=>Less.refl _
 | f+1,k,r=>by
   rw [pH]
   split
   . exact (Ei _ _ _ r).trans (Lr k2 f (k+1) _)
   . exact Less.refl _
theorem Hw (r:Rn) (a b:Nat):Less r (iJ r a b) :=
 (xH { r with dn:=0 } a b).trans (Lr _ _ _ _)
theorem UQ (r:Rn) (a:Nat) (w:List Int):Less r (dJ r a w).1:=by
 unfold dJ HO AE
 split
 . exact Hw _ _ _
 . split
   . exact Less.refl _
   . exact Less.refl _
theorem dh.NY {r:Rn} (T:dh r):r.aq<=r.ah.length:=by
 have h1:r.aq=(al r.aj:Nat):=T.aq
 have h2:r.aj.length=r.ah.length:=T.len
 have h3:=Dz r.aj
 omega
theorem dh.Ct {r:Rn} (T:dh r) (h:0<r.ah.length):1<=r.aq:=by
 have h1:r.aq=(al r.aj:Nat):=T.aq
 have h2:r.aj.length=r.ah.length:=T.len
 have h3:=Tv (aj:=r.aj) T.aj (by omega)
 omega
theorem NZ {r:Rn} (T:dh r) (M:Mo r) (f c:Nat):Mo (grow r f c):=by
 have h1:=T.NY
 have h2:=M.hi
 have h3:(grow r f c).ah.length=r.ah.length+1:=(w7 _ _ _ _).1.trans (AB r).1
 have h4:(grow r f c).aq=r.aq+1:=rfl
 have h5:(grow r f c).aQ=max r.aQ (r.aq+1):=rfl
 exact ⟨by omega,by omega⟩
theorem N0 {r:Rn} (T:dh r) (M:Mo r) {w:List Int} (hw:Wd r.g w) {a:Nat} (ha:a<r.ah.length):Mo (dJ r a w).1:=by
 have S:=vJ T hw ha
 have L:=UQ r a w
 have h1:=S.len
 have h2:=L.1
 have h3:=L.2
 have h4:=M.lo
 have h5:=M.hi
 exact ⟨by omega,by omega⟩
theorem Fk {a:Nat} {w:List Int}:∀ (q:Nat) {r:Rn},dh r->Wd r.g w->a<r.ah.length->r.ah.length<=r.aJ->r.aJ<=900000->Mo r->Mo (eS a w q r).1
 | 0,r,T,hw,ha,hl,hm,M=>by
   have m:=N0 T M hw ha
   rw [eS]
   split
   . exact m
   . split
     . exact ⟨m.lo,m.hi⟩
     . exact m
 | q + 1, r, T, hw, ha, hl, hm, M => by
   have m:=N0 T M hw ha
   have S:=vJ T hw ha
   have h1:=S.len
   rw [eS]
   split
   . exact m
   . split
     . exact ⟨m.lo,m.hi⟩
     . rename_i h2 h3
       obtain ⟨o1,o2,o3⟩:=S.opn (by simpa using h2)
       obtain ⟨g1,g2,g3⟩:=sD S.dz (dJ r a w).2.2.1 (show (dJ r a w).2.1<(dJ r a w).1.ah.length by omega) (by omega)
       have k:=S.ay.trans g3
       exact Fk (a:=a) (w:=w) q g1 (by rw [k.1];exact hw) (by omega) (by rw [k.2.2.2.1];omega) (by rw [k.2.2.2.1];exact hm) (NZ S.dz m _ _)
theorem Fl {a:Nat}:∀ (f c:Nat) (q:Nat) {r:Rn},dh r->c+f=(2*r.g).toNat->a<r.ah.length->r.ah.length<=r.aJ->r.aJ<=900000->Mo r->Mo (iS a f c r q).1
 | 0,c,q,r,T,hc,ha,hl,hm,M=>M
 | f + 1, c, q, r, T, hc, ha, hl, hm, M => by
   rw [iS]
   split
   . exact Fl f (c+1) q T (by omega) ha hl hm M
   . split
     . exact ⟨M.lo,M.hi⟩
     . split
       . exact M
       . obtain ⟨g1,g2,g3⟩:=sD T c ha (by omega)
         exact Fl (a:=a) f (c+1) (q-1) g1 (by rw [g3.1];omega) (by omega) (by rw [g3.2.2.2.1];omega) (by rw [g3.2.2.2.1];exact hm) (NZ T M _ _)
theorem act_mo {r:Rn} (G:gD r) (q:Nat) (M:Mo r):Mo (act r q).1:=by
 have hg:=G.ix
 have hc:=G.co
 have hl:=G.aJ
 have hl2:=G.Xd
 have Ko:=G.ph
 have hn1:=G.n1
 unfold act
 split
 . exact ⟨M.lo,M.hi⟩
 . rename_i h0
   split
   . rename_i hp
     have hi:r.ix<r.sub.length:=by omega
     have hw:=G.sub _ (oJ hg.1 hi)
     have F:=Fk (a:=0) (w:=r.sub.getD r.ix.toNat []) q G.dz hw hn1 hl hl2 M
     split <;> exact ⟨F.lo,F.hi⟩
   . rename_i hp
     split
     . rename_i hp2
       have hco:=G.co2 hp2
       have F:=Fl (a:=r.co.toNat) (2*r.g).toNat 0 q G.dz (by omega) (by omega) hl hl2 M
       split <;> exact ⟨F.lo,F.hi⟩
     . rename_i hp2
       split
       . exact ⟨M.lo,M.hi⟩
       . rename_i hne
         have hlt:r.co<r.ah.length:=by omega
         split
         . exact ⟨M.lo,M.hi⟩
         . split
           . exact ⟨M.lo,M.hi⟩
           . rename_i hal hi
             have hi:r.ix<r.aN.length:=by omega
             have hw:=G.aN _ (oJ hg.1 hi)
             have F:=Fk (a:=r.co.toNat) (w:=r.aN.getD r.ix.toNat []) q G.dz hw (by omega) hl hl2 M
             split <;> exact ⟨F.lo,F.hi⟩
theorem Ls:∀ (f:Nat) {r:Rn} {q:Nat} {y},gD r->Mo r->lY f r q=some y->Mo y.1
 | 0,_,_,_,_,_,h=>by cases h
 | f + 1, r, q, y, G, M, h => by
   have A:=DC G q
   have m:=act_mo G q M
   rw [lY] at h
   split at h
   . cases h;exact m
   . rename_i hx
     obtain ⟨g1,_,g3⟩:=A.go (by simpa using hx)
     exact Ls f g1 m h
theorem run_mo {r:Rn} (G:gD r) (q:Nat) (M:Mo r):Mo (run r q).1:=by
 obtain ⟨z,hz⟩:=qX (meas r+1) q G (by omega)
 rw [Kp G hz]
 exact Ls _ G M hz
end Go.cU
namespace Go.Proofs.YtmajgbnpplgaoaaGreatDoor
open Go.ax Go.Words Go.cU
set_option maxRecDepth 100000
theorem Oi (x:List Int):∀ n,pw x n++x=pw x (n+1)
 | 0=>by simp [pw]
 | n+1=>by
   have ih:=Oi x n
   rw [pw,List.append_assoc,ih];rfl
noncomputable def sPow:bD:=bN Tryz.prog [] Tryz.f42 0 [([0,1,0,1,1],[0,1,5,6])] [] [some dI]
theorem LP (w:List Int) (m:Nat) (hw:w.length<=100) (hm:m<=100):∀ (n i:Nat),n=m-i->i<=m->
 av sPow (aG (bF (pw w m)) []) [0,1,0,1,1] (fr [(0,bF w),(1,nI m),(5,gL 0 (pw w i).length),(6,nI i)]) (.ofList [aD (pw w i)])
 | n,i,hn,hi=>by
   refine aX aC (by kernel_rfl) 100 ?_
   apply of_eq (q:=(decide ((i:Int)<(m:Int))=true->((0:Nat)+(pw w i).length<=(pw w i).length/\((pw w i).length+w.length)*8<=140737488355328)/\av sPow (aG (bF (pw w m)) []) [0,1,0,1,1] (fr [(0,bF w),(1,nI (m:Int)),(5,aS 0 0 ((pw w i).length+w.length)),(6,nI (IntKind.i64.wrap ((i:Int)+1)))]) (ai.ofList [aD (List.take (pw w i).length (List.drop (0:Nat) (pw w i))++w)]))/\(decide ((i:Int)<(m:Int))=false->(0:Nat)+(pw w i).length<=(pw w i).length/\aB [V.c (wR (List.take (pw w i).length (List.drop (0:Nat) (pw w i))))]=bF (pw w m)/\([]:List Ob)=[])) (by kernel_rfl)
   try simp only [sL]
   have hl:=kF w i
   have hle:i*w.length<=100*100:=Nat.mul_le_mul (by omega) hw
   rw [wrap64 (n:=(i:Int)+1) (by omega) (by omega)]
   refine ⟨fun h=>⟨by omega,?_⟩,fun h=>?_⟩
   . cases n with
     | zero=>omega
     | succ n =>
       have:=LP w m hw hm n (i+1) (by omega) (by omega)
       rw [<-Oi,List.length_append] at this
       exact this
   . rw [show i=m by omega];rfl
theorem abb (w:List Int) (n:Int) (h:w.length<=100/\0<=n/\n<=100):bw Tryz.prog 42 [bF w,nI n] [] (bF (pw w n.toNat)) []:=by
 refine eI (aq:=[([0,1,0,1,1],[0,1,5,6])]) (cE:=[]) (fz:=[some dI]) aC Tryz.func42 (by kernel_rfl) (ay:=0) rfl (by kernel_rfl) 100 ?_
 apply of_eq (q:=av (bN Tryz.prog [] Tryz.f42 (0:Nat) [([0,1,0,1,1],[0,1,5,6])] [] [some dI]) (aG (bF (pw w n.toNat)) []) [0,1,0,1,1] (fr [(0,bF w),(1,nI n),(5,aS 0 0 0),(6,nI (0))]) (ai.ofList [aD ([])])) (by kernel_rfl)
 try simp only [sL,Int.reduceEq,Int.reduceNe,Nat.reduceAdd]
 have:=LP w n.toNat h.1 (by omega) n.toNat 0 rfl (by omega)
 rw [<-mJ h.2.1] at this
 exact this
def Zz:bP:=jU dI (.int .i64) fun w n=>(.p (List.length (α:=Int) w<=100/\0<=(show Int from n)/\(show Int from n)<=100),bF (pw w (show Int from n).toNat),[])
theorem Yn:aV Tryz.prog 42 Zz:=fT (by kernel_rfl) fun w n h=>abb w n h
noncomputable def gKn:bS:=[(8,Dw),(42,Zz)]
theorem gKn_ok:bt Tryz.prog gKn:=ar wY (ar Yn aC)
def jq (k:Int):Int×List (List Int)×Int :=
 if k=0 then (1,[pw [1] 7],7) else
 if k=1 then (2,[pw [1] 2,pw [2] 2,pw [1,2] 5],10) else
 if k=2 then (2,[pw [1] 2,pw [2] 3,pw [1,2] 3],12) else
 if k=3 then (2,[pw [1] 2,pw [2] 3,pw [1,2] 4],24) else
 if k=4 then (2,[pw [1] 2,pw [2] 3,pw [1,2] 5],60) else
 if k=5 then (2,[pw [1] 4,[1,1,-2,-2],[-2,1,2,1]],8) else
 if k=6 then (2,[pw [1] 3,pw [2] 3,pw [1,2] 3,pw [1,-2] 3],27) else
 if k=7 then (2,[pw [1] 4,pw [2] 6,[-1,-2,1,2]],24) else
 if k=8 then (3,[pw [1] 2,pw [2] 2,[3,3],pw [1,2] 3,pw [2,3] 3,pw [1,3] 2],24) else
 if k=9 then (2,[pw [1] 2,pw [2] 3,pw [1,2] 7,pw [-1,-2,1,2] 4],168) else
 if k=10 then (2,[[-2,1,2,-1,-1],[-1,2,1,-2,-2]],1) else
 if k=11 then (3,[pw [1] 2,pw [2] 2,[3,3],[-1,-2,1,2],[-1,-3,1,3],[-2,-3,2,3]],8) else
 if k=12 then (2,[pw [1] 5,pw [2] 4,[-2,1,2,-1,-1]],20) else
 (2,[pw [1] 7,pw [2] 3,[-2,1,2,-1,-1]],21)
theorem U7 (n:Int):bw Tryz.prog 17 [nI n] [] (.aL [.agg [.int .i64 (jq (bC n 14)).1,.rd (.sl (.int .i64)) (jq (bC n 14)).2.1],.c (.int .i64 (jq (bC n 14)).2.2)]) []:=by
 refine eI (aq:=[]) (cE:=[]) (fz:=[some dL,none]) gKn_ok Tryz.func17 (by kernel_rfl) (ay:=0) rfl (by kernel_rfl) 300 ?_
 apply of_eq (q:=let q3:=(0:Nat);let q4:=(List.take (1:Nat) (List.drop q3 [(2:Int)]));let q5:=(0:Int)<=3/\(3:Int)<=100;let q7:=(0:Int)<=2/\(2:Int)<=100;let q8:=(1:Nat)<=100;let q9:=([]:List Ob)=[];let aW:=q3+1<=1;let bG:=(14:Int);let cS:=(2:Nat);let cA:=(0:Int)<=4/\(4:Int)<=100;let eB:=q3+2<=2;let fu:=(3:Nat);let cX:=(4:Nat);let eu:=(0:Int)<=7/\(7:Int)<=100;let fw:=(0:Int)<=5/\(5:Int)<=100;let eG:=q3+4<=4;let iB:=cS<=100;let fO:=(1:Int);let gM:=q3+3<=3;let q1:=(jq (bC n bG));let q2:=(List.take (1:Nat) (List.drop q3 [fO]));let q6:=(List.take cS (List.drop q3 [fO,(2:Int)]));let bM:=(List.drop q3 [(-2:Int),fO,(2:Int),(-1:Int),(-1:Int)]);let bU:=vI q1.snd.snd;let fA:=(List.drop q3 [(-1:Int),(-2:Int),fO,(2:Int)]);(fO<=14/\bG<=1000)/\(decide (bC n bG=0)=true->aW/\(q8/\eu)/\aW/\aB [V.agg [wI (1),wL (List.take (1:Nat) (List.drop q3 [pw q2 (7:Nat)]))],vI (7)]=A.aL [V.agg [wI q1.fst,wL q1.snd.fst],bU]/\q9)/\(decide (bC n bG=0)=false->(decide (bC n bG=1)=true->aW/\(q8/\q7)/\aW/\(q8/\q7)/\eB/\(iB/\fw)/\gM/\aB [V.agg [wI (2),wL (List.take fu (List.drop q3 [pw q2 cS,pw q4 cS,pw q6 (5:Nat)]))],vI (10)]=A.aL [V.agg [wI q1.fst,wL q1.snd.fst],bU]/\q9)/\(decide (bC n bG=1)=false->(decide (bC n bG=2)=true->aW/\(q8/\q7)/\aW/\(q8/\q5)/\eB/\(iB/\q5)/\gM/\aB [V.agg [wI (2),wL (List.take fu (List.drop q3 [pw q2 cS,pw q4 fu,pw q6 fu]))],vI (12)]=A.aL [V.agg [wI q1.fst,wL q1.snd.fst],bU]/\q9)/\(decide (bC n bG=2)=false->(decide (bC n bG=3)=true->aW/\(q8/\q7)/\aW/\(q8/\q5)/\eB/\(iB/\cA)/\gM/\aB [V.agg [wI (2),wL (List.take fu (List.drop q3 [pw q2 cS,pw q4 fu,pw q6 cX]))],vI (24)]=A.aL [V.agg [wI q1.fst,wL q1.snd.fst],bU]/\q9)/\(decide (bC n bG=3)=false->(decide (bC n bG=4)=true->aW/\(q8/\q7)/\aW/\(q8/\q5)/\eB/\(iB/\fw)/\gM/\aB [V.agg [wI (2),wL (List.take fu (List.drop q3 [pw q2 cS,pw q4 fu,pw q6 (5:Nat)]))],vI (60)]=A.aL [V.agg [wI q1.fst,wL q1.snd.fst],bU]/\q9)/\(decide (bC n bG=4)=false->(decide (bC n bG=5)=true->aW/\(q8/\cA)/\eG/\eG/\gM/\aB [V.agg [wI (2),wL (List.take fu (List.drop q3 [pw q2 cX,List.take cX (List.drop q3 [fO,fO,(-2:Int),(-2:Int)]),List.take cX (List.drop q3 [(-2:Int),fO,(2:Int),fO])]))],vI (8)]=A.aL [V.agg [wI q1.fst,wL q1.snd.fst],bU]/\q9)/\(decide (bC n bG=5)=false->(decide (bC n bG=6)=true->aW/\(q8/\q5)/\aW/\(q8/\q5)/\eB/\(iB/\q5)/\eB/\(iB/\q5)/\eG/\aB [V.agg [wI (2),wL (List.take cX (List.drop q3 [pw q2 fu,pw q4 fu,pw q6 fu,pw (List.take cS (List.drop q3 [fO,(-2:Int)])) fu]))],vI (27)]=A.aL [V.agg [wI q1.fst,wL q1.snd.fst],bU]/\q9)/\(decide (bC n bG=6)=false->(decide (bC n bG=7)=true->aW/\(q8/\cA)/\aW/\(q8/\(0:Int)<=6/\(6:Int)<=100)/\eG/\gM/\aB [V.agg [wI (2),wL (List.take fu (List.drop q3 [pw q2 cX,pw q4 (6:Nat),List.take cX fA]))],vI (24)]=A.aL [V.agg [wI q1.fst,wL q1.snd.fst],bU]/\q9)/\(decide (bC n bG=7)=false->(decide (bC n bG=8)=true->aW/\(q8/\q7)/\aW/\(q8/\q7)/\eB/\(iB/\q5)/\eB/\(iB/\q5)/\eB/\(iB/\q7)/\eB/\q3+6<=6/\aB [V.agg [wI (3),wL (List.take (6:Nat) (List.drop q3 [pw q2 cS,pw q4 cS,List.take cS (List.drop q3 [(3:Int),(3:Int)]),pw q6 fu,pw (List.take cS (List.drop q3 [(2:Int),(3:Int)])) fu,pw (List.take cS (List.drop q3 [fO,(3:Int)])) cS]))],vI (24)]=A.aL [V.agg [wI q1.fst,wL q1.snd.fst],bU]/\q9)/\(decide (bC n bG=8)=false->(decide (bC n bG=9)=true->aW/\(q8/\q7)/\aW/\(q8/\q5)/\eB/\(iB/\eu)/\eG/\(cX<=100/\cA)/\eG/\aB [V.agg [wI (2),wL (List.take cX (List.drop q3 [pw q2 cS,pw q4 fu,pw q6 (7:Nat),pw (List.take cX fA) cX]))],vI (168)]=A.aL [V.agg [wI q1.fst,wL q1.snd.fst],bU]/\q9)/\(decide (bC n bG=9)=false->(decide (bC n bG=10)=true->q3+5<=5/\q3+5<=5/\eB/\aB [V.agg [wI (2),wL (List.take cS (List.drop q3 [List.take (5:Nat) bM,List.take (5:Nat) (List.drop q3 [(-1:Int),(2:Int),fO,(-2:Int),(-2:Int)])]))],vI (1)]=A.aL [V.agg [wI q1.fst,wL q1.snd.fst],bU]/\q9)/\(decide (bC n bG=10)=false->(decide (bC n bG=11)=true->aW/\(q8/\q7)/\aW/\(q8/\q7)/\eB/\eG/\eG/\eG/\q3+6<=6/\aB [V.agg [wI (3),wL (List.take (6:Nat) (List.drop q3 [pw q2 cS,pw q4 cS,List.take cS (List.drop q3 [(3:Int),(3:Int)]),List.take cX fA,List.take cX (List.drop q3 [(-1:Int),(-3:Int),fO,(3:Int)]),List.take cX (List.drop q3 [(-2:Int),(-3:Int),(2:Int),(3:Int)])]))],vI (8)]=A.aL [V.agg [wI q1.fst,wL q1.snd.fst],bU]/\q9)/\(decide (bC n bG=11)=false->(decide (bC n bG=12)=true->aW/\(q8/\fw)/\aW/\(q8/\cA)/\q3+5<=5/\gM/\aB [V.agg [wI (2),wL (List.take fu (List.drop q3 [pw q2 (5:Nat),pw q4 cX,List.take (5:Nat) bM]))],vI (20)]=A.aL [V.agg [wI q1.fst,wL q1.snd.fst],bU]/\q9)/\(decide (bC n bG=12)=false->aW/\(q8/\eu)/\aW/\(q8/\q5)/\q3+5<=5/\gM/\aB [V.agg [wI (2),wL (List.take fu (List.drop q3 [pw q2 (7:Nat),pw q4 fu,List.take (5:Nat) bM]))],vI (21)]=A.aL [V.agg [wI q1.fst,wL q1.snd.fst],bU]/\q9)))))))))))))) (by kernel_rfl)
 try simp only [sL]
 generalize bC n 14=k
 refine ⟨⟨by omega,by omega⟩,?_⟩
 show _/\_
 repeat' first
  | (refine And.intro ?_ ?_)
  | intro h
 all_goals first
  | omega
  | (subst h;rfl)
  | (simp only [jq, *,if_false];rfl)
def Oj:bP:=j9 (.int .i64) fun n=>(.t,.aL [.agg [.int .i64 (jq (bC n 14)).1,.rd (.sl (.int .i64)) (jq (bC n 14)).2.1],.c (.int .i64 (jq (bC n 14)).2.2)],[])
theorem QN:aV Tryz.prog 17 Oj:=gA (by kernel_rfl) fun n _=>U7 n
noncomputable def gWd9:bS:=[(21,cWs)]
theorem abd:bt Tryz.prog gWd9:=ar cWs_ok aC
def lR (l:List Int) (g:Int):List (List Int):=(jl g 12 l.length l []).take 5
theorem QO (l:List Int) (g:Int) (h:(1<=g/\g<=16)/\l.length<=1000):bw Tryz.prog 7 [bF l,nI g] [] (cC (lR l g)) []:=by
 refine eI (aq:=[]) (cE:=[]) (fz:=[some dL]) abd Tryz.func7 (by kernel_rfl) (ay:=0) rfl (by kernel_rfl) 100 ?_
 apply of_eq (q:=let q1:=(↑(jl g (12:Int) l.length l []).length:Int);(((1:Int)<=g/\g<=16)/\((0:Int)<=12/\(12:Int)<=100)/\l.length<=1000)/\((0:Int)<=0/\(0:Int)<=min q1 (5:Int)/\min q1 (5:Int)<=q1)/\aB [V.c (wL (List.drop (0:Nat) (List.take (min q1 (5:Int)).toNat (jl g (12:Int) l.length l []))))]=cC (lR l g)/\([]:List Ob)=[]) (by kernel_rfl)
 try simp only [sL]
 have e:(min ((jl g 12 l.length l []).length:Int) 5).toNat=min (jl g 12 l.length l []).length 5:=by omega
 rw [e]
 refine ⟨⟨h.1,by omega,h.2⟩,by omega,?_⟩
 have:(jl g 12 l.length l []).take (min (jl g 12 l.length l []).length 5)=lR l g:=by
  unfold lR
  rcases Nat.le_total (jl g 12 l.length l []).length 5 with h5 | h5
  . rw [Nat.min_eq_left h5,List.take_of_length_le (Nat.le_refl _),List.take_of_length_le h5]
  . rw [Nat.min_eq_right h5]
 rw [this];rfl
def Ft:bP:=jU dI (.int .i64) fun l g=>(.p ((1<=(show Int from g)/\(show Int from g)<=16)/\List.length (α:=Int) l<=1000),cC (lR l g),[])
theorem Es:aV Tryz.prog 7 Ft:=fT (by kernel_rfl) fun l g h=>QO l g h
noncomputable def gGi9:bS:=[(17,Oj),(8,Dw),(7,Ft)]
theorem abe:bt Tryz.prog gGi9:=ar QN (ar wY (ar Es aC))
def jr (n:Int) (l:List Int):Int×List (List Int) :=
 if n.tmod 2=0 then ((jq (bC (IntKind.i64.wrap (n.tdiv 2)) 14)).1,(jq (bC (IntKind.i64.wrap (n.tdiv 2)) 14)).2.1)
 else (1+bC (IntKind.i64.wrap (n.tdiv 2)) 3,lR l (1+bC (IntKind.i64.wrap (n.tdiv 2)) 3))
theorem QS (n:Int) (l:List Int) (h:l.length<=1000):bw Tryz.prog 5 [nI n,bF l] [] (pE (jr n l).1 (jr n l).2) []:=by
 refine eI (aq:=[]) (cE:=[]) (fz:=[some dL]) abe Tryz.func5 (by kernel_rfl) (ay:=0) rfl (by kernel_rfl) 100 ?_
 apply of_eq (q:=let q0:=IntKind.i64.wrap;let q2:=(q0 (n.tdiv (2:Int)));let q1:=((1:Int)+bC q2 (3:Int));(2:Int)≠(0:Int)/\(decide (n.tmod (2:Int)=0)=true->(2:Int)≠(0:Int)/\aB [V.agg [wI (jq (bC q2 (14:Int))).fst,wL (jq (bC q2 (14:Int))).snd.fst]]=pE (jr n l).fst (jr n l).snd/\([]:List Ob)=[])/\(decide (n.tmod (2:Int)=0)=false->(2:Int)≠(0:Int)/\((1:Int)<=3/\(3:Int)<=1000)/\(((1:Int)<=q0 q1/\q0 q1<=16)/\l.length<=1000)/\aB [V.agg [wI (q0 q1),wL (lR l (q0 q1))]]=pE (jr n l).fst (jr n l).snd/\([]:List Ob)=[])) (by kernel_rfl)
 try simp only [sL,Int.reduceEq]
 have t:=jF (IntKind.i64.wrap (n.tdiv 2)) 3 (by omega)
 rw [wrap64 (n:=1+bC (IntKind.i64.wrap (n.tdiv 2)) 3) (by omega) (by omega)]
 refine ⟨fun h1=>?_,fun h1=>⟨by omega,⟨by omega,h⟩,?_⟩⟩
 . rw [jr,if_pos h1];rfl
 . rw [jr,if_neg h1];rfl
def Ol:bP:=jU (.int .i64) dI fun n l=>(.p (List.length (α:=Int) l<=1000),pE (jr n l).1 (jr n l).2,[])
theorem QT:aV Tryz.prog 5 Ol:=fT (by kernel_rfl) fun n l h=>QS n l h
structure rA (g:Int) (rs:List (List Int)):Prop where
 n:rs.length<=6
 w:∀ w∈rs,w.length<=20/\∀ x∈w,x≠0/\-g<=x/\x<=g
def QU (g:Int) (rs:List (List Int)):Bool:=decide (rs.length<=6)&&rs.all fun w=>decide (w.length<=20)&&w.all fun x=>decide (x≠0/\-g<=x/\x<=g)
theorem abf {g:Int} {rs:List (List Int)} (h:QU g rs=true):rA g rs:=by
 simp only [QU,Bool.and_eq_true,decide_eq_true_eq,List.all_eq_true] at h
 exact ⟨h.1,h.2⟩
theorem Yo {α:Type} {P:α->Prop} {c:Prop} [Decidable c] {a b:α} (ha:P a) (hb:P b):P (if c then a else b):=by split <;> assumption
theorem QV (k:Int):(1<=(jq k).1/\(jq k).1<=3)/\rA (jq k).1 (jq k).2.1:=by
 have key:∀ x:Int×List (List Int)×Int,(decide (1<=x.1/\x.1<=3)&&QU x.1 x.2.1)=true->(1<=x.1/\x.1<=3)/\rA x.1 x.2.1:=fun x h=>by
  rw [Bool.and_eq_true,decide_eq_true_eq] at h
  exact ⟨h.1,abf h.2⟩
 refine key _ ?_
 unfold jq
 repeat' refine Yo (P:=fun x:Int×List (List Int)×Int=>(decide (1<=x.1/\x.1<=3)&&QU x.1 x.2.1)=true) ?_ ?_
 all_goals decide +kernel
theorem U8 {c g:Int} (h:0<=c/\c<2*g):qg c≠0/\-g<=qg c/\qg c<=g:=by
 have e:c.tdiv 2=c / 2:=Int.tdiv_eq_ediv_of_nonneg (by omega)
 have e2:c.tmod 2=c % 2:=Int.tmod_eq_emod_of_nonneg (by omega)
 unfold qg
 rw [e,e2]
 split <;> omega
theorem QW {g:Int} (hg:1<=g) (l:List Int):(iR g l).length=l.length/\∀ x∈iR g l,x≠0/\-g<=x/\x<=g:=by
 refine ⟨by simp [iR],fun x hx=>?_⟩
 simp only [iR,List.mem_map] at hx
 obtain ⟨y,_,rfl⟩:=hx
 have t:=jF y (2*g) (by omega)
 exact U8 t
theorem BD {g:Int} (hg:1<=g):∀ (f:Nat) (l:List Int) (acc:List (List Int)),(∀ w∈acc,w.length<=20/\∀ x∈w,x≠0/\-g<=x/\x<=g)->∀ w∈jl g 12 f l acc,w.length<=20/\∀ x∈w,x≠0/\-g<=x/\x<=g
 | 0,_,acc,h=>h
 | f+1,[],acc,h=>h
 | f + 1, x :: l, acc, h => by
   rw [jl]
   refine BD hg f _ _ fun w hw=>?_
   rcases List.mem_append.1 hw with hw | hw
   . exact h w hw
   . rw [List.mem_singleton.1 hw]
     obtain ⟨h1,h2⟩:=QW hg (l.take (min (bC x (12+1)) l.length).toNat)
     have t:=jF x (12+1) (by omega)
     rw [List.length_take] at h1
     exact ⟨by omega,h2⟩
theorem Et {g:Int} (hg:1<=g) (l:List Int):rA g (lR l g):=by
 refine ⟨by unfold lR;rw [List.length_take];omega,fun w hw=>?_⟩
 exact BD hg l.length l [] (fun w hw=>(by cases hw)) w (List.mem_of_mem_take hw)
theorem QX (n:Int) (l:List Int):(1<=(jr n l).1/\(jr n l).1<=3)/\rA (jr n l).1 (jr n l).2:=by
 unfold jr
 split
 . exact QV _
 . have t:=jF (IntKind.i64.wrap (n.tdiv 2)) 3 (by omega)
   exact ⟨by simp only;omega,Et (by omega) l⟩
def qF (s:List (List Int)):Prop:=s=[]
theorem U9:qF []:=rfl
theorem Yp (g:Int) (r:List (List Int)) (hr:Sh r) (hc:(gi g r).1=0):bw Tryz.prog 18 [pE g r,cC [],nI 0] [] (nI 2) []:=by
 refine bV (aq:=vM) DI Tryz.func18 (by kernel_rfl) (ay:=0) rfl (by kernel_rfl) 100 ?_
 apply of_eq (q:=Sh r/\((!decide ((gi g r).fst=0))=true->aB [vI (gi g r).fst]=nI (2:Int)/\([]:List Ob)=[])/\((!decide ((gi g r).fst=0))=false->av (fG Tryz.prog TR Tryz.f18 (0:Nat) vM) (aG (nI (2:Int)) []) [0,1,0,1,1,1] (fr [(1,cC []),(2,nI (0)),(3,aR 0 0),(9,nI (0)),(20,cC []),(21,nI (↑(0:Nat):Int)),(22,nI (0))]) (ai.ofList [Ob.mk 26 [fI g,fL r]]))) (by kernel_rfl)
 try simp only [sL]
 refine ⟨hr,fun h=>absurd hc h,fun _=>?_⟩
 refine aX DI (by kernel_rfl) 100 ?_
 apply of_eq (q:=let q4:=(↑(0:Nat):Int);let q5:=decide ((4000:Int)<0);let q1:=decide ((100:Int)<q4);let q2:=(bif bif q1 then true else q5 then true else decide ((0:Int)<1))=false;let q3:=(bif q1 then true else q5)=false;(decide ((0:Int)<q4)=true->((0:Int)<=0/\(0:Int)<q4)/\(0:Nat)<0/\(0:Nat)<=1000000/\(([].getD (0:Nat) []).any (fY g)=true->aB [vI (2)]=nI (2:Int)/\([]:List Ob)=[])/\(([].getD (0:Nat) []).any (fY g)=false->av (fG Tryz.prog TR Tryz.f18 (0:Nat) vM) (aG (nI (2:Int)) []) [0,1,0,1,1,1] (fr [(1,cC []),(2,nI (0)),(3,aR 0 0),(9,nI (IntKind.i64.wrap ((0:Int)+q4))),(20,cC []),(21,nI q4),(22,nI (IntKind.i64.wrap ((0:Int)+1)))]) (ai.ofList [Ob.mk 26 [fI g,fL r]])))/\(decide ((0:Int)<q4)=false->(q1=false->q1=false)/\(q1=false->q1=false)/\(q3->q3)/\(q3->q3)/\(q2->q2)/\(q2->q2)/\((bif bif bif q1 then true else q5 then true else decide ((0:Int)<1) then true else decide ((20000:Int)<0))=true->aB [vI (2)]=nI (2:Int)/\([]:List Ob)=[])/\((bif bif bif q1 then true else q5 then true else decide ((0:Int)<1) then true else decide ((20000:Int)<0))=false->aB [vI (0)]=nI (2:Int)/\([]:List Ob)=[]))) (by kernel_rfl)
 try simp only [sL]
 exact ⟨fun h=>absurd h (by decide),fun _=>⟨fun _=>rfl,fun h=>by omega⟩⟩
theorem QY (g:Int) (r s:List (List Int)) (h:qF s/\Sh r/\(gi g r).1=0):bw Tryz.prog 18 [pE g r,cC s,nI 0] [] (nI 2) []:=by
 obtain ⟨h0,h1,h2⟩:=h
 have h0:s=[]:=h0
 subst h0
 exact Yp g r h1 h2
def Om:bP:=zw fun g r s n=>match n with
 | 0=>(.p (qF s/\Sh r/\(gi g r).1=0),nI 2,[])
 | n=>(.p (Begins g n r s),nI 0,[])
noncomputable def gNo:bS:=[(18,Om)]
theorem QZ:aV Tryz.prog 18 Om:=zx (by kernel_rfl) fun g r s n h=>by
 by_cases hn:n=0
 . subst hn
   exact QY g r s h
 . have e:(match n with | 0=>((.p (qF s/\Sh r/\(gi g r).1=0):Cd),(nI 2:A),([]:List Ob)) | n=>(.p (Begins g n r s),nI 0,[]))=(.p (Begins g n r s),nI 0,[]):=by
    split
    . exact absurd rfl hn
    . rfl
   rw [e] at h ⊢
   exact GN g n r s h.sh h.gi h.aJ h.subs h.bad
theorem gNo_ok:bt Tryz.prog gNo:=ar QZ aC
theorem new_no (g:Int) (r:List (List Int)) (hr:Sh r) (hc:(gi g r).1=0):bw Tryz.prog 6 [pE g r,cC [],nI 0] [] (.aL [.c .bY,.c (.int .i64 2)]) []:=by
 refine bV (aq:=[]) gNo_ok Tryz.func6 (by kernel_rfl) (ay:=0) rfl (by kernel_rfl) 100 ?_
 apply of_eq (q:=(qF []/\Sh r/\(gi g r).fst=0)/\((!decide ((2:Int)=0))=true->aB [V.c W.bY,vI (2)]=A.aL [V.c W.bY,vI (2)]/\([]:List Ob)=[])/\((!decide ((2:Int)=0))=false->False)) (by kernel_rfl)
 try simp only [sL,Int.reduceEq]
 exact ⟨⟨U9,hr,hc⟩,fun _=>rfl⟩
noncomputable def AK:bD:=bN Tryz.prog [] Tryz.f15 0 [([0,1,0,1,1],[0,1,5]),([0,1,1,0,0,1,0,0,1,0,1,1],[0,1,5,6])] [] []
theorem Oo (t:List (List Int)) (hn:t.length<=1000000) (hl:∀ l∈t,l.length<=1000) (a:Nat) (ha:a<t.length) (hN:av AK (aG (bB true) []) [0,1,0,1,1] (fr [(0,cC t),(1,cC t),(5,nI (a+1:Nat))]) (.ofList [])):∀ (n i:Nat),n=(t.getD a []).length-i->i<=(t.getD a []).length->
 av AK (aG (bB true) []) [0,1,1,0,0,1,0,0,1,0,1,1] (fr [(0,cC t),(1,cC t),(5,nI a),(6,nI i)]) (.ofList [])
 | n,i,hn',hi=>by
   have hla:=hl _ (iK ha)
   refine aX aC (by kernel_rfl) 100 ?_
   apply of_eq (q:=let q1:=(t.getD a []);((0:Int)<=(a:Int)/\(a:Int)<(t.length:Int))/\a<t.length/\(decide ((i:Int)<(↑q1.length:Int))=true->((0:Int)<=(a:Int)/\(a:Int)<(t.length:Int))/\a<t.length/\((0:Int)<=(i:Int)/\(i:Int)<(↑q1.length:Int))/\i<q1.length/\((0:Int)<=(a:Int)/\(a:Int)<(t.length:Int))/\a<t.length/\((0:Int)<=(i:Int)/\(i:Int)<(↑q1.length:Int))/\i<q1.length/\((!decide (q1.getD i (0:Int)=q1.getD i (0:Int)))=true->aB [vB false]=bB true/\([]:List Ob)=[])/\((!decide (q1.getD i (0:Int)=q1.getD i (0:Int)))=false->av AK (aG (bB true) []) [0,1,1,0,0,1,0,0,1,0,1,1] (fr [(0,cC t),(1,cC t),(5,nI (a:Int)),(6,nI (IntKind.i64.wrap ((i:Int)+1)))]) (ai.ofList [])))/\(decide ((i:Int)<(↑q1.length:Int))=false->av AK (aG (bB true) []) [0,1,0,1,1] (fr [(0,cC t),(1,cC t),(5,nI (IntKind.i64.wrap ((a:Int)+1)))]) (ai.ofList []))) (by kernel_rfl)
   try simp only [sL]
   rw [wrap64 (n:=(i:Int)+1) (by omega) (by omega),wrap64 (n:=(a:Int)+1) (by omega) (by omega)]
   refine ⟨by omega,ha,fun h1=>⟨by omega,ha,by omega,by omega,by omega,ha,by omega,by omega,fun h=>absurd trivial h,fun _=>?_⟩,fun h1=>hN⟩
   cases n with
   | zero=>omega
   | succ n=>exact Oo t hn hl a ha hN n (i+1) (by omega) (by omega)
theorem LQ (t:List (List Int)) (hn:t.length<=1000000) (hl:∀ l∈t,l.length<=1000):∀ (n i:Nat),n=t.length-i->i<=t.length->
 av AK (aG (bB true) []) [0,1,0,1,1] (fr [(0,cC t),(1,cC t),(5,nI i)]) (.ofList [])
 | n,i,hn',hi=>by
   refine aX aC (by kernel_rfl) 100 ?_
   apply of_eq (q:=let q1:=(↑(t.getD i []).length:Int);(decide ((i:Int)<(t.length:Int))=true->((0:Int)<=(i:Int)/\(i:Int)<(t.length:Int))/\i<t.length/\((0:Int)<=(i:Int)/\(i:Int)<(t.length:Int))/\i<t.length/\((!decide (q1=q1))=true->aB [vB false]=bB true/\([]:List Ob)=[])/\((!decide (q1=q1))=false->av AK (aG (bB true) []) [0,1,1,0,0,1,0,0,1,0,1,1] (fr [(0,cC t),(1,cC t),(5,nI (i:Int)),(6,nI (0))]) (ai.ofList [])))/\(decide ((i:Int)<(t.length:Int))=false->aB [vB true]=bB true/\([]:List Ob)=[])) (by kernel_rfl)
   try simp only [sL]
   refine ⟨fun h1=>⟨by omega,by omega,by omega,by omega,fun h=>absurd trivial h,fun _=>?_⟩,fun h1=>rfl⟩
   cases n with
   | zero=>omega
   | succ n=>exact Oo t hn hl i (by omega) (LQ t hn hl n (i+1) (by omega) (by omega)) _ 0 rfl (Nat.zero_le _)
theorem Yq (t:List (List Int)) (hn:t.length<=1000000) (hl:∀ l∈t,l.length<=1000):bw Tryz.prog 15 [cC t,cC t] [] (bB true) []:=by
 refine eI (aq:=[([0,1,0,1,1],[0,1,5]),([0,1,1,0,0,1,0,0,1,0,1,1],[0,1,5,6])]) (cE:=[]) (fz:=[]) aC Tryz.func15 (by kernel_rfl) (ay:=0) rfl (by kernel_rfl) 100 ?_
 apply of_eq (q:=((!decide ((t.length:Int)=(t.length:Int)))=true->aB [vB false]=bB true/\([]:List Ob)=[])/\((!decide ((t.length:Int)=(t.length:Int)))=false->av (bN Tryz.prog [] Tryz.f15 (0:Nat) [([0,1,0,1,1],[0,1,5]),([0,1,1,0,0,1,0,0,1,0,1,1],[0,1,5,6])] [] []) (aG (bB true) []) [0,1,0,1,1] (fr [(0,cC t),(1,cC t),(5,nI (0))]) (ai.ofList []))) (by kernel_rfl)
 try simp only [sL]
 exact ⟨fun h=>absurd trivial h,fun _=>LQ t hn hl _ 0 rfl (Nat.zero_le _)⟩
def Va:bP:=jU dL dL fun t u=>(.p (t=u/\List.length (α:=List Int) t<=1000000/\∀ l∈(t:List (List Int)),l.length<=1000),.dec true,[])
theorem Vb:aV Tryz.prog 15 Va:=fT (by kernel_rfl) fun t u h=>by
 obtain ⟨rfl,h1,h2⟩:=h
 intro base η Z w vs R0 hv hK
 refine (Yq t h1 h2 base η Z w vs R0 hv hK).mono ?_
 rintro e w' ⟨u,aE,Z',h4,h5,h6⟩
 exact ⟨u,aE,Z',h4,h5,h6.2⟩
structure Stp (r:Rn) (N:Int) (x:Rn×Int×Int):Prop where
 err:x.2.2=0
 len:(x.1.ah.length:Int)=r.ah.length+x.2.1
 pS:0<=x.2.1/\x.2.1<=N
 aJ:x.1.ah.length<=r.aJ
 aq:1<=x.1.aq/\x.1.aq<=x.1.ah.length
 dz:dh x.1
 mo:Mo x.1
 same:x.1.g=r.g/\x.1.aN=r.aN/\x.1.sub=r.sub/\x.1.aJ=r.aJ
 pos:(0<=x.1.ph/\x.1.ph<=3)/\(0<=x.1.co/\x.1.co<=x.1.ah.length)/\(0<=x.1.ix/\x.1.ix<=1000)
 aI:0<=x.1.aI/\x.1.aI<=2
 go:x.1.aI=0->x.2.1=N/\gD x.1
theorem step_eq {r:Rn} (hs:r.aI=0) {N:Int} (hN:1<=N):cM r N=((cU.run r N.toNat).1,N-(cU.run r N.toNat).2,0):=by
 rw [cM,if_neg (by omega),if_neg (by rw [hs];simp)]
theorem LR {r:Rn} (G:gD r) (M:Mo r) (hs:r.aI=0) {N:Int} (hN:1<=N):Stp r N (cM r N):=by
 have R:=run_ok G N.toNat
 have m:=run_mo G N.toNat M
 have h1:=R.len
 have h2:=R.grown
 have h3:=G.n1
 have lp:=R.dz.Ct (by omega)
 have ll:=R.dz.NY
 have hst:=R.stop
 rw [step_eq hs hN]
 refine ⟨rfl,by simp only;omega,by simp only;omega,R.aJ,⟨lp,ll⟩,R.dz,m,R.same,R.pos,?_,fun h0=>?_⟩
 . simp only
   rcases hst with h | h | ⟨h,_⟩ <;> omega
 . have h0:(cU.run r N.toNat).1.aI=0:=h0
   rcases hst with h | h | ⟨_,h,hg⟩
   . omega
   . omega
   . exact ⟨by simp only;omega,hg⟩
theorem ZA {r:Rn} (F:dh r) (m:Mo r) (h0:0<r.ah.length) (h1:r.ah.length<=1000) (hg:1<=r.g/\r.g<=3) (hr:rA r.g r.aN) (hs:rA r.g r.sub) (hl:0<=r.aJ/\r.aJ<=1000000) (hst:0<=r.aI/\r.aI<=2) (hp:(0<=r.ph/\r.ph<=3)/\(0<=r.co/\r.co<=r.ah.length)/\(0<=r.ix/\r.ix<=1000)):Sv r:=by
 have cB:r.aj.length=r.ah.length:=F.len
 have hpar:l9 r.aj:=F.aj
 have hrow:∀ l∈r.ah,Row (2*r.g).toNat r.ah.length l:=F.row
 have hlo:=m.lo
 have hhi:=m.hi
 have hlp:=F.Ct h0
 have hw:∀ {rs:List (List Int)},rA r.g rs->∀ w∈rs,je 16 w/\w.length<100:=fun H w hw=>by
  obtain ⟨a,b⟩:=H.w w hw
  exact ⟨fun x hx=>by have:=b x hx;omega,by omega⟩
 refine ⟨h0,h1,cB,fun l hl=>?_,fun x hx=>?_,⟨by omega,by omega⟩,⟨by omega,by omega⟩,⟨by omega,by omega⟩,⟨by omega,by omega⟩,⟨by omega,by omega⟩,⟨by omega,by omega⟩,⟨by omega,by omega⟩,hw hr,hw hs,by have:=hr.n;omega,by have:=hs.n;omega⟩
 . obtain ⟨a,b⟩:=hrow l hl
   exact ⟨by omega,fun x hx=>by have:=b x hx;exact ⟨by omega,by omega⟩⟩
 . obtain ⟨i,hi,rfl⟩:=List.getElem_of_mem hx
   have:=hpar.2 i hi
   rw [List.getD_eq_getElem?_getD,List.getElem?_eq_getElem hi] at this
   have this:0<=r.aj[i]/\r.aj[i]<=i:=this
   exact ⟨by omega,by omega⟩
theorem He {g:Int} (hg:1<=g/\g<=16):∀ (rs:List (List Int)) (left i:Int),(∀ w∈rs,w.length<=20/\∀ x∈w,x≠0/\-g<=x/\x<=g)->20*(rs.length:Int)<=left->(nU g rs left i).1=0
 | [],_,_,_,_=>rfl
 | w :: rs, left, i, h, hl => by
   obtain ⟨h1,h2⟩:=h w (by simp)
   rw [List.length_cons] at hl
   rw [nU,if_neg (by omega),if_neg]
   . exact He hg rs _ _ (fun w hw=>h w (by simp [hw])) (by omega)
   . rw [Bool.not_eq_true,List.any_eq_false]
     intro x hx
     have:=h2 x hx
     have e:IntKind.i64.wrap (0-g)=0-g:=wrap64 (by omega) (by omega)
     simp only [fY,Bool.or_eq_true,decide_eq_true_eq,e]
     omega
theorem LS:∀ (rs:List (List Int)),(∀ w∈rs,w.length<=20)->rs.flatten.length<=20*rs.length
 | [],_=>Nat.le_refl _
 | w::rs,h=>by
   have h1:=h w (by simp)
   have h2:=LS rs fun w hw=>h w (by simp [hw])
   rw [List.flatten_cons,List.length_append,List.length_cons]
   omega
theorem Q0 {g:Int} {aN sub:List (List Int)} (aJ:Int) (hl:1<=aJ/\aJ<=20000) (hg:1<=g/\g<=3) (hr:rA g aN) (hs:rA g sub):Begins g aJ aN sub:=by
 have U5:=hr.n
 have hsn:=hs.n
 have hf:=LS sub fun w hw=>(hs.w w hw).1
 refine ⟨fun w hw=>by have:=(hr.w w hw).1;omega,?_,hl,⟨by omega,by omega⟩,fun w hw=>?_⟩
 . rw [gi,if_neg (by omega),if_neg (by omega)]
   exact He (by omega) aN _ _ hr.w (by omega)
 . rw [List.any_eq_false]
   intro x hx
   have:=(hs.w w hw).2 x hx
   have e:IntKind.i64.wrap (0-g)=0-g:=wrap64 (by omega) (by omega)
   simp only [fY,Bool.or_eq_true,decide_eq_true_eq,e]
   omega
def Yr:A->Option (Int×List (List Int))
 | .p (.agg [.int .i64 g,.nil])=>some (g,[])
 | x=>SW x
theorem Ys {η:Eta} {Z:aA} {x:A} {g:Int} {r:List (List Int)} (e:Yr x=some (g,r)) {v:Value} (h:cr η Z x v):cr η Z (pE g r) v:=by
 unfold Yr at e
 split at e
 . cases e
   obtain ⟨vs,rfl,hd,hl⟩:=h
   refine ⟨vs,rfl,by simp,?_⟩
   match vs,hl with
   | [a,b],⟨h1,h2,_⟩ =>
     refine ⟨h1,?_,trivial⟩
     have h3:aF η Z .nil b:=h2
     have:=kQ (d:=dL) (x:=.nil) (y:=[]) rfl h3
     exact (D.f6 dL).2 this
 . exact E5 e h
def LU (f:Int->List (List Int)->List (List Int)->Int->Cd×A×List Ob):bP:={ cF:=[],f:=fun args ak=>match args,ak with
 | [x,s,.p (.c (.int .i64 n))],[]=>(match Yr x,fH dL s with | some (g,r),some s=>some (f g r s n) | _,_=>none)
 | _,_=>none }
theorem Vc {P:Program} {f:FuncId} {c:Int->List (List Int)->List (List Int)->Int->Cd×A×List Ob} (he:enters P f=true) (h:∀ g r s n,(c g r s n).1->bw P f [pE g r,cC s,nI n] [] (c g r s n).2.1 (c g r s n).2.2):aV P f (LU c):=by
 refine ⟨he,fun args ak cd r bp e hc=>?_⟩
 simp only [LU] at e
 split at e
 . rename_i x s n
   split at e
   . rename_i g r' s' hx hs
     have e:=Option.some.inj e
     have:=h g r' s' n (by rw [e];exact hc)
     rw [e] at this
     exact this.args fun η Z vs hv=>by
      match vs,hv with
      | [u,v,t],⟨a1,a2,a3,_⟩=>exact ⟨Ys hx a1,cg hs a2,a3,trivial⟩
   . cases e
 . cases e
def Q5:bP:=LU fun g r s n=>match n with
 | 0=>(.p (qF s/\Sh r/\(gi g r).1=0),.aL [.c .bY,.c (.int .i64 2)],[])
 | n=>(.p (Begins g n r s),.aL [.c (.ptr 0 0),.c (.int .i64 0)],obs (gW g n r s))
theorem LV:aV Tryz.prog 6 Q5:=Vc (by kernel_rfl) fun g r s n h=>by
 by_cases hn:n=0
 . subst hn
   obtain ⟨h0,h1,h2⟩:=h
   have h0:s=[]:=h0
   subst h0
   exact new_no g r h1 h2
 . have e:(match n with | 0=>((.p (qF s/\Sh r/\(gi g r).1=0):Cd),(.aL [.c .bY,.c (.int .i64 2)]:A),([]:List Ob)) | n=>(.p (Begins g n r s),.aL [.c (.ptr 0 0),.c (.int .i64 0)],obs (gW g n r s)))=(.p (Begins g n r s),.aL [.c (.ptr 0 0),.c (.int .i64 0)],obs (gW g n r s)):=by
    split
    . exact absurd rfl hn
    . rfl
   rw [e] at h ⊢
   exact Nu g n r s h
def Vd (r:Rn):List (List Int):=if r.aI=1 then (mV (jD r)).getD [] else []
def tbD (r:Rn):Int:=if r.aI=1 then r.ah.length else 0
def tbM (r:Rn):Int:=if r.aI=1 then r.aQ else 0
def Ve (r:Rn):Int:=if r.aI=1 then 0 else 13
def ZB:bP:=tV fun r=>(0<r.ah.length/\(r.aI=1->uf r),.aL [.c (.rd (.sl (.int .i64)) (Vd r)),.agg [.int .i64 (tbD r),.int .i64 (tbM r),.int .i64 0],.c (.int .i64 (Ve r))],r)
theorem Yt:aV Tryz.prog 12 ZB:=qk (by kernel_rfl) fun r h=>by
 obtain ⟨h1,h2⟩:=h
 unfold Vd tbD tbM Ve
 by_cases hs:r.aI=1
 . simp only [if_pos hs]
   exact U6 r (h2 hs) hs
 . simp only [if_neg hs]
   exact Ym r h1 hs
abbrev gG:List (List Int):=[[1,1],[2,2,2],[1,2,1,2]]
theorem Q6:bw Tryz.prog 13 [] [] (pE 2 gG) []:=by
 refine eI (aq:=[]) (cE:=[]) (fz:=[some dL]) aC Tryz.func13 (by kernel_rfl) (ay:=0) rfl (by kernel_rfl) 100 ?_
 apply of_eq (q:=(0:Nat)+2<=2/\(0:Nat)+3<=3/\(0:Nat)+4<=4/\(0:Nat)+3<=3/\aB [V.agg [wI (2),wL (List.take (3:Nat) (List.drop (0:Nat) [List.take (2:Nat) (List.drop (0:Nat) [(1:Int),(1:Int)]),List.take (3:Nat) (List.drop (0:Nat) [(2:Int),(2:Int),(2:Int)]),List.take (4:Nat) (List.drop (0:Nat) [(1:Int),(2:Int),(1:Int),(2:Int)])]))]]=pE (2:Int) gG/\([]:List Ob)=[]) (by kernel_rfl)
 try simp only [sL]
 rfl
def Fu:bP:=JG (.t,pE 2 gG,[])
theorem Eu:aV Tryz.prog 13 Fu:=EZ (by kernel_rfl) fun _=>Q6
noncomputable def gAwk:bS:=[(13,Fu),(6,Q5),(9,DH),(41,Zh),(14,P8)]
theorem abg:bt Tryz.prog gAwk:=ar Eu (ar LV (ar Cl (ar Xi (ar Kr aC))))
theorem oO:Begins 2 100 gG [[1]]:=⟨by unfold Sh;decide,by decide +kernel,by decide,by decide,by decide +kernel⟩
theorem Vf:bw Tryz.prog 16 [] [] (bB true) []:=by
 refine bV (aq:=[]) abg Tryz.func16 (by kernel_rfl) (ay:=0) rfl (by kernel_rfl) 100 ?_
 apply of_eq (q:=let q3:=(List.take (1:Nat) (List.drop (0:Nat) [List.take (1:Nat) (List.drop (0:Nat) [(1:Int)])]));let q7:=decide ((0:Int)=0);let q8:=(gW (2:Int) (100:Int) gG q3);let aW:=decide ((↑(2:Nat):Int)=2);let q1:=(cM q8 (1:Int));let q6:=decide (q1.snd.fst=1);let q9:=decide ((if (0:Nat)<2 then q1.fst.aq else (0:Int))=2);let bG:=decide (q1.snd.snd=0);let q2:=(bif bif q6 then bG else false then aW else false)=true;let q4:=(bif q6 then bG else false)=true;let q5:=(bif bif bif q6 then bG else false then aW else false then q9 else false)=true;(0:Nat)+1<=1/\(0:Nat)+1<=1/\Begins (2:Int) (100:Int) gG q3/\((!q7)=false->(!q7)=false)/\((!q7)=false->(!q7)=false)/\((bif !q7 then true else false)=true->aB [vB false]=bB true/\([]:List Ob)=[])/\((bif !q7 then true else false)=false->(((1:Nat)=1/\(1:Nat)=1/\(4:Nat)=4)/\(0:Nat)<1/\(1:Int)<=1000000/\((1:Int)<=1->q8.aI=0->gD q8))/\(((2:Nat)=2/\(2:Nat)=2/\(4:Nat)=4)/\True)/\(q6=true->q6=true)/\(q6=true->q6=true)/\(q4->q4)/\(q4->q4)/\(q2->q2)/\(q2->q2)/\(q5->q5/\(((2:Nat)=2/\(2:Nat)=2/\(4:Nat)=4)/\True)/\aB [vB (decide ((if (0:Nat)<2 then q1.fst.aI else (0:Int))=0))]=bB true/\([]:List Ob)=[])/\((bif bif bif q6 then bG else false then aW else false then q9 else false)=!true->aB [vB false]=bB true/\([]:List Ob)=[]))) (by kernel_rfl)
 try simp only [sL]
 refine ⟨oO,fun h=>absurd trivial h,fun _=>⟨⟨by omega,by omega,fun _ _=>oO.good⟩,fun _=>⟨by decide +kernel,?_⟩,fun h=>absurd h (by decide +kernel)⟩⟩
 have e:decide ((if 0<2 then (cM (gW 2 100 gG [[1]]) 1).1.aI else 0)=0)=true:=by decide +kernel
 rw [e];rfl
def Vg:bP:=JG (.t,.dec true,[])
theorem Vh:aV Tryz.prog 16 Vg:=EZ (by kernel_rfl) fun _=>by
 intro base η Z w vs R0 hv hK
 refine (Vf base η Z w vs R0 hv hK).mono ?_
 rintro e w' ⟨u,aE,Z',h4,h5,h6⟩
 exact ⟨u,aE,Z',h4,h5,h6.2⟩
noncomputable def gKn9:bS:=[(13,Fu),(6,Q5),(9,DH),(12,ZB),(14,P8),(10,Qd),(15,Va),(16,Vg)]
theorem abh:bt Tryz.prog gKn9:=ar Eu (ar LV (ar Cl (ar Yt (ar Kr (ar Kz (ar Vb (ar Vh aC)))))))
abbrev aaL:List (List Int):=[[1,1,1]]
theorem Hf:Begins 1 9 aaL []:=⟨by unfold Sh;decide,by decide +kernel,by decide,by decide,by decide +kernel⟩
theorem Hg:Begins 1 3 [] []:=⟨by unfold Sh;decide,by decide +kernel,by decide,by decide,by decide +kernel⟩
theorem LW (g aJ:Int) (aN sub:List (List Int)):Mo (gW g aJ aN sub):=⟨by show (1:Int)<=1;omega,by show (1:Int)<=(1:Nat);omega⟩
theorem abj:(cM (gW 2 100 gG [[1]]) 1).1.aI=0->gD (cM (gW 2 100 gG [[1]]) 1).1:=fun h=>((LR oO.good (LW _ _ _ _) rfl (by omega)).go h).2
theorem A0_sv:Sv (gW 1 9 aaL []):=by
 constructor <;> first | decide | (unfold j8;decide) | (unfold je;decide)
theorem B2_tab:uf (cM (cM (gW 2 100 gG [[1]]) 1).1 100).1:=by
 have hr:(cM (cM (gW 2 100 gG [[1]]) 1).1 100).1.ah=(cM (cM (gW 2 100 gG [[1]]) 1).1 100).1.ah:=rfl
 have ht:jD (cM (cM (gW 2 100 gG [[1]]) 1).1 100).1=[[0,0,1,2],[2,2,2,0],[1,1,0,1]]∨True:=.inr trivial
 refine ⟨by decide +kernel,by decide +kernel,by decide +kernel,by decide +kernel,⟨⟨by decide +kernel,by decide +kernel,by decide +kernel,by decide +kernel,?_⟩,by decide +kernel,by decide +kernel,by decide +kernel⟩⟩
 have:∀ a,a<(jD (cM (cM (gW 2 100 gG [[1]]) 1).1 100).1).length->∀ c,c<(2*(cM (cM (gW 2 100 gG [[1]]) 1).1 100).1.g).toNat->0<=iI (jD (cM (cM (gW 2 100 gG [[1]]) 1).1 100).1) a c->iI (jD (cM (cM (gW 2 100 gG [[1]]) 1).1 100).1) (iI (jD (cM (cM (gW 2 100 gG [[1]]) 1).1 100).1) a c).toNat (kN c)=a:=by decide +kernel
 exact fun a c ha hc=>this a ha c hc
theorem Yu:∀ (l:List Int),l∈Vd (cM (cM (gW 2 100 gG [[1]]) 1).1 100).1->l.length<=1000:=by decide +kernel
theorem Q7:bw Tryz.prog 4 [] [] (bB true) []:=by
 refine bV (aq:=[]) abh Tryz.func4 (by kernel_rfl) (ay:=0) rfl (by kernel_rfl) 300 ?_
 apply of_eq (q:=let fu:=aB [vB false]=bB true;let cX:=(0:Nat);let eu:=(1:Int);let ju:=(32:UInt8);let jY:=([]:List Ob)=[];let Oq:=decide ((↑(83:Nat):Int)<=(↑(72:Nat):Int));let q33:=(List.take (1:Nat) (List.drop cX [List.take (3:Nat) (List.drop cX [eu,eu,eu])]));let q35:=Sh gG/\(gi (2:Int) gG).fst=0;let q36:=(List.take (1:Nat) (List.drop cX [List.take (1:Nat) (List.drop cX [eu])]));let Ew:=(1:Nat)=1;let Hj:=(3:Nat)=3;let ZC:=decide ((2:Int)=2);let zV:=(0:Int);let q2:=(gW eu (9:Int) q33 []);let q4:=decide ((bg (dA q2)).extract cX (72:Nat)=ByteArray.mk ([(99:UInt8),(111:UInt8),(115:UInt8),(101:UInt8),(116:UInt8),ju,(49:UInt8),(10:UInt8),(103:UInt8),(101:UInt8),(110:UInt8),(115:UInt8),ju,(49:UInt8),ju,(108:UInt8),(105:UInt8),(109:UInt8),(105:UInt8),(116:UInt8),ju,(57:UInt8),ju,(109:UInt8),(111:UInt8),(115:UInt8),(116:UInt8),ju,(49:UInt8),ju,(115:UInt8),(116:UInt8),(97:UInt8),(116:UInt8),(117:UInt8),(115:UInt8)].append [ju,(48:UInt8),(10:UInt8),(114:UInt8),(101:UInt8),(108:UInt8),ju,(97:UInt8),(94:UInt8),(51:UInt8),(10:UInt8),(97:UInt8),(116:UInt8),ju,(48:UInt8),ju,(48:UInt8),ju,(48:UInt8),(10:UInt8),(114:UInt8),(111:UInt8),(119:UInt8),ju,(48:UInt8),ju,(45:UInt8),(49:UInt8),ju,(45:UInt8),(49:UInt8),(10:UInt8),(115:UInt8),(117:UInt8),(109:UInt8),ju]).toArray);let q6:=decide (zV=0);let q9:=(gW (2:Int) (100:Int) gG q36);let cA:=(gW eu (3:Int) [] []);let bU:=(cM q2 zV);let fw:=(bif !q6 then true else false)=false;let eG:=(!q6)=false;let iB:=Ew/\(2:Nat)=2;let kW:=decide (bU.snd.snd=2);let Ey:=decide (Ve bU.fst=13);let Ot:=(cM cA (9:Int));let q37:=cX<1/\(9:Int)<=1000000/\(eu<=9->cA.aI=0->gD cA);let q39:=(bif !q6 then true else false)=true;let q1:=(cM (cM q9 eu).fst (100:Int));let aW:=Begins eu (3:Int) [] []/\(eG->eG)/\(eG->eG)/\(q39->fu/\jY)/\(fw->((Ew/\iB)/\q37)/\fu/\jY);let bM:=decide ((if cX<3 then (cM q1.fst eu).fst.aI else zV)=1);let eB:=decide ((cM q1.fst eu).snd.snd=13);let fO:=decide (tbD q1.fst=3);let gM:=decide (tbM q1.fst=3);let x6:=(gM&&(q6&&true));let Ez:=decide (q1.snd.fst=1);let q42:=(bif Ez then decide (q1.snd.snd=0) else false)=true;let q43:=(bif bM then decide (Ve q1.fst=0) else false)=true;let q3:=(bif bif bif bif bif fO&&x6 then kW else false then Ey else false then eB else false then ZC else false then decide (Ot.snd.fst=2) else false)=true;let q5:=(bif bif bif bif fO&&x6 then kW else false then Ey else false then eB else false then ZC else false)=true;let q7:=(bif bif bif fO&&x6 then kW else false then Ey else false then eB else false)=true;let q8:=(bif bif fO&&x6 then kW else false then Ey else false)=true;let bG:=(bif bif bif bif bif bif fO&&x6 then kW else false then Ey else false then eB else false then ZC else false then decide (Ot.snd.fst=2) else false then decide (Ot.snd.snd=0) else false)=true;let cS:=(bif fO&&x6 then kW else false)=true;let fA:=(fO&&x6)=true;cX+3<=3/\cX+1<=1/\Begins eu (9:Int) q33 []/\(eG->eG)/\(eG->eG)/\(fw->fw/\((Ew/\iB)/\Sv q2)/\(Oq=false->Oq=false/\((Ew/\iB)/\Sv q2)/\(zV<=0/\zV<=(↑(72:Nat):Int)/\(↑(72:Nat):Int)<=(↑(83:Nat):Int))/\((!q4)=true->fu/\jY)/\((!q4)=false->((Ew/\iB)/\cX<1/\zV<=1000000/\(eu<=0->q2.aI=0->gD q2))/\((Ew/\iB)/\cX<1/\(bU.fst.aI=1->uf bU.fst))/\cX+1<=1/\cX+1<=1/\Begins (2:Int) (100:Int) gG q36/\(eG->eG)/\(eG->eG)/\(q39->fu/\jY)/\(fw->((Ew/\Ew/\(4:Nat)=4)/\cX<1/\eu<=1000000/\(eu<=1->q9.aI=0->gD q9))/\(((2:Nat)=2/\(2:Nat)=2/\(4:Nat)=4)/\cX<2/\(100:Int)<=1000000/\(eu<=100->(cM q9 eu).fst.aI=0->gD (cM q9 eu).fst))/\((Hj/\Hj/\(4:Nat)=4)/\cX<3/\(q1.fst.aI=1->uf q1.fst))/\((Hj/\Hj/\(4:Nat)=4)/\cX<3/\eu<=1000000/\(eu<=1->q1.fst.aI=0->gD q1.fst))/\(Ez=true->Ez=true)/\(Ez=true->Ez=true)/\(q42->q42/\((Hj/\Hj/\(4:Nat)=4)/\True)/\(bM=true->bM=true)/\(bM=true->bM=true)/\(q43->cX+4<=4/\cX+4<=4/\cX+4<=4/\q43/\cX+3<=3/\(Vd q1.fst=List.take (3:Nat) (List.drop cX [List.take (4:Nat) (List.drop cX [zV,zV,eu,(2:Int)]),List.take (4:Nat) (List.drop cX [(2:Int),(2:Int),(2:Int),zV]),List.take (4:Nat) (List.drop cX [eu,eu,zV,eu])])/\(3:Nat)<=1000000/\∀ (l:List Int),l∈Vd q1.fst->l.length<=1000)/\(qF []/\q35)/\Begins eu (3:Int) [] []/\(eG->eG)/\(eG->eG)/\(q39->fu/\jY)/\(fw->((Ew/\iB)/\q37)/\(fA->fA)/\(fA->fA)/\(cS->cS)/\(cS->cS)/\(q8->q8)/\(q8->q8)/\(q7->q7)/\(q7->q7)/\(q5->q5)/\(q5->q5)/\(q3->q3)/\(q3->q3)/\(bG->bG/\((Hj/\Hj/\(2:Nat)=2)/\True)/\aB [vB (decide ((if cX<3 then Ot.fst.aI else zV)=2))]=bB true/\jY)/\((bif bif bif bif bif bif fO&&x6 then kW else false then Ey else false then eB else false then ZC else false then decide (Ot.snd.fst=2) else false then decide (Ot.snd.snd=0) else false)=!true->fu/\jY)))/\((bif bM then decide (Ve q1.fst=0) else false)=!true->(qF []/\q35)/\aW))/\((bif Ez then decide (q1.snd.snd=0) else false)=!true->(qF []/\q35)/\aW))))/\(Oq=!false->fu/\jY))/\((bif !q6 then true else false)=!false->fu/\jY)) (by kernel_rfl)
 try simp only [sL]
 repeat' first | (with_reducible apply And.intro) | (with_reducible exact Hf) | (with_reducible exact oO) | (with_reducible exact Hg) | (with_reducible exact A0_sv) | (with_reducible exact B2_tab) | (with_reducible exact abj) | (with_reducible exact oO.sh) | (with_reducible exact Yu) | (with_reducible exact U9) | intro _
 all_goals first
  | (with_reducible exact Hf.good) | (with_reducible exact oO.good) | (with_reducible exact Hg.good)
  | (with_reducible decide +kernel)
  | (rename_i h;exact absurd h (by with_reducible decide +kernel))
  | (rename_i h _;exact absurd h (by with_reducible decide +kernel))
  | (refine congrArg (fun b=>A.p (V.c (W.bool b))) ?_;with_reducible decide +kernel)
  | omega
theorem Lu {x:Int} {n:Nat} (hn:n<100):∀ c∈sU x n,42<=c:=by
 have hd:∀ c∈Ca n,42<=c:=by
  unfold Ca
  split <;> intro c hc <;> simp at hc <;> omega
 unfold sU
 intro c hc
 rcases List.mem_cons.1 hc with rfl | hc
 . omega
 . split at hc
   . simp at hc
     rcases hc with rfl | rfl | hc
     . omega
     . omega
     . exact hd c hc
   . split at hc
     . simp at hc
       rcases hc with rfl | hc
       . omega
       . exact hd c hc
     . cases hc
theorem BA:∀ ps:List (List Int),(∀ p∈ps,∀ c∈p,42<=c)->∀ c∈qy ps,42<=c
 | [],_,c,hc=>by cases hc
 | [p],h,c,hc=>h p (by simp) c hc
 | p :: q :: r, h, c, hc => by
   rw [qy] at hc
   rcases List.mem_append.1 hc with hc | hc
   . exact h p (by simp) c hc
   . rcases List.mem_cons.1 hc with rfl | hc
     . omega
     . exact BA (q::r) (fun x hx=>h x (by simp [hx])) c hc
theorem Mw {g:Int} {a:List Int} (ha:je g a) (hl:a.length<100):∀ c∈Ax a,42<=c:=by
 unfold Ax
 split
 . intro c hc;simp at hc;omega
 . refine BA _ fun p hp=>?_
   obtain ⟨y,hy,rfl⟩:=List.mem_map.1 hp
   obtain ⟨x,n,rfl,_,_,_,h4⟩:=qU _ a (Nat.le_refl _) hl ha y hy
   exact Lu h4
def t6 (l:List Int):Prop:=∀ x∈l,0<=x/\x<256
theorem t7 (s:ByteArray):t6 (af s):=fun _ h=>ql h
theorem oN {a b:List Int} (h:t6 a) (k:t6 b):t6 (a++b):=fun x hx=>(List.mem_append.1 hx).elim (h x) (k x)
theorem XZ (xs:List Int):t6 (mg xs):=by
 intro x hx
 obtain ⟨y,_,hy⟩:=List.mem_flatMap.1 hx
 rcases List.mem_cons.1 hy with rfl | hy
 . omega
 . exact ql hy
def j4 (s:ByteArray) (xs:List Int):List Int:=af s++mg xs
def Ej (r:Rn):List Int:=af (hO++cG r.g)++af (ke++cG r.aJ)++af (jf++cG r.aQ)++af (jv++cG r.aI)
def Ek (r:Rn):Nat->Nat->List (List Int)
 | 0,_=>[]
 | n+1,i=>j4 sY (r.aj.getD i 0::r.ah.getD i [])::Ek r n (i+1)
def vP (tag:ByteArray) (ws:List (List Int)):List (List Int):=ws.map fun w=>af (tag++gC w)
def lP (r:Rn):List (List Int):=af kH::Ej r::(vP nJ r.aN++(vP mL r.sub++(j4 mM [r.ph,r.co,r.ix]::Ek r r.ah.length 0)))
def sumOf (r:Rn):Int:=jm (bg (pJ r))
def dV (ls:List (List Int)):List Int:=ls.flatMap fun l=>l++[10]
theorem iD (l:List Int) (ls:List (List Int)):dV (l::ls)=l++[10]++dV ls:=rfl
theorem sy (a b:List (List Int)):dV (a++b)=dV a++dV b:=List.flatMap_append
theorem N7 (r:Rn):∀ n i,iX r n i=dV (Ek r n i)
 | 0,_=>rfl
 | n+1,i=>by rw [iX,Ek,iD,N7 r n (i+1)];rfl
theorem Lv (tag:ByteArray) (ws:List (List Int)):mN tag ws=dV (vP tag ws):=by
 unfold mN vP dV
 rw [List.flatMap_map]
 congr 1
 funext w
 unfold dH mg
 simp
theorem Fm (r:Rn):pJ r=dV (lP r):=by
 unfold pJ lP Qc
 rw [N7,Lv,Lv,iD,iD,sy,sy,iD]
 have e1:dH kH []=af kH++[10]:=by unfold dH mg;simp
 have e2:dH mM [r.ph,r.co,r.ix]=j4 mM [r.ph,r.co,r.ix]++[10]:=rfl
 rw [e1,e2]
 unfold Ej
 simp only [List.append_assoc]
theorem Fo (r:Rn):dA r=dV (lP r++[j4 jn [sumOf r]]):=by
 unfold dA fin
 rw [sy,Fm,iD]
 show _=_++(_++[])
 rw [List.append_nil,<-Fm]
 rfl
structure Lw (r:Rn):Prop where
 g:1<=r.g/\r.g<=16
 aJ:rU r.aJ
 aQ:rU r.aQ
 aI:rU r.aI
 ph:rU r.ph
 co:rU r.co
 ix:rU r.ix
 aj:∀ i,rU (r.aj.getD i 0)
 ah:∀ l∈r.ah,∀ x∈l,rU x
 aN:∀ w∈r.aN,je r.g w/\w.length<100
 sub:∀ w∈r.sub,je r.g w/\w.length<100
theorem s9 {x:Int} (h:rU x):∀ c∈af (cG x),c≠10:=fun c hc=>by have:=Ud h c hc;omega
theorem Qy {xs:List Int} (h:∀ x∈xs,rU x):∀ c∈mg xs,c≠10:=by
 intro c hc
 obtain ⟨y,hy,hc⟩:=List.mem_flatMap.1 hc
 rcases List.mem_cons.1 hc with rfl | hc
 . omega
 . exact s9 (h y hy) c hc
theorem xI {s:ByteArray} (hs:∀ c∈af s,c≠10) {xs:List Int} (h:∀ x∈xs,rU x):∀ c∈j4 s xs,c≠10:=by
 intro c hc
 rcases List.mem_append.1 hc with hc | hc
 . exact hs c hc
 . exact Qy h c hc
theorem mS {a b:ByteArray} (ha:∀ c∈af a,c≠10) (hb:∀ c∈af b,c≠10):∀ c∈af (a++b),c≠10:=by
 rw [iH]
 intro c hc
 rcases List.mem_append.1 hc with hc | hc
 . exact ha c hc
 . exact hb c hc
theorem BB {g:Int} (hg:g<=16) {tag:ByteArray} (ht:∀ c∈af tag,c≠10) {ws:List (List Int)} (h:∀ w∈ws,je g w/\w.length<100):∀ l∈vP tag ws,∀ c∈l,c≠10:=by
 intro l hl
 obtain ⟨w,hw,rfl⟩:=List.mem_map.1 hl
 obtain ⟨h1,h2⟩:=h w hw
 refine mS ht fun c hc=>?_
 rw [Bs hg h1 h2] at hc
 have:=Mw h1 h2 c hc
 omega
theorem rz (r:Rn):∀ (n i:Nat) (l:List Int),l∈Ek r n i->∃ j,l=j4 sY (r.aj.getD j 0::r.ah.getD j [])
 | 0,_,_,h=>by cases h
 | n+1,i,l,h=>by
   rcases List.mem_cons.1 h with rfl | h
   . exact ⟨i,rfl⟩
   . exact rz r n (i+1) l h
theorem Lw.row {r:Rn} (H:Lw r) (j:Nat):∀ x∈r.aj.getD j 0::r.ah.getD j [],rU x:=by
 intro x hx
 rcases List.mem_cons.1 hx with rfl | hx
 . exact H.aj j
 . rw [List.getD_eq_getElem?_getD] at hx
   cases hj:r.ah[j]? with
   | none=>rw [hj] at hx;cases hx
   | some l =>
     rw [hj] at hx
     exact H.ah l (List.mem_of_getElem? hj) x hx
theorem UR:(∀ c∈af kH,c≠10)/\(∀ c∈af hO,c≠10)/\(∀ c∈af ke,c≠10)/\(∀ c∈af jf,c≠10)/\(∀ c∈af jv,c≠10)/\(∀ c∈af nJ,c≠10)/\(∀ c∈af mL,c≠10)/\(∀ c∈af mM,c≠10)/\(∀ c∈af sY,c≠10)/\(∀ c∈af jn,c≠10):=by decide
theorem G8 (s:ByteArray):rU (jm s):=by
 have h:∀ (l:List Int) (h:Int),0<=h/\h<4294967296->0<=nW l h/\nW l h<4294967296:=by
  intro l
  induction l with
  | nil=>intro h hh;exact hh
  | cons c l ih =>
    intro h hh
    rw [nW]
    refine ih _ ?_
    simp only [IntKind.wrap,IntKind.bits,IntKind.signed]
    simp
    omega
 have:=h (af s) 2166136261 ⟨by omega,by omega⟩
 unfold jm
 rw [wrap64 (by omega) (by omega)]
 exact ⟨by omega,by omega⟩
theorem Qz {r:Rn} (H:Lw r):∀ l∈lP r++[j4 jn [sumOf r]],∀ c∈l,c≠10:=by
 obtain ⟨q1,q2,q3,q4,q5,q6,q7,q8,q9,aW⟩:=UR
 have hg:=H.g
 intro l hl
 rcases List.mem_append.1 hl with hl | hl
 . unfold lP at hl
   rcases List.mem_cons.1 hl with rfl | hl
   . exact q1
   rcases List.mem_cons.1 hl with rfl | hl
   . unfold Ej
     rw [<-iH,<-iH,<-iH]
     exact mS (mS (mS (mS q2 (s9 ⟨by omega,by omega⟩)) (mS q3 (s9 H.aJ))) (mS q4 (s9 H.aQ))) (mS q5 (s9 H.aI))
   rcases List.mem_append.1 hl with hl | hl
   . exact BB hg.2 q6 H.aN l hl
   rcases List.mem_append.1 hl with hl | hl
   . exact BB hg.2 q7 H.sub l hl
   rcases List.mem_cons.1 hl with rfl | hl
   . refine xI q8 fun x hx=>?_
     simp at hx
     rcases hx with rfl | rfl | rfl
     . exact H.ph
     . exact H.co
     . exact H.ix
   . obtain ⟨j,rfl⟩:=rz r _ _ l hl
     exact xI q9 (H.row j)
 . simp at hl
   subst hl
   refine xI aW fun x hx=>?_
   simp at hx
   subst hx
   exact G8 _
theorem Cu (s:ByteArray) (xs:List Int):t6 (j4 s xs):=oN (t7 s) (XZ xs)
theorem UU:∀ ls:List (List Int),(∀ l∈ls,t6 l)->t6 (dV ls)
 | [],_=>fun _ h=>by cases h
 | l::ls,h=>oN (oN (h l (by simp)) (fun x hx=>by simp at hx;omega)) (UU ls fun l hl=>h l (by simp [hl]))
theorem G9 (r:Rn):∀ l∈lP r++[j4 jn [sumOf r]],t6 l:=by
 intro l hl
 rcases List.mem_append.1 hl with hl | hl
 . unfold lP at hl
   rcases List.mem_cons.1 hl with rfl | hl
   . exact t7 _
   rcases List.mem_cons.1 hl with rfl | hl
   . exact oN (oN (oN (t7 _) (t7 _)) (t7 _)) (t7 _)
   rcases List.mem_append.1 hl with hl | hl
   . obtain ⟨w,_,rfl⟩:=List.mem_map.1 hl
     exact t7 _
   rcases List.mem_append.1 hl with hl | hl
   . obtain ⟨w,_,rfl⟩:=List.mem_map.1 hl
     exact t7 _
   rcases List.mem_cons.1 hl with rfl | hl
   . exact Cu _ _
   . obtain ⟨j,rfl⟩:=rz r _ _ l hl
     exact Cu _ _
 . simp at hl
   subst hl
   exact Cu _ _
def linesB (r:Rn):List ByteArray:=(lP r++[j4 jn [sumOf r]]).map bg
theorem zQ {tag:ByteArray}:∀ (ws:List (List Int)),(∀ w∈ws,je 16 w/\w.length<100)->(mN tag ws).length<=(tag.size+601)*ws.length
 | [],_=>Nat.zero_le _
 | w::ws,h=>by
   obtain ⟨h1,h2⟩:=h w (by simp)
   have ih:=zQ (tag:=tag) ws fun w hw=>h w (by simp [hw])
   have hz:=pG (Int.le_refl 16) h1 h2
   have hl:=lq (tag++gC w) [] (fun x hx=>by cases hx)
   have ha:(tag++gC w).size=tag.size+(gC w).size:=ByteArray.size_append ..
   show (dH _ _++mN tag ws).length<=_
   rw [List.length_append,List.length_cons]
   simp only [List.length_nil] at hl
   have:(tag.size+601)*(ws.length+1)=(tag.size+601)*ws.length+(tag.size+601):=by rw [Nat.mul_add,Nat.mul_one]
   omega
theorem zR {r:Rn} (H:Sv r):∀ n i,i+n<=r.ah.length->(iX r n i).length<=730*n
 | 0,_,_=>Nat.zero_le _
 | n+1,i,h=>by
   have ih:=zR H n (i+1) (by omega)
   have hm:=iK (l:=r.ah) (a:=i) (by omega)
   obtain ⟨h1,h2⟩:=H.rl _ hm
   have hp:r.aj.getD i 0∈r.aj:=jX (by have:=H.pl;omega)
   have hl:=lq sY (r.aj.getD i 0::r.ah.getD i []) fun x hx=>by
    rcases List.mem_cons.1 hx with rfl | hx
    . exact H.pr _ hp
    . exact h2 x hx
   rw [List.length_cons] at hl
   have Ic:sY.size=3:=rfl
   rw [iX,List.length_append]
   unfold HV
   omega
theorem Lx {r:Rn} (H:Sv r):(pJ r).length<=870000:=by
 have h1:=fZ r.g H.g
 have h2:=fZ r.aJ H.aJ
 have h3:=fZ r.aQ H.aQ
 have h4:=fZ r.aI H.aI
 have a1:(hO++cG r.g).size=5+(cG r.g).size:=ByteArray.size_append ..
 have a2:(ke++cG r.aJ).size=7+(cG r.aJ).size:=ByteArray.size_append ..
 have a3:(jf++cG r.aQ).size=6+(cG r.aQ).size:=ByteArray.size_append ..
 have a4:(jv++cG r.aI).size=8+(cG r.aI).size:=ByteArray.size_append ..
 have g0:(dH kH []).length=8:=rfl
 have w1:=zQ (tag:=nJ) r.aN H.aN
 have w2:=zQ (tag:=mL) r.sub H.sub
 have z1:nJ.size=4:=rfl
 have z2:mL.size=4:=rfl
 rw [z1] at w1
 rw [z2] at w2
 have vL:=H.nr
 have hns:=H.ns
 have hn1:=H.n1
 have hr:=zR H r.ah.length 0 (by omega)
 have ha:=lq mM [r.ph,r.co,r.ix] (fun x hx=>by simp at hx;rcases hx with rfl | rfl | rfl;exact H.ph;exact H.co;exact H.ix)
 have z3:mM.size=2:=rfl
 simp only [List.length_cons,List.length_nil] at ha
 unfold pJ Qc
 simp only [List.length_append,bq,List.length_cons,List.length_nil]
 omega
theorem N8 (r:Rn):dA r=pJ r++(j4 jn [sumOf r]++[10]):=rfl
theorem xJ (s:ByteArray) (xs:List Int) (h:∀ x∈xs,j8 x):(j4 s xs).length<=s.size+22*xs.length:=by
 have:=zy xs h
 unfold j4
 rw [List.length_append,bq]
 omega
theorem shl {r:Rn} (H:Lw r) (S:Sv r):Sh2 (linesB r):=by
 have hb:=Lx S
 have h1:=fZ r.g S.g
 have h2:=fZ r.aJ S.aJ
 have h3:=fZ r.aQ S.aQ
 have h4:=fZ r.aI S.aI
 have a1:(hO++cG r.g).size=5+(cG r.g).size:=ByteArray.size_append ..
 have a2:(ke++cG r.aJ).size=7+(cG r.aJ).size:=ByteArray.size_append ..
 have a3:(jf++cG r.aQ).size=6+(cG r.aQ).size:=ByteArray.size_append ..
 have a4:(jv++cG r.aI).size=8+(cG r.aI).size:=ByteArray.size_append ..
 have hw:∀ {tag:ByteArray} {ws:List (List Int)},tag.size<=10->(∀ w∈ws,je 16 w/\w.length<100)->∀ l∈vP tag ws,l.length<=20000:=by
  intro tag ws ht hw l hl
  obtain ⟨w,hw',rfl⟩:=List.mem_map.1 hl
  obtain ⟨q1,q2⟩:=hw w hw'
  have hz:=pG (Int.le_refl 16) q1 q2
  have ha:(tag++gC w).size=tag.size+(gC w).size:=ByteArray.size_append ..
  rw [bq]
  omega
 intro b hb
 obtain ⟨l,hl,rfl⟩:=List.mem_map.1 hb
 rw [kI]
 rcases List.mem_append.1 hl with hl | hl
 . unfold lP at hl
   rcases List.mem_cons.1 hl with rfl | hl
   . decide
   rcases List.mem_cons.1 hl with rfl | hl
   . unfold Ej
     simp only [List.length_append,bq]
     omega
   rcases List.mem_append.1 hl with hl | hl
   . exact hw (by decide) S.aN l hl
   rcases List.mem_append.1 hl with hl | hl
   . exact hw (by decide) S.sub l hl
   rcases List.mem_cons.1 hl with rfl | hl
   . have:=xJ mM [r.ph,r.co,r.ix] (fun x hx=>by simp at hx;rcases hx with rfl | rfl | rfl;exact S.ph;exact S.co;exact S.ix)
     have z:mM.size=2:=rfl
     simp only [List.length_cons,List.length_nil] at this
     omega
   . obtain ⟨j,rfl⟩:=rz r _ _ l hl
     have:=xJ sY _ fun x hx=>by have:=H.row j x hx;unfold rU at this;exact ⟨by omega,by omega⟩
     have z:sY.size=3:=rfl
     have FZ:(r.ah.getD j []).length<=32:=by
      rw [List.getD_eq_getElem?_getD]
      cases hj:r.ah[j]? with
      | none=>exact Nat.zero_le _
      | some l=>exact (S.rl l (List.mem_of_getElem? hj)).1
     rw [List.length_cons] at this
     omega
 . simp at hl
   subst hl
   have:=xJ jn [sumOf r] (fun x hx=>by simp at hx;subst hx;exact wrap_i64 _)
   have z:jn.size=3:=rfl
   simp only [List.length_cons,List.length_nil] at this
   omega
def Ou:bP:=JG (.t,.dec true,[])
theorem Q8:aV Tryz.prog 4 Ou:=EZ (by kernel_rfl) fun _=>by
 intro base η Z w vs R0 hv hK
 refine (Q7 base η Z w vs R0 hv hK).mono ?_
 rintro e w' ⟨u,aE,Z',h4,h5,h6⟩
 exact ⟨u,aE,Z',h4,h5,h6.2⟩
theorem Vi {r:Rn} (F:dh r) (m:Mo r) (h0:0<r.ah.length) (h1:r.ah.length<=1000) (hg:1<=r.g/\r.g<=3) (hr:rA r.g r.aN) (hs:rA r.g r.sub) (hl:0<=r.aJ/\r.aJ<=1000000) (hst:0<=r.aI/\r.aI<=2) (hp:(0<=r.ph/\r.ph<=3)/\(0<=r.co/\r.co<=r.ah.length)/\(0<=r.ix/\r.ix<=1000)):Lw r:=by
 have cB:r.aj.length=r.ah.length:=F.len
 have hpar:l9 r.aj:=F.aj
 have hrow:∀ l∈r.ah,Row (2*r.g).toNat r.ah.length l:=F.row
 have hlo:=m.lo
 have hhi:=m.hi
 have hlp:=F.Ct h0
 have hw:∀ {rs:List (List Int)},rA r.g rs->∀ w∈rs,je r.g w/\w.length<100:=fun H w hw=>by
  obtain ⟨a,b⟩:=H.w w hw
  exact ⟨fun x hx=>by have:=b x hx;omega,by omega⟩
 refine ⟨by omega,⟨by omega,by omega⟩,⟨by omega,by omega⟩,⟨by omega,by omega⟩,⟨by omega,by omega⟩,⟨by omega,by omega⟩,⟨by omega,by omega⟩,fun i=>?_,fun l hl x hx=>?_,hw hr,hw hs⟩
 . rcases Nat.lt_or_ge i r.aj.length with h | h
   . have:=hpar.2 i h
     exact ⟨by omega,by omega⟩
   . rw [List.getD_eq_getElem?_getD,List.getElem?_eq_none h]
     exact ⟨by show (-1:Int)<=0;omega,by show (0:Int)<_;omega⟩
 . have:=(hrow l hl).2 x hx
   exact ⟨by omega,by omega⟩
end Go.Proofs.YtmajgbnpplgaoaaGreatDoor
