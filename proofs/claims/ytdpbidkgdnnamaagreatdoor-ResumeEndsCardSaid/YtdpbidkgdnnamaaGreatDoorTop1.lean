/- Runs that are cut into pieces: their tables, their way. -/
import Derived.Test.YtdpbidkgdnnamaaGreatDoorCo1
import Derived.Test.YtdpbidkgdnnamaaGreatDoorBack1
import Derived.Test.YtdpbidkgdnnamaaGreatDoorSave1
import Derived.Test.YtdpbidkgdnnamaaGreatDoorLoom4
import Derived.Test.YtdpbidkgdnnamaaGreatDoorCards
import Derived.Test.YtdpbidkgdnnamaaGreatDoorTie
import Derived.WalkKit
import Derived.ProofKit
import Derived.OpenShut
import Derived.Deep.DeepHandedRow
import Derived.Lib.LaidTab
import Derived.Test.YtdpbidkgdnnamaaGreatDoorMill1
open Nat renaming eq_of_beq_eq_true->acP,beq->acS,sub_zero->ac1,zero_add->ac2,zero_le->ac3
open List renaming length->acQ,length_append->acT,getD_eq_getElem?_getD->acU,flatten_append->acW,take->acX,length_cons->acY,length_nil->acZ,drop->ac0
open Int renaming le_refl->acR,toNat_of_nonneg->acV
noncomputable section
namespace Go.Proofs.YtdpbidkgdnnamaaGreatDoor
open Go.aW Go.Words Go.br
set_option maxRecDepth 100000
theorem nP{r s:Rn}(T:bF r)(S:So r s){a:Nat}(ha:a<r.af.length):s.ah.getD a 0=(a:Int)↔r.ah.getD a 0=(a:Int):=by
 have hl:=gV T;have hp:eS r.ah:=T.ah;obtain⟨p,d,n,rfl,S⟩:=S;have hpl:=S.len;exact sE S.ah hp (by show a<p.length;omega) (by omega) (S.tp a (by omega))
theorem UW{r s:Rn}(T:bF r)(S:So r s):∀ a,a<=r.af.length->rk s.ah a=rk r.ah a
 | 0,_=>rfl
 | a+1,h=>by
   rw[ng,ng,UW T S a (by omega)];have:=nP T S (a:=a) (by omega);by_cases h1:r.ah.getD a 0=(a:Int);rw[if_pos h1,if_pos (this.2 h1)];rw[if_neg h1,if_neg fun h2=>h1 (this.1 h2)]
theorem Ou(r:Rn){b:Nat}(hb:b<r.af.length)(hl:r.ah.getD b 0=(b:Int)):iR (lJ r.ah r.af.length 0 []) b=rk r.ah b :=
 Cg r.ah r.af.length 0 [] (fun b hb=>by omega) (fun s h=>by cases h) rfl b (by omega) hl
theorem tabF_so{r s:Rn}(T:bF r)(H:br.Rest r r.af.length)(S:So r s):eA s=eA r:=by
 have e1:eA r=iT r.ah (iR (lJ r.ah r.af.length 0 [])) 0 r.af:=tS _ _ _ _;have e2:eA s=iT s.ah (iR (lJ s.ah s.af.length 0 [])) 0 s.af:=tS _ _ _ _;have er:=S.af;rw[e1,e2,er];refine wu r.af 0 (fun a _ ha=>nP T S (by omega)) fun a _ ha hl x hx=>?_;have hl':=(nP T S (by omega)).1 hl;rw[ac1] at hx;obtain⟨x0,x1,x2⟩:=Ed T H (by omega) hl' x hx;have a1:=Ou r x1 x2;have a2:=Ou s (by rw[er];exact x1) ((nP T S x1).2 x2);rw[acV x0] at a1 a2;rw[er] at a2;rw[a1,a2,UW T S _ (by omega)]
theorem tabC_so{r s:Rn}(T:bF r)(H:br.Rest r r.af.length)(S:So r s):jX s=eA r:=by
 have e1:eA r=iT r.ah (iR (lJ r.ah r.af.length 0 [])) 0 r.af:=tS _ _ _ _;have er:=S.af;unfold jX;rw[e1,er];refine wu r.af 0 (fun a _ ha=>nP T S (by omega)) fun a _ ha hl x hx=>?_;have hl':=(nP T S (by omega)).1 hl;rw[ac1] at hx;obtain⟨x0,x1,x2⟩:=Ed T H (by omega) hl' x hx;have a1:=Ou r x1 x2;have a2:=(QU s).2 x.toNat (by rw[er];exact x1) ((nP T S x1).2 x2);rw[acV x0] at a1;rw[a1,a2,UW T S _ (by omega)]
theorem acr{r s:Rn}(T:bF r)(H:br.Rest r r.af.length)(S:So r s):y6 s:=by
 intro a ha hl x hx;rw[S.af] at ha hx ⊢;have hl':=(nP T S ha).1 hl;obtain⟨x0,x1,_⟩:=Ed T H ha hl' x hx;exact⟨x0,x1⟩
theorem J0:∀(l:List Int)(x:Mp×List Int)(out:List Int),(lF l x out).2.length=out.length+l.length
 | [],_,_=>rfl
 | s::r,x,out=>by
   rw[lF,J0 r,acT,acY,acY,acZ];omega
theorem Gb{t:List (List Int)}{M:Nat}(ht:∀ l∈t,l.length<=M):∀(f k:Nat)(x:Mp×List Int)(out u:List (List Int)),(∀ l∈out,l.length<=M)->AU t f k x out=some u->∀ l∈u,l.length<=M
 | 0,_,_,_,_,_,e=>by cases e
 | f + 1, k, x, out, u, ho, e => by
   rw[AU] at e;split at e;refine Gb ht f _ _ _ _ (fun l hl=>?_) e;rcases List.mem_append.1 hl with hl|hl;exact ho l hl;rw[List.mem_singleton.1 hl,J0,acZ,ac2];rcases Nat.lt_or_ge (x.2.getD k 0).toNat t.length with h|h;exact ht _ (eI h);rw[acU,List.getElem?_eq_none h];exact ac3 _;cases e;exact ho
theorem YQ{g:Int}{t u:List (List Int)}(H:vE g t u):u.length<=1000000/\∀ l∈u,l.length<=1000:=by
 obtain⟨h1,h2,h3,h4⟩:=H;have hg:=h1.g1;have hn:=h1.n;exact⟨by omega,fun l hl=>Nat.le_trans (Gb (M:=32) (fun l hl=>by have:=h1.w l hl;omega) _ _ _ _ _ (fun l hl=>by cases hl) h3 l hl) (by omega)⟩
def sG(r:Rn):Int:=if r.aA=1 then 0 else 12
abbrev sR(F:Rn):A:=.aL [.c (.rd (.sl (.int .i64)) (l7 F)),.agg [.int .i64 (oN F),.int .i64 (oO F),.int .i64 0],.c (.int .i64 (sG F))]
def cEnum:bQ:=xC fun g r s n=>(.p (Begins g n r s/\n<=1000),sR (eY (cT g n r s)),[])
theorem hang0(g aq:Int)(ax sub:List (List Int)):kq (cT g aq ax sub):=fun a ha=>by
 have ha:a<1:=ha;have:a=0:=by omega
 subst this;exact .refl 0
theorem YR{g aq:Int}{ax sub:List (List Int)}(B:Begins g aq ax sub)(h1:(eY (cT g aq ax sub)).aA=1):bF (eY (cT g aq ax sub))/\br.Rest (eY (cT g aq ax sub)) (eY (cT g aq ax sub)).af.length/\kq (eY (cT g aq ax sub))/\0<(eY (cT g aq ax sub)).af.length/\(eY (cT g aq ax sub)).af.length<=aq:=by
 have G:=B.good;have R:=xA G 2000;have P:=X1 G (YP g aq ax sub) rfl 2000;have hr:=P.aU;have h1':(run (cT g aq ax sub) 2000).1.aA=1:=h1;rw[if_pos h1'] at hr;have hgr:=R.grown;have h0:(cT g aq ax sub).af.length=1:=rfl;have hl:(cT g aq ax sub).aq=aq:=rfl;have Jy:=R.aq;exact⟨R.bw,hr,Nv G (YP g aq ax sub) rfl (hang0 g aq ax sub) 2000,by show 0<(run (cT g aq ax sub) 2000).1.af.length;omega,by show ((run (cT g aq ax sub) 2000).1.af.length:Int)<=aq;omega⟩
theorem Rd.ps{r:Rn}(H:Rd r)(hs:r.aA≠1):Ps r:=by
 have h:=H.aU;rw[if_neg hs] at h;refine⟨h,fun h0=>?_,fun h2=>?_⟩;rcases H.xH hs with ⟨_,h,_⟩|⟨h,_⟩|⟨h,_⟩;exact h;omega;omega;rcases H.xH hs with ⟨h,_⟩|⟨h,_⟩|⟨_,h⟩;omega;omega;exact⟨(H.co hs).2.2,h⟩
structure xM(g aq:Int)(ax sub:List (List Int))(i:Nat)(r:Rn):Prop where
 bk:Bk r
 way:br.Way (eY (cT g aq ax sub)) r
 g:r.g=g
 ax:r.ax=ax
 sub:r.sub=sub
 aq:r.aq=aq
 far:r.aA=0->i<r.af.length
 hang:kq r
theorem acs{g aq:Int}{ax sub:List (List Int)}(B:Begins g aq ax sub)(hl:1<=aq/\aq<=1000)(hg:1<=g/\g<=3)(hr:oM g ax)(hs:oM g sub):Bk (cT g aq ax sub):=by
 have G:=B.good;have m0:=YC g aq ax sub;have l0:(cT g aq ax sub).af.length=1:=rfl;have pp:(0<=(cT g aq ax sub).ph/\(cT g aq ax sub).ph<=3)/\(0<=(cT g aq ax sub).co/\(cT g aq ax sub).co<=(cT g aq ax sub).af.length)/\(0<=(cT g aq ax sub).ix/\(cT g aq ax sub).ix<=1000):=⟨⟨acR _,by show (0:Int)<=3;omega⟩,⟨acR _,by show (0:Int)<=(1:Nat);omega⟩,⟨acR _,by show (0:Int)<=1000;omega⟩⟩;have ps:0<=(cT g aq ax sub).aA/\(cT g aq ax sub).aA<=2:=⟨acR _,by show (0:Int)<=2;omega⟩;have pl:0<=(cT g aq ax sub).aq/\(cT g aq ax sub).aq<=1000000:=⟨by show 0<=aq;omega,by show aq<=_;omega⟩;refine⟨⟨G.bw,m0,⟨Ot g aq ax sub,(fun h=>by cases h),fun _=>.inl ⟨rfl,rfl,acR _,.inl (by show (0:Int)<1;omega)⟩,fun _=>⟨acR _,by show (0:Int)<(1:Nat);omega,rfl⟩⟩,B,by omega,by show ((1:Nat):Int)<=aq;omega,ps⟩,?_,?_⟩;exact YN G.bw m0 (by omega) (by omega) hg hr hs pl ps pp;exact sv_of G.bw m0 (by omega) (by omega) hg hr hs pl ps pp
theorem xM.first{g aq:Int}{ax sub:List (List Int)}(B:Begins g aq ax sub)(hl:1<=aq/\aq<=1000)(hg:1<=g/\g<=3)(hr:oM g ax)(hs:oM g sub):xM g aq ax sub 0 (cT g aq ax sub) :=
 ⟨acs B hl hg hr hs,br.Way.start B.good rfl (by show aq<=1000;omega),rfl,rfl,rfl,rfl,fun _=>by show 0<1;omega,hang0 g aq ax sub⟩
theorem xM.step{g aq:Int}{ax sub:List (List Int)}{i:Nat}{r:Rn}(I:xM g aq ax sub i r)(hl:1<=aq/\aq<=1000)(hg:1<=g/\g<=3)(hr:oM g ax)(hs:oM g sub)(h0:r.aA=0){N:Int}(hN:1<=N):cX r/\(di r N).2.2=0/\xM g aq ax sub (i+1) (di r N).1:=by
 have G:=(I.way.go h0).1;have K:=I.bk.aU;have X:=N7 G K.mo h0 hN;have P:Ps r:=K.sp.ps (by omega);have hf:=I.far h0;have e:=step_eq h0 hN;have hsp:Sp (di r N).1:=by rw[e];exact X1 G P h0 N.toNat
 have hw:br.Way (eY (cT g aq ax sub)) (di r N).1:=by rw[e];exact I.way.step h0 N.toNat
 have hh:kq (di r N).1:=by rw[e];exact Nv G P h0 I.hang N.toNat
 have x1:=X.len;have x2:=X.qL;have x3:=X.aq;have il:=I.aq;have ig:=I.g;obtain⟨e1,e2,e3,e4⟩:=X.same;rw[I.g] at e1;rw[I.ax] at e2;rw[I.sub] at e3;rw[il] at e4;have xp:0<(di r N).1.af.length:=by omega
 have xg:=X.go;refine⟨G,X.err,⟨⟨⟨X.bw,X.mo,Rd.of hsp,?_,xp,by omega,X.aA⟩,?_,?_⟩,hw,e1,e2,e3,e4,fun h=>?_,hh⟩⟩;have B:=K.B;rw[I.g,I.ax,I.sub,il] at B;rw[e1,e2,e3,e4];exact B;exact YN X.bw X.mo xp (by omega) (by rw[e1];exact hg) (by rw[e1,e2];exact hr) (by rw[e1,e3];exact hs) (by rw[e4];omega) X.aA X.pos;exact sv_of X.bw X.mo xp (by omega) (by rw[e1];exact hg) (by rw[e1,e2];exact hr) (by rw[e1,e3];exact hs) (by rw[e4];omega) X.aA X.pos;have:=(xg h).1;omega
theorem YS{r:Rn}(T:bF r):So r (forget r):=⟨r.ah,[],0,rfl,⟨rfl,T.ah,fun _ _=>rfl,fun x hx=>by cases hx⟩⟩
theorem xM.load{g aq:Int}{ax sub:List (List Int)}{i:Nat}{r:Rn}(I:xM g aq ax sub i r):xM g aq ax sub i (forget r):=by
 have K:=I.bk;refine⟨⟨Dh K.aU,?_,JY K.sv⟩,I.way.alike (YS K.aU.bw),I.g,I.ax,I.sub,I.aq,I.far,I.hang.same rfl rfl rfl⟩;obtain⟨t1,t2,t3,t4,t5,t6,t7,t8,t9,t10,t11⟩:=K.txt;exact⟨t1,t2,t3,t4,t5,t6,t7,t8,t9,t10,t11⟩
theorem xM.done{g aq:Int}{ax sub:List (List Int)}{i:Nat}{r:Rn}(I:xM g aq ax sub i r)(h:r.aA≠0):r.aA=(eY (cT g aq ax sub)).aA/\r.af=(eY (cT g aq ax sub)).af/\r.aH=(eY (cT g aq ax sub)).aH/\(r.aA=1->ol r/\l7 r=l7 (eY (cT g aq ax sub))/\0<(l7 r).length):=by
 have K:=I.bk.aU;have S:=I.way.no h;have B:=K.B;rw[I.g,I.ax,I.sub,I.aq] at B;have e:=S.p9;refine⟨e.1,S.af,e.2.2.2.2.2.2.1,fun h1=>?_⟩;have hs1:(eY (cT g aq ax sub)).aA=1:=by rw[<-e.1];exact h1
 obtain⟨f1,f2,f3,f4,f5⟩:=YR B hs1;have hbl:=B.aq;have et:=tabF_so f1 f2 S;have hr:=K.sp.aU;rw[if_pos h1] at hr;have ht:=TS K.bw hr I.hang K.n1 (by have:=K.nl;have:=I.aq;omega);refine⟨ht,?_,?_⟩;unfold l7;rw[if_pos h1,if_pos hs1,et];have bN:=ht.std.2.2.2;have hpos:0<(eA r).length:=by
  have e1:eA r=iT r.ah (iR (lJ r.ah r.af.length 0 [])) 0 r.af:=tS _ _ _ _;have:=Bb r.ah (iR (lJ r.ah r.af.length 0 [])) r.af 0;rw[<-e1,ac2] at this;have e0:rk r.ah 0=0:=rfl;have hal:rk r.ah r.af.length=al r.ah:=by rw[<-gV K.bw];rfl
  have hap:=AK (ah:=r.ah) K.bw.ah (by have:=gV K.bw;have:=K.n1;omega);omega
 unfold l7;rw[if_pos h1];omega
abbrev acu:A:=.p (.c (.func 74 [(0,0)]))
theorem YT(x g:Int):bA Tryz.prog 74 [nI x,.p (.c (.ptr 0 0))] [kK g] (bB (d9 g x)) [kK g]:=by
 refine bU (aj:=[]) aG Tryz.func74 (by kernel_rfl) (ay:=1) rfl (by kernel_rfl) 100 ?_;apply of_eq (q:=let q1:=(bif decide (x=0) then true else decide (x<IntKind.i64.wrap ((0:Int)-g)))=false;let q2:=decide (x=0)=false;(q2->q2)/\(q2->q2)/\(q2->q2)/\(q2->q2)/\(q1->q1)/\(q1->q1)/\(q1->q1)/\aE [vB (bif bif decide (x=0) then true else decide (x<IntKind.i64.wrap ((0:Int)-g)) then true else decide (g<x))]=bB (d9 g x)/\[Ob.mk 3 [fI g]]=[kK g]) (by kernel_rfl)
 try simp only[sL]
 rfl
def Gc:Ob->Option Int
 | ⟨t,[.c (.int .i64 g)]⟩=>bif acS t 3 then some g else none
 | _=>none
theorem Ek{o:Ob}{g:Int}(e:Gc o=some g):o=kK g:=by
 unfold Gc at e;split at e;obtain⟨hb,e1⟩:=aC.aK e;clear e;cases acP hb;cases e1;rfl;cases e
def Ov:bQ:={ cI:=[false,true],f:=fun args au=>match args,au with
 | [.p (.c (.int .i64 x)),.p (.c (.ptr 0 0))],[o]=>match Gc o with
   | some g=>some (.t,bB (d9 g x),[kK g])
   | none=>none
 | _,_=>none }
theorem YU:aM Tryz.prog 74 Ov:=by
 refine⟨by kernel_rfl,fun args au c r bg e hc=>?_⟩;simp only[Ov] at e;split at e;split at e;rename_i h;cases e;rw[Ek h];exact YT _ _;cases e;cases e
def acv:bW:=[(74,Ov)]
theorem Rk:bt Tryz.prog acv:=ar YU aG
def sIxF:bJ:=eJ Tryz.prog acv Tryz.f81 1 [([0,1,0,1],[0,1,7,8])]
theorem Ow(w:List Int)(g:Int)(hl:w.length<=1000000)(hw:∀ x∈w,d9 g x=false):∀(k i:Nat),k=w.length-i->i<=w.length->
 av sIxF (aD (nI (-1)) [kK g]) [0,1,0,1] (fr [(0,bI w),(1,acu),(7,nI w.length),(8,nI i)]) (.ofList [kK g])
 | k,i,hk,hi=>by
   refine aN Rk (by kernel_rfl) 100 ?_;apply of_eq (q:=(decide ((i:Int)<(w.length:Int))=true->((0:Int)<=(i:Int)/\(i:Int)<(w.length:Int))/\i<w.length/\(d9 g (w.getD i (0:Int))=true->aE [vI (i:Int)]=nI (-1:Int)/\[Ob.mk 3 [fI g]]=[kK g])/\(d9 g (w.getD i (0:Int))=false->av sIxF (aD (nI (-1:Int)) [kK g]) [0,1,0,1] (fr [(0,bI w),(1,aP (W.func 74 [(0,(0:Nat))])),(7,nI (w.length:Int)),(8,nI (IntKind.i64.wrap ((i:Int)+1)))]) (ak.ofList [Ob.mk 3 [fI g]])))/\(decide ((i:Int)<(w.length:Int))=false->aE [vI (-1)]=nI (-1:Int)/\[Ob.mk 3 [fI g]]=[kK g])) (by kernel_rfl)
   try simp only[sL]
   rw[wrap64 (n:=(i:Int)+1) (by omega) (by omega)];refine⟨fun h=>⟨by omega,by omega,fun g=>?_,fun g=>?_⟩,fun h=>rfl⟩;rw[hw _ (fW (by omega))] at g;cases g;cases k with
   | zero=>omega
   | succ k=>exact Ow w _ hl hw k (i+1) (by omega) (by omega)
def acw:bQ:={ cI:=[false,true],f:=fun args au=>match args,au with
 | [x,y],[o]=>match gq dI x,Gc o with
   | some w,some g=>bif AR 74 y then some (.p (acQ (α:=Int) w<=1000000/\∀ x∈(w:List Int),d9 g x=false),nI (-1),[kK g]) else none
   | _,_=>none
 | _,_=>none }
theorem cIxF_ok:aM Tryz.prog 81 acw:=by
 refine⟨by kernel_rfl,fun args au c r bg e hc=>?_⟩;simp only[acw] at e;split at e;split at e;rename_i w g hw ht;obtain⟨hf,e⟩:=aC.aK e;cases e;rw[tO hf,Ek ht];have:bA Tryz.prog 81 [bI w,acu] [kK g] (nI (-1)) [kK g]:=by
  refine bU (aj:=[([0,1,0,1],[0,1,7,8])]) Rk Tryz.func81 (by kernel_rfl) (ay:=1) rfl (by kernel_rfl) 100 ?_;apply of_eq (q:=av (eJ Tryz.prog acv Tryz.f81 (1:Nat) [([0,1,0,1],[0,1,7,8])]) (aD (nI (-1:Int)) [kK g]) [0,1,0,1] (fr [(0,bI w),(1,aP (W.func 74 [(0,(0:Nat))])),(7,nI (↑(acQ w):Int)),(8,nI (0))]) (ak.ofList [Ob.mk 3 [fI g]])) (by kernel_rfl)
  try simp only[sL,Int.reduceEq,Int.reduceNe,Nat.reduceAdd]
  exact Ow w g hc.1 hc.2 w.length 0 (by omega) (by omega)
 exact this.args fun η Z vs h=>by
  cases vs with
  | nil=>exact h.elim
  | cons v vs=>exact⟨cF hw h.1,h.2⟩
 cases e;cases e
def gCoF:bW:=[(81,acw)]
theorem gCoF_ok:bt Tryz.prog gCoF:=ar cIxF_ok aG
def acy:bQ:={ cI:=[false,true],f:=fun args au=>match args,au with
 | [x,y],[o]=>match gq dI x,Gc o with
   | some w,some g=>bif AR 74 y then some (.p (acQ (α:=Int) w<=1000000/\∀ x∈(w:List Int),d9 g x=false),bB false,[kK g]) else none
   | _,_=>none
 | _,_=>none }
theorem cCoF_ok:aM Tryz.prog 52 acy:=by
 refine⟨by kernel_rfl,fun args au c r bg e hc=>?_⟩;simp only[acy] at e;split at e;split at e;rename_i w g hw ht;obtain⟨hf,e⟩:=aC.aK e;cases e;rw[tO hf,Ek ht];have:bA Tryz.prog 52 [bI w,acu] [kK g] (bB false) [kK g]:=by
  refine bU (aj:=[]) gCoF_ok Tryz.func52 (by kernel_rfl) (ay:=1) rfl (by kernel_rfl) 100 ?_;apply of_eq (q:=(acQ w<=1000000/\∀(x:Int),x∈w->d9 g x=false)/\aE [vB (decide ((0:Int)<=(-1:Int)))]=bB false/\[Ob.mk 3 [fI g]]=[kK g]) (by kernel_rfl)
  try simp only[sL]
  exact⟨⟨hc.1,hc.2⟩,rfl⟩
 exact this.args fun η Z vs h=>by
  cases vs with
  | nil=>exact h.elim
  | cons v vs=>exact⟨cF hw h.1,h.2⟩
 cases e;cases e
def gFn:bW:=[(52,acy)]
theorem gFn_ok:bt Tryz.prog gFn:=ar cCoF_ok aG
theorem acz(g:Int)(w:List Int)(h:w.length<=1000000/\∀ x∈w,d9 g x=false):bA Tryz.prog 45 [nI g,bI w] [] (bB true) []:=by
 refine bU (aj:=[]) gFn_ok Tryz.func45 (by kernel_rfl) (ay:=0) rfl (by kernel_rfl) 100 ?_;apply of_eq (q:=(w.length<=1000000/\∀(x:Int),x∈w->d9 g x=false)/\aE [vB !false]=bB true/\([]:List Ob)=[]) (by kernel_rfl)
 try simp only[sL]
 exact⟨h,rfl⟩
def cFine:bQ:=kJ (.int .i64) dI fun g w=>(.p (acQ (α:=Int) w<=1000000/\∀ x∈(w:List Int),d9 g x=false),bB true,[])
theorem acA:aM Tryz.prog 45 cFine:=gF (by kernel_rfl) fun g w h=>acz g w h
abbrev xO(g:Int)(l:List (List Int)):Prop:=∀ w∈l,w.length<=1000000/\∀ x∈w,d9 g x=false
def gCe:bW:=[(45,cFine)]
theorem gCe_ok:bt Tryz.prog gCe:=ar acA aG
theorem YV(w:List Int)(g:Int)(r:List (List Int))(h:w.length<=1000000/\∀ x∈w,d9 g x=false):bA Tryz.prog 44 [bI w,.p (.c (.ptr 0 0))] [fM g r] (bB false) [fM g r]:=by
 refine bU (aj:=[]) gCe_ok Tryz.func44 (by kernel_rfl) (ay:=1) rfl (by kernel_rfl) 100 ?_;apply of_eq (q:=(w.length<=1000000/\∀(x:Int),x∈w->d9 g x=false)/\aE [vB !true]=bB false/\[Ob.mk 26 [fI g,fL r]]=[fM g r]) (by kernel_rfl)
 try simp only[sL]
 exact⟨h,rfl⟩
def Ox:Ob->Option (Int×List (List Int))
 | ⟨t,[.c (.int .i64 g),.c (.rd (.sl (.int .i64)) r)]⟩=>bif acS t 26 then some (g,r) else none
 | _=>none
theorem Hy{o:Ob}{g:Int}{r:List (List Int)}(e:Ox o=some (g,r)):o=fM g r:=by
 unfold Ox at e;split at e;obtain⟨hb,e1⟩:=aC.aK e;clear e;cases acP hb;cases e1;rfl;cases e
def Oy:bQ:={ cI:=[false,true],f:=fun args au=>match args,au with
 | [y,.p (.c (.ptr 0 0))],[o]=>match gq dI y,Ox o with
   | some w,some (g,r)=>some (.p (acQ (α:=Int) w<=1000000/\∀ x∈(w:List Int),d9 g x=false),bB false,[fM g r])
   | _,_=>none
 | _,_=>none }
theorem YW:aM Tryz.prog 44 Oy:=by
 refine⟨by kernel_rfl,fun args au c r bg e hc=>?_⟩;simp only[Oy] at e;split at e;split at e;rename_i w g r hw h;cases e;rw[Hy h];exact(YV w g r hc).args fun η Z vs h=>by
  cases vs with
  | nil=>exact h.elim
  | cons v vs=>exact⟨cF hw h.1,h.2⟩
 cases e;cases e
abbrev acB:A:=.p (.c (.func 44 [(0,0)]))
def acC:bW:=[(44,Oy)]
theorem Rl:bt Tryz.prog acC:=ar YW aG
def sIxE:bJ:=eJ Tryz.prog acC Tryz.f73 1 [([0,1,0,1],[0,1,7,8])]
theorem Oz(l:List (List Int))(g:Int)(r:List (List Int))(hl:l.length<=1000000)(hw:xO g l):∀(k i:Nat),k=l.length-i->i<=l.length->
 av sIxE (aD (nI (-1)) [fM g r]) [0,1,0,1] (fr [(0,bK l),(1,acB),(7,nI l.length),(8,nI i)]) (.ofList [fM g r])
 | k,i,hk,hi=>by
   refine aN Rl (by kernel_rfl) 100 ?_;apply of_eq (q:=(decide ((i:Int)<(l.length:Int))=true->((0:Int)<=(i:Int)/\(i:Int)<(l.length:Int))/\i<l.length/\((l.getD i []).length<=1000000/\∀(x:Int),x∈l.getD i []->d9 g x=false)/\(false=true->aE [vI (i:Int)]=nI (-1:Int)/\[Ob.mk 26 [fI g,fL r]]=[fM g r])/\(false=false->av sIxE (aD (nI (-1:Int)) [fM g r]) [0,1,0,1] (fr [(0,bK l),(1,aP (W.func 44 [(0,(0:Nat))])),(7,nI (l.length:Int)),(8,nI (IntKind.i64.wrap ((i:Int)+1)))]) (ak.ofList [Ob.mk 26 [fI g,fL r]])))/\(decide ((i:Int)<(l.length:Int))=false->aE [vI (-1)]=nI (-1:Int)/\[Ob.mk 26 [fI g,fL r]]=[fM g r])) (by kernel_rfl)
   try simp only[sL]
   rw[wrap64 (n:=(i:Int)+1) (by omega) (by omega)];refine⟨fun h=>⟨by omega,by omega,hw _ (eI (by omega)),(fun h=>by cases h),fun _=>?_⟩,fun h=>rfl⟩;cases k with
   | zero=>omega
   | succ k=>exact Oz l g r hl hw k (i+1) (by omega) (by omega)
def acD:bQ:={ cI:=[false,true],f:=fun args au=>match args,au with
 | [x,y],[o]=>match gq dL x,Ox o with
   | some l,some (g,r)=>bif AR 44 y then some (.p (acQ (α:=List Int) l<=1000000/\xO g l),nI (-1),[fM g r]) else none
   | _,_=>none
 | _,_=>none }
theorem cIxE_ok:aM Tryz.prog 73 acD:=by
 refine⟨by kernel_rfl,fun args au c r bg e hc=>?_⟩;simp only[acD] at e;split at e;split at e;rename_i l g r hw ht;obtain⟨hf,e⟩:=aC.aK e;cases e;rw[tO hf,Hy ht];have:bA Tryz.prog 73 [bK l,acB] [fM g r] (nI (-1)) [fM g r]:=by
  refine bU (aj:=[([0,1,0,1],[0,1,7,8])]) Rl Tryz.func73 (by kernel_rfl) (ay:=1) rfl (by kernel_rfl) 100 ?_;apply of_eq (q:=av (eJ Tryz.prog acC Tryz.f73 (1:Nat) [([0,1,0,1],[0,1,7,8])]) (aD (nI (-1:Int)) [fM g r]) [0,1,0,1] (fr [(0,bK l),(1,aP (W.func 44 [(0,(0:Nat))])),(7,nI (↑(acQ l):Int)),(8,nI (0))]) (ak.ofList [Ob.mk 26 [fI g,fL r]])) (by kernel_rfl)
  try simp only[sL,Int.reduceEq,Int.reduceNe,Nat.reduceAdd]
  exact Oz l g r hc.1 hc.2 l.length 0 (by omega) (by omega)
 exact this.args fun η Z vs h=>by
  cases vs with
  | nil=>exact h.elim
  | cons v vs=>exact⟨cF hw h.1,h.2⟩
 cases e;cases e
def gCoE:bW:=[(73,acD)]
theorem gCoE_ok:bt Tryz.prog gCoE:=ar cIxE_ok aG
def acE:bQ:={ cI:=[false,true],f:=fun args au=>match args,au with
 | [x,y],[o]=>match gq dL x,Ox o with
   | some l,some (g,r)=>bif AR 44 y then some (.p (acQ (α:=List Int) l<=1000000/\xO g l),bB false,[fM g r]) else none
   | _,_=>none
 | _,_=>none }
theorem cCoE_ok:aM Tryz.prog 43 acE:=by
 refine⟨by kernel_rfl,fun args au c r bg e hc=>?_⟩;simp only[acE] at e;split at e;split at e;rename_i l g r hw ht;obtain⟨hf,e⟩:=aC.aK e;cases e;rw[tO hf,Hy ht];have:bA Tryz.prog 43 [bK l,acB] [fM g r] (bB false) [fM g r]:=by
  refine bU (aj:=[]) gCoE_ok Tryz.func43 (by kernel_rfl) (ay:=1) rfl (by kernel_rfl) 100 ?_;apply of_eq (q:=(acQ l<=1000000/\xO g l)/\aE [vB (decide ((0:Int)<=(-1:Int)))]=bB false/\[Ob.mk 26 [fI g,fL r]]=[fM g r]) (by kernel_rfl)
  try simp only[sL]
  exact⟨⟨hc.1,hc.2⟩,rfl⟩
 exact this.args fun η Z vs h=>by
  cases vs with
  | nil=>exact h.elim
  | cons v vs=>exact⟨cF hw h.1,h.2⟩
 cases e;cases e
def sEt:bJ:=bG Tryz.prog [] Tryz.f46 3 [] [] []
def YX:Code:=match rf sEt.bO with|some (_,_,r)=>r|none=>.skip
abbrev cellsE:List Ob:=[⟨43,[.c .nil]⟩,⟨45,[.c (.int .i64 0),.c (.int .i64 0),.c (.int .i64 0)]⟩,⟨31,[.c (.int .i64 0)]⟩]
abbrev fH:List Ob:=[⟨43,[.c .nil]⟩,⟨45,[.c (.int .i64 0),.c (.int .i64 0),.c (.int .i64 0)]⟩,⟨31,[.c (.int .i64 12)]⟩]
def UX(u:Value)(au:List Ob):Option (Cd×List Ob):=match u,au with
 | .iface t (.agg l),[⟨t0,[.c .nil]⟩,⟨t1,[.c (.int .i64 0),.c (.int .i64 0),.c (.int .i64 0)]⟩,⟨t2,[.c (.int .i64 0)]⟩] =>
   bif acS t 102&&(acS l.size 0&&(acS t0 43&&(acS t1 45&&acS t2 31))) then some (.t,fH) else none
 | _,_=>none
theorem OA:LF Tryz.prog 46 3 UX:=by
 refine⟨by kernel_rfl,fun base η Z w vs R0 hK hl hv=>?_,fun u au c bg e hc hl=>?_⟩
 . match vs,hl with
   | [v1,v2,v3],_ =>
     refine CallsDIn.mono (DF (s:={ sEt with ay:=0 }) (n:=100) (aU:=YX) (d1:=6) (d2:=3) aG rfl Tryz.func46 (by kernel_rfl) (by kernel_rfl) (by kernel_rfl) (by kernel_rfl) (by kernel_rfl) (args:=[.p (.c (.val v1)),.p (.c (.val v2)),.p (.c (.val v3))]) (by kernel_rfl) (m:=.returning) (m':=.returning) (x:=.ep) (v:=.nilIface) (fun η Z=>by first|rfl|trivial|exact⟨rfl,rfl⟩) (by intro h;cases h) (fun c0 cs=>⟨rfl,rfl⟩) (Qv:=fun _ _=>True) ?_ R0 ⟨⟨(by intro h;cases h),rfl,hv v1 (by simp)⟩,⟨(by intro h;cases h),rfl,hv v2 (by simp)⟩,⟨(by intro h;cases h),rfl,hv v3 (by simp)⟩,trivial⟩ hK) ?_
     skip
     apply of_eq (q:=(false=true->False)/\(false=false->((!true)=true->False)/\((!true)=false->True))) (by kernel_rfl)
     try simp only[sL]
     trivial;rintro e md w' ⟨h1,h2,aI,Z',r,bg,mv,_⟩;exact⟨h1,h2,Bl mv⟩
 . have hu:u=fQ/\au=cellsE/\bg=fH:=by
    unfold UX at e;split at e;rename_i t l t0 t1 t2;obtain⟨hb,e1⟩:=aC.aK e;clear e;simp only[Bool.and_eq_true] at hb;obtain⟨h1,h2,h3,h4,h5⟩:=hb;cases acP h1;cases acP h3;cases acP h4;cases acP h5;cases e1;have hl0:=Array.eq_empty_of_size_eq_zero (acP h2);subst hl0;exact⟨rfl,rfl,rfl⟩;cases e
   obtain⟨rfl,rfl,rfl⟩:=hu;intro base η Z w vs R hvs hK;refine CallsDIn.mono (DF (s:=sEt) (n:=100) (aU:=YX) (d1:=6) (d2:=3) aG rfl Tryz.func46 (by kernel_rfl) (by kernel_rfl) (by kernel_rfl) (by kernel_rfl) (by kernel_rfl) (args:=[.p (.c (.ptr 0 0)),.p (.c (.ptr 1 0)),.p (.c (.ptr 2 0))]) (by kernel_rfl) (m:=.panicking [{ v:=fQ,recovered:=false }]) (m':=.panicking [{ v:=fQ,recovered:=true }]) (x:=.val fQ) (v:=fQ) (fun η Z=>by first|rfl|trivial|exact⟨rfl,rfl⟩) (by intro h;cases h) (fun c0 cs=>by first|exact⟨rfl,rfl⟩|done) (Qv:=fun _ o=>o=fH) ?_ R hvs hK) ?_
   skip
   apply of_eq (q:=(true=true->[Ob.mk 43 [Fd.c W.nil],Ob.mk 45 [fI (0),fI (0),fI (0)],Ob.mk 31 [fI (12)]]=fH)/\(true=false->(true=true->False)/\(true=false->[Ob.mk 43 [Fd.c W.nil],Ob.mk 45 [fI (0),fI (0),fI (0)],Ob.mk 31 [fI (0)]]=fH))) (by kernel_rfl)
   try simp only[sL]
   intro h;cases h;rintro e md w' ⟨h1,h2,aI,Z',r,bg,mv,ho⟩;subst ho;exact⟨h1,h2,aI,Z',mv⟩
def UY(g aq:Int)(ax sub:List (List Int))(y:Rn):bQ:={ cI:=[true,false,false],ay:=some 1,f:=fun args au=>match args,au with
 | [.p (.c (.ptr 0 0)),a,b],[⟨t,[.c (.int .i64 w),.c (.int .i64 l),.c .nil,.c .nil,.c .nil,.c (.int .i64 0),.c (.int .i64 0)]⟩]=>match gq dL a,gq dL b with
   | some ra,some sb=>bif acS t 106 then some (.p ((w=2*g/\l=aq/\ra=ax/\sb=sub)/\decide (y.aA=2)=false),.aL [],aZ y) else none
   | _,_=>none
 | _,_=>none }
def UZ(g aq:Int)(ax sub:List (List Int))(y:Rn):kH:={ cI:=[true,false,false],f:=fun args au=>match args,au with
 | [.p (.c (.ptr 0 0)),a,b],[⟨t,[.c (.int .i64 w),.c (.int .i64 l),.c .nil,.c .nil,.c .nil,.c (.int .i64 0),.c (.int .i64 0)]⟩]=>match gq dL a,gq dL b with
   | some ra,some sb=>bif acS t 106 then some (.p (w=2*g/\l=aq/\ra=ax/\sb=sub),some (decide (y.aA=2)),fQ) else none
   | _,_=>none
 | _,_=>none }
structure Ends(g aq:Int)(ax sub:List (List Int))(y:Rn):Prop where
 good:cX (cT g aq ax sub)
 lm:aq<=1000
 ends:∃ F q',wq (cn true) F (cT g aq ax sub) 2000=some (y,q')
theorem acF{g aq:Int}{ax sub:List (List Int)}{y:Rn}(E:Ends g aq ax sub y):aM Tryz.prog 47 (UY g aq ax sub y):=by
 obtain⟨F,q',h⟩:=E.ends;refine⟨by kernel_rfl,fun args au c r bg e hc=>?_⟩;simp only[UY] at e;split at e;split at e
 . rename_i ra sb ha hb';obtain⟨hb,e1⟩:=aC.aK e;clear e;cases acP hb;cases e1;obtain⟨⟨rfl,rfl,rfl,rfl⟩,hd⟩:=hc;have:=(NW g _ _ _ E.good E.lm h).1 hd;intro base η Z W vs R hvs hK
   match vs,hvs with
   | [u,v,t],⟨a1,a2,a3,_⟩=>exact this base η Z W _ R ⟨a1,cF ha a2,cF hb' a3,trivial⟩ hK
 cases e;cases e
theorem acG{g aq:Int}{ax sub:List (List Int)}{y:Rn}(E:Ends g aq ax sub y):j9 Tryz.prog 47 (UZ g aq ax sub y):=by
 obtain⟨F,q',h⟩:=E.ends;refine⟨by kernel_rfl,fun args au c b u e hc hb2=>?_⟩;simp only[UZ] at e;split at e;split at e
 . rename_i ra sb ha hb';obtain⟨hb,e1⟩:=aC.aK e;clear e;cases acP hb;cases e1;obtain⟨rfl,rfl,rfl,rfl⟩:=hc;have:=(NW g _ _ _ E.good E.lm h).2 (by
    cases hd:decide (y.aA=2) with
    | true=>rfl
    | false=>rw[hd] at hb2;exact absurd rfl hb2)
   intro base η Z W vs R hvs hK
   match vs,hvs with
   | [u,v,t],⟨a1,a2,a3,_⟩=>exact this base η Z W _ R ⟨a1,cF ha a2,cF hb' a3,trivial⟩ hK
 cases e;cases e
def diEn{g aq:Int}{ax sub:List (List Int)}{y:Rn}(E:Ends g aq ax sub y):List { x:FuncId×kH // j9 Tryz.prog x.1 x.2 }:=[⟨(47,UZ g aq ax sub y),acG E⟩]
def gEn(g aq:Int)(ax sub:List (List Int))(y:Rn):bW:=[(42,LM),(43,acE),(47,UY g aq ax sub y),(48,Q5),(41,Tk)]
theorem OB{g aq:Int}{ax sub:List (List Int)}{y:Rn}(E:Ends g aq ax sub y):bt Tryz.prog (gEn g aq ax sub y):=ar IX (ar cCoE_ok (ar (acF E) (ar Ur (ar Qr aG))))
abbrev pEn:List Nat:=[0,1,0,1,1,1]
def YZ{g aq:Int}{ax sub:List (List Int)}{y:Rn}(E:Ends g aq ax sub y):bJ:={ nY Tryz.prog (gEn g aq ax sub y) (diEn E) Tryz.f14 0 [(pEn,[1,2,6,7,8,3,11,24,25,26]),([0,1,1,1,1,1],[1,2,3,6,7,8])] [] [some dL,none,none] false fQ with tail:=some ⟨46,3,UX,OA⟩ }
theorem Rm{g aq : Int}{ax sub : List (List Int)}{y : Rn}(E : Ends g aq ax sub y)(B : Begins g aq ax sub)(hS : So (eY (cT g aq ax sub)) y) : ∀(n i : Nat), n = sub.length - i → i ≤ sub.length →
 av (YZ E) (aD (sR (eY (cT g aq ax sub))) []) pEn (fr [(1,bK sub),(2,nI aq),(6,.p (.c (.ptr 0 0))),(7,.p (.c (.ptr 1 0))),(8,.p (.c (.ptr 2 0))),(3,.p (.c (.ptr 3 0))),(11,nI (sub.take i).flatten.length),(24,bK sub),(25,nI sub.length),(26,nI i)]) (.ofList (cellsE++[fM g ax]))
 | n, i, hn, hi => by
   refine aN (OB E) (by kernel_rfl) 400 ?_;apply of_eq (q:=let q4:=(↑(acX i sub).flatten.length:Int);let q5:=aE [V.c (wL (acX (0:Nat) (ac0 (0:Nat) []))),V.agg [wI (0),wI (0),wI (0)],vI (2)]=sR (eY (cT g aq ax sub))/\([]:List Ob)=[];let q6:=(ak.ofList [Ob.mk 43 [Fd.c W.nil],Ob.mk 45 [fI (0),fI (0),fI (0)],Ob.mk 31 [fI (0)],Ob.mk 26 [fI g,fL ax]]);let q7:=(aC.T.leaf.node (some (bB false)) aC.T.leaf);let q8:=(sub.length:Int);let q9:=decide ((4000:Int)<q4);let aX:=decide (aq<1);let q2:=decide ((100:Int)<q8);let q3:=(bif false then true else aX)=false;let q1:=(bif q2 then true else q9)=false;(decide ((i:Int)<q8)=true->((0:Int)<=(i:Int)/\(i:Int)<q8)/\i<sub.length/\av (YZ E) (aD (sR (eY (cT g aq ax sub))) []) [0,1,0,1,1,1] (fr [(1,bK sub),(2,nI aq),(6,aR 0 0),(7,aR 1 0),(8,aR 2 0),(3,aR 3 0),(11,nI (IntKind.i64.wrap (q4+(↑(sub.getD i []).length:Int)))),(24,bK sub),(25,nI q8),(26,nI (IntKind.i64.wrap ((i:Int)+1)))]) q6)/\(decide ((i:Int)<q8)=false->(q2=false->q2=false)/\(q2=false->q2=false)/\(q1->q1/\q1/\(sub.length<=1000000/\xO g sub)/\(false=false->false=false)/\(false=false->false=false)/\(q3->q3)/\(q3->q3)/\((bif bif false then true else aX then true else decide ((20000:Int)<aq))=true->(0:Nat)<=0/\q5)/\((bif bif false then true else aX then true else decide ((20000:Int)<aq))=false->EY (YZ E) (aD (sR (eY (cT g aq ax sub))) []) [0,1,1,1,1,1] (((((aC.T.leaf.node none q7).node (some (aR 1 0)) ((aC.T.leaf.node (some (A.cond (q2=false) (vI q4))) aC.T.leaf).node none aC.T.leaf)).node (some (aR 3 0)) (((aC.T.leaf.node (some (bK sub)) aC.T.leaf).node none (aC.T.leaf.node (some (bB (bif false then true else aX))) aC.T.leaf)).node (some (nI q4)) ((aC.T.leaf.node (some (A.cond (q1) (V.c (wL sub)))) aC.T.leaf).node (some (A.dec false)) aC.T.leaf))).node (some (bK sub)) (((aC.T.leaf.node none (aC.T.leaf.node (some (A.cond (false=false) (vB (aX)))) aC.T.leaf)).node none ((aC.T.leaf.node (some (bB (bif q2 then true else q9))) aC.T.leaf).node (some (nI q8)) aC.T.leaf)).node none (((aC.T.leaf.node (some (bB (q2))) aC.T.leaf).node none (aC.T.leaf.node (some (A.cond (q3) (vB (decide ((20000:Int)<aq))))) aC.T.leaf)).node none (q7.node none aC.T.leaf)))).node none ((((aC.T.leaf.node none (aC.T.leaf.node (some (A.cond (false=false) (vI aq))) aC.T.leaf)).node (some (aR 2 0)) ((aC.T.leaf.node (some (A.cond (q2=false) (vB (q9)))) aC.T.leaf).node (some (bK sub)) (aC.T.leaf.node (some (aP (W.func 46 [(0,(0:Nat)),(1,(0:Nat)),(2,(0:Nat))]))) aC.T.leaf))).node none (((aC.T.leaf.node (some (nI q8)) aC.T.leaf).node none (aC.T.leaf.node (some (A.cond (q3) (vI aq))) aC.T.leaf)).node none ((aC.T.leaf.node (some (A.cond (q1) (V.c (W.func 44 [(3,(0:Nat))])))) aC.T.leaf).node none aC.T.leaf))).node (some (nI aq)) (((aC.T.leaf.node none (aC.T.leaf.node (some (bB (bif false then true else aX))) aC.T.leaf)).node none ((aC.T.leaf.node (some (A.dec false)) aC.T.leaf).node (some (nI (i:Int))) aC.T.leaf)).node (some (aR 0 0)) (((aC.T.leaf.node (some (bB (q2))) aC.T.leaf).node none (aC.T.leaf.node (some (A.dec false)) aC.T.leaf)).node none (q7.node none aC.T.leaf))))) q6))/\((bif q2 then true else q9)=!false->(0:Nat)<=0/\q5))) (by kernel_rfl)
   try simp only[sL]
   obtain⟨s1,s2⟩:=B.subs;have hl:=B.aq;refine⟨fun h=>⟨⟨by omega,by omega⟩,by omega,?_⟩,fun h=>?_⟩
   . have ht:(sub.take (i+1)).flatten.length=(sub.take i).flatten.length+(sub.getD i []).length:=by
      rw[List.take_succ_eq_append_getElem (by omega),acW,acT,acU,List.getElem?_eq_getElem (by omega)];simp
     have htl:(sub.take (i+1)).flatten.length<=sub.flatten.length:=(by
      have:=congrArg (fun l=>(List.flatten l).length) (List.take_append_drop (i+1) sub);simp only[acW,acT] at this;omega)
     rw[wrap64 (by omega) (by omega),wrap64 (by omega) (by omega)];cases n with
     | zero=>omega
     | succ n =>
       have:=Rm E B hS n (i+1) (by omega) (by omega);rw[ht] at this;exact this
   have ei:i=sub.length:=by omega
   subst ei;rw[List.take_length];have hw:sub.length<=1000000/\xO g sub:=by
    refine⟨by omega,fun w hw=>⟨?_,fun x hx=>?_⟩⟩;have:w.length<=sub.flatten.length:=(List.sublist_flatten_of_mem hw).length_le;omega;have:=B.bad w hw;rw[List.any_eq_false] at this;have:=this x hx;simpa using this
   refine⟨fun hc=>⟨hc,hc,hw,fun h2=>?_,fun h2=>?_⟩,fun h2=>?_⟩;rcases h2 with (h2|h2)|h2;cases h2;omega;omega;refine IU (T:=⟨46,3,UX,OA⟩) (OB E) rfl rfl rfl rfl 400 ?_;apply of_eq (q:=let q1:=(Rn.mk ((2:Int)*y.g/2) [] [] y.aq y.aH y.aj (0:Int) (0:Int) (0:Int) (0:Int) y.af y.ah y.dl y.dn);let q3:=(Cd.t.and Cd.t);let q4:=(R1.pure q3 (nI (0))).v=(R1.pure q3 (nI (0))).v;let q5:=(R1.pure q3 (nI y.aH));let q2:=(R1.pure q3 (aS ((8:Nat)+((1:Nat)-1)) 0 y.af.length));(IntKind.i64.wrap ((2:Int)*g)=2*g/\aq=aq/\ax=ax/\sub=sub)/\(decide (y.aA=2)=true->(0:Nat)<=0/\aE [V.c (wL (acX (0:Nat) (ac0 (0:Nat) []))),V.agg [wI (0),wI (0),wI (0)],vI (12)]=sR (eY (cT g aq ax sub))/\([]:List Ob)=[])/\(decide (y.aA=2)=false->((IntKind.i64.wrap ((2:Int)*g)=2*g/\aq=aq/\ax=ax/\sub=sub)/\decide (y.aA=2)=false)/\((y.af.length=y.af.length/\y.ah.length=y.ah.length/\((2:Int)*y.g).toNat=((2:Int)*y.g).toNat/\(2:Int)*((2:Int)*y.g/2)=2*y.g)/\bF q1/\y6 q1)/\vE g (jX q1) ((ke (jX q1)).getD [])/\(R1.pure q3 (nI g)).v=(R1.pure q3 (nI g)).v/\(R1.pure q3 (nI g)).v=(R1.pure q3 (nI g)).v/\q2.v=q2.v/\q2.v=q2.v/\q5.v=q5.v/\q5.v=q5.v/\q4/\q4/\q4/\aE [V.c (wL ((ke (jX q1)).getD [])),V.agg [wI (y.af.length:Int),wI y.aH,wI (0)],vI (0)]=sR (eY (cT g aq ax sub))/\([]:List Ob)=[])) (by kernel_rfl)
   try simp only[sL]
   have hG:=E.good;have hf:=ND hG E.lm;have hR:=xA hG 2000;have he:=hS.p9.1;have hgF:(eY (cT g aq ax sub)).g=g:=hR.same.1;have hgy:y.g=g:=hS.g.trans hgF;have kP:1<=g:=hG.bw.g1;have lK:g<=16:=hG.bw.g2;have e2:2*y.g/2=y.g:=by omega
   rw[wrap64 (n:=2*g) (by omega) (by omega),e2];refine⟨rfl,fun h=>?_,fun h=>⟨⟨rfl,h⟩,?_⟩⟩;have hs:¬(eY (cT g aq ax sub)).aA=1:=by omega
   simp only[sR,l7,oN,oO,sG,if_neg hs];rfl;have hs:(eY (cT g aq ax sub)).aA=1:=by omega
   obtain⟨f1,f2,f3,f4,f5⟩:=YR B hs;have hy:=hS.bw f1;have ht:=tabC_so f1 f2 hS;have hstd:=Ny f1 f2 f3 f4 (by omega);rw[hgF] at hstd;have ht:jX (dQ y)=eA (eY (cT g aq ax sub)):=ht;have hft:y6 y:=acr f1 f2 hS;refine⟨⟨rfl,Bg hy,hft⟩,?_,?_⟩;show vE g (jX (dQ y)) ((ke (jX (dQ y))).getD []);rw[ht];exact hstd;show aE [V.c (W.rd (D.int IntKind.i64).sl ((ke (jX (dQ y))).getD [])),V.agg [W.int IntKind.i64 y.af.length,W.int IntKind.i64 y.aH,W.int IntKind.i64 0],V.c (W.int IntKind.i64 0)]=_;rw[ht,hS.af,hS.p9.2.2.2.2.2.2.1];simp only[sR,l7,oN,oO,sG,if_pos hs];rfl;rw[decide_eq_false (by omega),decide_eq_false (by omega)] at h2;cases h2
theorem acH{g aq:Int}{ax sub:List (List Int)}(B:Begins g aq ax sub)(hl:aq<=1000):bA Tryz.prog 14 [pU g ax,bK sub,nI aq] [] (sR (eY (cT g aq ax sub))) []:=by
 obtain⟨f,y,q,h1,hS⟩:=Ya (flC true) B.good;have E:Ends g aq ax sub y:=⟨B.good,hl,f,q,h1⟩;refine uo (s:=YZ E) (OB E) rfl Tryz.func14 (by kernel_rfl) rfl (by kernel_rfl) 400 ?_ (fun u h=>by cases h.1);apply of_eq (q:=Sh ax/\((!decide ((fC g ax).fst=0))=true->(0:Nat)<=0/\aE [V.c (wL (acX (0:Nat) (ac0 (0:Nat) []))),V.agg [wI (0),wI (0),wI (0)],vI (fC g ax).fst]=sR (eY (cT g aq ax sub))/\([]:List Ob)=[])/\((!decide ((fC g ax).fst=0))=false->av (YZ E) (fun r o=>r=sR (eY (cT g aq ax sub))/\o=[]) [0,1,0,1,1,1] (fr [(1,bK sub),(2,nI aq),(6,aR 0 0),(7,aR 1 0),(8,aR 2 0),(3,aR 3 0),(11,nI (0)),(24,bK sub),(25,nI (sub.length:Int)),(26,nI (0))]) (ak.ofList [Ob.mk 43 [Fd.c W.nil],Ob.mk 45 [fI (0),fI (0),fI (0)],Ob.mk 31 [fI (0)],Ob.mk 26 [fI g,fL ax]]))) (by kernel_rfl)
 try simp only[sL]
 exact⟨B.sh,fun h=>absurd B.fC h,fun _=>Rm E B hS _ 0 rfl (ac3 _)⟩
theorem acI:aM Tryz.prog 14 cEnum:=vD (by kernel_rfl) fun _ _ _ _ h=>acH h.1 h.2
def gEd:bW:=[(4,Rj),(5,Q8),(6,Ht),(7,B0),(14,cEnum),(8,cNew),(9,Kn),(10,Fq),(12,Tp),(11,OD),(13,UE),(15,N0)]
theorem Y1:bt Tryz.prog gEd:=ar UU (ar Uv (ar F4 (ar uE (ar acI (ar cNew_ok (ar DW (ar DV (ar MW (ar Y0 (ar Oc (ar JN aG)))))))))))
abbrev pEd:List Nat:=[0,1,0,1,1,1,1,1,1,1,1]
abbrev OE:List (List Nat×List Nat):=[(pEd,[1,4,11,13,16,14,12])]
def Y2:bJ:=eJ Tryz.prog gEd Tryz.f3 0 OE
theorem Y3{g aq:Int}{ax sub:List (List Int)}{F r:Rn}{i:Nat}(hF:F=eY (cT g aq ax sub))(hl:aq<=1000)(B:Begins g aq ax sub)(I:xM g aq ax sub i r)(h:¬r.aA=0):(0<r.af.length/\(r.aA=1->ol r))/\(Begins g aq ax sub/\aq<=1000)/\(¬sG F=0->(sG F=12->sG F=12/\aE [V.c (W.bool (decide (r.aA=2)&&decide (qN r=13)))]=bB true)/\(decide (sG F=12)=!true->aE [V.c (W.bool false)]=bB true))/\(sG F=0->((r.aA=1/\qN r=0)/\oN r=oN F/\oO r=oO F->((r.aA=1/\qN r=0)/\oN r=oN F/\oO r=oO F)/\((r.aA=1/\qN r=0)/\oN r=oN F/\oO r=oO F)/\(l7 r=l7 F/\(l7 r).length<=1000000/\∀(l:List Int),l∈l7 r->l.length<=1000)/\aE [V.c (W.bool true)]=bB true)/\((decide (r.aA=1)&&decide (qN r=0)&&(decide (oN r=oN F)&&(decide (oO r=oO F)&&(decide True&&true))))=!true->aE [V.c (W.bool false)]=bB true)):=by
 have hst:=I.bk.aU.st;obtain⟨d1,d2,d3,d4⟩:=I.done h;rw[<-hF] at d1 d2 d3 d4;refine⟨⟨I.bk.aU.n1,fun h1=>(d4 h1).1⟩,⟨B,hl⟩,fun h2=>?_,fun h2=>?_⟩;have hF2:¬F.aA=1:=fun e=>h2 (by unfold sG;rw[if_pos e]);have e2:sG F=12:=by unfold sG;rw[if_neg hF2]
 have hr2:r.aA=2:=by omega
 have e3:qN r=13:=by unfold qN;rw[if_neg (by omega)]
 rw[e2,decide_eq_true hr2,decide_eq_true e3];exact⟨fun _=>⟨rfl,rfl⟩,fun h=>by cases h⟩;have LH:F.aA=1:=by
  unfold sG at h2;split at h2;assumption;omega
 have h1:r.aA=1:=by omega
 obtain⟨t1,t2,t3⟩:=d4 h1;have hu:l7 r=(ke (eA r)).getD []:=by unfold l7;rw[if_pos h1]
 have hs:=YQ t1.std;rw[<-hu] at hs;have e1:qN r=0:=by unfold qN;rw[if_pos h1]
 have e2:oN r=oN F:=by unfold oN;rw[if_pos h1,if_pos LH,d2]
 have e3:oO r=oO F:=by unfold oO;rw[if_pos h1,if_pos LH,d3]
 refine⟨fun h=>⟨h,h,⟨t2,hs⟩,rfl⟩,fun h=>?_⟩;rw[decide_eq_true h1,decide_eq_true e1,decide_eq_true e2,decide_eq_true e3] at h;simp at h
theorem HE{g aq:Int}{ax sub:List (List Int)}(steps:List Int)(hl:1<=aq/\aq<=200)(hg:1<=g/\g<=3)(hr:oM g ax)(hs:oM g sub)(B:Begins g aq ax sub):∀(n i:Nat)(r:Rn),n=220-i->i<=220->xM g aq ax sub i r->
 av Y2 (aD (bB true) []) pEd (fr [(1,nI aq),(4,bI steps),(11,.dec true),(13,bK sub),(16,nI i),(14,.p (.c (.ptr 0 0))),(12,.p (.c (.ptr 1 0)))]) (.ofList [bV r 2 3 4,fM g ax,aQ r,aB r.ah,aB r.dl])
 | n,i,r,hn,hi,I=>by
   refine aN Y1 (by kernel_rfl) 300 ?_;apply of_eq (q:=let q0:=IntKind.i64.wrap;let q5:=(di r (40:Int));let q7:=r.ah.length=r.ah.length/\((2:Int)*r.g).toNat=((2:Int)*r.g).toNat;let aX:=(fr [(1,nI aq),(4,bI steps),(11,A.dec true),(13,bK sub),(16,nI (q0 ((i:Int)+1))),(14,aR 0 0),(12,aR 1 0)]);let bL:=(eY (cT g aq ax sub));let cM:=(OC (bE (fe q5.fst)));let eO:=decide ((i:Int)<(steps.length:Int));let eD:=r.af.length=r.af.length;let dU:=aE [vB false]=bB true;let cP:=([]:List Ob)=[];let jl:=[0,1,0,1,1,1,1,1,1,1,1];let iA:=decide (sG bL=12);let jO:=(0:Nat)<r.af.length;let je:=Ob.mk 26 [fI g,fL ax];let jQ:=(i:Int)<(steps.length:Int);let lO:=(0:Int);let q2:=decide ((if(0:Nat)<r.af.length then r.aA else lO)=1);let q3:=eO=true;let q8:=(bif q2 then decide (qN r=0) else false)=true;let dr:=decide ((if(0:Nat)<r.af.length then r.aA else lO)=2);let dA:=decide (lO=0);let fX:=decide ((steps.getD i lO).tmod (2:Int)=0);let lN:=(bif bif q2 then decide (qN r=0) else false then decide (oN r=oN bL)&&(decide (oO r=oO bL)&&(dA&&true)) else false)=!true;let gB:=((1:Int)+ck (steps.getD i lO) (30:Int));let jb:=(dA&&(dA&&true));let p8:=decide ((if(0:Nat)<r.af.length then r.aA else lO)=0);let q1:=(di r (q0 gB));let q4:=(bif bif q2 then decide (qN r=0) else false then decide (oN r=oN bL)&&(decide (oO r=oO bL)&&(dA&&true)) else false)=true;let q6:=((eD/\q7)/\True)/\(dr=true->dr=true)/\(dr=true->dr=true)/\aE [vB (bif dr then decide (qN r=13) else false)]=bB true/\cP;let q9:=(!jb)=false;let bH:=(OC (bE (fe q1.fst)));(decide ((i:Int)<220)=true->decide ((i:Int)<220)=true/\((eD/\q7)/\True)/\(p8=true->(q3->(lO<=(i:Int)/\jQ)/\i<steps.length/\((1:Int)<=30/\(30:Int)<=1000)/\((eD/\q7)/\jO/\q0 gB<=1000000/\((1:Int)<=q0 gB->r.aA=0->cX r))/\((!decide (q1.snd.snd=0))=true->dU/\cP)/\((!decide (q1.snd.snd=0))=false->(q3->q3)/\(q3->q3)/\(q3->lO<=(i:Int)/\jQ)/\(q3->q3)/\(q3->i<steps.length)/\(q3->q3)/\(q3->(2:Int)≠lO)/\(q3->q3)/\(q3->q3)/\((bif eO then !fX else false)=true->((q1.fst.af.length=q1.fst.af.length/\q1.fst.ah.length=q1.fst.ah.length/\((2:Int)*q1.fst.g).toNat=((2:Int)*q1.fst.g).toNat)/\Sv q1.fst)/\(∃ X,Bk X/\bE (fe q1.fst)=bE (fe X))/\(q9->q9)/\(q9->q9)/\((bif !jb then true else false)=true->dU/\cP)/\((bif !jb then true else false)=false->av Y2 (aD (bB true) []) jl aX (ak.ofList [Ob.mk 61 [fI bH.g,fL bH.ax,fL bH.sub,fI bH.aq,fI bH.aH,fI bH.aj,fI bH.aA,fI bH.ph,fI bH.co,fI bH.ix,fS 2 0 bH.af.length,fS 3 0 bH.ah.length,fS 4 0 bH.dn],je,Ob.mk 22 [Fd.c (W.th ((2:Int)*bH.g).toNat bH.af)],aB (bH.ah),aB (bH.dl)])))/\((bif eO then !fX else false)=false->av Y2 (aD (bB true) []) jl aX (ak.ofList [Ob.mk 61 [fI q1.fst.g,fL q1.fst.ax,fL q1.fst.sub,fI q1.fst.aq,fI q1.fst.aH,fI q1.fst.aj,fI q1.fst.aA,fI q1.fst.ph,fI q1.fst.co,fI q1.fst.ix,fS 2 0 q1.fst.af.length,fS 3 0 q1.fst.ah.length,fS 4 0 q1.fst.dn],je,aQ (q1.fst),aB (q1.fst.ah),aB (q1.fst.dl)]))))/\(eO=false->((eD/\q7)/\jO/\(40:Int)<=1000000/\((1:Int)<=40->r.aA=0->cX r))/\((!decide (q5.snd.snd=0))=true->dU/\cP)/\((!decide (q5.snd.snd=0))=false->(q3->q3)/\(q3->q3)/\(q3->lO<=(i:Int)/\jQ)/\(q3->q3)/\(q3->i<steps.length)/\(q3->q3)/\(q3->(2:Int)≠lO)/\(q3->q3)/\(q3->q3)/\((bif eO then !fX else false)=true->((q5.fst.af.length=q5.fst.af.length/\q5.fst.ah.length=q5.fst.ah.length/\((2:Int)*q5.fst.g).toNat=((2:Int)*q5.fst.g).toNat)/\Sv q5.fst)/\(∃ X,Bk X/\bE (fe q5.fst)=bE (fe X))/\(q9->q9)/\(q9->q9)/\((bif !jb then true else false)=true->dU/\cP)/\((bif !jb then true else false)=false->av Y2 (aD (bB true) []) jl aX (ak.ofList [Ob.mk 61 [fI cM.g,fL cM.ax,fL cM.sub,fI cM.aq,fI cM.aH,fI cM.aj,fI cM.aA,fI cM.ph,fI cM.co,fI cM.ix,fS 2 0 cM.af.length,fS 3 0 cM.ah.length,fS 4 0 cM.dn],je,aQ cM,aB (cM.ah),aB (cM.dl)])))/\((bif eO then !fX else false)=false->av Y2 (aD (bB true) []) jl aX (ak.ofList [Ob.mk 61 [fI q5.fst.g,fL q5.fst.ax,fL q5.fst.sub,fI q5.fst.aq,fI q5.fst.aH,fI q5.fst.aj,fI q5.fst.aA,fI q5.fst.ph,fI q5.fst.co,fI q5.fst.ix,fS 2 0 q5.fst.af.length,fS 3 0 q5.fst.ah.length,fS 4 0 q5.fst.dn],je,aQ (q5.fst),aB (q5.fst.ah),aB (q5.fst.dl)])))))/\(p8=false->((eD/\q7)/\jO/\(r.aA=1->ol r))/\(Begins g aq ax sub/\aq<=1000)/\((!decide (sG bL=0))=true->(iA=true->iA=true/\q6)/\(iA=!true->dU/\cP))/\((!decide (sG bL=0))=false->((eD/\q7)/\True)/\(q2=true->q2=true)/\(q2=true->q2=true)/\(q8->q8)/\(q8->q8)/\(q8->q8)/\(q4->q4/\q4/\(l7 r=l7 bL/\(l7 r).length<=1000000/\∀(l:List Int),l∈l7 r->l.length<=1000)/\aE [vB true]=bB true/\cP)/\(lN->dU/\cP))))/\(decide ((i:Int)<220)=!true->((eD/\q7)/\jO/\(r.aA=1->ol r))/\(Begins g aq ax sub/\aq<=1000)/\((!decide (sG bL=0))=true->(iA=true->iA=true/\q6)/\(iA=!true->dU/\cP))/\((!decide (sG bL=0))=false->((eD/\q7)/\True)/\(q2=true->q2=true)/\(q2=true->q2=true)/\(q8->q8)/\(q8->q8)/\(q8->q8)/\(q4->q4/\q4/\(l7 r=l7 bL/\(l7 r).length<=1000000/\∀(l:List Int),l∈l7 r->l.length<=1000)/\aE [vB true]=bB true/\cP)/\(lN->dU/\cP)))) (by kernel_rfl)
   try simp only[sL,Int.reduceEq]
   have rp:=I.bk.aU.n1;have xQ:(if 0<r.af.length then r.aA else 0)=r.aA:=if_pos rp;have hn1:=I.bk.aU.nl;have Jy:=I.aq;have hfar:=I.far;have ht:=lE (steps.getD i 0) 30 (by omega);rw[xQ,wrap64 (n:=(i:Int)+1) (by omega) (by omega),wrap64 (n:=1+ck (steps.getD i 0) 30) (by omega) (by omega)];refine⟨fun h=>⟨h,fun h0=>⟨fun hc=>⟨⟨by omega,hc⟩,by omega,⟨by omega,by omega⟩,?_⟩,fun hc=>?_⟩,fun h0=>Y3 rfl (by omega) B I h0⟩,fun h=>Y3 rfl (by omega) B I ?_⟩
   . have hN:1<=1+ck (steps.getD i 0) 30/\1+ck (steps.getD i 0) 30<=1000000:=⟨by omega,by omega⟩;generalize 1+ck (steps.getD i 0) 30=N at *;obtain⟨G,he,I'⟩:=I.step ⟨hl.1,by omega⟩ hg hr hs h0 hN.1;cases n with
     | zero=>omega
     | succ n =>
       have nx:=fun r' I'=>HE steps hl hg hr hs B n (i+1) r' (by omega) (by omega) I';refine⟨⟨rp,hN.2,fun _ _=>G⟩,fun h=>absurd he h,fun _=>⟨fun h=>⟨by omega,h⟩,fun h=>by omega,fun _=>trivial,fun _=>⟨I'.bk.sv,⟨_,I'.bk,rfl⟩,fun h=>absurd (h trivial trivial) (by decide),fun _=>?_⟩,fun _=>nx _ I'⟩⟩;rw[Hz I'.bk];exact nx _ I'.load
   . have hN:1<=(40:Int)/\(40:Int)<=1000000:=⟨by omega,by omega⟩;generalize (40:Int)=N at *;obtain⟨G,he,I'⟩:=I.step ⟨hl.1,by omega⟩ hg hr hs h0 hN.1;cases n with
     | zero=>omega
     | succ n =>
       have nx:=fun r' I'=>HE steps hl hg hr hs B n (i+1) r' (by omega) (by omega) I';refine⟨⟨rp,hN.2,fun _ _=>G⟩,fun h=>absurd he h,fun _=>⟨fun h=>⟨by omega,h⟩,fun h=>by omega,fun _=>trivial,fun _=>⟨I'.bk.sv,⟨_,I'.bk,rfl⟩,fun h=>absurd (h trivial trivial) (by decide),fun _=>?_⟩,fun _=>nx _ I'⟩⟩;rw[Hz I'.bk];exact nx _ I'.load
   have h:decide ((i:Int)<220)=false:=h;have:=of_decide_eq_false h;omega
theorem acJ(which limit:Int)(l k steps:List Int):bA Tryz.prog 3 [nI which,nI limit,bI l,bI k,bI steps] [] (bB true) []:=by
 refine bU (aj:=OE) Y1 Tryz.func3 (by kernel_rfl) (ay:=0) rfl (by kernel_rfl) 300 ?_;apply of_eq (q:=let q3:=decide ((60:Int)<(l.length:Int));let q4:=(jL which l);let q5:=(IntKind.i64.wrap ((1:Int)+ck limit (200:Int)));let q6:=decide ((0:Int)=0);let q7:=decide ((30:Int)<(k.length:Int));let q1:=(cT q4.fst q5 q4.snd (l6 k q4.fst));let q2:=(bif q3 then true else q7)=false;(q3=false->q3=false)/\(q3=false->q3=false)/\(q3=false->q3=false)/\(q2->q2)/\(q2->q2)/\(q2->q2)/\((bif bif q3 then true else q7 then true else decide ((30:Int)<(steps.length:Int)))=true->aE [vB true]=bB true/\([]:List Ob)=[])/\((bif bif q3 then true else q7 then true else decide ((30:Int)<(steps.length:Int)))=false->l.length<=1000/\(((1:Int)<=q4.fst/\q4.fst<=16)/\k.length<=1000)/\((1:Int)<=200/\(200:Int)<=1000)/\Begins q4.fst q5 q4.snd (l6 k q4.fst)/\((!q6)=false->(!q6)=false)/\((!q6)=false->(!q6)=false)/\((bif !q6 then true else false)=true->aE [vB false]=bB true/\([]:List Ob)=[])/\((bif !q6 then true else false)=false->av (eJ Tryz.prog gEd Tryz.f3 (0:Nat) OE) (aD (bB true) []) [0,1,0,1,1,1,1,1,1,1,1] (fr [(1,nI q5),(4,bI steps),(11,A.dec true),(13,bK (l6 k q4.fst)),(16,nI (0)),(14,aR 0 0),(12,aR 1 0)]) (ak.ofList [Ob.mk 61 [fI q1.g,fL q1.ax,fL q1.sub,fI q1.aq,fI q1.aH,fI q1.aj,fI q1.aA,fI q1.ph,fI q1.co,fI q1.ix,fS 2 0 1,fS 3 0 1,fS 4 0 0],Ob.mk 26 [fI q4.fst,fL q4.snd],Ob.mk 22 [Fd.c (W.th ((2:Int)*q1.g).toNat [List.replicate ((2:Int)*q4.fst).toNat (-1:Int)])],aB (q1.ah),aB (q1.dl)])))) (by kernel_rfl)
 try simp only[sL]
 obtain⟨hg,hr⟩:=Uz which l;have hs:=F5 hg.1 k;have tn:=lE limit 200 (by omega);have hm:1<=1+ck limit 200/\1+ck limit 200<=200:=⟨by omega,by omega⟩;rw[wrap64 (n:=1+ck limit 200) (by omega) (by omega)];generalize jL which l=gg at *;generalize l6 k gg.1=ww at *;generalize 1+ck limit 200=aq at *;have B:=UC aq ⟨by omega,by omega⟩ hg hr hs;exact⟨fun _=>rfl,fun hlk=>⟨by omega,⟨⟨by omega,by omega⟩,by omega⟩,⟨by omega,by omega⟩,B,fun h=>absurd trivial h,fun _=>HE steps hm hg hr hs B 220 0 _ rfl (by omega) (xM.first B ⟨by omega,by omega⟩ hg hr hs)⟩⟩
theorem acK:BV (fun args=>bA Tryz.prog 3 args [] (dat .bool true) []) [.int .i64,.int .i64,.sl (.int .i64),.sl (.int .i64),.sl (.int .i64)] [] :=
 fun n _ m _ l _ k _ s _=>acJ n m l k s
end Go.Proofs.YtdpbidkgdnnamaaGreatDoor
namespace Go.Proofs.YtdpbidkgdnnamaaGreatDoor
open Go.ChangeShapes Go.WideShapes Go.ChangeAt Go.RowKit Go.aC
set_option maxRecDepth 1000000
theorem own:ownKnob Tryz.prog.godebug=none:=by kernel_rfl
def OG:DataW Unit->List Value
 | .lit (.int k n)=>[.int k n]
 | _=>[]
def cells1:DataW Unit->List Value
 | .agg l=>l.flatMap OG
 | d=>OG d
def cellsD:DataW Unit->List Value
 | .agg l=>l.flatMap cells1
 | d=>OG d
def textD:DataW Unit->ByteArray
 | .iface _ (.ptr (.agg [.lit (.string l)]))=>⟨l.toArray⟩
 | _=>⟨#[]⟩
def isErr:DataW Unit->Bool
 | .iface _ _=>true
 | _=>false
def low:Nat:=(World.holding Tryz.prog default ⟨#[],#[],[]⟩).heap.size
def OH(w:World)(P:Program)(n:Nat):List (String×DataW Unit)->World
 | []=>w
 | (name,d)::l=>match P.globalNamed name with
   | some g=>bif isErr d
    then OH { w with heap:=w.heap.modify g fun | .cells _ t frozen=>.cells #[.iface 209 (.pointer (some ⟨low+n,0,none⟩))] t frozen|o=>o } P (n+1) l
    else OH { w with heap:=w.heap.modify g fun | .cells _ t frozen=>.cells (cellsD d).toArray t frozen|o=>o } P n l
   | none=>w
def errs(l:List (String×DataW Unit)):List Obj:=(l.filter fun x=>isErr x.2).map fun x=>.cells #[.string (textD x.2)] 211
def vP(os:Os)(l:List (String×DataW Unit)):World:=OH (World.holding Tryz.prog os ⟨(errs l).toArray,#[],[]⟩) Tryz.prog 0 l
theorem Y4(os:Os)(args:Array Value):laidMet Tryz.prog Rows.resumeEndsRow.laid ((vP os Rows.resumeEndsRow.laid).forCall (fun _ _=>0) ⟨#[],args,[]⟩).memory :=
 laidMet_of_run' 8 (by kernel_rfl) (by kernel_rfl)
theorem zk{P:Program}{x:String×DataW Unit}{r:List (String×DataW Unit)}{W:World}(h:laidMet P (x::r) W):laidMet P r W:=by
 obtain⟨ps,hv,hnd,hall⟩:=h;obtain⟨n,d⟩:=x;obtain⟨g,t,cs,fuel,p,q,_,_,_,_,h5,rfl⟩:=hv;exact⟨q,h5,(List.nodup_append.1 hnd).2.1,fun b off hm=>hall b off (by simp[hm])⟩
theorem El{P:Program}{W:World}{name:String}{k:IntKind}{zs:List Int}(h:Lib.TabIs P W name k zs){g:Nat}(hg:P.globalNamed name=some g):aW.mH W g=some (zs.map (Value.int k)).toArray:=by
 unfold Lib.TabIs World.var? at h;rw[hg] at h;simp only[Option.bind_some] at h;unfold aW.mH;split at h;rename_i c t fz e;rw[e];simp only[Option.some.injEq] at h ⊢;exact h;cases h
theorem knows{W:World}(h:laidMet Tryz.prog Rows.resumeEndsRow.laid W):aW.jf Tryz.prog (aW.mH W):=by
 have t32:Lib.TabIs Tryz.prog W "math/bits.deBruijn32tab" .u8 aW.tab32:=Lib.tabIs_of_head (g:=6) (t:=212) (e:=5) (n:=32) (by kernel_rfl) (by kernel_rfl) Tryz.underlying212 Tryz.underlying5 (by kernel_rfl) (by kernel_rfl) h;have t64:Lib.TabIs Tryz.prog W "math/bits.deBruijn64tab" .u8 aW.tab64:=Lib.tabIs_of_head (g:=7) (t:=213) (e:=5) (n:=64) (by kernel_rfl) (by kernel_rfl) Tryz.underlying213 Tryz.underlying5 (by kernel_rfl) (by kernel_rfl) (zk h);have t10:Lib.TabIs Tryz.prog W "internal/strconv.uint64pow10" .u64 aW.RY:=Lib.tabIs_of_head (g:=1) (t:=187) (e:=128) (n:=20) (by kernel_rfl) (by kernel_rfl) Tryz.underlying187 Tryz.underlying128 (by kernel_rfl) (by kernel_rfl) (zk (zk h));intro x hx g hg;simp only[aW.RZ,List.mem_cons,List.not_mem_nil,or_false] at hx;rcases hx with rfl|rfl|rfl;exact El t32 hg;exact El t64 hg;exact El t10 hg
end Go.Proofs.YtdpbidkgdnnamaaGreatDoor
namespace Go.Proofs.YtdpbidkgdnnamaaGreatDoor
open Go.ChangeShapes Go.WideShapes Go.ChangeAt Go.RowKit Go.ChangeMaps
set_option maxRecDepth 1000000
namespace resumeEnds
theorem acL(os:Os)(args:Array Value):laidMet Tryz.prog Rows.resumeEndsRow.laid ((vP os Rows.resumeEndsRow.laid).forCall (fun _ _=>0) ⟨#[],args,[]⟩).memory :=
 Y4 os args
theorem contract(H:Type)(enc:TypeId×Value->H)(W:World)(base:Nat)(args:Array Value)(ds gs:List (DataW H))(before:List MemPlace)
 (hval:∀(j:Nat) t v,Tryz.f3.params[j]? = some t->args[j]? = some v->Value.okWide Tryz.prog W .any base t v)
 (hW:DataW.Whole enc Tryz.prog Tryz.f3.params.toList Rows.resumeEndsSpec.vars false W args.toList ds gs before) (hK:aW.jf Tryz.prog (aW.mH W)) :
 Calls Tryz.prog 3 args W fun e W'=>∃ v,e=.returned v/\Rows.resumeEndsSpec.post enc Tryz.prog Tryz.f3 false true false false W args v W' :=
 aW.LL (kinds:=[.int .i64,.int .i64,.sl (.int .i64),.sl (.int .i64),.sl (.int .i64)]) (by kernel_rfl) (by kernel_rfl) acK (by kernel_rfl) Tryz.underlying4 rfl (fun ds h=>by
  match ds,h with
  | [_,_,_,_,_],_=>exact⟨rfl,rfl,rfl⟩) hval hW hK
theorem reads(os:Os){H:Type}(enc:TypeId×Value->H):∃ places,DataW.whole enc Tryz.prog ((vP os Rows.resumeEndsRow.laid).forCall (fun _ _=>0) ⟨#[],#[.int .i64 0,.int .i64 0,.slice none 0 0,.slice none 0 0,.slice none 0 0],[]⟩).memory Tryz.f3.params.toList Rows.resumeEndsSpec.vars false (#[.int .i64 0,.int .i64 0,.slice none 0 0,.slice none 0 0,.slice none 0 0]:Array Value).toList 8=some ([.lit (.int .i64 0),.lit (.int .i64 0),.nil,.nil,.nil],[],places) :=
 ⟨[],by kernel_rfl⟩
theorem lifted(os:Os)(started:os.Started)(H:Type)(enc:TypeId×Value->H)(F:Stop.Interp) :
 ReturnsInHanded {} Tryz.checked os 3 .any ((OpenSpec.ofChange Rows.resumeEndsSpec).preRow enc Tryz.prog Tryz.f3 Rows.resumeEndsRow.domain false Rows.resumeEndsRow.laid) (((OpenSpec.ofChange Rows.resumeEndsSpec).at F).post enc Tryz.prog Tryz.f3 false true false false):=by
 obtain⟨places,hx⟩:=reads os enc
 refine returnsInHanded_of_row (C:=Tryz.checked) (s:=OpenSpec.ofChange Rows.resumeEndsSpec) own started (by kernel_rfl) Tryz.func3
  (witness_row_at (enc:=enc) (C:=Tryz.checked) false (vP os Rows.resumeEndsRow.laid) #[.int .i64 0,.int .i64 0,.slice none 0 0,.slice none 0 0,.slice none 0 0] rfl (by kernel_rfl) (by kernel_rfl) (by kernel_rfl)
   (OpenSpec.preRow_of_cond 8 hx (by kernel_rfl) (fun k hk=>by cases hk) (by kernel_rfl) (acL os _))) ?_
 intro W base args ds gs before hval hW _ _ _ hL _ _;exact contract H enc W base args ds gs before hval hW (knows hL)
theorem said:Rows.ResumeEndsSaid :=
 OpenClaim.holds_of_cond 3 Tryz.f3 rfl rfl rfl rfl rfl rfl rfl ⟨rfl,rfl,rfl,rfl,rfl⟩ rfl rfl rfl rfl rfl (by kernel_rfl) Tryz.func3 (by kernel_rfl)
  (of_decide_eq_true (by kernel_rfl)) (by unfold Func.isWrapper;first|(rw[if_pos (by decide +kernel)];kernel_rfl)|(rw[if_neg (by decide +kernel)];exact⟨rfl,rfl⟩))
  (fun os started H enc _ F=>by rw[OpenClaim.pre_eq_preRow];exact lifted os started H enc F)
theorem plain (f:FuncId) (fn:Func) (hf:Tryz.pinned.checked.prog.funcNamed "cayley/cayleylaw39.ResumeEnds" = some f) (hfn:Tryz.pinned.checked.prog.funcs[f]? = some fn) :
 true=Tryz.pinned.checked.prog.looks []/\∀(j:Nat) t,fn.params[j]? = some t->Tryz.pinned.checked.prog.wantsStandIn t=false:=by
 obtain rfl:f=3:=Option.some.inj ((show Tryz.prog.funcNamed "cayley/cayleylaw39.ResumeEnds" = some 3 by kernel_rfl).symm.trans hf) |>.symm;obtain rfl:fn=Tryz.f3:=(Option.some.inj (Tryz.func3.symm.trans hfn)).symm;refine⟨by kernel_rfl,fun j t ht=>?_⟩;rw[Tryz.params3] at ht;cases j with
 | zero=>simp at ht;subst ht;kernel_rfl
 | succ j =>
   cases j with
   | zero=>simp at ht;subst ht;kernel_rfl
   | succ j =>
     cases j with
     | zero=>simp at ht;subst ht;kernel_rfl
     | succ j =>
       cases j with
       | zero=>simp at ht;subst ht;kernel_rfl
       | succ j =>
         cases j with
         | zero=>simp at ht;subst ht;kernel_rfl
         | succ j =>
           simp at ht
end resumeEnds
theorem resumeEnds_holds:Rows.ResumeEndsCardSaid :=
 Claim7.holds_tied_plain_at .later [] _ _ _ _ resumeEnds.said (fun _ h=>by cases h) (by kernel_rfl) (fun _ h=>by cases h) resumeEnds_row_tie rfl ⟨rfl,rfl⟩ (by kernel_rfl) rfl resumeEnds.plain (by kernel_rfl)
end Go.Proofs.YtdpbidkgdnnamaaGreatDoor
