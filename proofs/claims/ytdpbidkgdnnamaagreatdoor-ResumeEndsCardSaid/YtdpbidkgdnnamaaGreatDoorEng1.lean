/- Enumeration of cosets in steps: the procedure in plain words. -/
import Derived.Test.YtdpbidkgdnnamaaGreatDoorText1
open Nat renaming eq_of_beq_eq_true->acP,le_refl->acS,beq->acV,lt_or_ge->acZ,mul_le_mul_right->ac5,zero_add->ada,succ_mul->adk,zero_le->adl,min_eq_left->adq,one_mul->adr
open List renaming getD_eq_getElem?_getD->acQ,replicate->acR,length_append->acT,length_set->acU,take->acW,length_singleton->acX,drop->ac0,getElem?_append_left->ac1,length_replicate->ac3,take_of_length_le->ac6,length->ac7,getElem?_eq_none->ac8,countP_singleton->ac9,countP_append->ade,getElem?_append_right->adg,mem_or_eq_of_mem_set->adh,getElem?_eq_getElem->adi,eq_of_mem_replicate->adj,range->adm,getElem?_set->adn,getElem_mem->ado,range_succ->adp
open Bool renaming false_eq_true->acY,and_eq_true->ac4,true_eq_false->adf
open Int renaming toNat_natCast->ac2,le_refl->adb
noncomputable section
namespace Go.br
structure Rn where
 g:Int
 ax:List (List Int)
 sub:List (List Int)
 aq:Int
 aH:Int
 aj:Int
 aA:Int
 ph:Int
 co:Int
 ix:Int
 af:List (List Int)
 ah:List Int
 dl:List Int
 dn:Nat
def bh(af:List (List Int))(a c:Nat):Int:=(af.getD a []).getD c 0
def fA(af:List (List Int))(a c:Nat)(x:Int):List (List Int):=af.set a ((af.getD a []).set c x)
theorem kW(af:List (List Int))(a c:Nat):(af.getD a []).getD c 0=bh af a c:=rfl
theorem Mc(af:List (List Int))(a c:Nat)(x:Int):af.set a ((af.getD a []).set c x)=fA af a c x:=rfl
def cr(x:Int):Int:=max (2*x-2) (-2*x-1)
def bZ(c:Nat):Nat:=if c%2=0 then c+1 else c-1
def sP(ah:List Int):Nat->Nat->Nat
 | 0,a=>a
 | f+1,a=>if ah.getD a 0=(a:Int) then a else sP ah f (ah.getD a 0).toNat
def top(ah:List Int)(a:Nat):Nat:=sP ah (a+1) a
def ct(r:Rn)(a b:Nat):Rn :=
 if top r.ah a=top r.ah b then r
 else { r with ah:=r.ah.set (max (top r.ah a) (top r.ah b)) (min (top r.ah a) (top r.ah b):Nat),dl:=r.dl.take r.dn++[((max (top r.ah a) (top r.ah b):Nat):Int)],dn:=r.dn+1,aj:=r.aj-1 }
def join(r:Rn)(a c b:Nat):Rn:={ r with af:=fA (fA r.af a c b) b (bZ c) a }
def cH(r:Rn)(e c:Nat):Rn:={ r with af:=fA (fA r.af e c (-1)) (bh r.af e c).toNat (bZ c) (-1) }
def kN(r:Rn)(u v c:Nat):Rn :=
 if 0<=bh r.af u c then ct r (bh r.af u c).toNat v
 else if 0<=bh r.af v (bZ c) then ct r (bh r.af v (bZ c)).toNat u
 else join r u c v
def cell(r:Rn)(e c:Nat):Rn:=if bh r.af e c<0 then r else kN (cH r e c) (top r.ah e) (top r.ah (bh r.af e c).toNat) c
def fH(e:Nat):Nat->Nat->Rn->Rn
 | 0,_,r=>r
 | f+1,c,r=>fH e f (c+1) (cell r e c)
def jV(k2:Nat):Nat->Nat->Rn->Rn
 | 0,_,r=>r
 | f+1,k,r=>if k<r.dn then jV k2 f (k+1) (fH (r.dl.getD k 0).toNat k2 0 r) else r
def dD(r:Rn)(a b:Nat):Rn :=
 jV (2*r.g).toNat (r.af.length+1) 0 (ct { r with dn:=0 } a b)
def eX(af:List (List Int))(w:List Int):Nat->Nat->Nat->Nat×Nat
 | 0,f,i=>(f,i)
 | n+1,f,i=>if i<w.length/\0<=bh af f (cr (w.getD i 0)).toNat then eX af w n (bh af f (cr (w.getD i 0)).toNat).toNat (i+1) else(f,i)
def gL(af:List (List Int))(w:List Int)(i:Nat):Nat->Nat->Nat->Nat×Nat
 | 0,b,j=>(b,j)
 | n+1,b,j=>if i<j/\0<=bh af b (cr (- w.getD (j-1) 0)).toNat then gL af w i n (bh af b (cr (- w.getD (j-1) 0)).toNat).toNat (j-1) else(b,j)
def eS(ah:List Int):Prop:=ah.length<=1000000/\∀ a,a<ah.length->0<=ah.getD a 0/\ah.getD a 0<=a
theorem Qd{ah:List Int}(hp:eS ah):∀(f f' a:Nat),a<f->a<f'->a<ah.length->sP ah f a=sP ah f' a
 | 0,_,_,h,_,_=>by omega
 | _+1,0,_,_,h,_=>by omega
 | f + 1, f' + 1, a, h1, h2, h3 => by
   simp only[sP];split;rfl;have:=hp.2 a h3;exact Qd hp f f' _ (by omega) (by omega) (by omega)
theorem ja{ah:List Int}(hp:eS ah){a:Nat}(h:a<ah.length)(hn:ah.getD a 0≠a):top ah a=top ah (ah.getD a 0).toNat:=by
 have:=hp.2 a h;unfold top;rw[sP,if_neg hn];exact Qd hp _ _ _ (by omega) (by omega) (by omega)
theorem dY{ah:List Int}{a:Nat}(hn:ah.getD a 0=a):top ah a=a:=by
 unfold top;rw[sP,if_pos hn]
theorem Qe{ah:List Int}(hp:eS ah):∀(f a:Nat),a<ah.length->sP ah f a<=a
 | 0,_,_=>acS _
 | f + 1, a, h => by
   rw[sP];split;exact acS _;have:=hp.2 a h;have:=Qe hp f (ah.getD a 0).toNat (by omega);omega
theorem gu{ah:List Int}(hp:eS ah){a:Nat}(h:a<ah.length):top ah a<=a:=Qe hp _ _ h
theorem Fg{ah:List Int}(hp:eS ah):∀(f a:Nat),a<f->a<ah.length->ah.getD (sP ah f a) 0=(sP ah f a:Nat)
 | 0,_,h,_=>by omega
 | f + 1, a, h, h2 => by
   rw[sP];split;assumption;have:=hp.2 a h2;exact Fg hp f _ (by omega) (by omega)
theorem gW{ah:List Int}(hp:eS ah){a:Nat}(h:a<ah.length):ah.getD (top ah a) 0=(top ah a:Nat):=Fg hp _ _ (by omega) h
theorem gX{l:List Int}{i j:Nat}{x:Int}:(l.set i x).getD j 0=if i=j/\i<l.length then x else l.getD j 0:=by
 simp only[acQ,adn];split;rename_i h;subst h;split;rename_i h2;rw[if_pos ⟨rfl,h2⟩];rfl;rename_i h2;rw[if_neg (by omega),ac8 (by omega)];rename_i h;rw[if_neg (by omega)]
theorem yM{l:List (List Int)}{i j:Nat}{x:List Int}:(l.set i x).getD j []=if i=j/\i<l.length then x else l.getD j []:=by
 simp only[acQ,adn];split;rename_i h;subst h;split;rename_i h2;rw[if_pos ⟨rfl,h2⟩];rfl;rename_i h2;rw[if_neg (by omega),ac8 (by omega)];rename_i h;rw[if_neg (by omega)]
def al(ah:List Int):Nat:=(adm ah.length).countP fun i=>decide (ah.getD i 0=(i:Int))
theorem Je{p q:Nat->Bool}{m:Nat}(hp:p m=true)(hq:q m=false)(h:∀ i,i≠m->p i=q i):∀ n,(adm n).countP q+(if m<n then 1 else 0)=(adm n).countP p
 | 0=>rfl
 | n + 1 => by
   have ih:=Je hp hq h n;rw[adp,ade,ade,ac9,ac9];by_cases e:n=m;subst e;rw[hp,hq];rw[if_neg (show ¬n<n by omega)] at ih;rw[if_pos (show n<n+1 by omega)];simp;omega;rw[h n e];by_cases h2:m<n;rw[if_pos h2] at ih;rw[if_pos (show m<n+1 by omega)];omega;rw[if_neg h2] at ih;rw[if_neg (show ¬m<n+1 by omega)];omega
theorem al_set{ah:List Int}{m b:Nat}(hm:m<ah.length)(ha:ah.getD m 0=(m:Int))(hb:b≠m):al (ah.set m (b:Int))+1=al ah:=by
 unfold al;rw[acU];have:=Je (p:=fun i=>decide (ah.getD i 0=(i:Int))) (q:=fun i=>decide ((ah.set m (b:Int)).getD i 0=(i:Int))) (m:=m) (by simpa using ha) ?_ ?_ ah.length;rw[if_pos hm] at this;exact this;simp only[decide_eq_false_iff_not];rw[gX,if_pos ⟨rfl,hm⟩];omega;intro i hi;rw[gX,if_neg (show ¬(m=i/\m<ah.length) by omega)]
theorem rT(ah:List Int):al ah<=ah.length:=by
 unfold al;have:=List.countP_le_length (p:=fun i=>decide (ah.getD i 0=(i:Int))) (l:=adm ah.length);rw[List.length_range] at this;exact this
theorem AK{ah:List Int}(hp:eS ah)(h:0<ah.length):0<al ah:=by
 unfold al;rw[List.countP_pos_iff];have:=hp.2 0 h;exact⟨0,by simpa using h,by simp only[decide_eq_true_eq];omega⟩
theorem al_app(ah:List Int):al (ah++[(ah.length:Int)])=al ah+1:=by
 unfold al;rw[acT,acX,adp,ade,ac9];have e:(ah++[(ah.length:Int)]).getD ah.length 0=ah.length:=by
  rw[acQ,adg (acS _)];simp
 rw[e];simp only[decide_true,if_true];congr 1;refine List.countP_congr fun i hi=>?_;have hi:=List.mem_range.1 hi;have:(ah++[(ah.length:Int)]).getD i 0=ah.getD i 0:=by
  rw[acQ,ac1 hi,<-acQ]
 rw[this]
def Row(k:Nat)(n:Nat)(l:List Int):Prop:=l.length=k/\∀ x∈l,-1<=x/\x<n
structure dh(r:Rn):Prop where
 g1:1<=r.g
 g2:r.g<=16
 len:r.ah.length=r.af.length
 ah:eS r.ah
 row:∀ l∈r.af,Row (2*r.g).toNat r.af.length l
 dy:r.dn<=r.dl.length
 dx:∀ x∈r.dl,0<=x/\x<r.af.length
 aj:r.aj=al r.ah
 sum:al r.ah+r.dn<=r.af.length
theorem Row.set{k n:Nat}{l:List Int}(h:Row k n l){c:Nat}{x:Int}(hx:-1<=x/\x<n):Row k n (l.set c x):=by
 refine⟨by rw[acU];exact h.1,fun y hy=>?_⟩;rcases adh hy with hy|rfl;exact h.2 y hy;exact hx
theorem eI{l:List (List Int)}{a:Nat}(h:a<l.length):l.getD a []∈l:=by
 rw[acQ,adi h];exact ado h
theorem fW{l:List Int}{a:Nat}(h:a<l.length):l.getD a 0∈l:=by
 rw[acQ,adi h];exact ado h
theorem pE{k n:Nat}{af:List (List Int)}(h:∀ l∈af,Row k n l){a c:Nat}{x:Int}(ha:a<af.length)(hx:-1<=x/\x<n):∀ l∈fA af a c x,Row k n l:=by
 intro l hl;rcases adh hl with hl|rfl;exact h l hl;exact(h _ (eI ha)).set hx
theorem dF(af:List (List Int))(a c:Nat)(x:Int):(fA af a c x).length=af.length:=acU ..
theorem eE{k n:Nat}{af:List (List Int)}(h:∀ l∈af,Row k n l){a c:Nat}(ha:a<af.length)(hc:c<k):-1<=bh af a c/\bh af a c<n:=by
 have:=h _ (eI ha);exact this.2 _ (fW (by rw[this.1];exact hc))
theorem dh.af{r:Rn}(T:dh r){af:List (List Int)}(hl:af.length=r.af.length)(h:∀ l∈af,Row (2*r.g).toNat r.af.length l):dh { r with af:=af } :=
 ⟨T.g1,T.g2,T.len.trans hl.symm,T.ah,by rw[show ({ r with af:=af }:Rn).af.length=r.af.length from hl];exact h,T.dy,by rw[show ({ r with af:=af }:Rn).af.length=r.af.length from hl];exact T.dx,T.aj,by rw[show ({ r with af:=af }:Rn).af.length=r.af.length from hl];exact T.sum⟩
theorem rC{c g:Nat}(h:c<2*g):bZ c<2*g:=by unfold bZ;split<;>omega
theorem dh.flip{r:Rn}(T:dh r){c:Nat}(h:c<(2*r.g).toNat):bZ c<(2*r.g).toNat:=by
 have:=T.g1;have:=@rC c r.g.toNat (by omega);omega
theorem dh.ct{r:Rn}(T:dh r){a b:Nat}(ha:a<r.af.length)(hb:b<r.af.length):dh (ct r a b):=by
 unfold br.ct;split;exact T;rename_i h;have hl:=T.len;have pa:=gu T.ah (show a<r.ah.length by omega);have pb:=gu T.ah (show b<r.ah.length by omega);have qa:=gW T.ah (show a<r.ah.length by omega);have qb:=gW T.ah (show b<r.ah.length by omega);generalize top r.ah a=u at *;generalize top r.ah b=v at *;have hmax:max u v<r.ah.length:=by omega
 have hal:r.ah.getD (max u v) 0=((max u v:Nat):Int):=by
  rcases Nat.le_total u v with h1|h1;rw[Nat.max_eq_right h1];exact qb;rw[Nat.max_eq_left h1];exact qa
 have hs:=al_set hmax hal (show min u v≠max u v by omega);have hsum:=T.sum;have hlive:=T.aj;refine⟨T.g1,T.g2,by simp only[acU];exact hl,⟨by simp only[acU];exact T.ah.1,fun i hi=>?_⟩,T.row,?_,?_,?_,?_⟩;simp only[acU] at hi;simp only;rw[gX];split;rename_i h2;omega;exact T.ah.2 i hi;have:=T.dy;simp only[acT,List.length_take,acX];omega;intro x hx;simp only[List.mem_append,List.mem_singleton] at hx;rcases hx with hx|rfl;exact T.dx x (List.mem_of_mem_take hx);simp only;omega;simp only;omega;simp only;omega
theorem mr(r:Rn)(a b:Nat):(ct r a b).af=r.af/\(ct r a b).g=r.g:=by unfold ct;split<;>exact⟨rfl,rfl⟩
theorem dh.join{r:Rn}(T:dh r){a c b:Nat}(ha:a<r.af.length)(hb:b<r.af.length):dh (join r a c b):=by
 refine T.af (by rw[dF,dF]) (pE (pE T.row ha (by omega)) (by rw[dF];exact hb) (by omega))
theorem jU(r:Rn)(a c b:Nat):(join r a c b).af.length=r.af.length/\(join r a c b).g=r.g:=⟨by unfold join;simp only[dF],rfl⟩
theorem dh.cL{r:Rn}(T:dh r){e c:Nat}(he:e<r.af.length){d:Nat}(hd:d<r.af.length):dh { r with af:=fA (fA r.af e c (-1)) d (bZ c) (-1) } :=
 T.af (by rw[dF,dF]) (pE (pE T.row he (by omega)) (by rw[dF];exact hd) (by omega))
theorem dh.kN{r:Rn}(T:dh r){u v c:Nat}(hu:u<r.af.length)(hv:v<r.af.length)(hc:c<(2*r.g).toNat):dh (kN r u v c)/\(kN r u v c).af.length=r.af.length/\(kN r u v c).g=r.g:=by
 have r1:=eE T.row hu hc;have r2:=eE T.row hv (T.flip hc);unfold br.kN;split;have:=mr r (bh r.af u c).toNat v;exact⟨T.ct (by omega) hv,by rw[this.1],this.2⟩;split;have:=mr r (bh r.af v (bZ c)).toNat u;exact⟨T.ct (by omega) hu,by rw[this.1],this.2⟩;have:=jU r u c v;exact⟨T.join hu hv,this.1,this.2⟩
theorem dh.cell{r:Rn}(T:dh r){e c:Nat}(he:e<r.af.length)(hc:c<(2*r.g).toNat):dh (cell r e c)/\(cell r e c).af.length=r.af.length/\(cell r e c).g=r.g:=by
 unfold br.cell;have hr:=eE T.row he hc;split;exact⟨T,rfl,rfl⟩;rename_i hd;have hd2:(bh r.af e c).toNat<r.af.length:=by omega
 have T1:dh (cH r e c):=T.cL (c:=c) he hd2;have hl:=T.len;have bN:(cH r e c).af.length=r.af.length:=by unfold cH;simp only[dF]
 have pu:=gu T.ah (show e<r.ah.length by omega);have pv:=gu T.ah (show (bh r.af e c).toNat<r.ah.length by omega);have:=T1.kN (u:=top r.ah e) (v:=top r.ah (bh r.af e c).toNat) (c:=c) (by omega) (by omega) hc;exact⟨this.1,this.2.1.trans bN,this.2.2⟩
theorem dh.cells{e:Nat}:∀(f c:Nat){r:Rn},dh r->e<r.af.length->c+f<=(2*r.g).toNat->dh (fH e f c r)/\(fH e f c r).af.length=r.af.length/\(fH e f c r).g=r.g
 | 0,c,r,T,_,_=>⟨T,rfl,rfl⟩
 | f+1,c,r,T,he,hc=>by
   obtain⟨T1,h1,h2⟩:=T.cell (c:=c) he (by omega);have:=dh.cells (e:=e) f (c+1) T1 (by omega) (by rw[h2];omega);rw[fH];exact⟨this.1,this.2.1.trans h1,this.2.2.trans h2⟩
theorem dh.die{k2:Nat}:∀(f k:Nat){r:Rn},dh r->k2=(2*r.g).toNat->dh (jV k2 f k r)/\(jV k2 f k r).af.length=r.af.length/\(jV k2 f k r).g=r.g
 | 0,k,r,T,_=>⟨T,rfl,rfl⟩
 | f + 1, k, r, T, hk => by
   rw[jV];split;rename_i h;have hd:=T.dx _ (fW (l:=r.dl) (a:=k) (by have:=T.dy;omega));obtain⟨T1,h1,h2⟩:=dh.cells k2 0 T (show (r.dl.getD k 0).toNat<r.af.length by omega) (by omega);have:=dh.die (k2:=k2) f (k+1) T1 (by rw[h2];exact hk);exact⟨this.1,this.2.1.trans h1,this.2.2.trans h2⟩;exact⟨T,rfl,rfl⟩
def bF(r:Rn):Prop:=dh { r with dn:=0 }
theorem bF.dD{r:Rn}(T:bF r){a b:Nat}(ha:a<r.af.length)(hb:b<r.af.length):bF (dD r a b)/\(dD r a b).af.length=r.af.length/\(dD r a b).g=r.g:=by
 have T1:dh (ct { r with dn:=0 } a b):=dh.ct T ha hb;have hm:=mr { r with dn:=0 } a b;obtain⟨T2,h1,h2⟩:=dh.die (k2:=(2*r.g).toNat) (r.af.length+1) 0 T1 (by rw[hm.2]);refine⟨?_,h1.trans (by rw[hm.1]),h2.trans hm.2⟩;have hs:=T2.sum;exact⟨T2.g1,T2.g2,T2.len,T2.ah,T2.row,adl _,T2.dx,T2.aj,Nat.le_trans (Nat.le_add_right _ _) hs⟩
theorem bF.at{r:Rn}(T:bF r){a c:Nat}(ha:a<r.af.length)(hc:c<(2*r.g).toNat):-1<=bh r.af a c/\bh r.af a c<r.af.length :=
 eE (af:=r.af) T.row ha hc
def add(r:Rn):Rn:={ r with af:=r.af++[acR (2*r.g).toNat (-1)],ah:=r.ah++[(r.ah.length:Int)],aj:=r.aj+1,aH:=max r.aH (r.aj+1) }
theorem rD(r:Rn):(add r).af.length=r.af.length+1/\(add r).g=r.g:=⟨by unfold add;simp,rfl⟩
theorem bF.add{r:Rn}(T:bF r)(h:r.af.length<1000000):bF (add r):=by
 have hl:r.ah.length=r.af.length:=T.len;have hp:eS r.ah:=T.ah;have hlive:r.aj=al r.ah:=T.aj;refine⟨T.g1,T.g2,?_,⟨?_,?_⟩,?_,adl _,?_,?_,?_⟩;show (r.ah++[(r.ah.length:Int)]).length=(r.af++[acR (2*r.g).toNat (-1)]).length;simp[hl];show (r.ah++[(r.ah.length:Int)]).length<=1000000;simp;omega;show ∀ a,a<(r.ah++[(r.ah.length:Int)]).length->0<=(r.ah++[(r.ah.length:Int)]).getD a 0/\(r.ah++[(r.ah.length:Int)]).getD a 0<=a;intro a ha;rw[acT,acX] at ha;rw[acQ];rcases acZ a r.ah.length with h1|h1;rw[ac1 h1,<-acQ];exact hp.2 a h1;rw[adg h1,show a-r.ah.length=0 by omega];simp;omega;show ∀ l∈r.af++[acR (2*r.g).toNat (-1)],Row (2*r.g).toNat (r.af++[acR (2*r.g).toNat (-1)]).length l;intro l hl;rw[acT,acX];rcases List.mem_append.1 hl with hl|hl;obtain⟨h1,h2⟩:=T.row l hl;refine⟨h1,fun x hx=>?_⟩;have h2:∀ x∈l,-1<=x/\x<r.af.length:=h2;have:=h2 x hx;omega;rw[List.mem_singleton.1 hl];refine⟨ac3,fun x hx=>?_⟩;rw[adj hx];omega;show ∀ x∈r.dl,0<=x/\x<((r.af++[acR (2*r.g).toNat (-1)]).length:Nat);intro x hx;have:0<=x/\x<r.af.length:=T.dx x hx;rw[acT,acX];omega;show r.aj+1=(al (r.ah++[(r.ah.length:Int)]):Nat);rw[al_app,hlive];omega;show al (r.ah++[(r.ah.length:Int)])+0<=(r.af++[acR (2*r.g).toNat (-1)]).length;have:=rT (r.ah++[(r.ah.length:Int)]);simp only[acT,acX] at this ⊢;omega
theorem bF.joins{r:Rn}(T:bF r){a c b:Nat}(ha:a<r.af.length)(hb:b<r.af.length):bF (join r a c b):=dh.join (r:={ r with dn:=0 }) T ha hb
def Wd(g:Int)(w:List Int):Prop:=w.length<=1000000/\∀ x∈w,x≠0/\-g<=x/\x<=g
theorem Wd.get{g:Int}{w:List Int}(h:Wd g w){i:Nat}(hi:i<w.length):w.getD i 0≠0/\-g<=w.getD i 0/\w.getD i 0<=g:=h.2 _ (fW hi)
theorem Wd.any{g:Int}{w:List Int}(h:Wd g w)(h0:0<=g)(i:Nat):-g<=w.getD i 0/\w.getD i 0<=g:=by
 rcases acZ i w.length with hi|hi;exact(h.get hi).2;rw[acQ,ac8 hi];exact⟨by simp;omega,by simpa using h0⟩
theorem iP{g x:Int}(h:x≠0/\-g<=x/\x<=g):0<=cr x/\cr x<2*g:=by
 unfold cr;omega
def qz(r:Rn)(w:List Int)(f i b j:Nat):Rn×Nat×Nat×Bool :=
 if i=j then(dD r f b,0,0,false)
 else if i+1=j then(join r f (cr (w.getD i 0)).toNat b,0,0,false)
 else(r,f,(cr (w.getD i 0)).toNat,true)
def vr(r:Rn)(a:Nat)(w:List Int)(f i:Nat):Rn×Nat×Nat×Bool :=
 qz r w f i (gL r.af w i w.length a w.length).1 (gL r.af w i w.length a w.length).2
def bC(r:Rn)(a:Nat)(w:List Int):Rn×Nat×Nat×Bool :=
 vr r a w (eX r.af w w.length a 0).1 (eX r.af w w.length a 0).2
theorem p5{r:Rn}(T:bF r){w:List Int}(hw:Wd r.g w):∀(n f i:Nat),f<r.af.length->i<=w.length->(eX r.af w n f i).1<r.af.length/\(eX r.af w n f i).2<=w.length
 | 0,f,i,hf,hi=>⟨hf,hi⟩
 | n + 1, f, i, hf, hi => by
   rw[eX];split;rename_i h;have hc:=iP (hw.get h.1);have:=T.at (a:=f) (c:=(cr (w.getD i 0)).toNat) hf (by omega);exact p5 T hw n _ _ (by omega) (by omega);exact⟨hf,hi⟩
theorem p6{r:Rn}(T:bF r){w:List Int}(hw:Wd r.g w){i:Nat}:∀(n b j:Nat),b<r.af.length->i<=j->j<=w.length->(gL r.af w i n b j).1<r.af.length/\i<=(gL r.af w i n b j).2/\(gL r.af w i n b j).2<=w.length
 | 0,b,j,hb,hi,hj=>⟨hb,hi,hj⟩
 | n + 1, b, j, hb, hi, hj => by
   rw[gL];split;rename_i h;have hg:=hw.get (show j-1<w.length by omega);have hc:=iP (show-w.getD (j-1) 0≠0/\- r.g<=- w.getD (j-1) 0/\- w.getD (j-1) 0<=r.g by omega);have:=T.at (a:=b) (c:=(cr (- w.getD (j-1) 0)).toNat) hb (by omega);exact p6 T hw n _ _ (by omega) (by omega) (by omega);exact⟨hb,hi,hj⟩
def Keep(r r':Rn):Prop:=r'.g=r.g/\r'.ax=r.ax/\r'.sub=r.sub/\r'.aq=r.aq/\r'.ph=r.ph/\r'.co=r.co/\r'.ix=r.ix/\r'.aA=r.aA
theorem Keep.refl(r:Rn):Keep r r:=⟨rfl,rfl,rfl,rfl,rfl,rfl,rfl,rfl⟩
theorem Keep.trans{a b c:Rn}(h:Keep a b)(k:Keep b c):Keep a c:=by
 obtain⟨h1,h2,h3,h4,h5,h6,h7,h8⟩:=h;obtain⟨k1,k2,k3,k4,k5,k6,k7,k8⟩:=k;exact⟨k1.trans h1,k2.trans h2,k3.trans h3,k4.trans h4,k5.trans h5,k6.trans h6,k7.trans h7,k8.trans h8⟩
theorem tD(r:Rn)(a b:Nat):Keep r (ct r a b):=by unfold ct;split<;>exact Keep.refl _
theorem Jf(r:Rn)(a c b:Nat):Keep r (join r a c b):=Keep.refl _
theorem Jg(r:Rn)(e c:Nat):Keep r (cell r e c):=by
 unfold cell;split;exact Keep.refl _;unfold kN;split;exact tD (cH r e c) _ _;split;exact tD (cH r e c) _ _;exact Jf (cH r e c) _ _ _
theorem yN(e:Nat):∀(f c:Nat)(r:Rn),Keep r (fH e f c r)
 | 0,_,_=>Keep.refl _
 | f+1,c,r=>(Jg r e c).trans (yN e f (c+1) _)
theorem Md(k2:Nat):∀(f k:Nat)(r:Rn),Keep r (jV k2 f k r)
 | 0,_,_=>Keep.refl _
 | f+1,k,r=>by
   rw[jV];split;exact(yN _ _ _ r).trans (Md k2 f (k+1) _);exact Keep.refl _
theorem J6(r:Rn)(a b:Nat):Keep r (dD r a b) :=
 (tD { r with dn:=0 } a b).trans (Md _ _ _ _)
structure Scanned(r:Rn)(x:Rn×Nat×Nat×Bool):Prop where
 bw:bF x.1
 len:x.1.af.length=r.af.length
 ay:Keep r x.1
 opn:x.2.2.2=true->x.1=r/\x.2.1<r.af.length/\x.2.2.1<(2*r.g).toNat
theorem jd{r:Rn}(T:bF r){w:List Int}(hw:Wd r.g w){a:Nat}(ha:a<r.af.length):Scanned r (bC r a w):=by
 obtain⟨f1,f2⟩:=p5 T hw w.length a 0 ha (adl _);obtain⟨b1,b2,b3⟩:=p6 T hw (i:=(eX r.af w w.length a 0).2) w.length a w.length ha f2 (acS _);unfold bC vr;generalize eX r.af w w.length a 0=p at *;generalize gL r.af w p.2 w.length a w.length=q at *;unfold qz;split;obtain⟨c1,c2,c3⟩:=T.dD f1 b1;exact⟨c1,c2,J6 _ _ _,fun h=>by cases h⟩;split;exact⟨T.joins f1 b1,(jU _ _ _ _).1,Jf _ _ _ _,fun h=>by cases h⟩;have:=iP (hw.get (show p.2<w.length by omega));exact⟨T,rfl,Keep.refl _,fun _=>⟨rfl,f1,by simp only;omega⟩⟩
def grow(r:Rn)(f c:Nat):Rn:=join (add r) f c r.af.length
theorem hO{r:Rn}(T:bF r){f:Nat}(c:Nat)(hf:f<r.af.length)(h:r.af.length<1000000):bF (grow r f c)/\(grow r f c).af.length=r.af.length+1/\Keep r (grow r f c):=by
 have h1:=rD r;exact⟨(T.add h).joins (by omega) (by omega),(jU _ _ _ _).1.trans h1.1,Keep.refl _⟩
def aY(a:Nat)(w:List Int):Nat->Rn->Rn×Nat×Bool
 | 0,r =>
   if(bC r a w).2.2.2=false then((bC r a w).1,0,true)
   else if r.aq<=(bC r a w).1.af.length then({ (bC r a w).1 with aA:=2 },0,false)
   else((bC r a w).1,0,false)
 | q+1,r =>
   if(bC r a w).2.2.2=false then((bC r a w).1,q+1,true)
   else if r.aq<=(bC r a w).1.af.length then({ (bC r a w).1 with aA:=2 },q+1,false)
   else aY a w q (grow (bC r a w).1 (bC r a w).2.1 (bC r a w).2.2.1)
def bP(a:Nat):Nat->Nat->Rn->Nat->Rn×Nat×Bool
 | 0,_,r,q=>(r,q,true)
 | f+1,c,r,q =>
   if 0<=bh r.af a c then bP a f (c+1) r q
   else if r.aq<=r.af.length then({ r with aA:=2 },q,false)
   else if q=0 then(r,0,false)
   else bP a f (c+1) (grow r a c) (q-1)
structure Me(r:Rn)(q:Nat)(x:Rn×Nat×Bool):Prop where
 bw:bF x.1
 len:x.1.af.length+x.2.1=r.af.length+q
 aq:x.1.af.length<=r.aq
 grown:r.af.length<=x.1.af.length
 ay:Keep r { x.1 with aA:=r.aA }
 yes:x.2.2=true->x.1.aA=r.aA
 no:x.2.2=false->(x.1.aA=2/\r.aq<=x.1.af.length)∨(x.1.aA=r.aA/\x.2.1=0/\x.1.af.length<r.aq)
theorem Keep.aA{a b:Rn}(h:Keep a b):Keep a { b with aA:=a.aA }:=by
 obtain⟨h1,h2,h3,h4,h5,h6,h7,h8⟩:=h;exact⟨h1,h2,h3,h4,h5,h6,h7,rfl⟩
theorem bF.aA{r:Rn}(T:bF r)(s:Int):bF { r with aA:=s }:=⟨T.g1,T.g2,T.len,T.ah,T.row,T.dy,T.dx,T.aj,T.sum⟩
theorem Keep.trans'{a b c:Rn}(h:Keep a b)(k:Keep b { c with aA:=b.aA }):Keep a { c with aA:=a.aA }:=by
 obtain⟨h1,h2,h3,h4,h5,h6,h7,h8⟩:=h;obtain⟨k1,k2,k3,k4,k5,k6,k7,k8⟩:=k;exact⟨k1.trans h1,k2.trans h2,k3.trans h3,k4.trans h4,k5.trans h5,k6.trans h6,k7.trans h7,rfl⟩
theorem kX{a:Nat}{w:List Int}:∀(q:Nat){r:Rn},bF r->Wd r.g w->a<r.af.length->r.af.length<=r.aq->r.aq<=900000->Me r q (aY a w q r)
 | 0,r,T,hw,ha,hl,hm=>by
   have S:=jd T hw ha;have h1:=S.len;rw[aY];split;exact⟨S.bw,by simp only;omega,by simp only;omega,by simp only;omega,S.ay.aA,fun _=>S.ay.2.2.2.2.2.2.2,fun h=>by cases h⟩;split;rename_i h2 h3;exact⟨S.bw.aA 2,by simp only;omega,by simp only;omega,by simp only;omega,S.ay.aA,fun h=>(by cases h),fun _=>.inl ⟨rfl,h3⟩⟩;exact⟨S.bw,by simp only;omega,by simp only;omega,by simp only;omega,S.ay.aA,fun h=>(by cases h),fun _=>.inr ⟨S.ay.2.2.2.2.2.2.2,rfl,by simp only;omega⟩⟩
 | q + 1, r, T, hw, ha, hl, hm => by
   have S:=jd T hw ha;have h1:=S.len;rw[aY];split;exact⟨S.bw,by simp only;omega,by simp only;omega,by simp only;omega,S.ay.aA,fun _=>S.ay.2.2.2.2.2.2.2,fun h=>by cases h⟩;split;rename_i h2 h3;exact⟨S.bw.aA 2,by simp only;omega,by simp only;omega,by simp only;omega,S.ay.aA,fun h=>(by cases h),fun _=>.inl ⟨rfl,h3⟩⟩;rename_i h2 h3;obtain⟨o1,o2,o3⟩:=S.opn (by simpa using h2);obtain⟨g1,g2,g3⟩:=hO S.bw (bC r a w).2.2.1 (show (bC r a w).2.1<(bC r a w).1.af.length by omega) (by omega);have k:=S.ay.trans g3;have F:=kX (a:=a) (w:=w) q g1 (by rw[k.1];exact hw) (by omega) (by rw[k.2.2.2.1];omega) (by rw[k.2.2.2.1];exact hm);refine⟨F.bw,by have:=F.len;omega,by have:=F.aq;rw[k.2.2.2.1] at this;exact this,by have:=F.grown;omega,k.trans' F.ay,fun h=>(F.yes h).trans k.2.2.2.2.2.2.2,fun h=>?_⟩;have:=F.no h;rw[k.2.2.2.1,k.2.2.2.2.2.2.2] at this;exact this
theorem p7{a:Nat}:∀(f c:Nat)(q:Nat){r:Rn},bF r->c+f=(2*r.g).toNat->a<r.af.length->r.af.length<=r.aq->r.aq<=900000->Me r q (bP a f c r q)
 | 0,c,q,r,T,hc,ha,hl,hm=>by
   show Me r q (r,q,true);exact⟨T,rfl,hl,acS _,Keep.refl _,fun _=>rfl,fun h=>by cases h⟩
 | f + 1, c, q, r, T, hc, ha, hl, hm => by
   rw[bP];split;exact p7 f (c+1) q T (by omega) ha hl hm;split;rename_i h2 h3;exact⟨T.aA 2,rfl,hl,acS _,Keep.refl _,fun h=>(by cases h),fun _=>.inl ⟨rfl,h3⟩⟩;rename_i h2 h3;split;rename_i h4;exact⟨T,by simp only;omega,hl,acS _,Keep.refl _,fun h=>(by cases h),fun _=>.inr ⟨rfl,rfl,by simp only;omega⟩⟩;obtain⟨g1,g2,g3⟩:=hO T c ha (by omega);have F:=p7 (a:=a) f (c+1) (q-1) g1 (by rw[g3.1];omega) (by omega) (by rw[g3.2.2.2.1];omega) (by rw[g3.2.2.2.1];exact hm);refine⟨F.bw,by have:=F.len;omega,by have:=F.aq;rw[g3.2.2.2.1] at this;exact this,by have:=F.grown;omega,g3.trans' F.ay,fun h=>(F.yes h).trans g3.2.2.2.2.2.2.2,fun h=>?_⟩;have:=F.no h;rw[g3.2.2.2.1,g3.2.2.2.2.2.2.2] at this;exact this
end Go.br
namespace Go.Proofs.YtdpbidkgdnnamaaGreatDoor
open Go.aW Go.Words Go.br
set_option maxRecDepth 100000
abbrev bV(r:Rn)(a b c:Nat):Ob:=⟨61,[.c (.int .i64 r.g),.c (.rd (.sl (.int .i64)) r.ax),.c (.rd (.sl (.int .i64)) r.sub),.c (.int .i64 r.aq),.c (.int .i64 r.aH),.c (.int .i64 r.aj),.c (.int .i64 r.aA),.c (.int .i64 r.ph),.c (.int .i64 r.co),.c (.int .i64 r.ix),.c (.sl a 0 r.af.length 1),.c (.sl b 0 r.ah.length 1),.c (.sl c 0 r.dn 1)]⟩
abbrev aQ(r:Rn):Ob:=⟨22,[.c (.th (2*r.g).toNat r.af)]⟩
abbrev obs(r:Rn):List Ob:=[bV r 1 2 3,aQ r,aB r.ah,aB r.dl]
abbrev pR:A:=.p (.c (.ptr 0 0))
def Mf(i j m:Nat):List Ob->Option (Prop×Rn)
 | [⟨t,[.c (.int .i64 g),.c (.rd (.sl (.int .i64)) ax),.c (.rd (.sl (.int .i64)) sub),.c (.int .i64 aq),.c (.int .i64 aH),.c (.int .i64 aj),.c (.int .i64 aA),.c (.int .i64 ph),.c (.int .i64 co),.c (.int .i64 ix),.c (.sl a 0 nr 1),.c (.sl b 0 np 1),.c (.sl c 0 dn 1)]⟩,⟨t1,[.c (.th k af)]⟩,⟨t2,[.a 0 (.int .i64) ah]⟩,⟨t3,[.a 0 (.int .i64) dl]⟩] =>
   bif acV t 61&&(acV t1 22&&(acV t2 3&&(acV t3 3&&(acV a i&&(acV b j&&acV c m))))) then some (nr=af.length/\np=ah.length/\k=(2*g).toNat,⟨g,ax,sub,aq,aH,aj,aA,ph,co,ix,af,ah,dl,dn⟩) else none
 | _=>none
theorem GR{i j m:Nat}{au:List Ob}{c:Prop}{r:Rn}(e:Mf i j m au=some (c,r))(hc:c):au=[bV r i j m,aQ r,aB r.ah,aB r.dl]:=by
 unfold Mf at e;split at e;obtain⟨hb,e1⟩:=aC.aK e;clear e;simp only[ac4] at hb;obtain⟨h1,h2,h3,h4,h5,h6,h7⟩:=hb;cases acP h1;cases acP h2;cases acP h3;cases acP h4;cases acP h5;cases acP h6;cases acP h7;cases e1;obtain⟨rfl,rfl,rfl⟩:=hc;rfl;cases e
def Fh(au:List Ob):Option (Prop×Rn):=Mf 1 2 3 au
theorem sC{au:List Ob}{c:Prop}{r:Rn}(e:Fh au=some (c,r))(hc:c):au=obs r:=GR e hc
theorem gA{x:Int}(h:0<=x):x=(x.toNat:Int):=by omega
def Kl(f:Rn->Nat->Prop×A×Rn):bQ:={ cI:=[true,false],ay:=some 1,f:=fun args au=>match args with
 | [.p (.c (.ptr 0 0)),.p (.c (.int .i64 x))]=>match Fh au with
   | some (c,r)=>some (.p (c/\0<=x/\(f r x.toNat).1),(f r x.toNat).2.1,obs (f r x.toNat).2.2)
   | none=>none
 | _=>none }
theorem Mh{P:Program}{fn:FuncId}{f:Rn->Nat->Prop×A×Rn}(he:enters P fn=true)(h:∀ r a,(f r a).1->bq P fn 1 [pR,nI a] (obs r) (f r a).2.1 (obs (f r a).2.2)):aM P fn (Kl f):=by
 refine⟨he,fun args au c r bg e hc=>?_⟩;simp only[Kl] at e;split at e;rename_i x;split at e;rename_i c1 r1 hr;cases e;obtain⟨h1,h2,h3⟩:=hc;have:=h _ _ h3;rw[<-gA h2] at this;rw[sC hr h1];exact this;cases e;cases e
def Km(f:Rn->Nat->Nat->Prop×A×Rn):bQ:={ cI:=[true,false,false],ay:=some 1,f:=fun args au=>match args with
 | [.p (.c (.ptr 0 0)),.p (.c (.int .i64 x)),.p (.c (.int .i64 y))]=>match Fh au with
   | some (c,r)=>some (.p (c/\0<=x/\0<=y/\(f r x.toNat y.toNat).1),(f r x.toNat y.toNat).2.1,obs (f r x.toNat y.toNat).2.2)
   | none=>none
 | _=>none }
theorem Mi{P:Program}{fn:FuncId}{f:Rn->Nat->Nat->Prop×A×Rn}(he:enters P fn=true)(h:∀ r a b,(f r a b).1->bq P fn 1 [pR,nI a,nI b] (obs r) (f r a b).2.1 (obs (f r a b).2.2)):aM P fn (Km f):=by
 refine⟨he,fun args au c r bg e hc=>?_⟩;simp only[Km] at e;split at e;rename_i x y;split at e;rename_i c1 r1 hr;cases e;obtain⟨h1,h2,h3,h4⟩:=hc;have:=h _ _ _ h4;rw[<-gA h2,<-gA h3] at this;rw[sC hr h1];exact this;cases e;cases e
def S8(f:Rn->Nat->Nat->Nat->Prop×A×Rn):bQ:={ cI:=[true,false,false,false],ay:=some 1,f:=fun args au=>match args with
 | [.p (.c (.ptr 0 0)),.p (.c (.int .i64 x)),.p (.c (.int .i64 y)),.p (.c (.int .i64 z))]=>match Fh au with
   | some (c,r)=>some (.p (c/\0<=x/\0<=y/\0<=z/\(f r x.toNat y.toNat z.toNat).1),(f r x.toNat y.toNat z.toNat).2.1,obs (f r x.toNat y.toNat z.toNat).2.2)
   | none=>none
 | _=>none }
theorem aaB{P:Program}{fn:FuncId}{f:Rn->Nat->Nat->Nat->Prop×A×Rn}(he:enters P fn=true)(h:∀ r a b c,(f r a b c).1->bq P fn 1 [pR,nI a,nI b,nI c] (obs r) (f r a b c).2.1 (obs (f r a b c).2.2)):aM P fn (S8 f):=by
 refine⟨he,fun args au c r bg e hc=>?_⟩;simp only[S8] at e;split at e;rename_i x y z;split at e;rename_i c1 r1 hr;cases e;obtain⟨h1,h2,h3,h4,h5⟩:=hc;have:=h _ _ _ _ h5;rw[<-gA h2,<-gA h3,<-gA h4] at this;rw[sC hr h1];exact this;cases e;cases e
theorem S9(x:Int)(h:-1000<=x/\x<=1000):bA Tryz.prog 101 [nI x] [] (nI (cr x)) []:=by
 refine bU (aj:=[]) aG Tryz.func101 (by kernel_rfl) (ay:=0) rfl (by kernel_rfl) 100 ?_;apply of_eq (q:=let q0:=IntKind.i64.wrap;aE [vI (max (q0 (q0 ((2:Int)*x)-2)) (q0 (q0 ((-2:Int)*x)-1)))]=nI (cr x)/\([]:List Ob)=[]) (by kernel_rfl)
 try simp only[sL]
 rw[wrap64 (n:=2*x) (by omega) (by omega),wrap64 (n:=-2*x) (by omega) (by omega),wrap64 (n:=2*x-2) (by omega) (by omega),wrap64 (n:=-2*x-1) (by omega) (by omega)];rfl
def cCol:bQ:=kI (.int .i64) fun x=>(.p (-1000<=(show Int from x)/\(show Int from x)<=1000),nI (cr x),[])
theorem cCol_ok:aM Tryz.prog 101 cCol:=gE (by kernel_rfl) fun x h=>S9 x h
theorem WO(r:Rn)(a:Nat)(h:a<r.ah.length):bq Tryz.prog 40 1 [pR,nI a] (obs r) (bB (decide (r.ah.getD a 0=a))) (obs r):=by
 refine bR (aj:=[]) (cx:=[]) (fz:=[]) aG Tryz.func40 (by kernel_rfl) 1 (by kernel_rfl) 100 ?_;apply of_eq (q:=((0:Int)<=(a:Int)/\(a:Int)<(r.ah.length:Int))/\(0:Nat)+a<r.ah.length/\aE [vB (decide (r.ah.getD ((0:Nat)+a) (0:Int)=(a:Int)))]=bB (decide (r.ah.getD a (0:Int)=(a:Int)))/\[bV r (1:Nat) (2:Nat) (3:Nat),aQ r,aB r.ah,aB r.dl]=obs r) (by kernel_rfl)
 try simp only[sL]
 exact⟨by omega,h,rfl⟩
def Mj:bQ:=Kl fun r a=>(a<r.ah.length,bB (decide (r.ah.getD a 0=a)),r)
theorem Jh:aM Tryz.prog 40 Mj:=Mh (by kernel_rfl) fun r a h=>WO r a h
theorem rE(c:Nat)(h:c<64):IntKind.i64.wrap ↑(BitVec.ofInt 64 (c:Int) ^^^ BitVec.ofInt 64 1).toNat=(bZ c:Int):=by
 revert c;decide +kernel
theorem rC{c g:Nat}(h:c<2*g):bZ c<2*g:=by unfold bZ;split<;>omega
theorem WQ(r:Rn)(a c b:Nat)(h:a<r.af.length/\b<r.af.length/\c<(2*r.g).toNat/\r.g<=16):bq Tryz.prog 84 1 [pR,nI a,nI c,nI b] (obs r) (.aL []) (obs (join r a c b)):=by
 refine bR (aj:=[]) (cx:=[]) (fz:=[]) aG Tryz.func84 (by kernel_rfl) 1 (by kernel_rfl) 100 ?_;apply of_eq (q:=let q0:=IntKind.i64.wrap;let q1:=(↑(BitVec.ofInt (64:Nat) (c:Int) ^^^ BitVec.ofInt (64:Nat) (1:Int)).toNat:Int);let q2:=(r.af.set ((0:Nat)+a) ((r.af.getD ((0:Nat)+a) []).set c (b:Int)));let q3:=((2:Int)*r.g);((0:Int)<=(a:Int)/\(a:Int)<(r.af.length:Int))/\(0:Nat)+a<r.af.length/\((0:Int)<=(b:Int)/\(b:Int)<(r.af.length:Int))/\(0:Nat)+b<r.af.length/\((0:Int)<=(c:Int)/\(c:Int)<(↑q3.toNat:Int))/\((0:Nat)+a<r.af.length/\c<q3.toNat)/\((0:Int)<=q0 q1/\q0 q1<(↑q3.toNat:Int))/\((0:Nat)+b<q2.length/\(q0 q1).toNat<q3.toNat)/\aE []=A.aL []/\[bV r (1:Nat) (2:Nat) (3:Nat),Ob.mk 22 [Fd.c (W.th q3.toNat (q2.set ((0:Nat)+b) ((q2.getD ((0:Nat)+b) []).set (q0 q1).toNat (a:Int))))],aB r.ah,aB r.dl]=obs (join r a c b)) (by kernel_rfl)
 try simp only[sL]
 have hf:=@rC c r.g.toNat (by omega);rw[rE c (by omega)];simp only[acU,ac2];refine⟨by omega,by omega,by omega,by omega,by omega,by omega,by omega,by omega,rfl,?_⟩;simp only[obs,bV,aQ,join,fA,acU]
def AL:bQ:=S8 fun r a c b=>(a<r.af.length/\b<r.af.length/\c<(2*r.g).toNat/\r.g<=16,.aL [],join r a c b)
theorem vv:aM Tryz.prog 84 AL:=aaB (by kernel_rfl) fun r a c b h=>WQ r a c b h
def aaC:bW:=[(40,Mj)]
theorem Qf:bt Tryz.prog aaC:=ar Jh aG
def sTop:bJ:=bG Tryz.prog aaC Tryz.f120 1 [([0,0,1],[0,1])] [] []
theorem Mk(r:Rn)(hp:eS r.ah)(b:Nat):∀(n a:Nat),a<n->a<r.ah.length->b=top r.ah a->
 av sTop (aD (nI b) (obs r)) [0,0,1] (fr [(0,pR),(1,nI a)]) (.ofList (obs r))
 | n,a,hn,ha,hb=>by
   refine aN Qf (by kernel_rfl) 100 ?_;apply of_eq (q:=((r.af.length=r.af.length/\r.ah.length=r.ah.length/\((2:Int)*r.g).toNat=((2:Int)*r.g).toNat)/\(0:Int)<=(a:Int)/\a<r.ah.length)/\((!decide (r.ah.getD a (0:Int)=(a:Int)))=true->((0:Int)<=(a:Int)/\(a:Int)<(r.ah.length:Int))/\(0:Nat)+a<r.ah.length/\av sTop (aD (nI (b:Int)) (obs r)) [0,0,1] (fr [(0,aR 0 0),(1,nI (r.ah.getD ((0:Nat)+a) (0:Int)))]) (ak.ofList [bV r 1 2 3,aQ r,aB r.ah,aB r.dl]))/\((!decide (r.ah.getD a (0:Int)=(a:Int)))=false->aE [vI (a:Int)]=nI (b:Int)/\[bV r (1:Nat) (2:Nat) (3:Nat),aQ r,aB r.ah,aB r.dl]=obs r)) (by kernel_rfl)
   try simp only[sL]
   have:=hp.2 a ha;refine⟨⟨by omega,ha⟩,fun h=>⟨by omega,ha,?_⟩,fun h=>?_⟩
   . rw[ja hp ha h] at hb;have e:=gA this.1;rw[e];cases n with
     | zero=>omega
     | succ n=>exact Mk r hp b n _ (by omega) (by omega) hb
   rw[dY h] at hb;rw[hb];rfl
theorem top_sem(r:Rn)(hp:eS r.ah)(a:Nat)(ha:a<r.ah.length):bq Tryz.prog 120 1 [pR,nI a] (obs r) (nI (top r.ah a)) (obs r):=by
 refine bR (aj:=[([0,0,1],[0,1])]) (cx:=[]) (fz:=[]) Qf Tryz.func120 (by kernel_rfl) 1 (by kernel_rfl) 100 ?_;apply of_eq (q:=av (bG Tryz.prog aaC Tryz.f120 (1:Nat) [([0,0,1],[0,1])] [] []) (aD (nI (↑(top r.ah a):Int)) (obs r)) [0,0,1] (fr [(0,aR 0 0),(1,nI (a:Int))]) (ak.ofList [bV r 1 2 3,aQ r,aB r.ah,aB r.dl])) (by kernel_rfl)
 try simp only[sL,Int.reduceEq,Int.reduceNe,Nat.reduceAdd]
 exact Mk r hp _ (a+1) a (by omega) ha rfl
def aaD:bQ:=Kl fun r a=>(eS r.ah/\a<r.ah.length,nI (top r.ah a),r)
theorem Qg:aM Tryz.prog 120 aaD:=Mh (by kernel_rfl) fun r a h=>top_sem r h.1 a h.2
def gMe:bW:=[(120,aaD)]
theorem gMe_ok:bt Tryz.prog gMe:=ar Qg aG
theorem WR(r:Rn)(hp:eS r.ah)(a b:Nat)(ha:a<r.ah.length/\b<r.ah.length/\r.dn<=r.dl.length/\r.dn<=1000000/\0<=r.aj/\r.aj<=1000000):bq Tryz.prog 119 1 [pR,nI a,nI b] (obs r) (.aL []) (obs (ct r a b)):=by
 refine bR (aj:=[]) (cx:=[]) (fz:=[]) gMe_ok Tryz.func119 (by kernel_rfl) 1 (by kernel_rfl) 100 ?_;apply of_eq (q:=let q1:=(↑(top r.ah a):Int);let q2:=(↑(top r.ah b):Int);let q3:=r.ah.length=r.ah.length/\((2:Int)*r.g).toNat=((2:Int)*r.g).toNat;((r.af.length=r.af.length/\q3)/\(0:Int)<=(a:Int)/\eS r.ah/\a<r.ah.length)/\((r.af.length=r.af.length/\q3)/\(0:Int)<=(b:Int)/\eS r.ah/\b<r.ah.length)/\((!decide (q1=q2))=true->((0:Int)<=max q1 q2/\max q1 q2<(r.ah.length:Int))/\(0:Nat)+(max q1 q2).toNat<r.ah.length/\(0:Nat)+1<=1/\((0:Nat)+r.dn<=r.dl.length/\(r.dn+1)*8<=140737488355328)/\aE []=A.aL []/\[Ob.mk 61 [fI r.g,fL r.ax,fL r.sub,fI r.aq,fI r.aH,fI (IntKind.i64.wrap (r.aj-1)),fI r.aA,fI r.ph,fI r.co,fI r.ix,fS 1 0 r.af.length,fS 2 0 r.ah.length,fS 3 0 (r.dn+1)],aQ r,aB (r.ah.set ((0:Nat)+(max q1 q2).toNat) (min q1 q2)),aB (acW r.dn (ac0 (0:Nat) r.dl)++acW (1:Nat) (ac0 (0:Nat) [max q1 q2]))]=obs (ct r a b))/\((!decide (q1=q2))=false->aE []=A.aL []/\[bV r (1:Nat) (2:Nat) (3:Nat),aQ r,aB r.ah,aB r.dl]=obs (ct r a b))) (by kernel_rfl)
 try simp only[sL]
 obtain⟨ha,hb,h1,h2,h3,h4⟩:=ha;have ta:=gu hp ha;have tb:=gu hp hb;rw[wrap64 (n:=r.aj-1) (by omega) (by omega)];have e1:(max ((top r.ah a:Nat):Int) ((top r.ah b:Nat):Int))=((max (top r.ah a) (top r.ah b):Nat):Int):=by omega
 have e2:(min ((top r.ah a:Nat):Int) ((top r.ah b:Nat):Int))=((min (top r.ah a) (top r.ah b):Nat):Int):=by omega
 rw[e1,e2,ac2];refine⟨⟨by omega,hp,ha⟩,⟨by omega,hp,hb⟩,fun h=>⟨by omega,by omega,by omega,rfl,?_⟩,fun h=>⟨rfl,?_⟩⟩;unfold ct;rw[if_neg (by omega)];simp only[obs,bV,aQ,acU];unfold ct;rw[if_pos (by omega)]
def WS:bQ:=Km fun r a b=>(eS r.ah/\a<r.ah.length/\b<r.ah.length/\r.dn<=r.dl.length/\r.dn<=1000000/\0<=r.aj/\r.aj<=1000000,.aL [],ct r a b)
theorem WT:aM Tryz.prog 119 WS:=Mi (by kernel_rfl) fun r a b h=>WR r h.1 a b h.2
def gCi:bW:=[(120,aaD),(119,WS),(84,AL)]
theorem Ml:bt Tryz.prog gCi:=ar Qg (ar WT (ar vv aG))
abbrev Mn:List (List Nat×List Nat):=[([0,1,1,1],[0,6]),([0,1,1,0,0,1,0,0,1,1,1],[0,6,7,47,48])]
def Fj:bJ:=bG Tryz.prog gCi Tryz.f102 1 Mn [] []
theorem Mq(r0:Rn)(k e G:Nat):∀(n c:Nat)(r:Rn),dh r->(2*r.g).toNat=G->e<r.af.length->c+n=G->k<1000000->
 av Fj (aD (.aL []) (obs r0)) [0,1,1,1] (fr [(0,pR),(6,nI (k+1:Nat))]) (.ofList (obs (fH e n c r)))->
 av Fj (aD (.aL []) (obs r0)) [0,1,1,0,0,1,0,0,1,1,1] (fr [(0,pR),(6,nI k),(7,nI e),(47,nI G),(48,nI c)]) (.ofList (obs r))
 | n,c,r,T,hG,he,hn,hk,hout=>by
   refine aN Ml (by kernel_rfl) 100 ?_;apply of_eq (q:=let q0:=IntKind.i64.wrap;let q8:=((2:Int)*r.g);let aX:=(0:Int);let bH:=r.ah.length=r.ah.length/\q8.toNat=q8.toNat;let dU:=(↑(top r.ah e):Int);let lN:=(↑q8.toNat:Int);let gB:=[0,1,1,0,0,1,0,0,1,1,1];let jl:=r.dn<=r.dl.length/\r.dn<=1000000/\aX<=r.aj/\r.aj<=1000000;let jb:=(c:Int);let p8:=(ak.ofList [bV r 1 2 3,aQ r,aB r.ah,aB r.dl]);let je:=(0:Nat);let q5:=(↑(BitVec.ofInt (64:Nat) jb ^^^ BitVec.ofInt (64:Nat) (1:Int)).toNat:Int);let q7:=(fr [(0,aR 0 0),(6,nI (k:Int)),(7,nI (e:Int)),(47,nI (G:Int)),(48,nI (q0 (jb+1)))]);let q9:=(r.af.getD (je+e) []);let dr:=(q0 q5);let fX:=(r.af.set (je+e) (q9.set c (-1:Int)));let iA:=je+e<r.af.length;let q6:=(q9.getD c aX);let eO:=(↑(top r.ah q6.toNat):Int);let q1:=(fX.set (je+q6.toNat) ((fX.getD (je+q6.toNat) []).set dr.toNat (-1:Int)));let bL:=(q1.getD (je+top r.ah q6.toNat) []);let cM:=(Rn.mk r.g r.ax r.sub r.aq r.aH r.aj r.aA r.ph r.co r.ix q1 r.ah r.dl r.dn);let dA:=(q1.getD (je+top r.ah e) []);let eD:=je+top r.ah q6.toNat<q1.length;let cP:=je+top r.ah e<q1.length;let jO:=q1.length=q1.length;let q2:=(ct cM (bL.getD dr.toNat aX).toNat (top r.ah e));let q3:=(ct cM (dA.getD c aX).toNat (top r.ah q6.toNat));let q4:=(join cM (top r.ah e) c (top r.ah q6.toNat));(decide (jb<(G:Int))=true->(aX<=(e:Int)/\(e:Int)<(r.af.length:Int))/\iA/\(aX<=jb/\jb<lN)/\(iA/\c<q8.toNat)/\(decide (q9.getD c aX<0)=true->av Fj (aD (A.aL []) (obs r0)) gB q7 p8)/\(decide (q9.getD c aX<0)=false->(aX<=(e:Int)/\(e:Int)<(r.af.length:Int))/\iA/\(aX<=q9.getD c aX/\q9.getD c aX<(r.af.length:Int))/\je+q6.toNat<r.af.length/\(aX<=jb/\jb<lN)/\(iA/\c<q8.toNat)/\(aX<=q0 q5/\q0 q5<lN)/\(je+q6.toNat<fX.length/\dr.toNat<q8.toNat)/\((r.af.length=q1.length/\bH)/\aX<=(e:Int)/\eS r.ah/\e<r.ah.length)/\((jO/\bH)/\aX<=q9.getD c aX/\eS r.ah/\q6.toNat<r.ah.length)/\(aX<=dU/\dU<(↑q1.length:Int))/\cP/\(aX<=jb/\jb<lN)/\(cP/\c<q8.toNat)/\(decide (aX<=dA.getD c aX)=true->(aX<=dU/\dU<(↑q1.length:Int))/\cP/\(aX<=jb/\jb<lN)/\(cP/\c<q8.toNat)/\((jO/\bH)/\aX<=dA.getD c aX/\aX<=eO/\eS r.ah/\(dA.getD c aX).toNat<r.ah.length/\top r.ah q6.toNat<r.ah.length/\jl)/\av Fj (aD (A.aL []) (obs r0)) gB q7 (ak.ofList [Ob.mk 61 [fI q3.g,fL q3.ax,fL q3.sub,fI q3.aq,fI q3.aH,fI q3.aj,fI q3.aA,fI q3.ph,fI q3.co,fI q3.ix,fS 1 0 q3.af.length,fS 2 0 q3.ah.length,fS 3 0 q3.dn],Ob.mk 22 [Fd.c (W.th ((2:Int)*q3.g).toNat q3.af)],aB (q3.ah),aB (q3.dl)]))/\(decide (aX<=dA.getD c aX)=false->(aX<=eO/\eO<(↑q1.length:Int))/\eD/\(aX<=q0 q5/\q0 q5<lN)/\(eD/\dr.toNat<q8.toNat)/\(decide (aX<=bL.getD dr.toNat aX)=true->(aX<=eO/\eO<(↑q1.length:Int))/\eD/\(aX<=q0 q5/\q0 q5<lN)/\(eD/\dr.toNat<q8.toNat)/\((jO/\bH)/\aX<=bL.getD dr.toNat aX/\aX<=dU/\eS r.ah/\(bL.getD dr.toNat aX).toNat<r.ah.length/\top r.ah e<r.ah.length/\jl)/\av Fj (aD (A.aL []) (obs r0)) gB q7 (ak.ofList [Ob.mk 61 [fI q2.g,fL q2.ax,fL q2.sub,fI q2.aq,fI q2.aH,fI q2.aj,fI q2.aA,fI q2.ph,fI q2.co,fI q2.ix,fS 1 0 q2.af.length,fS 2 0 q2.ah.length,fS 3 0 q2.dn],Ob.mk 22 [Fd.c (W.th ((2:Int)*q2.g).toNat q2.af)],aB (q2.ah),aB (q2.dl)]))/\(decide (aX<=bL.getD dr.toNat aX)=false->((jO/\bH)/\aX<=dU/\aX<=jb/\aX<=eO/\top r.ah e<q1.length/\top r.ah q6.toNat<q1.length/\c<q8.toNat/\r.g<=16)/\av Fj (aD (A.aL []) (obs r0)) gB q7 (ak.ofList [Ob.mk 61 [fI q4.g,fL q4.ax,fL q4.sub,fI q4.aq,fI q4.aH,fI q4.aj,fI q4.aA,fI q4.ph,fI q4.co,fI q4.ix,fS 1 0 q4.af.length,fS 2 0 q4.ah.length,fS 3 0 q4.dn],aQ q4,aB (q4.ah),aB (q4.dl)])))))/\(decide (jb<(G:Int))=false->av Fj (aD (A.aL []) (obs r0)) [0,1,1,1] (fr [(0,aR 0 0),(6,nI (q0 ((k:Int)+1)))]) p8)) (by kernel_rfl)
   try simp only[sL]
   have hg:=T.g2;have kP:=T.g1;have hl:=T.len;have hp:=T.ah.1;have hal:=rT r.ah;have hlv:=T.aj;have hsum:=T.sum;have WU:=T.dy;rw[wrap64 (n:=(c:Int)+1) (by omega) (by omega),wrap64 (n:=(k:Int)+1) (by omega) (by omega)];refine⟨fun h=>?_,fun h=>?_⟩
   . have hc:c<G:=by omega
     have hcell:=T.cell he (by omega:c<(2*r.g).toNat);cases n with
     | zero=>omega
     | succ n =>
     have ih:=Mq r0 k e G n (c+1) (cell r e c) hcell.1 (by rw[hcell.2.2];exact hG) (by omega) (by omega) hk hout;have hr:=eE T.row he (by omega:c<(2*r.g).toNat);have hfl:=T.flip (by omega:c<(2*r.g).toNat);rw[rE c (by omega)];simp only[ac2,kW,Mc];refine⟨by omega,by omega,by omega,by omega,fun hd=>?_,fun hd=>?_⟩;rw[cell,if_pos hd] at ih;exact ih;have T1:dh (cH r e c):=T.cL (c:=c) he (by omega);have bN:(cH r e c).af.length=r.af.length:=by unfold cH;simp only[dF]
     have pu:=gu T.ah (show e<r.ah.length by omega);have pv:=gu T.ah (show (bh r.af e c).toNat<r.ah.length by omega);have r1:=eE T1.row (a:=top r.ah e) (c:=c) (by omega) (by show c<(2*r.g).toNat;omega);have r2:=eE T1.row (a:=top r.ah (bh r.af e c).toNat) (c:=bZ c) (by omega) hfl;rw[bN] at r1 r2;rw[cell,if_neg (by omega),kN] at ih;have hT:(cH r e c).af=fA (fA r.af e c (-1)) (bh r.af e c).toNat (bZ c) (-1):=rfl;rw[hT] at ih r1 r2;simp only[dF];have hpar:=T.ah;have hpl:r.ah.length=r.af.length:=hl;rw[hpl];refine⟨by omega,by omega,by omega,by omega,by omega,by omega,by omega,by omega,⟨by first|trivial|omega,by omega,hpar,by omega⟩,⟨by omega,hpar,by omega⟩,by omega,by omega,by omega,by omega,fun h1=>⟨by omega,by omega,by omega,by omega,⟨by omega,by omega,hpar,by omega⟩,?_⟩,fun h1=>⟨by omega,by omega,by omega,by omega,fun h2=>⟨by omega,by omega,by omega,by omega,⟨by omega,by omega,hpar,by omega⟩,?_⟩,fun h2=>⟨by omega,?_⟩⟩⟩;rw[if_pos h1] at ih;exact ih;rw[if_neg (by omega),if_pos h2] at ih;exact ih;rw[if_neg (by omega),if_neg (by omega)] at ih;exact ih
   rw[show n=0 by omega,fH] at hout;exact hout
theorem Ms(r0:Rn)(G:Nat):∀(f k:Nat)(r:Rn),dh r->(2*r.g).toNat=G->r0=jV G f k r->f+k=r.af.length+1->0<r.af.length->
 av Fj (aD (.aL []) (obs r0)) [0,1,1,1] (fr [(0,pR),(6,nI k)]) (.ofList (obs r))
 | f, k, r, T, hG, h0, hf, hn => by
   have hout:=fun(h0:0<f) h1 h2=>Ms r0 G (f-1) (k+1) (fH (r.dl.getD k 0).toNat G 0 r) h1 h2;refine aN Ml (by kernel_rfl) 100 ?_;apply of_eq (q:=(decide ((k:Int)<(r.dn:Int))=true->((0:Int)<=(k:Int)/\(k:Int)<(r.dn:Int))/\(0:Nat)+k<r.dl.length/\((0:Int)<=r.dl.getD ((0:Nat)+k) (0:Int)/\r.dl.getD ((0:Nat)+k) (0:Int)<(r.af.length:Int))/\(0:Nat)+(r.dl.getD ((0:Nat)+k) (0:Int)).toNat<r.af.length/\av Fj (aD (A.aL []) (obs r0)) [0,1,1,0,0,1,0,0,1,1,1] (fr [(0,aR 0 0),(6,nI (k:Int)),(7,nI (r.dl.getD ((0:Nat)+k) (0:Int))),(47,nI (↑((2:Int)*r.g).toNat:Int)),(48,nI (0))]) (ak.ofList [bV r 1 2 3,aQ r,aB r.ah,aB r.dl]))/\(decide ((k:Int)<(r.dn:Int))=false->aE []=A.aL []/\[bV r (1:Nat) (2:Nat) (3:Nat),aQ r,aB r.ah,aB r.dl]=obs r0)) (by kernel_rfl)
   try simp only[sL]
   have hl:=T.len;have hp:=T.ah.1;have hal:=AK T.ah (by omega);have hsum:=T.sum;have WU:=T.dy;refine⟨fun h=>?_,fun h=>?_⟩
   . have hd:=T.dx _ (fW (l:=r.dl) (a:=k) (by omega));obtain⟨T1,h1,h2⟩:=dh.cells G 0 T (show (r.dl.getD k 0).toNat<r.af.length by omega) (by omega);refine⟨by omega,by omega,by omega,by omega,?_⟩;cases f with
     | zero=>omega
     | succ f =>
     rw[jV,if_pos (by omega)] at h0;have:=Mq r0 k (r.dl.getD k 0).toNat G G 0 r T hG (by omega) (by omega) (by omega) (hout (by omega) T1 (by rw[h2];exact hG) h0 (by rw[h1];omega) (by omega));rw[<-gA hd.1,<-hG] at this;exact this
   have:jV G f k r=r:=by
    cases f with
    | zero=>rfl
    | succ f=>rw[jV,if_neg (by omega)]
   rw[this] at h0;rw[h0];exact⟨rfl,rfl⟩
 termination_by f=>f
 decreasing_by omega
theorem Mt(r:Rn)(a b:Nat)(T:dh { r with dn:=0 })(ha:a<r.af.length)(hb:b<r.af.length):bq Tryz.prog 102 1 [pR,nI a,nI b] (obs r) (.aL []) (obs (dD r a b)):=by
 refine bR (aj:=Mn) (cx:=[]) (fz:=[]) Ml Tryz.func102 (by kernel_rfl) 1 (by kernel_rfl) 100 ?_;apply of_eq (q:=let q1:=(ct (Rn.mk r.g r.ax r.sub r.aq r.aH r.aj r.aA r.ph r.co r.ix r.af r.ah r.dl (0:Nat)) a b);((0:Int)<=0/\(0:Int)<=0/\(0:Int)<=(r.dn:Int))/\((r.af.length=r.af.length/\r.ah.length=r.ah.length/\((2:Int)*r.g).toNat=((2:Int)*r.g).toNat)/\(0:Int)<=(a:Int)/\(0:Int)<=(b:Int)/\eS r.ah/\a<r.ah.length/\b<r.ah.length/\(0:Nat)<=r.dl.length/\(0:Nat)<=1000000/\(0:Int)<=r.aj/\r.aj<=1000000)/\av (bG Tryz.prog gCi Tryz.f102 (1:Nat) Mn [] []) (aD (A.aL []) (obs (dD r a b))) [0,1,1,1] (fr [(0,aR 0 0),(6,nI (0))]) (ak.ofList [Ob.mk 61 [fI q1.g,fL q1.ax,fL q1.sub,fI q1.aq,fI q1.aH,fI q1.aj,fI q1.aA,fI q1.ph,fI q1.co,fI q1.ix,fS 1 0 q1.af.length,fS 2 0 q1.ah.length,fS 3 0 q1.dn],aQ q1,aB (q1.ah),aB (q1.dl)])) (by kernel_rfl)
 try simp only[sL]
 have hl:=T.len;have hp:=T.ah;have hal:=rT r.ah;have hlv:r.aj=(al r.ah:Nat):=T.aj;have bN:=hp.1;have hl:r.ah.length=r.af.length:=hl;have hpp:eS r.ah:=hp;have hll:r.ah.length<=1000000:=bN;have hm:=mr { r with dn:=0 } a b;refine⟨by omega,⟨by omega,by omega,hpp,by omega⟩,?_⟩;have T1:=T.ct ha hb;have:=Ms (dD r a b) (2*r.g).toNat (r.af.length+1) 0 _ T1 (by rw[hm.2]) (by unfold dD;rfl) (by rw[hm.1]) (by rw[hm.1];exact Nat.lt_of_le_of_lt (adl a) ha);exact this
def cCoin:bQ:=Km fun r a b=>(bF r/\a<r.af.length/\b<r.af.length,.aL [],dD r a b)
theorem aaE:aM Tryz.prog 102 cCoin:=Mi (by kernel_rfl) fun r a b h=>Mt r a b h.1 h.2.1 h.2.2
def gSc:bW:=[(101,cCol),(102,cCoin),(84,AL)]
theorem Mu:bt Tryz.prog gSc:=ar cCol_ok (ar aaE (ar vv aG))
abbrev Mv:List (List Nat×List Nat):=[([0,0,1,1],[0,2,6,9,10,11]),([0,0,1,1,1],[0,2,6,9,10,11])]
def WV:bJ:=bG Tryz.prog gSc Tryz.f83 1 Mv [] []
abbrev mw(x:Rn×Nat×Nat×Bool):A:=.aL [.c (.int .i64 x.2.1),.c (.int .i64 x.2.2.1),.c (.bool x.2.2.2)]
theorem WW(r : Rn)(w : List Int)(x : Rn × Nat × Nat × Bool)(T : bF r)(hw : Wd r.g w)(f i : Nat)(hf : f < r.af.length)(hi : i ≤ w.length) : ∀(n b j : Nat), j ≤ i + n → i ≤ j → j ≤ w.length → b < r.af.length → x = qz r w f i (gL r.af w i n b j).1 (gL r.af w i n b j).2 →
 av WV (aD (mw x) (obs x.1)) [0,0,1,1,1] (fr [(0,pR),(2,bI w),(6,nI f),(9,nI b),(10,nI i),(11,nI j)]) (.ofList (obs r))
 | n, b, j, hn, hij, hj, hb, hx => by
   refine aN Mu (by kernel_rfl) 100 ?_;apply of_eq (q:=let q0:=IntKind.i64.wrap;let q4:=(0:Nat)+b<r.af.length;let q5:=(dD r f b);let q6:=(0:Int);let q8:=(R1.pure (Cd.t.and Cd.t) (aS 1 0 r.af.length));let q9:=((2:Int)*r.g);let bH:=(join r f (cr (w.getD i q6)).toNat b);let dA:=(i:Int);let eO:=(j:Int);let q1:=decide (dA<eO)=true;let q3:=(W.row (1:Nat) ((0:Nat)+b) q9.toNat);let aX:=(R1.pure (Cd.t.and (Cd.p (q4))) (aP q3));let bL:=(q0 (eO-1));let cM:=A.cond (q1) (V.c (W.sl 1 0 r.af.length 1))=A.cond (q1) (V.c (W.sl 1 0 r.af.length 1));let q2:=(q6-w.getD bL.toNat q6);let q7:=(q0 q2);let dr:=decide (q6<=(r.af.getD ((0:Nat)+b) []).getD (cr q7).toNat q6);(q1->q1)/\(q1->q1)/\(q1->q1)/\(q1->q1)/\(q1->q1)/\(q1->q6<=(b:Int)/\(b:Int)<(r.af.length:Int))/\(q1->q1)/\(q1->q4)/\(q1->q1)/\(q1->q1)/\(q1->q1)/\(q1->q6<=q0 (eO-1)/\q0 (eO-1)<(w.length:Int))/\(q1->q1)/\(q1->bL.toNat<w.length)/\(q1->q1)/\(q1->q1)/\(q1->(-1000:Int)<=q0 q2/\q0 q2<=1000)/\(q1->q1)/\(q1->q1)/\(q1->q6<=cr q7/\cr q7<(↑q9.toNat:Int))/\(q1->q1)/\(q1->q4/\(cr q7).toNat<q9.toNat)/\(q1->q1)/\(q1->q1)/\(q1->q1)/\cM/\(q1->q1)/\cM/\(q1->q1)/\(q1->q4)/\A.cond (q1) (V.c q3)=A.cond (q1) (V.c q3)/\(q1->q1)/\(q1->q4)/\A.cond (q1) (V.c q3)=A.cond (q1) (V.c q3)/\((bif decide (dA<eO) then dr else false)=true->(q6<=(b:Int)/\(b:Int)<(r.af.length:Int))/\q4/\(q6<=q0 (eO-1)/\q0 (eO-1)<(w.length:Int))/\bL.toNat<w.length/\((-1000:Int)<=q0 q2/\q0 q2<=1000)/\(q6<=cr q7/\cr q7<(↑q9.toNat:Int))/\(q4/\(cr q7).toNat<q9.toNat)/\q8.v=q8.v/\q8.v=q8.v/\q4/\aX.v=aX.v/\q4/\aX.v=aX.v/\av WV (aD (mw x) (obs x.fst)) [0,0,1,1,1] (fr [(0,aR 0 0),(2,bI w),(6,nI (f:Int)),(9,nI ((r.af.getD ((0:Nat)+b) []).getD (cr q7).toNat q6)),(10,nI dA),(11,nI bL)]) (ak.ofList [bV r 1 2 3,aQ r,aB r.ah,aB r.dl]))/\((bif decide (dA<eO) then dr else false)=false->(decide (dA=eO)=true->((r.af.length=r.af.length/\r.ah.length=r.ah.length/\q9.toNat=q9.toNat)/\q6<=(f:Int)/\q6<=(b:Int)/\bF r/\f<r.af.length/\b<r.af.length)/\aE [vI (0),vI (0),vB false]=mw x/\[Ob.mk 61 [fI q5.g,fL q5.ax,fL q5.sub,fI q5.aq,fI q5.aH,fI q5.aj,fI q5.aA,fI q5.ph,fI q5.co,fI q5.ix,fS 1 0 q5.af.length,fS 2 0 q5.ah.length,fS 3 0 q5.dn],aQ q5,aB (q5.ah),aB (q5.dl)]=obs x.fst)/\(decide (dA=eO)=false->(decide (q0 (dA+1)=eO)=true->(q6<=dA/\dA<(w.length:Int))/\i<w.length/\((-1000:Int)<=w.getD i q6/\w.getD i q6<=1000)/\((r.af.length=r.af.length/\r.ah.length=r.ah.length/\q9.toNat=q9.toNat)/\q6<=(f:Int)/\q6<=cr (w.getD i q6)/\q6<=(b:Int)/\f<r.af.length/\b<r.af.length/\(cr (w.getD i q6)).toNat<q9.toNat/\r.g<=16)/\aE [vI (0),vI (0),vB false]=mw x/\[bV bH (1:Nat) (2:Nat) (3:Nat),aQ bH,aB (bH.ah),aB (bH.dl)]=obs x.fst)/\(decide (q0 (dA+1)=eO)=false->(q6<=dA/\dA<(w.length:Int))/\i<w.length/\((-1000:Int)<=w.getD i q6/\w.getD i q6<=1000)/\aE [vI (f:Int),vI (cr (w.getD i q6)),vB true]=mw x/\[bV r (1:Nat) (2:Nat) (3:Nat),aQ r,aB r.ah,aB r.dl]=obs x.fst)))) (by kernel_rfl)
   try simp only[sL]
   have kP:1<=r.g:=T.g1;have lK:r.g<=16:=T.g2;have Cz:=hw.1;have hwj:=hw.any (by omega) (j-1);rw[wrap64 (n:=(j:Int)-1) (by omega) (by omega),show ((j:Int)-1).toNat=j-1 by omega,wrap64 (n:=0-w.getD (j-1) 0) (by omega) (by omega),wrap64 (n:=(i:Int)+1) (by omega) (by omega),Int.zero_sub];simp only[kW];have hc:i<j->0<=cr (- w.getD (j-1) 0)/\cr (- w.getD (j-1) 0)<2*r.g:=fun h=>by
    have hg:=hw.get (show j-1<w.length by omega);exact iP (by omega)
   have hat:i<j->-1<=bh r.af b (cr (- w.getD (j-1) 0)).toNat/\bh r.af b (cr (- w.getD (j-1) 0)).toNat<r.af.length:=fun h=>by
    have:=hc h;exact T.at hb (by omega)
   have hci:i<w.length->0<=cr (w.getD i 0)/\cr (w.getD i 0)<2*r.g:=fun h=>iP (hw.get h);refine⟨fun h=>by omega,fun h=>by omega,fun h=>by omega,fun h=>by omega,fun h=>by omega,fun h=>by have:=hc (by omega);omega,fun h=>by have:=hc (by omega);omega,fun h=>by omega,fun h=>by omega,fun h=>?_,fun h=>?_⟩
   . have hcc:=hc (by omega);have haa:=hat (by omega);refine⟨by omega,by omega,by omega,by omega,by omega,by omega,by omega,by omega,by omega,?_⟩;cases n with
     | zero=>omega
     | succ n =>
       rw[gL,if_pos ⟨by omega,h.2⟩] at hx;have:=WW r w x T hw f i hf hi n _ (j-1) (by omega) (by omega) (by omega) (by omega) hx;rw[<-gA h.2,show ((j-1:Nat):Int)=(j:Int)-1 by omega] at this;exact this
   have hb0:gL r.af w i n b j=(b,j):=by
    cases n with
    | zero=>rfl
    | succ n =>
      rw[gL,if_neg];rintro⟨h1,h2⟩;have:=h (by omega);omega
   rw[hb0] at hx;have lM:x=qz r w f i b j:=hx;clear hx;unfold qz at lM;refine⟨fun h1=>⟨⟨by omega,by omega,T,hf,hb⟩,?_⟩,fun h1=>?_⟩;rw[if_pos (by omega)] at lM;subst lM;exact⟨rfl,rfl⟩;have hcc:=hci (by omega);have hl1:=hw.any (by omega) i;refine⟨fun h2=>⟨by omega,by omega,by omega,by omega,?_⟩,fun h2=>⟨by omega,by omega,by omega,?_⟩⟩;rw[if_neg (by omega),if_pos (by omega)] at lM;subst lM;exact⟨rfl,rfl⟩;rw[if_neg (by omega),if_neg (by omega)] at lM;subst lM;simp only[mw];rw[<-gA hcc.1];exact⟨rfl,trivial⟩
theorem WX(r : Rn)(w : List Int)(x : Rn × Nat × Nat × Bool)(T : bF r)(hw : Wd r.g w)(b : Nat)(hb : b < r.af.length) : ∀(n f i : Nat), w.length ≤ i + n → i ≤ w.length → f < r.af.length → x = vr r b w (eX r.af w n f i).1 (eX r.af w n f i).2 →
 av WV (aD (mw x) (obs x.1)) [0,0,1,1] (fr [(0,pR),(2,bI w),(6,nI f),(9,nI b),(10,nI i),(11,nI w.length)]) (.ofList (obs r))
 | n, f, i, hn, hi, hf, hx => by
   refine aN Mu (by kernel_rfl) 100 ?_;apply of_eq (q:=let q3:=(0:Nat)+f<r.af.length;let q4:=(R1.pure (Cd.t.and Cd.t) (aS 1 0 r.af.length));let q9:=(w.length:Int);let aX:=(0:Int);let bH:=((2:Int)*r.g);let bL:=(ak.ofList [bV r 1 2 3,aQ r,aB r.ah,aB r.dl]);let q1:=decide ((i:Int)<q9)=true;let q2:=(W.row (1:Nat) ((0:Nat)+f) bH.toNat);let q5:=(w.getD i aX);let q6:=(R1.pure (Cd.t.and (Cd.p (q3))) (aP q2));let q7:=A.cond (q1) (V.c (W.sl 1 0 r.af.length 1))=A.cond (q1) (V.c (W.sl 1 0 r.af.length 1));let q8:=decide (aX<=(r.af.getD ((0:Nat)+f) []).getD (cr q5).toNat aX);(q1->q1)/\(q1->q1)/\(q1->q1)/\(q1->q1)/\(q1->q1)/\(q1->aX<=(f:Int)/\(f:Int)<(r.af.length:Int))/\(q1->q1)/\(q1->q3)/\(q1->q1)/\(q1->q1)/\(q1->aX<=(i:Int)/\(i:Int)<q9)/\(q1->q1)/\(q1->i<w.length)/\(q1->q1)/\(q1->(-1000:Int)<=w.getD i aX/\w.getD i aX<=1000)/\(q1->q1)/\(q1->q1)/\(q1->aX<=cr q5/\cr q5<(↑bH.toNat:Int))/\(q1->q1)/\(q1->q3/\(cr q5).toNat<bH.toNat)/\(q1->q1)/\(q1->q1)/\(q1->q1)/\q7/\(q1->q1)/\q7/\(q1->q1)/\(q1->q3)/\A.cond (q1) (V.c q2)=A.cond (q1) (V.c q2)/\(q1->q1)/\(q1->q3)/\A.cond (q1) (V.c q2)=A.cond (q1) (V.c q2)/\((bif decide ((i:Int)<q9) then q8 else false)=true->(aX<=(f:Int)/\(f:Int)<(r.af.length:Int))/\q3/\(aX<=(i:Int)/\(i:Int)<q9)/\i<w.length/\((-1000:Int)<=w.getD i aX/\w.getD i aX<=1000)/\(aX<=cr q5/\cr q5<(↑bH.toNat:Int))/\(q3/\(cr q5).toNat<bH.toNat)/\q4.v=q4.v/\q4.v=q4.v/\q3/\q6.v=q6.v/\q3/\q6.v=q6.v/\av WV (aD (mw x) (obs x.fst)) [0,0,1,1] (fr [(0,aR 0 0),(2,bI w),(6,nI ((r.af.getD ((0:Nat)+f) []).getD (cr q5).toNat aX)),(9,nI (b:Int)),(10,nI (IntKind.i64.wrap ((i:Int)+1))),(11,nI q9)]) bL)/\((bif decide ((i:Int)<q9) then q8 else false)=false->av WV (aD (mw x) (obs x.fst)) [0,0,1,1,1] (fr [(0,aR 0 0),(2,bI w),(6,nI (f:Int)),(9,nI (b:Int)),(10,nI (i:Int)),(11,nI q9)]) bL)) (by kernel_rfl)
   try simp only[sL]
   have kP:1<=r.g:=T.g1;have lK:r.g<=16:=T.g2;have Cz:=hw.1;have hwj:=hw.any (by omega) i;rw[wrap64 (n:=(i:Int)+1) (by omega) (by omega)];simp only[kW];have hc:i<w.length->0<=cr (w.getD i 0)/\cr (w.getD i 0)<2*r.g:=fun h=>iP (hw.get h);have hat:i<w.length->-1<=bh r.af f (cr (w.getD i 0)).toNat/\bh r.af f (cr (w.getD i 0)).toNat<r.af.length:=fun h=>by
    have:=hc h;exact T.at hf (by omega)
   refine⟨fun h=>by omega,fun h=>by omega,fun h=>by omega,fun h=>by omega,fun h=>by omega,fun h=>by have:=hc (by omega);omega,fun h=>by have:=hc (by omega);omega,fun h=>by omega,fun h=>by omega,fun h=>?_,fun h=>?_⟩
   . have hcc:=hc (by omega);have haa:=hat (by omega);refine⟨by omega,by omega,by omega,by omega,by omega,by omega,by omega,by omega,by omega,?_⟩;cases n with
     | zero=>omega
     | succ n =>
       rw[eX,if_pos ⟨by omega,h.2⟩] at hx;have:=WX r w x T hw b hb n _ (i+1) (by omega) (by omega) (by omega) hx;rw[<-gA h.2] at this;exact this
   have hb0:eX r.af w n f i=(f,i):=by
    cases n with
    | zero=>rfl
    | succ n =>
      rw[eX,if_neg];rintro⟨h1,h2⟩;have:=h (by omega);omega
   rw[hb0] at hx;exact WW r w x T hw f i hf hi w.length b w.length (by omega) hi (acS _) hb hx
theorem aaF(r:Rn)(a:Nat)(w:List Int)(T:bF r)(hw:Wd r.g w)(ha:a<r.af.length):bq Tryz.prog 83 1 [pR,nI a,bI w] (obs r) (mw (bC r a w)) (obs (bC r a w).1):=by
 refine bR (aj:=Mv) (cx:=[]) (fz:=[]) Mu Tryz.func83 (by kernel_rfl) 1 (by kernel_rfl) 100 ?_;apply of_eq (q:=av (bG Tryz.prog gSc Tryz.f83 (1:Nat) Mv [] []) (aD (mw (bC r a w)) (obs (bC r a w).fst)) [0,0,1,1] (fr [(0,aR 0 0),(2,bI w),(6,nI (a:Int)),(9,nI (a:Int)),(10,nI (0)),(11,nI (w.length:Int))]) (ak.ofList [bV r 1 2 3,aQ r,aB r.ah,aB r.dl])) (by kernel_rfl)
 try simp only[sL,Int.reduceEq,Int.reduceNe,Nat.reduceAdd]
 exact WX r w (bC r a w) T hw a ha w.length a 0 (by omega) (by omega) ha rfl
def Ta(f:Rn->Nat->List Int->Prop×A×Rn):bQ:={ cI:=[true,false,false],ay:=some 1,f:=fun args au=>match args with
 | [.p (.c (.ptr 0 0)),.p (.c (.int .i64 x)),w]=>match gq dI w,Fh au with
   | some w,some (c,r)=>some (.p (c/\0<=x/\(f r x.toNat w).1),(f r x.toNat w).2.1,obs (f r x.toNat w).2.2)
   | _,_=>none
 | _=>none }
theorem aaG{P:Program}{fn:FuncId}{f:Rn->Nat->List Int->Prop×A×Rn}(he:enters P fn=true)(h:∀ r a w,(f r a w).1->bq P fn 1 [pR,nI a,bI w] (obs r) (f r a w).2.1 (obs (f r a w).2.2)):aM P fn (Ta f):=by
 refine⟨he,fun args au c r bg e hc=>?_⟩;simp only[Ta] at e;split at e;rename_i x w0;split at e
 . rename_i w c1 r1 hw hr;cases e;obtain⟨h1,h2,h3⟩:=hc;have:=h _ _ _ h3;rw[<-gA h2] at this;rw[sC hr h1];intro base η Z W vs R hvs hK
   match vs,hvs with
   | [u,v,t],⟨a1,a2,a3,_⟩=>exact this base η Z W _ R ⟨a1,a2,cF hw a3,trivial⟩ hK
 cases e;cases e
def cScan:bQ:=Ta fun r a w=>(bF r/\Wd r.g w/\a<r.af.length,mw (bC r a w),(bC r a w).1)
theorem aaH:aM Tryz.prog 83 cScan:=aaG (by kernel_rfl) fun r a w h=>aaF r a w h.1 h.2.1 h.2.2
theorem WY(n:Int)(h:0<=n/\n<=1000000):bA Tryz.prog 70 [.p (.c .nil),nI n] [] (fK 0 0) [aB (acR n.toNat 0)]:=by
 refine bU (aj:=[]) aG Tryz.func70 (by kernel_rfl) (ay:=0) rfl (by kernel_rfl) 100 ?_;apply of_eq (q:=let q0:=IntKind.i64.wrap;let q2:=(0:Int);let q1:=(n-q0 (q2-0));(decide (n<0)=true->False)/\(decide (n<0)=false->(decide (q2<q0 q1)=true->(q2=0/\q2=0)/\(q2<q0 q1/\(↑(8:Nat):Int)*q0 q1<=140737488355328)/\(q2<=0/\q2<=0/\q2<=(↑(q0 q1).toNat:Int))/\aE [V.c (W.sl (0:Nat) ((0:Nat)+0*1) (0:Nat) (1:Nat))]=fK (0:Nat) (0:Nat)/\[aB (acR (q0 q1).toNat q2)]=[aB (acR n.toNat q2)])/\(decide (q2<q0 q1)=false->aE [V.c (W.sl 0 0 0 1)]=fK (0:Nat) (0:Nat)/\[aB ([])]=[aB (acR n.toNat q2)]))) (by kernel_rfl)
 try simp only[sL]
 rw[wrap64 (n:=0-0) (by omega) (by omega),wrap64 (n:=n-(0-0)) (by omega) (by omega),show n-(0-0)=n by omega];refine⟨fun g=>by omega,fun _=>⟨fun g=>⟨by omega,by omega,rfl,rfl⟩,fun g=>⟨rfl,?_⟩⟩⟩;rw[show n.toNat=0 by omega];rfl
def Mw:bQ:={ cI:=[],f:=fun args au=>match args,au with | [.p (.c .nil),.p (.c (.int .i64 n))],[]=>some (.p (0<=n/\n<=1000000),fK 0 0,[aB (acR n.toNat 0)])|_,_=>none }
theorem WZ:aM Tryz.prog 70 Mw:=by
 refine⟨by kernel_rfl,fun args au c r bg e hc=>?_⟩;simp only[Mw] at e;split at e;cases e;exact WY _ hc;cases e
def Tb:bW:=[(70,Mw)]
theorem DQ:bt Tryz.prog Tb:=ar WZ aG
def sRepJ:bJ:=bG Tryz.prog L7 Tryz.f55 0 [([0,0,1,1,1,1,1,1],[7,8])] [] []
theorem vz(x : List Int)(c : Nat)(hL : c * x.length ≤ 1000000) : ∀(k m : Nat)(l : List Int), k = c - m → (0 < m ∨ c = 0) → m ≤ c → l.length = c * x.length → l.take (m * x.length) = pw x m →
 av sRepJ (aD (fK 0 (c*x.length)) [aB (pw x c)]) [0,0,1,1,1,1,1,1] (fr [(7,fK 0 (c*x.length)),(8,nI ((m*x.length:Nat):Int))]) (.ofList [aB l])
 | k, m, l, hk, hm, hmc, hl, hr => by
   refine aN BZ (by kernel_rfl) 100 ?_;apply of_eq (q:=let q1:=(↑(m*x.length):Int);let q2:=(↑(c*x.length):Int);let q3:=(acW (q1-0).toNat (ac0 ((0:Nat)+0*1) l));(decide (q1<q2)=true->((0:Int)<=q1/\q1<=q2/\q2<=q2)/\((0:Int)<=0/\(0:Int)<=q1/\q1<=q2)/\(0:Nat)+0*1+(q1-0).toNat<=l.length/\(0:Nat)+m*x.length*1+(q2-q1).toNat<=l.length/\av sRepJ (aD (fK (0:Nat) (c*x.length)) [aB (pw x c)]) [0,0,1,1,1,1,1,1] (fr [(7,aS 0 0 (c*x.length)),(8,nI (IntKind.i64.wrap (q1+(↑(q3.length.min (q2-q1).toNat):Int))))]) (ak.ofList [aB (spl l ((0:Nat)+m*x.length*1) (acW (q2-q1).toNat q3))]))/\(decide (q1<q2)=false->aE [V.c (W.sl 0 0 (c*x.length) 1)]=fK (0:Nat) (c*x.length)/\[aB l]=[aB (pw x c)])) (by kernel_rfl)
   try simp only[sL]
   have hnL:m*x.length<=c*x.length:=ac5 _ hmc;have hpl:(pw x m).length=m*x.length:=lC x m;generalize hn:m*x.length=n at *;generalize uD:c*x.length=L at *;rw[show ((n:Int)-0).toNat=n by omega,show ((L:Int)-n).toNat=L-n by omega,hr,hpl];refine⟨fun h=>⟨by omega,by omega,by omega,by omega,?_⟩,fun h=>?_⟩
   · have hne : m < c := by
      rcases acZ m c with h1|h1;exact h1;have:m=c:=by omega
      subst this;omega
     rw[wrap64 (n:=(n:Int)+((n.min (L-n):Nat):Int)) (by omega) (by have:=Nat.min_le_right n (L-n);simp only[Nat.min_def] at *;split<;>omega)];have hsl:∀ q:List Int,q.length<=L-n->(spl l n q).length=L/\(spl l n q).take (n+q.length)=pw x m++q:=by
      intro q hq;have e:spl l n q=(pw x m++q)++l.drop (n+q.length):=by rw[spl,hr]
      refine⟨by rw[e];simp[hpl];omega,?_⟩;rw[e,show n+q.length=(pw x m++q).length by simp[hpl],List.take_left]
     cases k with
     | zero=>omega
     | succ k =>
       rcases acZ c (2*m) with h2|h2;have h3:L-n=(c-m)*x.length:=by rw[Nat.sub_mul,hn,uD]
       have h4:L-n<=n:=by rw[h3,<-hn];exact ac5 _ (by omega)
       have e1:n.min (L-n)=L-n:=Nat.min_eq_right h4;have e2:acW (L-n) (pw x m)=pw x (c-m):=by rw[h3];exact P5 x (by omega)
       have e3:(pw x (c-m)).length=L-n:=by rw[lC,h3]
       obtain⟨g1,g2⟩:=hsl (pw x (c-m)) (by omega);have:=vz x c (by omega) 0 c (spl l n (pw x (c-m))) (by omega) (by omega) (by omega) (by omega) (by
        rw[uD,show L=n+(pw x (c-m)).length by omega,g2,<-AB];congr 1;omega)
       rw[e1,e2,show ((n:Int)+((L-n:Nat):Int))=((L:Nat):Int) by omega];rw[uD] at this;exact this;have h3:2*m*x.length<=L:=by rw[<-uD];exact ac5 _ h2
       have h4:2*m*x.length=n+n:=by rw[Nat.mul_assoc,hn];omega
       have e1:n.min (L-n)=n:=adq (by omega);have e2:acW (L-n) (pw x m)=pw x m:=ac6 (by omega);obtain⟨g1,g2⟩:=hsl (pw x m) (by omega);have:=vz x c (by omega) (c-2*m) (2*m) (spl l n (pw x m)) (by omega) (by omega) (by omega) (by omega) (by
        rw[h4,show n+n=n+(pw x m).length by omega,g2,<-AB];congr 1;omega)
       rw[e1,e2,show ((n:Int)+((n:Nat):Int))=((n+n:Nat):Int) by omega];rw[uD,h4] at this;exact this
   have aat:n=L:=by omega
   have:m=c∨x.length=0:=by
    rcases acZ m c with h1|h1;right;have:=ac5 x.length (show m+1<=c by omega);rw[adk] at this;omega;left;omega
   rw[show l=pw x c from ?_];exact⟨rfl,rfl⟩;rw[<-ac6 (show l.length<=L by omega)];rcases this with rfl|h0;rw[<-aat];exact hr;have:(pw x c).length=0:=by rw[lC,h0];simp
   rw[List.eq_nil_of_length_eq_zero this];rw[h0,Nat.mul_zero] at uD;rw[<-uD];rfl
 termination_by k=>k
theorem O2(x:List Int)(n:Int)(h:0<=n/\n<=100000/\x.length<=100000/\n.toNat*x.length<=1000000):bA Tryz.prog 55 [bI x,nI n] [] (fK 0 (n.toNat*x.length)) [aB (pw x n.toNat)]:=by
 refine dJ (aj:=[([0,0,1,1,1,1,1,1],[7,8])]) (cx:=[]) (fz:=[]) BZ Tryz.func55 (by kernel_rfl) (ay:=0) rfl (by kernel_rfl) 100 ?_;apply of_eq (q:=let q0:=IntKind.i64.wrap;let q1:=(IntKind.u64.wrap (x.length:Int)*IntKind.u64.wrap n);let q2:=decide ((0:Int)<0);let q3:=decide ((9223372036854775807:Int)<IntKind.u64.wrap (x.length:Int)*IntKind.u64.wrap n);let q4:=(q0 q1);(decide (n<0)=true->False)/\(decide (n<0)=false->(((0:Int)<=IntKind.u64.wrap (x.length:Int)/\IntKind.u64.wrap (x.length:Int)<1073741824)/\(0:Int)<=IntKind.u64.wrap n/\IntKind.u64.wrap n<1073741824)/\(q2=false->q2=false)/\(q2=false->q2=false)/\((bif q2 then true else q3)=true->False)/\((bif q2 then true else q3)=false->((0:Int)<=q0 q1/\q0 q1<=q0 q1/\(↑(8:Nat):Int)*q0 q1<=140737488355328)/\(0:Nat)+q4.toNat<=(acR q4.toNat (0:Int)).length/\av (bG Tryz.prog L7 Tryz.f55 (0:Nat) [([0,0,1,1,1,1,1,1],[7,8])] [] []) (aD (fK (0:Nat) (n.toNat*x.length)) [aB (pw x n.toNat)]) [0,0,1,1,1,1,1,1] (fr [(7,aS 0 0 q4.toNat),(8,nI (↑(x.length.min q4.toNat):Int))]) (ak.ofList [aB (spl (acR q4.toNat (0:Int)) (0:Nat) (acW q4.toNat x))])))) (by kernel_rfl)
 try simp only[sL]
 obtain⟨c,rfl⟩:∃ c:Nat,n=c:=⟨n.toNat,by omega⟩;obtain⟨h1,h2,h3,h4⟩:=h;rw[ac2] at h4;have e1:IntKind.u64.wrap (x.length:Int)=x.length:=kV (by omega) (by omega);have e2:IntKind.u64.wrap (c:Int)=c:=kV (by omega) (by omega);have e3:(x.length:Int)*(c:Int)=((c*x.length:Nat):Int):=by rw[Nat.mul_comm,Int.natCast_mul]
 rw[e1,e2,e3];have e4:IntKind.i64.wrap ((c*x.length:Nat):Int)=((c*x.length:Nat):Int):=wrap64 (by omega) (by omega);rw[e4,ac2];refine⟨fun g=>by omega,fun _=>⟨⟨by omega,by omega⟩,fun g=>by omega,fun _=>⟨by omega,by simp,?_⟩⟩⟩;cases c with
 | zero =>
   have:=vz x 0 (by omega) 0 0 (spl (acR (0*x.length) 0) 0 (acW (0*x.length) x)) rfl (.inr rfl) (by omega) (by simp[spl]) (by simp[pw]);rw[show x.length.min (0*x.length)=0*x.length by simp];exact this
 | succ c =>
   have hl:x.length<=(c+1)*x.length:=by rw[adk];omega
   have e5:acW ((c+1)*x.length) x=x:=ac6 hl;have e6:x.length.min ((c+1)*x.length)=x.length:=adq hl;rw[e5,e6];have:=vz x (c+1) (by omega) (c+1-1) 1 (spl (acR ((c+1)*x.length) 0) 0 x) rfl (by omega) (by omega) (by simp[spl];omega) (by
    rw[adr,spl];simp[pw])
   rw[adr] at this;exact this
def cRepI:bQ:=kJ dI (.int .i64) fun x n=>(.p (0<=(show Int from n)/\(show Int from n)<=100000/\ac7 (α:=Int) x<=100000/\(show Int from n).toNat*ac7 (α:=Int) x<=1000000),fK 0 ((show Int from n).toNat*ac7 (α:=Int) x),[aB (pw x (show Int from n).toNat)])
theorem aaI:aM Tryz.prog 55 cRepI:=gF (by kernel_rfl) fun x n h=>O2 x n h
def gAd:bW:=[(55,cRepI)]
theorem Fk:bt Tryz.prog gAd:=ar aaI aG
theorem AO:∀ n,pw [(-1:Int)] n=acR n (-1)
 | 0=>rfl
 | n+1=>by rw[pw,AO n];rfl
theorem add_sem(r:Rn)(T:bF r)(hl:r.af.length<=900000):bq Tryz.prog 22 1 [pR] (obs r) (nI r.af.length) (obs (add r)):=by
 refine bR (aj:=[]) (cx:=[]) (fz:=[]) Fk Tryz.func22 (by kernel_rfl) 1 (by kernel_rfl) 100 ?_;apply of_eq (q:=let q0:=IntKind.i64.wrap;let q1:=(R1.pure (Cd.t.and Cd.t) (aS 1 0 r.af.length));let q2:=(q0 ((2:Int)*r.g));let q3:=(R1.pure (Cd.t.and Cd.t) (aS 2 0 r.ah.length));let q4:=(R1.pure (Cd.t.and Cd.t) (nI r.g));let q5:=(acW (1:Nat) (ac0 (0:Nat) [(-1:Int)]));(0:Nat)+1<=1/\((0:Int)<=q0 ((2:Int)*r.g)/\q0 ((2:Int)*r.g)<=100000/\(1:Nat)<=100000/\q2.toNat*1<=1000000)/\((0:Nat)=0/\r.af.length=r.af.length/\((2:Int)*r.g).toNat=q2.toNat*1/\(pw q5 q2.toNat).length=q2.toNat*1/\(0:Nat)<q2.toNat*1/\(r.af.length+1)*24<=140737488355328)/\q1.v=q1.v/\q1.v=q1.v/\q1.v=q1.v/\q1.v=q1.v/\q4.v=q4.v/\q4.v=q4.v/\(0:Nat)+1<=1/\((0:Nat)+r.ah.length<=r.ah.length/\(r.ah.length+1)*8<=140737488355328)/\q3.v=q3.v/\q3.v=q3.v/\aE [vI (q0 ((↑(r.af.length+1):Int)-1))]=nI (r.af.length:Int)/\[Ob.mk 61 [fI r.g,fL r.ax,fL r.sub,fI r.aq,fI (max r.aH (q0 (r.aj+1))),fI (q0 (r.aj+1)),fI r.aA,fI r.ph,fI r.co,fI r.ix,fS 1 0 (r.af.length+1),fS 2 0 (r.ah.length+1),fS 3 0 r.dn],Ob.mk 22 [Fd.c (W.th (q2.toNat*1) (r.af++[pw q5 q2.toNat]))],aB (acW r.ah.length (ac0 (0:Nat) r.ah)++acW (1:Nat) (ac0 (0:Nat) [(r.ah.length:Int)])),aB r.dl]=obs (add r)) (by kernel_rfl)
 try simp only[sL]
 have kP:1<=r.g:=T.g1;have lK:r.g<=16:=T.g2;have hpl:r.ah.length=r.af.length:=T.len;have hlv:r.aj=(al r.ah:Nat):=T.aj;have hal:=rT r.ah;rw[wrap64 (n:=2*r.g) (by omega) (by omega),wrap64 (n:=r.aj+1) (by omega) (by omega),wrap64 (n:=((r.af.length+1:Nat):Int)-1) (by omega) (by omega),AO,show ((r.af.length+1:Nat):Int)-1=r.af.length by omega];refine⟨⟨by omega,by omega,by omega,by omega⟩,⟨by omega,by rw[ac3],by omega,by omega⟩,by omega,rfl,?_⟩;simp only[obs,bV,aQ,add,acT,acX]
def vA(f:Rn->Prop×A×Rn):bQ:={ cI:=[true],ay:=some 1,f:=fun args au=>match args with
 | [.p (.c (.ptr 0 0))]=>match Fh au with
   | some (c,r)=>some (.p (c/\(f r).1),(f r).2.1,obs (f r).2.2)
   | none=>none
 | _=>none }
theorem rF{P:Program}{fn:FuncId}{f:Rn->Prop×A×Rn}(he:enters P fn=true)(h:∀ r,(f r).1->bq P fn 1 [pR] (obs r) (f r).2.1 (obs (f r).2.2)):aM P fn (vA f):=by
 refine⟨he,fun args au c r bg e hc=>?_⟩;simp only[vA] at e;split at e;split at e;rename_i c1 r1 hr;cases e;obtain⟨h1,h2⟩:=hc;rw[sC hr h1];exact h _ h2;cases e;cases e
def Tc:bQ:=vA fun r=>(bF r/\r.af.length<=900000,nI r.af.length,add r)
theorem Mx:aM Tryz.prog 22 Tc:=rF (by kernel_rfl) fun r h=>add_sem r h.1 h.2
abbrev kK(n:Int):Ob:=⟨3,[.c (.int .i64 n)]⟩
abbrev celR(k:Nat):Ob:=⟨30,[.c (.ptr k 0)]⟩
abbrev ku(r:Rn)(N q:Nat):List Ob:=[bV r 4 5 6,celR 0,kK ((N:Int)-q),kK N,aQ r,aB r.ah,aB r.dl]
abbrev Ji(r:Rn)(N q:Nat):List Ob:=[celR 3,kK ((N:Int)-q),kK N,bV r 4 5 6,aQ r,aB r.ah,aB r.dl]
abbrev Qh:A:=.p (.c (.func 24 [(1,0),(2,0),(3,0)]))
def ia(r:Rn)(q:Nat):Rn×Nat×Bool:=if r.aq<=r.af.length then({ r with aA:=2 },q,false) else if q=0 then(r,0,false) else(r,q-1,true)
theorem may_sem(r:Rn)(N q:Nat)(h:q<=N/\N<=1000000):bq Tryz.prog 24 7 [.p (.c (.ptr 0 0)),.p (.c (.ptr 1 0)),.p (.c (.ptr 2 0))] (Ji r N q) (bB (ia r q).2.2) (Ji (ia r q).1 N (ia r q).2.1):=by
 refine bR (aj:=[]) (cx:=[]) (fz:=[]) aG Tryz.func24 (by kernel_rfl) 7 (by kernel_rfl) 100 ?_;apply of_eq (q:=let q1:=Ob.mk 30 [Fd.c (W.ptr (3:Nat) (0:Nat))];(decide (r.aq<=(r.af.length:Int))=true->aE [vB false]=bB (ia r q).snd.snd/\[q1,Ob.mk 3 [fI ((N:Int)-(q:Int))],Ob.mk 3 [fI (N:Int)],Ob.mk 61 [fI r.g,fL r.ax,fL r.sub,fI r.aq,fI r.aH,fI r.aj,fI (2),fI r.ph,fI r.co,fI r.ix,fS 4 0 r.af.length,fS 5 0 r.ah.length,fS 6 0 r.dn],aQ r,aB r.ah,aB r.dl]=Ji (ia r q).fst N (ia r q).snd.fst)/\(decide (r.aq<=(r.af.length:Int))=false->(decide ((N:Int)-(q:Int)=(N:Int))=true->aE [vB false]=bB (ia r q).snd.snd/\[q1,Ob.mk 3 [fI ((N:Int)-(q:Int))],Ob.mk 3 [fI (N:Int)],bV r (4:Nat) (5:Nat) (6:Nat),aQ r,aB r.ah,aB r.dl]=Ji (ia r q).fst N (ia r q).snd.fst)/\(decide ((N:Int)-(q:Int)=(N:Int))=false->aE [vB true]=bB (ia r q).snd.snd/\[q1,Ob.mk 3 [fI (IntKind.i64.wrap ((N:Int)-(q:Int)+1))],Ob.mk 3 [fI (N:Int)],bV r (4:Nat) (5:Nat) (6:Nat),aQ r,aB r.ah,aB r.dl]=Ji (ia r q).fst N (ia r q).snd.fst))) (by kernel_rfl)
 try simp only[sL]
 refine⟨fun h1=>?_,fun h1=>⟨fun h2=>?_,fun h2=>?_⟩⟩;rw[ia,if_pos h1];exact⟨rfl,rfl⟩;have h0:q=0:=by omega
 subst h0;rw[ia,if_neg (by omega),if_pos rfl];exact⟨rfl,rfl⟩;rw[ia,if_neg (by omega),if_neg (by omega),wrap64 (n:=(N:Int)-q+1) (by omega) (by omega),show (N:Int)-q+1=(N:Int)-((q-1:Nat):Int) by omega];exact⟨rfl,rfl⟩
def W4 : List Ob → Option (Prop × Rn × Nat × Nat)
 | [a,⟨u,[.c (.ptr 0 0)]⟩,⟨u1,[.c (.int .i64 d)]⟩,⟨u2,[.c (.int .i64 n)]⟩,b,c,e] =>
   bif acV u 30&&(acV u1 3&&acV u2 3) then match Mf 4 5 6 [a,b,c,e] with
    | some (p,r)=>some (p/\0<=d/\d<=n/\n<=1000000,r,n.toNat,(n-d).toNat)
    | none=>none
   else none
 | _=>none
theorem Mz{au:List Ob}{c:Prop}{r:Rn}{N q:Nat}(e:W4 au=some (c,r,N,q))(hc:c):au=ku r N q/\q<=N/\N<=1000000:=by
 unfold W4 at e;split at e;rename_i a u u1 d u2 n b c e';obtain⟨hb,e1⟩:=aC.aK e;clear e;simp only[ac4] at hb;obtain⟨h1,h2,h3⟩:=hb;cases acP h1;cases acP h2;cases acP h3;split at e1;rename_i p r' hr;cases e1;obtain⟨g1,g2,g3,g4⟩:=hc;have:=GR hr g1;simp only[List.cons.injEq] at this;obtain⟨rfl,rfl,rfl,rfl,_⟩:=this;refine⟨?_,by omega,by omega⟩;rw[ku,show ((n.toNat:Nat):Int)-((n-d).toNat:Nat)=d by omega,show ((n.toNat:Nat):Int)=n by omega];cases e1;cases e
def asC : List Ob → Option (Prop × Rn × Nat × Nat)
 | [⟨u,[.c (.ptr 3 0)]⟩,⟨u1,[.c (.int .i64 d)]⟩,⟨u2,[.c (.int .i64 n)]⟩,a,b,c,e] =>
   bif acV u 30&&(acV u1 3&&acV u2 3) then match Mf 4 5 6 [a,b,c,e] with
    | some (p,r)=>some (p/\0<=d/\d<=n/\n<=1000000,r,n.toNat,(n-d).toNat)
    | none=>none
   else none
 | _=>none
theorem asC_eq{au:List Ob}{c:Prop}{r:Rn}{N q:Nat}(e:asC au=some (c,r,N,q))(hc:c):au=Ji r N q/\q<=N/\N<=1000000:=by
 unfold asC at e;split at e;rename_i u u1 d u2 n a b c e';obtain⟨hb,e1⟩:=aC.aK e;clear e;simp only[ac4] at hb;obtain⟨h1,h2,h3⟩:=hb;cases acP h1;cases acP h2;cases acP h3;split at e1;rename_i p r' hr;cases e1;obtain⟨g1,g2,g3,g4⟩:=hc;have:=GR hr g1;simp only[List.cons.injEq] at this;obtain⟨rfl,rfl,rfl,rfl,_⟩:=this;refine⟨?_,by omega,by omega⟩;rw[Ji,show ((n.toNat:Nat):Int)-((n-d).toNat:Nat)=d by omega,show ((n.toNat:Nat):Int)=n by omega];cases e1;cases e
def Td:bQ:={ cI:=[true,true,true],f:=fun args au=>match args with
 | [.p (.c (.ptr 0 0)),.p (.c (.ptr 1 0)),.p (.c (.ptr 2 0))]=>match asC au with
   | some (c,r,N,q)=>some (.p c,bB (ia r q).2.2,Ji (ia r q).1 N (ia r q).2.1)
   | none=>none
 | _=>none }
theorem Qi:aM Tryz.prog 24 Td:=by
 refine⟨by kernel_rfl,fun args au c r bg e hc=>?_⟩;simp only[Td] at e;split at e;split at e;rename_i c1 r1 N q hr;cases e;obtain⟨rfl,h1,h2⟩:=asC_eq hr hc;exact may_sem r1 N q ⟨h1,h2⟩;cases e;cases e
def aaJ:bW:=[(83,cScan),(84,AL),(22,Tc),(24,Td)]
theorem Qj:bt Tryz.prog aaJ:=ar aaH (ar vv (ar Mx (ar Qi aG)))
def sFil:bJ:=bG Tryz.prog aaJ Tryz.f56 4 [([0,1],[0,1,2,3])] [] []
abbrev W5(x:Rn×Nat×Bool)(N:Nat):A->List Ob->Prop:=aD (bB x.2.2) (ku x.1 N x.2.1)
theorem MA(a : Nat)(w : List Int)(x : Rn × Nat × Bool)(N : Nat)(hN : N ≤ 1000000) : ∀(q : Nat)(r : Rn), bF r → Wd r.g w → a < r.af.length → r.af.length ≤ r.aq → r.aq ≤ 900000 → q ≤ N → x = aY a w q r →
 av sFil (W5 x N) [0,1] (fr [(0,pR),(1,nI a),(2,bI w),(3,Qh)]) (.ofList (ku r N q))
 | q, r, T, hw, ha, hl, hm, hq, hx => by
   refine aN Qj (by kernel_rfl) 100 ?_;apply of_eq (q:=let q3:=(bC r a w);let q5:=(N:Int);let q1:=(ia q3.fst (q5-(q5-(q:Int))).toNat);let q4:=(add q1.fst);let q2:=(join q4 q3.snd.fst q3.snd.snd.fst q1.fst.af.length);((r.af.length=r.af.length/\r.ah.length=r.ah.length/\((2:Int)*r.g).toNat=((2:Int)*r.g).toNat)/\(0:Int)<=(a:Int)/\bF r/\Wd r.g w/\a<r.af.length)/\((!q3.snd.snd.snd)=true->aE [vB true]=bB x.snd.snd/\[bV (q3.fst) (4:Nat) (5:Nat) (6:Nat),Ob.mk 30 [Fd.c (W.ptr 0 0)],Ob.mk 3 [fI (q5-(q:Int))],Ob.mk 3 [fI q5],aQ (q3.fst),aB (q3.fst.ah),aB (q3.fst.dl)]=ku x.fst N x.snd.fst)/\((!q3.snd.snd.snd)=false->((q3.fst.af.length=q3.fst.af.length/\q3.fst.ah.length=q3.fst.ah.length/\((2:Int)*q3.fst.g).toNat=((2:Int)*q3.fst.g).toNat)/\(0:Int)<=q5-(q:Int)/\q5-(q:Int)<=q5/\q5<=1000000)/\((!q1.snd.snd)=true->aE [vB false]=bB x.snd.snd/\[bV (q1.fst) (4:Nat) (5:Nat) (6:Nat),Ob.mk 30 [Fd.c (W.ptr 0 0)],Ob.mk 3 [fI (q5-(↑q1.snd.fst:Int))],Ob.mk 3 [fI q5],Ob.mk 22 [Fd.c (W.th ((2:Int)*q1.fst.g).toNat q1.fst.af)],aB (q1.fst.ah),aB (q1.fst.dl)]=ku x.fst N x.snd.fst)/\((!q1.snd.snd)=false->((q1.fst.af.length=q1.fst.af.length/\q1.fst.ah.length=q1.fst.ah.length/\((2:Int)*q1.fst.g).toNat=((2:Int)*q1.fst.g).toNat)/\bF q1.fst/\q1.fst.af.length<=900000)/\((q4.af.length=q4.af.length/\q4.ah.length=q4.ah.length/\((2:Int)*q4.g).toNat=((2:Int)*q4.g).toNat)/\(0:Int)<=(↑q3.snd.fst:Int)/\(0:Int)<=(↑q3.snd.snd.fst:Int)/\(0:Int)<=(↑q1.fst.af.length:Int)/\q3.snd.fst<q4.af.length/\q1.fst.af.length<q4.af.length/\q3.snd.snd.fst<((2:Int)*q4.g).toNat/\q4.g<=16)/\av sFil (W5 x N) [0,1] (fr [(0,aR 0 0),(1,nI (a:Int)),(2,bI w),(3,aP (W.func 24 [(1,(0:Nat)),(2,(0:Nat)),(3,(0:Nat))]))]) (ak.ofList [Ob.mk 61 [fI q2.g,fL q2.ax,fL q2.sub,fI q2.aq,fI q2.aH,fI q2.aj,fI q2.aA,fI q2.ph,fI q2.co,fI q2.ix,fS 4 0 q2.af.length,fS 5 0 q2.ah.length,fS 6 0 q2.dn],Ob.mk 30 [Fd.c (W.ptr 0 0)],Ob.mk 3 [fI (q5-(↑q1.snd.fst:Int))],Ob.mk 3 [fI q5],aQ q2,aB (q2.ah),aB (q2.dl)])))) (by kernel_rfl)
   try simp only[sL]
   have S:=jd T hw ha;have h1:=S.len;rw[show ((N:Int)-((N:Int)-(q:Int))).toNat=q by omega];have hx':x=if(bC r a w).2.2.2=false then((bC r a w).1,q,true) else if(ia (bC r a w).1 q).2.2=false then((ia (bC r a w).1 q).1,(ia (bC r a w).1 q).2.1,false) else aY a w (q-1) (grow (bC r a w).1 (bC r a w).2.1 (bC r a w).2.2.1):=by
    rw[hx];have hl:(bC r a w).1.aq=r.aq:=S.ay.2.2.2.1;cases q with
    | zero =>
      rw[aY,<-hl];unfold ia;split;rfl;split<;>rfl
    | succ q =>
      rw[aY,<-hl];unfold ia;split;rfl;split<;>rfl
   refine⟨⟨by omega,T,hw,ha⟩,fun h=>?_,fun h=>⟨⟨by omega,by omega,by omega⟩,fun h2=>?_,fun h2=>?_⟩⟩;rw[if_pos h] at hx';rw[hx'];exact⟨rfl,rfl⟩;rw[if_neg (by rw[h];simp),if_pos h2] at hx';rw[hx'];exact⟨rfl,rfl⟩
   · rw[if_neg (by rw[h]; simp), if_neg (by rw[h2]; simp)] at hx'
     obtain⟨o1,o2,o3⟩:=S.opn h;have hm2:(ia (bC r a w).1 q).1=(bC r a w).1/\(ia (bC r a w).1 q).2.1=q-1/\(bC r a w).1.af.length<(bC r a w).1.aq/\0<q:=by
      unfold ia at h2 ⊢;split;rename_i g;rw[if_pos g] at h2;cases h2;rename_i g;rw[if_neg g] at h2;split;rename_i g2;rw[if_pos g2] at h2;cases h2;exact⟨rfl,rfl,by omega,by omega⟩
     obtain⟨m1,m2,m3,m4⟩:=hm2;rw[m1,m2];have hs:(bC r a w).1.g=r.g:=S.ay.1;have hsl:(bC r a w).1.aq=r.aq:=S.ay.2.2.2.1;have al:=rD (bC r a w).1;obtain⟨g1,g2,g3⟩:=hO S.bw (bC r a w).2.2.1 (show (bC r a w).2.1<(bC r a w).1.af.length by omega) (by omega);have k:=S.ay.trans g3;have lK:r.g<=16:=T.g2;refine⟨⟨S.bw,by omega⟩,⟨by omega,by omega,by omega,by omega,by omega,by rw[al.2,hs];exact o3,by rw[al.2,hs];exact lK⟩,?_⟩;cases q with
     | zero=>omega
     | succ q =>
       exact MA a w x N hN q (grow (bC r a w).1 (bC r a w).2.1 (bC r a w).2.2.1) g1 (by rw[k.1];exact hw) (by omega) (by rw[k.2.2.2.1];omega) (by rw[k.2.2.2.1];exact hm) (by omega) hx'
theorem fil_sem(r:Rn)(N q a:Nat)(w:List Int)(T:bF r)(hw:Wd r.g w)(h:a<r.af.length/\r.af.length<=r.aq/\r.aq<=900000/\q<=N/\N<=1000000):bq Tryz.prog 56 4 [pR,nI a,bI w,Qh] (ku r N q) (bB (aY a w q r).2.2) (ku (aY a w q r).1 N (aY a w q r).2.1):=by
 refine bR (aj:=[([0,1],[0,1,2,3])]) (cx:=[]) (fz:=[]) Qj Tryz.func56 (by kernel_rfl) 4 (by kernel_rfl) 100 ?_;apply of_eq (q:=av (bG Tryz.prog aaJ Tryz.f56 (4:Nat) [([0,1],[0,1,2,3])] [] []) (aD (bB (aY a w q r).snd.snd) (ku (aY a w q r).fst N (aY a w q r).snd.fst)) [0,1] (fr [(0,aR 0 0),(1,nI (a:Int)),(2,bI w),(3,aP (W.func 24 [(1,(0:Nat)),(2,(0:Nat)),(3,(0:Nat))]))]) (ak.ofList [bV r 4 5 6,Ob.mk 30 [Fd.c (W.ptr 0 0)],Ob.mk 3 [fI ((N:Int)-(q:Int))],Ob.mk 3 [fI (N:Int)],aQ r,aB r.ah,aB r.dl])) (by kernel_rfl)
 try simp only[sL,Int.reduceEq,Int.reduceNe,Nat.reduceAdd]
 exact MA a w _ N h.2.2.2.2 q r T hw h.1 h.2.1 h.2.2.1 h.2.2.2.1 rfl
def Te:bQ:={ cI:=[true,false,false,true],ay:=some 4,f:=fun args au=>match args with
 | [.p (.c (.ptr 0 0)),.p (.c (.int .i64 a)),w,.p (.c (.func f [(1,0),(2,0),(3,0)]))]=>bif acV f 24 then match gq dI w,W4 au with
   | some w,some (c,r,N,q)=>some (.p (c/\0<=a/\bF r/\Wd r.g w/\a.toNat<r.af.length/\r.af.length<=r.aq/\r.aq<=900000),bB (aY a.toNat w q r).2.2,ku (aY a.toNat w q r).1 N (aY a.toNat w q r).2.1)
   | _,_=>none
   else none
 | _=>none }
theorem aaK:aM Tryz.prog 56 Te:=by
 refine⟨by kernel_rfl,fun args au c r bg e hc=>?_⟩;simp only[Te] at e;split at e;rename_i a w0 f;obtain⟨hb,e1⟩:=aC.aK e;clear e;cases acP hb;split at e1
 . rename_i w c1 r1 N q hw hr;cases e1;obtain⟨h1,h2,h3,h4,h5,h6,h7⟩:=hc;obtain⟨rfl,g1,g2⟩:=Mz hr h1;have:=fil_sem r1 N q a.toNat w h3 h4 ⟨h5,h6,h7,g1,g2⟩;rw[<-gA h2] at this;intro base η Z W vs R hvs hK
   match vs,hvs with
   | [u,v,t,s],⟨a1,a2,a3,a4,_⟩=>exact this base η Z W _ R ⟨a1,a2,cF hw a3,a4,trivial⟩ hK
 cases e1;cases e
def aaM:bW:=[(84,AL),(22,Tc),(24,Td)]
theorem Qk:bt Tryz.prog aaM:=ar vv (ar Mx (ar Qi aG))
def aaN:bJ:=bG Tryz.prog aaM Tryz.f57 4 [([0,1,0,1],[0,1,2,15,16])] [] []
theorem DR(a G : Nat)(x : Rn × Nat × Bool)(N : Nat)(hN : N ≤ 1000000) : ∀(f c q : Nat)(r : Rn), bF r → c + f = G → G = (2 * r.g).toNat → a < r.af.length → r.af.length ≤ r.aq → r.aq ≤ 900000 → q ≤ N → x = bP a f c r q →
 av aaN (W5 x N) [0,1,0,1] (fr [(0,pR),(1,nI a),(2,Qh),(15,nI G),(16,nI c)]) (.ofList (ku r N q))
 | f,c,q,r,T,hc,hG,ha,hl,hm,hq,hx=>by
   refine aN Qk (by kernel_rfl) 100 ?_;apply of_eq (q:=let q3:=(fr [(0,aR 0 0),(1,nI (a:Int)),(2,aP (W.func 24 [(1,(0:Nat)),(2,(0:Nat)),(3,(0:Nat))])),(15,nI (G:Int)),(16,nI (IntKind.i64.wrap ((c:Int)+1)))]);let q5:=Ob.mk 30 [Fd.c (W.ptr 0 0)];let q6:=decide ((0:Int)<=(r.af.getD ((0:Nat)+a) []).getD c (0:Int));let q7:=(N:Int);let q1:=(ia r (q7-(q7-(q:Int))).toNat);let q4:=(add q1.fst);let q2:=(join q4 a c q1.fst.af.length);(decide ((c:Int)<(G:Int))=true->((0:Int)<=(a:Int)/\(a:Int)<(r.af.length:Int))/\(0:Nat)+a<r.af.length/\((0:Int)<=(c:Int)/\(c:Int)<(↑((2:Int)*r.g).toNat:Int))/\((0:Nat)+a<r.af.length/\c<((2:Int)*r.g).toNat)/\(q6=true->av aaN (W5 x N) [0,1,0,1] q3 (ak.ofList [bV r 4 5 6,q5,Ob.mk 3 [fI (q7-(q:Int))],Ob.mk 3 [fI q7],aQ r,aB r.ah,aB r.dl]))/\(q6=false->((r.af.length=r.af.length/\r.ah.length=r.ah.length/\((2:Int)*r.g).toNat=((2:Int)*r.g).toNat)/\(0:Int)<=q7-(q:Int)/\q7-(q:Int)<=q7/\q7<=1000000)/\((!q1.snd.snd)=true->aE [vB false]=bB x.snd.snd/\[Ob.mk 61 [fI q1.fst.g,fL q1.fst.ax,fL q1.fst.sub,fI q1.fst.aq,fI q1.fst.aH,fI q1.fst.aj,fI q1.fst.aA,fI q1.fst.ph,fI q1.fst.co,fI q1.fst.ix,fS 4 0 q1.fst.af.length,fS 5 0 q1.fst.ah.length,fS 6 0 q1.fst.dn],q5,Ob.mk 3 [fI (q7-(↑q1.snd.fst:Int))],Ob.mk 3 [fI q7],aQ (q1.fst),aB (q1.fst.ah),aB (q1.fst.dl)]=ku x.fst N x.snd.fst)/\((!q1.snd.snd)=false->((q1.fst.af.length=q1.fst.af.length/\q1.fst.ah.length=q1.fst.ah.length/\((2:Int)*q1.fst.g).toNat=((2:Int)*q1.fst.g).toNat)/\bF q1.fst/\q1.fst.af.length<=900000)/\((q4.af.length=q4.af.length/\q4.ah.length=q4.ah.length/\((2:Int)*q4.g).toNat=((2:Int)*q4.g).toNat)/\(0:Int)<=(a:Int)/\(0:Int)<=(c:Int)/\(0:Int)<=(↑q1.fst.af.length:Int)/\a<q4.af.length/\q1.fst.af.length<q4.af.length/\c<((2:Int)*q4.g).toNat/\q4.g<=16)/\av aaN (W5 x N) [0,1,0,1] q3 (ak.ofList [Ob.mk 61 [fI q2.g,fL q2.ax,fL q2.sub,fI q2.aq,fI q2.aH,fI q2.aj,fI q2.aA,fI q2.ph,fI q2.co,fI q2.ix,fS 4 0 q2.af.length,fS 5 0 q2.ah.length,fS 6 0 q2.dn],q5,Ob.mk 3 [fI (q7-(↑q1.snd.fst:Int))],Ob.mk 3 [fI q7],aQ q2,aB (q2.ah),aB (q2.dl)]))))/\(decide ((c:Int)<(G:Int))=false->aE [vB true]=bB x.snd.snd/\[bV r (4:Nat) (5:Nat) (6:Nat),q5,Ob.mk 3 [fI (q7-(q:Int))],Ob.mk 3 [fI q7],aQ r,aB r.ah,aB r.dl]=ku x.fst N x.snd.fst)) (by kernel_rfl)
   try simp only[sL]
   have kP:1<=r.g:=T.g1;have lK:r.g<=16:=T.g2;rw[show ((N:Int)-((N:Int)-(q:Int))).toNat=q by omega,wrap64 (n:=(c:Int)+1) (by omega) (by omega)];simp only[kW];refine⟨fun h=>?_,fun h=>?_⟩
   . cases f with
     | zero=>omega
     | succ f =>
     rw[bP] at hx;refine⟨by omega,ha,by omega,by omega,fun h1=>?_,fun h1=>⟨⟨by omega,by omega,by omega⟩,fun h2=>?_,fun h2=>?_⟩⟩;rw[if_pos h1] at hx;exact DR a G x N hN f (c+1) q r T (by omega) hG ha hl hm hq hx
     · rw[if_neg (by omega)] at hx
       have hx':x=((ia r q).1,(ia r q).2.1,false):=by
        rw[hx];unfold ia at h2 ⊢;split;rfl;split;rfl;rename_i g1 g2;rw[if_neg g1,if_neg g2] at h2;cases h2
       rw[hx'];exact⟨rfl,rfl⟩
     · rw[if_neg (by omega)] at hx
       have hm2:(ia r q).1=r/\(ia r q).2.1=q-1/\r.af.length<r.aq/\0<q:=by
        unfold ia at h2 ⊢;split;rename_i g;rw[if_pos g] at h2;cases h2;rename_i g;rw[if_neg g] at h2;split;rename_i g2;rw[if_pos g2] at h2;cases h2;exact⟨rfl,rfl,by omega,by omega⟩
       obtain⟨m1,m2,m3,m4⟩:=hm2;rw[m1,m2];have al:=rD r;obtain⟨g1,g2,g3⟩:=hO T c ha (by omega);rw[if_neg (by omega),if_neg (by omega)] at hx;refine⟨⟨T,by omega⟩,⟨by omega,by omega,by omega,by omega,by omega,by rw[al.2];omega,by rw[al.2];exact lK⟩,?_⟩;exact DR a G x N hN f (c+1) (q-1) (grow r a c) g1 (by omega) (by rw[g3.1];exact hG) (by omega) (by rw[g3.2.2.2.1];omega) (by rw[g3.2.2.2.1];exact hm) (by omega) hx
   have:f=0:=by omega
   subst this;have hx:x=(r,q,true):=hx;rw[hx];exact⟨rfl,rfl⟩
theorem co3_sem(r:Rn)(N q a:Nat)(T:bF r)(h:a<r.af.length/\r.af.length<=r.aq/\r.aq<=900000/\q<=N/\N<=1000000):bq Tryz.prog 57 4 [pR,nI a,Qh] (ku r N q) (bB (bP a (2*r.g).toNat 0 r q).2.2) (ku (bP a (2*r.g).toNat 0 r q).1 N (bP a (2*r.g).toNat 0 r q).2.1):=by
 refine bR (aj:=[([0,1,0,1],[0,1,2,15,16])]) (cx:=[]) (fz:=[]) Qk Tryz.func57 (by kernel_rfl) 4 (by kernel_rfl) 100 ?_;apply of_eq (q:=let q1:=(bP a ((2:Int)*r.g).toNat (0:Nat) r q);((0:Int)<=(a:Int)/\(a:Int)<(r.af.length:Int))/\(0:Nat)+a<r.af.length/\av (bG Tryz.prog aaM Tryz.f57 (4:Nat) [([0,1,0,1],[0,1,2,15,16])] [] []) (aD (bB q1.snd.snd) (ku q1.fst N q1.snd.fst)) [0,1,0,1] (fr [(0,aR 0 0),(1,nI (a:Int)),(2,aP (W.func 24 [(1,(0:Nat)),(2,(0:Nat)),(3,(0:Nat))])),(15,nI (↑((2:Int)*r.g).toNat:Int)),(16,nI (0))]) (ak.ofList [bV r 4 5 6,Ob.mk 30 [Fd.c (W.ptr 0 0)],Ob.mk 3 [fI ((N:Int)-(q:Int))],Ob.mk 3 [fI (N:Int)],aQ r,aB r.ah,aB r.dl])) (by kernel_rfl)
 try simp only[sL]
 exact⟨by omega,h.1,DR a _ _ N h.2.2.2.2 (2*r.g).toNat 0 q r T (by omega) rfl h.1 h.2.1 h.2.2.1 h.2.2.2.1 rfl⟩
def Tf:bQ:={ cI:=[true,false,true],ay:=some 4,f:=fun args au=>match args with
 | [.p (.c (.ptr 0 0)),.p (.c (.int .i64 a)),.p (.c (.func f [(1,0),(2,0),(3,0)]))]=>bif acV f 24 then match W4 au with
   | some (c,r,N,q)=>some (.p (c/\0<=a/\bF r/\a.toNat<r.af.length/\r.af.length<=r.aq/\r.aq<=900000),bB (bP a.toNat (2*r.g).toNat 0 r q).2.2,ku (bP a.toNat (2*r.g).toNat 0 r q).1 N (bP a.toNat (2*r.g).toNat 0 r q).2.1)
   | _=>none
   else none
 | _=>none }
theorem aaO:aM Tryz.prog 57 Tf:=by
 refine⟨by kernel_rfl,fun args au c r bg e hc=>?_⟩;simp only[Tf] at e;split at e;rename_i a f;obtain⟨hb,e1⟩:=aC.aK e;clear e;cases acP hb;split at e1;rename_i c1 r1 N q hr;cases e1;obtain⟨h1,h2,h3,h5,h6,h7⟩:=hc;obtain⟨rfl,g1,g2⟩:=Mz hr h1;have:=co3_sem r1 N q a.toNat h3 ⟨h5,h6,h7,g1,g2⟩;rw[<-gA h2] at this;exact this;cases e1;cases e
end Go.Proofs.YtdpbidkgdnnamaaGreatDoor
namespace Go.br
def act(r:Rn)(q:Nat):Rn×Nat×Bool :=
 if r.ph=0/\(r.sub.length:Int)<=r.ix then({ r with ph:=1,co:=0,ix:=0 },q,false)
 else if r.ph=0 then
  if(aY 0 (r.sub.getD r.ix.toNat []) q r).2.2=false then((aY 0 (r.sub.getD r.ix.toNat []) q r).1,(aY 0 (r.sub.getD r.ix.toNat []) q r).2.1,true)
  else({ (aY 0 (r.sub.getD r.ix.toNat []) q r).1 with ix:=r.ix+1 },(aY 0 (r.sub.getD r.ix.toNat []) q r).2.1,false)
 else if r.ph=2 then
  if(bP r.co.toNat (2*r.g).toNat 0 r q).2.2=false then((bP r.co.toNat (2*r.g).toNat 0 r q).1,(bP r.co.toNat (2*r.g).toNat 0 r q).2.1,true)
  else({ (bP r.co.toNat (2*r.g).toNat 0 r q).1 with ph:=1,co:=r.co+1,ix:=0 },(bP r.co.toNat (2*r.g).toNat 0 r q).2.1,false)
 else if r.co=r.af.length then({ r with ph:=3,co:=0,ix:=0,aA:=1 },q,true)
 else if ¬(r.ah.getD r.co.toNat 0=r.co) then({ r with ph:=1,co:=r.co+1,ix:=0 },q,false)
 else if(r.ax.length:Int)<=r.ix then({ r with ph:=2,co:=r.co,ix:=0 },q,false)
 else if(aY r.co.toNat (r.ax.getD r.ix.toNat []) q r).2.2=false then((aY r.co.toNat (r.ax.getD r.ix.toNat []) q r).1,(aY r.co.toNat (r.ax.getD r.ix.toNat []) q r).2.1,true)
 else({ (aY r.co.toNat (r.ax.getD r.ix.toNat []) q r).1 with ix:=r.ix+1 },(aY r.co.toNat (r.ax.getD r.ix.toNat []) q r).2.1,false)
structure cX(r:Rn):Prop where
 bw:bF r
 n1:0<r.af.length
 aq:r.af.length<=r.aq
 yO:r.aq<=900000
 ax:∀ w∈r.ax,Wd r.g w
 sub:∀ w∈r.sub,Wd r.g w
 nr:r.ax.length<=1000
 ns:r.sub.length<=1000
 ph:r.ph=0∨r.ph=1∨r.ph=2
 co:0<=r.co/\r.co<=r.af.length
 ix:0<=r.ix/\r.ix<=1000
 Fm:r.ph=2->r.co<r.af.length
def meas(r:Rn):Nat :=
 if r.ph=0 then(r.aq.toNat+1)*(r.ax.length+3)+3+(r.sub.length-r.ix.toNat)
 else if r.ph=1 then(r.aq.toNat-r.co.toNat)*(r.ax.length+3)+(r.ax.length-r.ix.toNat)+2
 else(r.aq.toNat-r.co.toNat)*(r.ax.length+3)+1
structure Acted(r:Rn)(q:Nat)(x:Rn×Nat×Bool):Prop where
 bw:bF x.1
 len:x.1.af.length+x.2.1=r.af.length+q
 aq:x.1.af.length<=r.aq
 grown:r.af.length<=x.1.af.length
 same:x.1.g=r.g/\x.1.ax=r.ax/\x.1.sub=r.sub/\x.1.aq=r.aq
 pos:(0<=x.1.ph/\x.1.ph<=3)/\(0<=x.1.co/\x.1.co<=x.1.af.length)/\(0<=x.1.ix/\x.1.ix<=1000)
 go:x.2.2=false->cX x.1/\meas x.1<meas r/\x.1.aA=r.aA
 stop:x.2.2=true->x.1.aA=1∨x.1.aA=2∨(x.1.aA=r.aA/\x.2.1=0/\cX x.1)
theorem gJ{l:List (List Int)}{i:Int}(h0:0<=i)(h:i<l.length):l.getD i.toNat []∈l:=eI (by omega)
theorem bF.place{r:Rn}(T:bF r)(p c i s:Int):bF { r with ph:=p,co:=c,ix:=i,aA:=s }:=⟨T.g1,T.g2,T.len,T.ah,T.row,T.dy,T.dx,T.aj,T.sum⟩
theorem mul_pred{a b:Nat}(h:0<a):a*b=(a-1)*b+b:=by
 obtain⟨c,rfl⟩:∃ c,a=c+1:=⟨a-1,by omega⟩;rw[adk];rfl
theorem qB{r:Rn}(G:cX r)(q:Nat):Acted r q (act r q):=by
 have hg:=G.ix;have hc:=G.co;have hl:=G.aq;have hl2:=G.yO;have C3:=G.ph;have vC:=G.nr;have hns:=G.ns;have hn1:=G.n1;unfold act;split;rename_i h;refine⟨G.bw.place 1 0 0 r.aA,rfl,hl,acS _,⟨rfl,rfl,rfl,rfl⟩,⟨by simp only;omega,by simp only;omega,by simp only;omega⟩,fun _=>⟨⟨G.bw.place 1 0 0 r.aA,hn1,hl,hl2,G.ax,G.sub,vC,hns,.inr (.inl rfl),by simp only;omega,by simp only;omega,fun h=>by simp only at h;omega⟩,?_,rfl⟩,fun h=>by cases h⟩;unfold meas;rw[if_pos h.1];simp only[Int.reduceEq,if_false,if_true];have:(r.aq.toNat+1)*(r.ax.length+3)=r.aq.toNat*(r.ax.length+3)+(r.ax.length+3):=adk _ _;have e:r.aq.toNat-(0:Int).toNat=r.aq.toNat:=rfl;rw[e];omega;rename_i h0;split;rename_i hp;have hi:r.ix<r.sub.length:=by omega
 have hw:=G.sub _ (gJ hg.1 hi);have F:=kX (a:=0) (w:=r.sub.getD r.ix.toNat []) q G.bw hw hn1 hl hl2;generalize aY 0 (r.sub.getD r.ix.toNat []) q r=x at *;obtain⟨k1,k2,k3,k4,k5,k6,k7,_⟩:=F.ay;simp only at k1 k2 k3 k4 k5 k6 k7;have f1:=F.len;have f2:=F.aq;have f3:=F.grown;split;rename_i hx;refine⟨F.bw,f1,f2,f3,⟨k1,k2,k3,k4⟩,⟨by simp only;omega,by simp only;omega,by simp only;omega⟩,fun h=>(by cases h),fun _=>?_⟩;rcases F.no hx with ⟨h1,_⟩|⟨h1,h2,h3⟩;exact .inr (.inl h1);exact .inr (.inr ⟨h1,h2,⟨F.bw,by simp only;omega,by simp only;omega,by simp only;omega,by rw[k1,k2];exact G.ax,by rw[k1,k3];exact G.sub,by rw[k2];exact vC,by rw[k3];exact hns,by rw[k5];exact C3,by simp only;omega,by simp only;omega,fun h=>by simp only at h;omega⟩⟩);rename_i hx;have hx:x.2.2=true:=by simpa using hx
 refine⟨F.bw.place x.1.ph x.1.co (r.ix+1) x.1.aA,f1,f2,f3,⟨k1,k2,k3,k4⟩,⟨by simp only;omega,by simp only;omega,by simp only;omega⟩,fun _=>⟨⟨F.bw.place x.1.ph x.1.co (r.ix+1) x.1.aA,by simp only;omega,by simp only;omega,by simp only;omega,by simp only;rw[k1,k2];exact G.ax,by simp only;rw[k1,k3];exact G.sub,by simp only;rw[k2];exact vC,by simp only;rw[k3];exact hns,by simp only;rw[k5];exact C3,by simp only;omega,by simp only;omega,fun h=>by simp only at h;omega⟩,?_,F.yes hx⟩,fun h=>by cases h⟩;unfold meas;simp only;rw[k5,if_pos hp,if_pos hp,k4,k2,k3];omega;rename_i hp;split;rename_i hp2;have hco:=G.Fm hp2;have F:=p7 (a:=r.co.toNat) (2*r.g).toNat 0 q G.bw (by omega) (by omega) hl hl2;generalize bP r.co.toNat (2*r.g).toNat 0 r q=x at *;obtain⟨k1,k2,k3,k4,k5,k6,k7,_⟩:=F.ay;simp only at k1 k2 k3 k4 k5 k6 k7;have f1:=F.len;have f2:=F.aq;have f3:=F.grown;split;rename_i hx;refine⟨F.bw,f1,f2,f3,⟨k1,k2,k3,k4⟩,⟨by simp only;omega,by simp only;omega,by simp only;omega⟩,fun h=>(by cases h),fun _=>?_⟩;rcases F.no hx with ⟨h1,_⟩|⟨h1,h2,h3⟩;exact .inr (.inl h1);exact .inr (.inr ⟨h1,h2,⟨F.bw,by simp only;omega,by simp only;omega,by simp only;omega,by rw[k1,k2];exact G.ax,by rw[k1,k3];exact G.sub,by rw[k2];exact vC,by rw[k3];exact hns,by rw[k5];exact C3,by simp only;omega,by simp only;omega,fun h=>by simp only;omega⟩⟩);rename_i hx;have hx:x.2.2=true:=by simpa using hx
 refine⟨F.bw.place 1 (r.co+1) 0 x.1.aA,f1,f2,f3,⟨k1,k2,k3,k4⟩,⟨by simp only;omega,by simp only;omega,by simp only;omega⟩,fun _=>⟨⟨F.bw.place 1 (r.co+1) 0 x.1.aA,by simp only;omega,by simp only;omega,by simp only;omega,by simp only;rw[k1,k2];exact G.ax,by simp only;rw[k1,k3];exact G.sub,by simp only;rw[k2];exact vC,by simp only;rw[k3];exact hns,.inr (.inl rfl),by simp only;omega,by simp only;omega,fun h=>by simp only at h;omega⟩,?_,F.yes hx⟩,fun h=>by cases h⟩;unfold meas;simp only[Int.reduceEq,if_false,if_true];rw[if_neg hp,if_neg (by omega),k4,k2];have:=mul_pred (a:=r.aq.toNat-r.co.toNat) (b:=r.ax.length+3) (by omega);rw[show r.aq.toNat-(r.co+1).toNat=r.aq.toNat-r.co.toNat-1 by omega];have e:r.ax.length-(0:Int).toNat=r.ax.length:=rfl;omega;rename_i hp2;have hp1:r.ph=1:=by omega
 split;exact⟨G.bw.place 3 0 0 1,rfl,hl,acS _,⟨rfl,rfl,rfl,rfl⟩,⟨by simp only;omega,by simp only;omega,by simp only;omega⟩,fun h=>(by cases h),fun _=>.inl rfl⟩;rename_i hne;have hlt:r.co<r.af.length:=by omega
 split;refine⟨G.bw.place 1 (r.co+1) 0 r.aA,rfl,hl,acS _,⟨rfl,rfl,rfl,rfl⟩,⟨by simp only;omega,by simp only;omega,by simp only;omega⟩,fun _=>⟨⟨G.bw.place 1 (r.co+1) 0 r.aA,hn1,hl,hl2,G.ax,G.sub,vC,hns,.inr (.inl rfl),by simp only;omega,by simp only;omega,fun h=>by simp only at h;omega⟩,?_,rfl⟩,fun h=>by cases h⟩;unfold meas;simp only[Int.reduceEq,if_false,if_true];rw[if_neg hp,if_pos hp1];have:=mul_pred (a:=r.aq.toNat-r.co.toNat) (b:=r.ax.length+3) (by omega);rw[show r.aq.toNat-(r.co+1).toNat=r.aq.toNat-r.co.toNat-1 by omega];have e:r.ax.length-(0:Int).toNat=r.ax.length:=rfl;omega;split;refine⟨G.bw.place 2 r.co 0 r.aA,rfl,hl,acS _,⟨rfl,rfl,rfl,rfl⟩,⟨by simp only;omega,by simp only;omega,by simp only;omega⟩,fun _=>⟨⟨G.bw.place 2 r.co 0 r.aA,hn1,hl,hl2,G.ax,G.sub,vC,hns,.inr (.inr rfl),by simp only;omega,by simp only;omega,fun _=>hlt⟩,?_,rfl⟩,fun h=>by cases h⟩;unfold meas;simp only[Int.reduceEq,if_false];rw[if_neg hp,if_pos hp1];omega;rename_i hal hi;have hi:r.ix<r.ax.length:=by omega
 have hw:=G.ax _ (gJ hg.1 hi);have F:=kX (a:=r.co.toNat) (w:=r.ax.getD r.ix.toNat []) q G.bw hw (by omega) hl hl2;generalize aY r.co.toNat (r.ax.getD r.ix.toNat []) q r=x at *;obtain⟨k1,k2,k3,k4,k5,k6,k7,_⟩:=F.ay;simp only at k1 k2 k3 k4 k5 k6 k7;have f1:=F.len;have f2:=F.aq;have f3:=F.grown;split;rename_i hx;refine⟨F.bw,f1,f2,f3,⟨k1,k2,k3,k4⟩,⟨by simp only;omega,by simp only;omega,by simp only;omega⟩,fun h=>(by cases h),fun _=>?_⟩;rcases F.no hx with ⟨h1,_⟩|⟨h1,h2,h3⟩;exact .inr (.inl h1);exact .inr (.inr ⟨h1,h2,⟨F.bw,by simp only;omega,by simp only;omega,by simp only;omega,by rw[k1,k2];exact G.ax,by rw[k1,k3];exact G.sub,by rw[k2];exact vC,by rw[k3];exact hns,by rw[k5];exact C3,by simp only;omega,by simp only;omega,fun h=>by simp only at h;omega⟩⟩);rename_i hx;have hx:x.2.2=true:=by simpa using hx
 refine⟨F.bw.place x.1.ph x.1.co (r.ix+1) x.1.aA,f1,f2,f3,⟨k1,k2,k3,k4⟩,⟨by simp only;omega,by simp only;omega,by simp only;omega⟩,fun _=>⟨⟨F.bw.place x.1.ph x.1.co (r.ix+1) x.1.aA,by simp only;omega,by simp only;omega,by simp only;omega,by simp only;rw[k1,k2];exact G.ax,by simp only;rw[k1,k3];exact G.sub,by simp only;rw[k2];exact vC,by simp only;rw[k3];exact hns,by simp only;rw[k5];exact C3,by simp only;omega,by simp only;omega,fun h=>by simp only at h;omega⟩,?_,F.yes hx⟩,fun h=>by cases h⟩;unfold meas;simp only;rw[k5,if_neg hp,if_pos hp1,if_neg hp,if_pos hp1,k4,k6,k2];omega
def fZ:Nat->Rn->Nat->Option (Rn×Nat)
 | 0,_,_=>none
 | f+1,r,q=>if(act r q).2.2=true then some ((act r q).1,(act r q).2.1) else fZ f (act r q).1 (act r q).2.1
theorem jH:∀(f:Nat){r:Rn}(q:Nat),cX r->meas r<f->∃ y,fZ f r q=some y
 | 0,_,_,_,h=>by omega
 | f + 1, r, q, G, h => by
   have A:=qB G q;rw[fZ];split;exact⟨_,rfl⟩;rename_i hx;obtain⟨g1,g2,_⟩:=A.go (by simpa using hx);exact jH f _ g1 (by omega)
theorem AP:∀(f k:Nat){r:Rn}{q:Nat}{y},fZ f r q=some y->fZ (f+k) r q=some y
 | 0,_,_,_,_,h=>by cases h
 | f+1,k,r,q,y,h=>by
   rw[show f+1+k=(f+k)+1 by omega,fZ];rw[fZ] at h;split;rename_i hx;rw[if_pos hx] at h;exact h;rename_i hx;rw[if_neg hx] at h;exact AP f k h
theorem aaP{f f':Nat}{r:Rn}{q:Nat}{y y'}(h:fZ f r q=some y)(h':fZ f' r q=some y'):y=y':=by
 have h1:=AP f f' h;have h2:=AP f' f h';rw[Nat.add_comm] at h2;rw[h1] at h2;exact Option.some.inj h2
def run(r:Rn)(q:Nat):Rn×Nat:=(fZ (meas r+1) r q).getD (r,q)
theorem mQ{f:Nat}{r:Rn}{q:Nat}{y}(G:cX r)(h:fZ f r q=some y):run r q=y:=by
 obtain⟨z,hz⟩:=jH (meas r+1) q G (by omega);unfold run;rw[hz];exact aaP hz h
structure Ran(r:Rn)(q:Nat)(x:Rn×Nat):Prop where
 bw:bF x.1
 len:x.1.af.length+x.2=r.af.length+q
 aq:x.1.af.length<=r.aq
 grown:r.af.length<=x.1.af.length
 same:x.1.g=r.g/\x.1.ax=r.ax/\x.1.sub=r.sub/\x.1.aq=r.aq
 pos:(0<=x.1.ph/\x.1.ph<=3)/\(0<=x.1.co/\x.1.co<=x.1.af.length)/\(0<=x.1.ix/\x.1.ix<=1000)
 stop:x.1.aA=1∨x.1.aA=2∨(x.1.aA=r.aA/\x.2=0/\cX x.1)
theorem GS:∀(f:Nat){r:Rn}{q:Nat}{y},cX r->fZ f r q=some y->Ran r q y
 | 0,_,_,_,_,h=>by cases h
 | f + 1, r, q, y, G, h => by
   have A:=qB G q;rw[fZ] at h;split at h;rename_i hx;cases h;exact⟨A.bw,A.len,A.aq,A.grown,A.same,A.pos,A.stop hx⟩;rename_i hx;obtain⟨g1,_,g3⟩:=A.go (by simpa using hx);have R:=GS f g1 h;obtain⟨s1,s2,s3,s4⟩:=A.same;obtain⟨t1,t2,t3,t4⟩:=R.same;have a1:=A.len;have a2:=A.grown;have r1:=R.len;have r2:=R.grown;have r3:=R.aq;rw[s4] at r3;refine⟨R.bw,by omega,r3,by omega,⟨t1.trans s1,t2.trans s2,t3.trans s3,t4.trans s4⟩,R.pos,?_⟩;have:=R.stop;rw[g3] at this;exact this
theorem xA{r:Rn}(G:cX r)(q:Nat):Ran r q (run r q):=by
 obtain⟨z,hz⟩:=jH (meas r+1) q G (by omega);rw[mQ G hz];exact GS _ G hz
theorem DS{a:Nat}{w:List Int}(n:Nat):∀(m:Nat){r:Rn},bF r->Wd r.g w->a<r.af.length->r.af.length<=r.aq->r.aq<=900000->
 aY a w (m+n) r=if(aY a w m r).2.2=true then((aY a w m r).1,(aY a w m r).2.1+n,true) else if r.aq<=(aY a w m r).1.af.length then((aY a w m r).1,(aY a w m r).2.1+n,false) else aY a w n (aY a w m r).1
 | 0,r,T,hw,ha,hl,hm=>by
   have S:=jd T hw ha;rw[ada];by_cases h1:(bC r a w).2.2.2=false;have e:aY a w 0 r=((bC r a w).1,0,true):=by rw[aY,if_pos h1]
   have e2:aY a w n r=((bC r a w).1,n,true):=by cases n<;>rw[aY,if_pos h1]
   rw[e,e2];simp;by_cases h2:r.aq<=(bC r a w).1.af.length;have e:aY a w 0 r=({ (bC r a w).1 with aA:=2 },0,false):=by rw[aY,if_neg h1,if_pos h2]
   have e2:aY a w n r=({ (bC r a w).1 with aA:=2 },n,false):=by cases n<;>rw[aY,if_neg h1,if_pos h2]
   rw[e,e2];simp only[acY,if_false,ada];rw[if_pos h2];have e:aY a w 0 r=((bC r a w).1,0,false):=by rw[aY,if_neg h1,if_neg h2]
   rw[e];simp only[acY,if_false];rw[if_neg h2,(S.opn (by simpa using h1)).1]
 | m + 1, r, T, hw, ha, hl, hm => by
   have S:=jd T hw ha;rw[show m+1+n=(m+n)+1 by omega];by_cases h1:(bC r a w).2.2.2=false;have e:aY a w (m+1) r=((bC r a w).1,m+1,true):=by rw[aY,if_pos h1]
   have e2:aY a w (m+n+1) r=((bC r a w).1,m+n+1,true):=by rw[aY,if_pos h1]
   rw[e,e2];simp only[if_true];rw[show m+n+1=m+1+n by omega];by_cases h2:r.aq<=(bC r a w).1.af.length;have e:aY a w (m+1) r=({ (bC r a w).1 with aA:=2 },m+1,false):=by rw[aY,if_neg h1,if_pos h2]
   have e2:aY a w (m+n+1) r=({ (bC r a w).1 with aA:=2 },m+n+1,false):=by rw[aY,if_neg h1,if_pos h2]
   rw[e,e2];simp only[acY,if_false];rw[if_pos h2,show m+n+1=m+1+n by omega];have e:aY a w (m+1) r=aY a w m (grow (bC r a w).1 (bC r a w).2.1 (bC r a w).2.2.1):=by rw[aY,if_neg h1,if_neg h2]
   have e2:aY a w (m+n+1) r=aY a w (m+n) (grow (bC r a w).1 (bC r a w).2.1 (bC r a w).2.2.1):=by rw[aY,if_neg h1,if_neg h2]
   obtain⟨o1,o2,o3⟩:=S.opn (by simpa using h1);have hsl:=S.len;obtain⟨g1,g2,g3⟩:=hO S.bw (bC r a w).2.2.1 (show (bC r a w).2.1<(bC r a w).1.af.length by omega) (by omega);have k:=S.ay.trans g3;have ih:=DS (a:=a) (w:=w) n m g1 (by rw[k.1];exact hw) (by omega) (by rw[k.2.2.2.1];omega) (by rw[k.2.2.2.1];exact hm);rw[e,e2,ih,k.2.2.2.1]
theorem GU{l:List Int}{x:Int}{i:Nat}(h:i<l.length):(l++[x]).getD i 0=l.getD i 0:=by
 rw[acQ,ac1 h,<-acQ]
theorem MB{a:Nat}{w:List Int}:∀(m:Nat){r:Rn},bF r->Wd r.g w->a<r.af.length->r.af.length<=r.aq->r.aq<=900000->(aY a w m r).2.2=false->∀ i,i<r.af.length->(aY a w m r).1.ah.getD i 0=r.ah.getD i 0
 | 0,r,T,hw,ha,hl,hm,hx,i,hi=>by
   have S:=jd T hw ha;rw[aY] at hx ⊢;split at hx;cases hx;rename_i h1;have h1':(bC r a w).2.2.2=true:=by simpa using h1
   rw[if_neg h1];split;show (bC r a w).1.ah.getD i 0=_;rw[(S.opn h1').1];show (bC r a w).1.ah.getD i 0=_;rw[(S.opn h1').1]
 | m + 1, r, T, hw, ha, hl, hm, hx, i, hi => by
   have S:=jd T hw ha;rw[aY] at hx ⊢;split at hx;cases hx;rename_i h1;have h1':(bC r a w).2.2.2=true:=by simpa using h1
   rw[if_neg h1];split;show (bC r a w).1.ah.getD i 0=_;rw[(S.opn h1').1];rename_i h2;rw[if_neg h2] at hx;obtain⟨o1,o2,o3⟩:=S.opn h1';have hsl:=S.len;obtain⟨g1,g2,g3⟩:=hO S.bw (bC r a w).2.2.1 (show (bC r a w).2.1<(bC r a w).1.af.length by omega) (by omega);have k:=S.ay.trans g3;rw[MB m g1 (by rw[k.1];exact hw) (by omega) (by rw[k.2.2.2.1];omega) (by rw[k.2.2.2.1];exact hm) hx i (by omega)];show ((bC r a w).1.ah++[((bC r a w).1.ah.length:Int)]).getD i 0=_;have:(bC r a w).1.ah.length=(bC r a w).1.af.length:=S.bw.len;rw[GU (by omega),o1]
def Pre(a c:Nat)(r:Rn):Prop:=∀ i,i<c->0<=bh r.af a i
theorem Jj{a:Nat}{r:Rn}{q:Nat}:∀(k c f:Nat),Pre a (c+k) r->bP a (f+k) c r q=bP a f (c+k) r q
 | 0,_,_,_=>rfl
 | k+1,c,f,h=>by
   rw[show f+(k+1)=(f+k)+1 by omega,bP,if_pos (h c (by omega)),Jj k (c+1) f (by rw[show c+1+k=c+(k+1) by omega];exact h),show c+1+k=c+(k+1) by omega]
theorem DT{r:Rn}(T:bF r){a c:Nat}(ha:a<r.af.length)(hc:c<(2*r.g).toNat)(h:Pre a c r):Pre a (c+1) (grow r a c):=by
 intro i hi;have hrow:∀ l∈r.af,Row (2*r.g).toNat r.af.length l:=T.row;have e:(add r).af.getD a []=r.af.getD a []:=by
  show (r.af++[_]).getD a []=_;rw[acQ,ac1 ha,<-acQ]
 have hl:=rD r;show 0<=((fA (fA (add r).af a c r.af.length) r.af.length (bZ c) a).getD a []).getD i 0;unfold fA;rw[yM,if_neg (by omega),yM,if_pos ⟨rfl,by omega⟩,e,gX];split;omega;rename_i hne;have bN:=(hrow _ (eI ha)).1;exact h i (by omega)
theorem DU{a:Nat}(n:Nat):∀(f c m:Nat){r:Rn},bF r->c+f=(2*r.g).toNat->a<r.af.length->r.af.length<=r.aq->r.aq<=900000->Pre a c r->
 bP a f c r (m+n)=if(bP a f c r m).2.2=true then((bP a f c r m).1,(bP a f c r m).2.1+n,true) else if r.aq<=(bP a f c r m).1.af.length then((bP a f c r m).1,(bP a f c r m).2.1+n,false) else bP a (2*r.g).toNat 0 (bP a f c r m).1 n
 | 0,c,m,r,T,hc,ha,hl,hm,hp=>by
   show (r,m+n,true)=if((r,m,true):Rn×Nat×Bool).2.2=true then _ else _;simp[bP]
 | f + 1, c, m, r, T, hc, ha, hl, hm, hp => by
   by_cases h1:0<=bh r.af a c;have e:∀ q,bP a (f+1) c r q=bP a f (c+1) r q:=fun q=>by rw[bP,if_pos h1]
   rw[e,e];refine DU n f (c+1) m T (by omega) ha hl hm fun i hi=>?_;rcases acZ i c with h|h;exact hp i h;rw[show i=c by omega];exact h1;by_cases h2:r.aq<=r.af.length;have e:∀ q,bP a (f+1) c r q=({ r with aA:=2 },q,false):=fun q=>by rw[bP,if_neg h1,if_pos h2]
   rw[e,e];simp only[acY,if_false];rw[if_pos h2];by_cases h3:m=0;subst h3;have e:bP a (f+1) c r 0=(r,0,false):=by rw[bP,if_neg h1,if_neg h2,if_pos rfl]
   rw[e,ada];simp only[acY,if_false];rw[if_neg h2];have:=Jj (a:=a) (r:=r) (q:=n) c 0 (f+1) (by rw[ada];exact hp);rw[ada] at this;rw[<-this,show f+1+c=(2*r.g).toNat by omega];have e:∀ q,q≠0->bP a (f+1) c r q=bP a f (c+1) (grow r a c) (q-1):=fun q hq=>by rw[bP,if_neg h1,if_neg h2,if_neg hq]
   obtain⟨g1,g2,g3⟩:=hO T c ha (by omega);have ih:=DU (a:=a) n f (c+1) (m-1) g1 (by rw[g3.1];omega) (by omega) (by rw[g3.2.2.2.1];omega) (by rw[g3.2.2.2.1];exact hm) (DT T ha (by omega) hp);rw[e m h3,e (m+n) (by omega),show m+n-1=m-1+n by omega,ih,g3.2.2.2.1,g3.1]
theorem act_add{r:Rn}(G:cX r)(hs:r.aA=0)(m n:Nat) :
 ((act r m).2.2=false->act r (m+n)=((act r m).1,(act r m).2.1+n,false))/\((act r m).2.2=true->(act r m).1.aA≠0->act r (m+n)=((act r m).1,(act r m).2.1+n,true))/\((act r m).2.2=true->(act r m).1.aA=0->act r (m+n)=act (act r m).1 n):=by
 have hg:=G.ix;have hc:=G.co;have hl:=G.aq;have hl2:=G.yO;have C3:=G.ph;have hn1:=G.n1;by_cases c1:r.ph=0/\(r.sub.length:Int)<=r.ix;have e:∀ q,act r q=({ r with ph:=1,co:=0,ix:=0 },q,false):=fun q=>by unfold act;rw[if_pos c1]
 rw[e,e];exact⟨fun _=>rfl,fun h=>(by cases h),fun h=>(by cases h)⟩;by_cases c2:r.ph=0
 . have e:∀ q,act r q=if(aY 0 (r.sub.getD r.ix.toNat []) q r).2.2=false then((aY 0 (r.sub.getD r.ix.toNat []) q r).1,(aY 0 (r.sub.getD r.ix.toNat []) q r).2.1,true)
    else({ (aY 0 (r.sub.getD r.ix.toNat []) q r).1 with ix:=r.ix+1 },(aY 0 (r.sub.getD r.ix.toNat []) q r).2.1,false):=fun q=>by unfold act;rw[if_neg c1,if_pos c2]
   have hi:r.ix<r.sub.length:=by omega
   have hw:=G.sub _ (gJ hg.1 hi);have F:=kX (a:=0) (w:=r.sub.getD r.ix.toNat []) m G.bw hw hn1 hl hl2;have A:=DS (a:=0) (w:=r.sub.getD r.ix.toNat []) n m G.bw hw hn1 hl hl2;rw[e m,e (m+n),A];obtain⟨k1,k2,k3,k4,k5,k6,k7,_⟩:=F.ay;simp only at k1 k2 k3 k4 k5 k6 k7
   have hcc:∀ q,act (aY 0 (r.sub.getD r.ix.toNat []) m r).1 q=if(aY 0 (r.sub.getD r.ix.toNat []) q (aY 0 (r.sub.getD r.ix.toNat []) m r).1).2.2=false then((aY 0 (r.sub.getD r.ix.toNat []) q (aY 0 (r.sub.getD r.ix.toNat []) m r).1).1,(aY 0 (r.sub.getD r.ix.toNat []) q (aY 0 (r.sub.getD r.ix.toNat []) m r).1).2.1,true)
    else({ (aY 0 (r.sub.getD r.ix.toNat []) q (aY 0 (r.sub.getD r.ix.toNat []) m r).1).1 with ix:=r.ix+1 },(aY 0 (r.sub.getD r.ix.toNat []) q (aY 0 (r.sub.getD r.ix.toNat []) m r).1).2.1,false):=fun q=>by
    unfold act;rw[k5,k3,k7,if_neg c1,if_pos c2]
   generalize aY 0 (r.sub.getD r.ix.toNat []) m r=x at *;have Jk:=F.no;cases hx:x.2.2 with
   | true =>
     simp only[adf,if_false,if_true];exact⟨fun _=>(by first|rfl|trivial),fun h=>(by cases h),fun h=>(by cases h)⟩
   | false =>
     simp only[acY,if_false,if_true];refine⟨fun h=>(by cases h),fun _ h=>?_,fun _ h=>?_⟩;rcases Jk hx with ⟨h1,h2⟩|⟨h1,h2,h3⟩;rw[if_pos h2];simp;omega;rw[hcc];rcases Jk hx with ⟨h1,h2⟩|⟨h1,h2,h3⟩;omega;rw[if_neg (show ¬r.aq<=(x.1.af.length:Int) by omega)]
 by_cases c3:r.ph=2
 . have e:∀ q,act r q=if(bP r.co.toNat (2*r.g).toNat 0 r q).2.2=false then((bP r.co.toNat (2*r.g).toNat 0 r q).1,(bP r.co.toNat (2*r.g).toNat 0 r q).2.1,true)
    else({ (bP r.co.toNat (2*r.g).toNat 0 r q).1 with ph:=1,co:=r.co+1,ix:=0 },(bP r.co.toNat (2*r.g).toNat 0 r q).2.1,false):=fun q=>by unfold act;rw[if_neg c1,if_neg c2,if_pos c3]
   have hco:=G.Fm c3;have F:=p7 (a:=r.co.toNat) (2*r.g).toNat 0 m G.bw (by omega) (by omega) hl hl2;have A:=DU (a:=r.co.toNat) n (2*r.g).toNat 0 m G.bw (by omega) (by omega) hl hl2 (fun i hi=>by omega);rw[e m,e (m+n),A];obtain⟨k1,k2,k3,k4,k5,k6,k7,_⟩:=F.ay;simp only at k1 k2 k3 k4 k5 k6 k7
   have hcc:∀ q,act (bP r.co.toNat (2*r.g).toNat 0 r m).1 q=if(bP r.co.toNat (2*r.g).toNat 0 (bP r.co.toNat (2*r.g).toNat 0 r m).1 q).2.2=false then((bP r.co.toNat (2*r.g).toNat 0 (bP r.co.toNat (2*r.g).toNat 0 r m).1 q).1,(bP r.co.toNat (2*r.g).toNat 0 (bP r.co.toNat (2*r.g).toNat 0 r m).1 q).2.1,true)
    else({ (bP r.co.toNat (2*r.g).toNat 0 (bP r.co.toNat (2*r.g).toNat 0 r m).1 q).1 with ph:=1,co:=r.co+1,ix:=0 },(bP r.co.toNat (2*r.g).toNat 0 (bP r.co.toNat (2*r.g).toNat 0 r m).1 q).2.1,false):=fun q=>by
    unfold act;rw[k5,k3,k7,if_neg c1,if_neg c2,if_pos c3,k6,k1]
   generalize bP r.co.toNat (2*r.g).toNat 0 r m=x at *;have Jk:=F.no;cases hx:x.2.2 with
   | true =>
     simp only[adf,if_false,if_true];exact⟨fun _=>(by first|rfl|trivial),fun h=>(by cases h),fun h=>(by cases h)⟩
   | false =>
     simp only[acY,if_false,if_true];refine⟨fun h=>(by cases h),fun _ h=>?_,fun _ h=>?_⟩;rcases Jk hx with ⟨h1,h2⟩|⟨h1,h2,h3⟩;rw[if_pos h2];simp;omega;rw[hcc];rcases Jk hx with ⟨h1,h2⟩|⟨h1,h2,h3⟩;omega;rw[if_neg (show ¬r.aq<=(x.1.af.length:Int) by omega)]
 by_cases c4:r.co=r.af.length;have e:∀ q,act r q=({ r with ph:=3,co:=0,ix:=0,aA:=1 },q,true):=fun q=>by unfold act;rw[if_neg c1,if_neg c2,if_neg c3,if_pos c4]
 rw[e,e];exact⟨fun h=>(by cases h),fun _ _=>rfl,fun _ h=>by simp at h⟩;by_cases c5:¬(r.ah.getD r.co.toNat 0=r.co);have e:∀ q,act r q=({ r with ph:=1,co:=r.co+1,ix:=0 },q,false):=fun q=>by unfold act;rw[if_neg c1,if_neg c2,if_neg c3,if_neg c4,if_pos c5]
 rw[e,e];exact⟨fun _=>rfl,fun h=>(by cases h),fun h=>(by cases h)⟩;by_cases c6:(r.ax.length:Int)<=r.ix;have e:∀ q,act r q=({ r with ph:=2,co:=r.co,ix:=0 },q,false):=fun q=>by unfold act;rw[if_neg c1,if_neg c2,if_neg c3,if_neg c4,if_neg c5,if_pos c6]
 rw[e,e];exact⟨fun _=>rfl,fun h=>(by cases h),fun h=>(by cases h)⟩
 have e:∀ q,act r q=if(aY r.co.toNat (r.ax.getD r.ix.toNat []) q r).2.2=false then((aY r.co.toNat (r.ax.getD r.ix.toNat []) q r).1,(aY r.co.toNat (r.ax.getD r.ix.toNat []) q r).2.1,true)
  else({ (aY r.co.toNat (r.ax.getD r.ix.toNat []) q r).1 with ix:=r.ix+1 },(aY r.co.toNat (r.ax.getD r.ix.toNat []) q r).2.1,false):=fun q=>by unfold act;rw[if_neg c1,if_neg c2,if_neg c3,if_neg c4,if_neg c5,if_neg c6]
 have hi:r.ix<r.ax.length:=by omega
 have hw:=G.ax _ (gJ hg.1 hi);have F:=kX (a:=r.co.toNat) (w:=r.ax.getD r.ix.toNat []) m G.bw hw (by omega) hl hl2;have A:=DS (a:=r.co.toNat) (w:=r.ax.getD r.ix.toNat []) n m G.bw hw (by omega) hl hl2;have B:=MB (a:=r.co.toNat) (w:=r.ax.getD r.ix.toNat []) m G.bw hw (by omega) hl hl2;rw[e m,e (m+n),A];obtain⟨k1,k2,k3,k4,k5,k6,k7,_⟩:=F.ay;simp only at k1 k2 k3 k4 k5 k6 k7;have f3:=F.grown
 have hcc:(aY r.co.toNat (r.ax.getD r.ix.toNat []) m r).2.2=false->∀ q,act (aY r.co.toNat (r.ax.getD r.ix.toNat []) m r).1 q=if(aY r.co.toNat (r.ax.getD r.ix.toNat []) q (aY r.co.toNat (r.ax.getD r.ix.toNat []) m r).1).2.2=false then((aY r.co.toNat (r.ax.getD r.ix.toNat []) q (aY r.co.toNat (r.ax.getD r.ix.toNat []) m r).1).1,(aY r.co.toNat (r.ax.getD r.ix.toNat []) q (aY r.co.toNat (r.ax.getD r.ix.toNat []) m r).1).2.1,true)
  else({ (aY r.co.toNat (r.ax.getD r.ix.toNat []) q (aY r.co.toNat (r.ax.getD r.ix.toNat []) m r).1).1 with ix:=r.ix+1 },(aY r.co.toNat (r.ax.getD r.ix.toNat []) q (aY r.co.toNat (r.ax.getD r.ix.toNat []) m r).1).2.1,false):=fun hx q=>by
  have b:=B hx r.co.toNat (by omega);unfold act;rw[k5,k3,k7,if_neg c1,if_neg c2,if_neg c3,k6,if_neg (show ¬r.co=((aY r.co.toNat (r.ax.getD r.ix.toNat []) m r).1.af.length:Int) by omega),b,if_neg c5,k2,if_neg c6]
 generalize aY r.co.toNat (r.ax.getD r.ix.toNat []) m r=x at *;have Jk:=F.no;cases hx:x.2.2 with
 | true =>
   simp only[adf,if_false,if_true];exact⟨fun _=>(by first|rfl|trivial),fun h=>(by cases h),fun h=>(by cases h)⟩
 | false =>
   simp only[acY,if_false,if_true];refine⟨fun h=>(by cases h),fun _ h=>?_,fun _ h=>?_⟩;rcases Jk hx with ⟨h1,h2⟩|⟨h1,h2,h3⟩;rw[if_pos h2];simp;omega;rw[hcc hx];rcases Jk hx with ⟨h1,h2⟩|⟨h1,h2,h3⟩;omega;rw[if_neg (show ¬r.aq<=(x.1.af.length:Int) by omega)]
theorem MC(n:Nat):∀(f m:Nat){r:Rn}{y},cX r->r.aA=0->fZ f r m=some y->
 (y.1.aA≠0->∃ f',fZ f' r (m+n)=some (y.1,y.2+n))/\(y.1.aA=0->∀ f2 z,fZ f2 y.1 n=some z->∃ f',fZ f' r (m+n)=some z)
 | 0,_,_,_,_,_,h=>by cases h
 | f + 1, m, r, y, G, hs, h => by
   obtain⟨a1,a2,a3⟩:=act_add G hs m n;have A:=qB G m;rw[fZ] at h;split at h;rename_i hx;cases h;refine⟨fun h=>⟨1,?_⟩,fun h f2 z hz=>?_⟩;rw[fZ,a2 hx h];rfl
   . cases f2 with
     | zero=>cases hz
     | succ f2 =>
       refine⟨f2+1,?_⟩;rw[fZ,a3 hx h];rw[fZ] at hz;exact hz
   rename_i hx;have hx:(act r m).2.2=false:=by simpa using hx
   obtain⟨g1,g2,g3⟩:=A.go hx;obtain⟨i1,i2⟩:=MC n f (act r m).2.1 g1 (g3.trans hs) h;have e:=a1 hx;refine⟨fun h=>?_,fun h f2 z hz=>?_⟩;obtain⟨f',h'⟩:=i1 h;refine⟨f'+1,?_⟩;rw[fZ,e];exact h';obtain⟨f',h'⟩:=i2 h f2 z hz;refine⟨f'+1,?_⟩;rw[fZ,e];exact h'
theorem Ql{r:Rn}(G:cX r)(hs:r.aA=0)(m n:Nat) :
 ((run r m).1.aA≠0->run r (m+n)=((run r m).1,(run r m).2+n))/\((run r m).1.aA=0->run r (m+n)=run (run r m).1 n):=by
 obtain⟨z,hz⟩:=jH (meas r+1) m G (by omega);have R:=GS _ G hz;rw[mQ G hz];obtain⟨i1,i2⟩:=MC n _ m G hs hz;refine⟨fun h=>?_,fun h=>?_⟩;obtain⟨f',h'⟩:=i1 h;exact mQ G h';have G':cX z.1:=by
  rcases R.stop with h1|h1|⟨_,_,h1⟩;omega;omega;exact h1
 obtain⟨z2,hz2⟩:=jH (meas z.1+1) n G' (by omega);obtain⟨f',h'⟩:=i2 h _ _ hz2;rw[mQ G h',mQ G' hz2]
end Go.br
namespace Go.Proofs.YtdpbidkgdnnamaaGreatDoor
open Go.aW Go.Words Go.br
set_option maxRecDepth 100000
def gAc:bW:=[(56,Te),(57,Tf),(40,Mj)]
theorem gAc_ok:bt Tryz.prog gAc:=ar aaK (ar aaO (ar Jh aG))
theorem act_sem(r:Rn)(N q:Nat)(G:cX r)(h:q<=N/\N<=1000000):bq Tryz.prog 25 4 [pR,Qh] (ku r N q) (bB (act r q).2.2) (ku (act r q).1 N (act r q).2.1):=by
 refine bR (aj:=[]) (cx:=[]) (fz:=[]) gAc_ok Tryz.func25 (by kernel_rfl) 4 (by kernel_rfl) 100 ?_;apply of_eq (q:=let q0:=IntKind.i64.wrap;let q4:=decide (r.ph=0)=true;let q5:=(br.act r q);let q6:=r.ah.length=r.ah.length/\((2:Int)*r.g).toNat=((2:Int)*r.g).toNat;let q7:=Ob.mk 30 [Fd.c (W.ptr 0 0)];let aX:=aE [vB false]=bB q5.snd.snd;let bL:=(r.af.length:Int)<=r.aq/\r.aq<=900000;let cM:=aE [vB true]=bB q5.snd.snd;let dr:=r.af.length=r.af.length;let dA:=(N:Int);let eD:=decide (r.ah.getD r.co.toNat (0:Int)=(r.co.toNat:Int));let q8:=(0:Int)<=dA-(q:Int)/\dA-(q:Int)<=dA/\dA<=1000000;let q9:=Ob.mk 3 [fI dA];let bH:=(dA-(q:Int));let q1:=(bP r.co.toNat ((2:Int)*r.g).toNat (0:Nat) r (dA-bH).toNat);let q2:=(aY r.co.toNat (r.ax.getD r.ix.toNat []) (dA-bH).toNat r);let q3:=(aY (0:Nat) (r.sub.getD r.ix.toNat []) (dA-bH).toNat r);let eO:=Ob.mk 22 [Fd.c (W.th ((2:Int)*q1.fst.g).toNat q1.fst.af)];(q4->q4)/\(q4->q4)/\(q4->q4)/\(q4->q4)/\(q4->q4)/\(q4->q4)/\(q4->q4)/\(q4->q4)/\(q4->q4)/\(q4->q4)/\((bif decide (r.ph=0) then decide ((r.sub.length:Int)<=r.ix) else false)=true->aX/\[Ob.mk 61 [fI r.g,fL r.ax,fL r.sub,fI r.aq,fI r.aH,fI r.aj,fI r.aA,fI (1),fI (0),fI (0),fS 4 0 r.af.length,fS 5 0 r.ah.length,fS 6 0 r.dn],q7,Ob.mk 3 [fI bH],q9,aQ r,aB r.ah,aB r.dl]=ku q5.fst N q5.snd.fst)/\((bif decide (r.ph=0) then decide ((r.sub.length:Int)<=r.ix) else false)=false->(q4->((0:Int)<=r.ix/\r.ix<(r.sub.length:Int))/\r.ix.toNat<r.sub.length/\(((dr/\q6)/\q8)/\(0:Int)<=0/\bF r/\Wd r.g (r.sub.getD r.ix.toNat [])/\(0:Nat)<r.af.length/\bL)/\((!q3.snd.snd)=true->cM/\[bV (q3.fst) (4:Nat) (5:Nat) (6:Nat),q7,Ob.mk 3 [fI (dA-(↑q3.snd.fst:Int))],q9,aQ (q3.fst),aB (q3.fst.ah),aB (q3.fst.dl)]=ku q5.fst N q5.snd.fst)/\((!q3.snd.snd)=false->aX/\[Ob.mk 61 [fI q3.fst.g,fL q3.fst.ax,fL q3.fst.sub,fI q3.fst.aq,fI q3.fst.aH,fI q3.fst.aj,fI q3.fst.aA,fI q3.fst.ph,fI q3.fst.co,fI (q0 (q3.fst.ix+1)),fS 4 0 q3.fst.af.length,fS 5 0 q3.fst.ah.length,fS 6 0 q3.fst.dn],q7,Ob.mk 3 [fI (dA-(↑q3.snd.fst:Int))],q9,aQ (q3.fst),aB (q3.fst.ah),aB (q3.fst.dl)]=ku q5.fst N q5.snd.fst))/\(decide (r.ph=0)=false->(decide (r.ph=2)=true->(((dr/\q6)/\q8)/\(0:Int)<=r.co/\bF r/\r.co.toNat<r.af.length/\bL)/\((!q1.snd.snd)=true->cM/\[Ob.mk 61 [fI q1.fst.g,fL q1.fst.ax,fL q1.fst.sub,fI q1.fst.aq,fI q1.fst.aH,fI q1.fst.aj,fI q1.fst.aA,fI q1.fst.ph,fI q1.fst.co,fI q1.fst.ix,fS 4 0 q1.fst.af.length,fS 5 0 q1.fst.ah.length,fS 6 0 q1.fst.dn],q7,Ob.mk 3 [fI (dA-(↑q1.snd.fst:Int))],q9,eO,aB (q1.fst.ah),aB (q1.fst.dl)]=ku q5.fst N q5.snd.fst)/\((!q1.snd.snd)=false->aX/\[Ob.mk 61 [fI q1.fst.g,fL q1.fst.ax,fL q1.fst.sub,fI q1.fst.aq,fI q1.fst.aH,fI q1.fst.aj,fI q1.fst.aA,fI (1),fI (q0 (q1.fst.co+1)),fI (0),fS 4 0 q1.fst.af.length,fS 5 0 q1.fst.ah.length,fS 6 0 q1.fst.dn],q7,Ob.mk 3 [fI (dA-(↑q1.snd.fst:Int))],q9,eO,aB (q1.fst.ah),aB (q1.fst.dl)]=ku q5.fst N q5.snd.fst))/\(decide (r.ph=2)=false->(decide (r.co=(r.af.length:Int))=true->cM/\[Ob.mk 61 [fI r.g,fL r.ax,fL r.sub,fI r.aq,fI r.aH,fI r.aj,fI (1),fI (3),fI (0),fI (0),fS 4 0 r.af.length,fS 5 0 r.ah.length,fS 6 0 r.dn],q7,Ob.mk 3 [fI bH],q9,aQ r,aB r.ah,aB r.dl]=ku q5.fst N q5.snd.fst)/\(decide (r.co=(r.af.length:Int))=false->((dr/\q6)/\(0:Int)<=r.co/\r.co.toNat<r.ah.length)/\((!eD)=true->aX/\[Ob.mk 61 [fI r.g,fL r.ax,fL r.sub,fI r.aq,fI r.aH,fI r.aj,fI r.aA,fI (1),fI (q0 (r.co+1)),fI (0),fS 4 0 r.af.length,fS 5 0 r.ah.length,fS 6 0 r.dn],q7,Ob.mk 3 [fI bH],q9,aQ r,aB r.ah,aB r.dl]=ku q5.fst N q5.snd.fst)/\((!eD)=false->(decide ((r.ax.length:Int)<=r.ix)=true->aX/\[Ob.mk 61 [fI r.g,fL r.ax,fL r.sub,fI r.aq,fI r.aH,fI r.aj,fI r.aA,fI (2),fI r.co,fI (0),fS 4 0 r.af.length,fS 5 0 r.ah.length,fS 6 0 r.dn],q7,Ob.mk 3 [fI bH],q9,aQ r,aB r.ah,aB r.dl]=ku q5.fst N q5.snd.fst)/\(decide ((r.ax.length:Int)<=r.ix)=false->((0:Int)<=r.ix/\r.ix<(r.ax.length:Int))/\r.ix.toNat<r.ax.length/\(((dr/\q6)/\q8)/\(0:Int)<=r.co/\bF r/\Wd r.g (r.ax.getD r.ix.toNat [])/\r.co.toNat<r.af.length/\bL)/\((!q2.snd.snd)=true->cM/\[Ob.mk 61 [fI q2.fst.g,fL q2.fst.ax,fL q2.fst.sub,fI q2.fst.aq,fI q2.fst.aH,fI q2.fst.aj,fI q2.fst.aA,fI q2.fst.ph,fI q2.fst.co,fI q2.fst.ix,fS 4 0 q2.fst.af.length,fS 5 0 q2.fst.ah.length,fS 6 0 q2.fst.dn],q7,Ob.mk 3 [fI (dA-(↑q2.snd.fst:Int))],q9,aQ (q2.fst),aB (q2.fst.ah),aB (q2.fst.dl)]=ku q5.fst N q5.snd.fst)/\((!q2.snd.snd)=false->aX/\[Ob.mk 61 [fI q2.fst.g,fL q2.fst.ax,fL q2.fst.sub,fI q2.fst.aq,fI q2.fst.aH,fI q2.fst.aj,fI q2.fst.aA,fI q2.fst.ph,fI q2.fst.co,fI (q0 (q2.fst.ix+1)),fS 4 0 q2.fst.af.length,fS 5 0 q2.fst.ah.length,fS 6 0 q2.fst.dn],q7,Ob.mk 3 [fI (dA-(↑q2.snd.fst:Int))],q9,aQ (q2.fst),aB (q2.fst.ah),aB (q2.fst.dl)]=ku q5.fst N q5.snd.fst)))))))) (by kernel_rfl)
 try simp only[sL]
 have hg:=G.ix;have hc:=G.co;have hl:=G.aq;have hl2:=G.yO;have C3:=G.ph;have hn1:=G.n1;have hns:=G.ns;have vC:=G.nr;have hpl:r.ah.length=r.af.length:=G.bw.len;rw[show ((N:Int)-((N:Int)-(q:Int))).toNat=q by omega];have hq:0<=(N:Int)-q/\(N:Int)-q<=N/\(N:Int)<=1000000:=by omega
 rw[wrap64 (n:=r.co+1) (by omega) (by omega)];refine⟨fun h1=>?_,fun h1=>⟨fun h2=>?_,fun h2=>⟨fun h3=>?_,fun h3=>⟨fun h4=>?_,fun h4=>?_⟩⟩⟩⟩;rw[br.act,if_pos h1];exact⟨rfl,rfl⟩;have hi:r.ix<r.sub.length:=h1 h2;have hw:=G.sub _ (gJ hg.1 hi);have F:=kX (a:=0) (w:=r.sub.getD r.ix.toNat []) q G.bw hw hn1 hl hl2;obtain⟨_,_,_,_,_,_,k7,_⟩:=F.ay;simp only at k7;refine⟨by omega,by omega,⟨hq,G.bw,hw,hn1,hl,hl2⟩,fun h=>?_,fun h=>?_⟩;rw[br.act,if_neg (by omega),if_pos h2,if_pos h];exact⟨rfl,rfl⟩;rw[k7,wrap64 (n:=r.ix+1) (by omega) (by omega),br.act,if_neg (by omega),if_pos h2,if_neg (by rw[h];simp)];exact⟨rfl,rfl⟩;have hco:=G.Fm h3;have F:=p7 (a:=r.co.toNat) (2*r.g).toNat 0 q G.bw (by omega) (by omega) hl hl2;obtain⟨_,_,_,_,_,k6,_,_⟩:=F.ay;simp only at k6;refine⟨⟨hq,hc.1,G.bw,by omega,hl,hl2⟩,fun h=>?_,fun h=>?_⟩;rw[br.act,if_neg (by omega),if_neg h2,if_pos h3,if_pos h];exact⟨rfl,rfl⟩;rw[k6,wrap64 (n:=r.co+1) (by omega) (by omega),br.act,if_neg (by omega),if_neg h2,if_pos h3,if_neg (by rw[h];simp)];exact⟨rfl,rfl⟩;rw[br.act,if_neg (by omega),if_neg h2,if_neg h3,if_pos h4];exact⟨rfl,rfl⟩;have hp1:r.ph=1:=by omega
 have cK:r.co.toNat<r.af.length:=by omega
 refine⟨by omega,fun h5=>?_,fun h5=>⟨fun h6=>?_,fun h6=>?_⟩⟩;rw[br.act,if_neg (by omega),if_neg h2,if_neg h3,if_neg h4,if_pos (by omega)];exact⟨rfl,rfl⟩;rw[br.act,if_neg (by omega),if_neg h2,if_neg h3,if_neg h4,if_neg (by omega),if_pos h6];exact⟨rfl,rfl⟩;have hw:=G.ax _ (gJ hg.1 h6);have F:=kX (a:=r.co.toNat) (w:=r.ax.getD r.ix.toNat []) q G.bw hw cK hl hl2;obtain⟨_,_,_,_,_,_,k7,_⟩:=F.ay;simp only at k7;refine⟨by omega,by omega,⟨hq,hc.1,G.bw,hw,cK,hl,hl2⟩,fun h=>?_,fun h=>?_⟩;rw[br.act,if_neg (by omega),if_neg h2,if_neg h3,if_neg h4,if_neg (by omega),if_neg (by omega),if_pos h];exact⟨rfl,rfl⟩;rw[k7,wrap64 (n:=r.ix+1) (by omega) (by omega),br.act,if_neg (by omega),if_neg h2,if_neg h3,if_neg h4,if_neg (by omega),if_neg (by omega),if_neg (by rw[h];simp)];exact⟨rfl,rfl⟩
def aaQ:bQ:={ cI:=[true,true],ay:=some 4,f:=fun args au=>match args with
 | [.p (.c (.ptr 0 0)),.p (.c (.func f [(1,0),(2,0),(3,0)]))]=>bif acV f 24 then match W4 au with
   | some (c,r,N,q)=>some (.p (c/\cX r),bB (br.act r q).2.2,ku (br.act r q).1 N (br.act r q).2.1)
   | _=>none
   else none
 | _=>none }
theorem cAct_ok:aM Tryz.prog 25 aaQ:=by
 refine⟨by kernel_rfl,fun args au c r bg e hc=>?_⟩;simp only[aaQ] at e;split at e;rename_i f;obtain⟨hb,e1⟩:=aC.aK e;clear e;cases acP hb;split at e1;rename_i c1 r1 N q hr;cases e1;obtain⟨h1,h2⟩:=hc;obtain⟨rfl,g1,g2⟩:=Mz hr h1;exact act_sem r1 N q h2 ⟨g1,g2⟩;cases e1;cases e
theorem W6(r:Rn):bq Tryz.prog 23 1 [pR] (obs r) (bB (decide (0<r.af.length))) (obs r):=by
 refine bR (aj:=[]) (cx:=[]) (fz:=[]) aG Tryz.func23 (by kernel_rfl) 1 (by kernel_rfl) 100 ?_;apply of_eq (q:=let q1:=true=true;(q1->q1)/\(q1->q1)/\(q1->q1)/\(q1->q1)/\(q1->q1)/\(q1->q1)/\aE [vB (bif true then decide ((0:Int)<(r.af.length:Int)) else false)]=bB (decide ((0:Nat)<r.af.length))/\[bV r (1:Nat) (2:Nat) (3:Nat),aQ r,aB r.ah,aB r.dl]=obs r) (by kernel_rfl)
 try simp only[sL]
 rw[Bool.true_and];simp only[aE,Int.natCast_pos]
def Fo:bQ:=vA fun r=>(True,bB (decide (0<r.af.length)),r)
theorem AQ:aM Tryz.prog 23 Fo:=rF (by kernel_rfl) fun r _=>W6 r
def gVa:bW:=[(25,aaQ),(23,Fo)]
theorem Fp:bt Tryz.prog gVa:=ar cAct_ok (ar AQ aG)
def sStp:bJ:=bG Tryz.prog gVa Tryz.f10 1 [([0,0,1,1,1,1],[2,6,7])] [] []
theorem MD(N:Nat)(hN:N<=1000000)(y:Rn×Nat):∀(f:Nat)(r:Rn)(q:Nat),cX r->q<=N->fZ f r q=some y->
 av sStp (aD (.aL [.c (.int .i64 ((N:Int)-y.2)),.c (.int .i64 0)]) (obs y.1)) [0,0,1,1,1,1] (fr [(2,.p (.c (.ptr 1 0))),(6,.p (.c (.ptr 2 0))),(7,Qh)]) (.ofList (ku r N q))
 | f,r,q,G,hq,hf=>by
   refine aN Fp (by kernel_rfl) 100 ?_;apply of_eq (q:=let q2:=(N:Int);let q1:=(br.act r (q2-(q2-(q:Int))).toNat);(((r.af.length=r.af.length/\r.ah.length=r.ah.length/\((2:Int)*r.g).toNat=((2:Int)*r.g).toNat)/\(0:Int)<=q2-(q:Int)/\q2-(q:Int)<=q2/\q2<=1000000)/\cX r)/\((!q1.snd.snd)=true->av sStp (aD (A.aL [vI (q2-(y.snd:Int)),vI (0)]) (obs y.fst)) [0,0,1,1,1,1] (fr [(2,aR 1 0),(6,aR 2 0),(7,aP (W.func 24 [(1,(0:Nat)),(2,(0:Nat)),(3,(0:Nat))]))]) (ak.ofList [bV (q1.fst) 4 5 6,Ob.mk 30 [Fd.c (W.ptr 0 0)],Ob.mk 3 [fI (q2-(↑q1.snd.fst:Int))],Ob.mk 3 [fI q2],aQ (q1.fst),aB (q1.fst.ah),aB (q1.fst.dl)]))/\((!q1.snd.snd)=false->aE [vI (q2-(↑q1.snd.fst:Int)),vI (0)]=A.aL [vI (q2-(y.snd:Int)),vI (0)]/\[Ob.mk 61 [fI q1.fst.g,fL q1.fst.ax,fL q1.fst.sub,fI q1.fst.aq,fI q1.fst.aH,fI q1.fst.aj,fI q1.fst.aA,fI q1.fst.ph,fI q1.fst.co,fI q1.fst.ix,fS 1 0 q1.fst.af.length,fS 2 0 q1.fst.ah.length,fS 3 0 q1.fst.dn],aQ (q1.fst),aB (q1.fst.ah),aB (q1.fst.dl)]=obs y.fst)) (by kernel_rfl)
   try simp only[sL]
   have A:=qB G q;have al:=A.len;have ag:=A.grown;rw[show ((N:Int)-((N:Int)-(q:Int))).toNat=q by omega];refine⟨⟨⟨by omega,by omega,by omega⟩,G⟩,fun h=>?_,fun h=>?_⟩
   . obtain⟨g1,_,_⟩:=A.go h;cases f with
     | zero=>cases hf
     | succ f =>
       rw[fZ,if_neg (by rw[h];simp)] at hf;exact MD N hN y f (br.act r q).1 (br.act r q).2.1 g1 (by omega) hf
   cases f with
   | zero=>cases hf
   | succ f =>
     rw[fZ,if_pos h] at hf;cases hf;exact⟨rfl,rfl⟩
def di(r:Rn)(n:Int):Rn×Int×Int:=if n<1 then(r,0,2) else if ¬r.aA=0 then(r,0,13) else((br.run r n.toNat).1,n-(br.run r n.toNat).2,0)
theorem aaR(r:Rn)(n:Int)(h:0<r.af.length/\n<=1000000/\(1<=n->r.aA=0->cX r)):bq Tryz.prog 10 1 [pR,nI n] (obs r) (.aL [.c (.int .i64 (di r n).2.1),.c (.int .i64 (di r n).2.2)]) (obs (di r n).1):=by
 refine bR (aj:=[([0,0,1,1,1,1],[2,6,7])]) (cx:=[]) (fz:=[]) Fp Tryz.func10 (by kernel_rfl) 1 (by kernel_rfl) 100 ?_;apply of_eq (q:=let q2:=(di r n);let q1:=[bV r (1:Nat) (2:Nat) (3:Nat),aQ r,aB r.ah,aB r.dl]=obs q2.fst;((r.af.length=r.af.length/\r.ah.length=r.ah.length/\((2:Int)*r.g).toNat=((2:Int)*r.g).toNat)/\True)/\((!decide ((0:Nat)<r.af.length))=true->aE [vI (0),vI (1)]=A.aL [vI q2.snd.fst,vI q2.snd.snd]/\q1)/\((!decide ((0:Nat)<r.af.length))=false->(decide (n<1)=true->aE [vI (0),vI (2)]=A.aL [vI q2.snd.fst,vI q2.snd.snd]/\[bV r (1:Nat) (2:Nat) (3:Nat),aQ r,Ob.mk 3 [Fd.a 0 (D.int .i64) r.ah],aB r.dl]=obs q2.fst)/\(decide (n<1)=false->((!decide (r.aA=0))=true->aE [vI (0),vI (13)]=A.aL [vI q2.snd.fst,vI q2.snd.snd]/\q1)/\((!decide (r.aA=0))=false->av (bG Tryz.prog gVa Tryz.f10 (1:Nat) [([0,0,1,1,1,1],[2,6,7])] [] []) (aD (A.aL [vI q2.snd.fst,vI q2.snd.snd]) (obs q2.fst)) [0,0,1,1,1,1] (fr [(2,aR 1 0),(6,aR 2 0),(7,aP (W.func 24 [(1,(0:Nat)),(2,(0:Nat)),(3,(0:Nat))]))]) (ak.ofList [bV r 4 5 6,Ob.mk 30 [Fd.c (W.ptr 0 0)],Ob.mk 3 [fI (0)],Ob.mk 3 [fI n],aQ r,aB r.ah,aB r.dl]))))) (by kernel_rfl)
 try simp only[sL]
 obtain⟨h1,h2,h3⟩:=h;refine⟨fun g=>absurd h1 g,fun _=>⟨fun g=>?_,fun g=>⟨fun g2=>?_,fun g2=>?_⟩⟩⟩;rw[di,if_pos g];exact⟨rfl,rfl⟩;rw[di,if_neg (by omega),if_pos g2];exact⟨rfl,rfl⟩;have G:=h3 g g2;rw[di,if_neg (by omega),if_neg (by rw[g2];simp)];obtain⟨y,hy⟩:=jH (meas r+1) n.toNat G (by omega);rw[mQ G hy];have:=MD n.toNat (by omega) y (meas r+1) r n.toNat G (acS _) hy;simp only[ku,kK,Int.sub_self] at this;rw[<-gA (show 0<=n by omega)] at this;exact this
def Fq:bQ:={ cI:=[true,false],ay:=some 1,f:=fun args au=>match args with
 | [.p (.c (.ptr 0 0)),.p (.c (.int .i64 n))]=>match Fh au with
   | some (c,r)=>some (.p (c/\0<r.af.length/\n<=1000000/\(1<=n->r.aA=0->cX r)),.aL [.c (.int .i64 (di r n).2.1),.c (.int .i64 (di r n).2.2)],obs (di r n).1)
   | none=>none
 | _=>none }
theorem DV:aM Tryz.prog 10 Fq:=by
 refine⟨by kernel_rfl,fun args au c r bg e hc=>?_⟩;simp only[Fq] at e;split at e;rename_i n;split at e;rename_i c1 r1 hr;cases e;obtain⟨h1,h2⟩:=hc;rw[sC hr h1];exact aaR _ _ h2;cases e;cases e
theorem aaS(r:Rn):bq Tryz.prog 49 1 [pR] (obs r) (.aL [.c (.int .i64 r.af.length),.c (.int .i64 (if 0<r.af.length then r.aj else 0))]) (obs r):=by
 refine bR (aj:=[]) (cx:=[]) (fz:=[]) Fp Tryz.func49 (by kernel_rfl) 1 (by kernel_rfl) 100 ?_;apply of_eq (q:=let q1:=vI (if(0:Nat)<r.af.length then r.aj else(0:Int));((r.af.length=r.af.length/\r.ah.length=r.ah.length/\((2:Int)*r.g).toNat=((2:Int)*r.g).toNat)/\True)/\((!decide ((0:Nat)<r.af.length))=true->aE [vI (0),vI (0)]=A.aL [vI (r.af.length:Int),q1]/\[bV r (1:Nat) (2:Nat) (3:Nat),aQ r,aB r.ah,aB r.dl]=obs r)/\((!decide ((0:Nat)<r.af.length))=false->aE [vI (r.af.length:Int),vI r.aj]=A.aL [vI (r.af.length:Int),q1]/\[bV r (1:Nat) (2:Nat) (3:Nat),Ob.mk 22 [Fd.c (W.th ((2:Int)*r.g).toNat r.af)],aB r.ah,aB r.dl]=obs r)) (by kernel_rfl)
 try simp only[sL]
 refine⟨fun h=>?_,fun h=>?_⟩;rw[if_neg h,show r.af.length=0 by omega];rfl;rw[if_pos h];rfl
def cProg:bQ:=vA fun r=>(True,.aL [.c (.int .i64 r.af.length),.c (.int .i64 (if 0<r.af.length then r.aj else 0))],r)
theorem aaT:aM Tryz.prog 49 cProg:=rF (by kernel_rfl) fun r _=>aaS r
theorem aaU(r:Rn):bq Tryz.prog 9 1 [pR] (obs r) (nI (if 0<r.af.length then r.aA else 0)) (obs r):=by
 refine bR (aj:=[]) (cx:=[]) (fz:=[]) Fp Tryz.func9 (by kernel_rfl) 1 (by kernel_rfl) 100 ?_;apply of_eq (q:=let q1:=[bV r (1:Nat) (2:Nat) (3:Nat),aQ r,aB r.ah,aB r.dl]=obs r;((r.af.length=r.af.length/\r.ah.length=r.ah.length/\((2:Int)*r.g).toNat=((2:Int)*r.g).toNat)/\True)/\((!decide ((0:Nat)<r.af.length))=true->aE [vI (0)]=nI (if(0:Nat)<r.af.length then r.aA else(0:Int))/\q1)/\((!decide ((0:Nat)<r.af.length))=false->aE [vI r.aA]=nI (if(0:Nat)<r.af.length then r.aA else(0:Int))/\q1)) (by kernel_rfl)
 try simp only[sL]
 refine⟨fun h=>?_,fun h=>?_⟩;rw[if_neg h];rfl;rw[if_pos h];rfl
def Kn:bQ:=vA fun r=>(True,nI (if 0<r.af.length then r.aA else 0),r)
theorem DW:aM Tryz.prog 9 Kn:=rF (by kernel_rfl) fun r _=>aaU r
abbrev fnG:A:=.p (.c (.func 53 [(0,0)]))
theorem W7(x g:Int)(r:List (List Int)):bA Tryz.prog 53 [nI x,.p (.c (.ptr 0 0))] [fM g r] (bB (d9 g x)) [fM g r]:=by
 refine bU (aj:=[]) aG Tryz.func53 (by kernel_rfl) (ay:=1) rfl (by kernel_rfl) 100 ?_;apply of_eq (q:=let q1:=(bif decide (x=0) then true else decide (x<IntKind.i64.wrap ((0:Int)-g)))=false;let q2:=decide (x=0)=false;(q2->q2)/\(q2->q2)/\(q2->q2)/\(q2->q2)/\(q2->q2)/\(q1->q1)/\(q1->q1)/\(q1->q1)/\(q1->q1)/\aE [vB (bif bif decide (x=0) then true else decide (x<IntKind.i64.wrap ((0:Int)-g)) then true else decide (g<x))]=bB (d9 g x)/\[Ob.mk 26 [fI g,fL r]]=[fM g r]) (by kernel_rfl)
 try simp only[sL]
 rfl
def ME:bQ:={ cI:=[false,true],f:=fun args au=>match args,au with | [.p (.c (.int .i64 x)),.p (.c (.ptr 0 0))],[⟨t,[.c (.int .i64 g),.c (.rd (.sl (.int .i64)) r)]⟩]=>(bif acV t 26 then some (.t,bB (d9 g x),[fM g r]) else none)|_,_=>none }
theorem W8:aM Tryz.prog 53 ME:=by
 refine⟨by kernel_rfl,fun args au c r bg e hc=>?_⟩;simp only[ME] at e;split at e;rename_i x t g r;obtain⟨ht,e⟩:=aC.aK e;have ht:=acP ht;subst ht;cases e;exact W7 x g r;cases e
def aaV:bW:=[(53,ME)]
theorem Qm:bt Tryz.prog aaV:=ar W8 aG
def sIxG:bJ:=eJ Tryz.prog aaV Tryz.f81 1 [([0,1,0,1],[0,1,7,8])]
theorem MF(w:List Int)(g:Int)(r:List (List Int))(hl:w.length<=1000000):∀(k i:Nat),k=w.length-i->i<=w.length->
 av sIxG (aD (nI (nD g (w.drop i) i)) [fM g r]) [0,1,0,1] (fr [(0,bI w),(1,fnG),(7,nI w.length),(8,nI i)]) (.ofList [fM g r])
 | k,i,hk,hi=>by
   refine aN Qm (by kernel_rfl) 100 ?_;apply of_eq (q:=(decide ((i:Int)<(w.length:Int))=true->((0:Int)<=(i:Int)/\(i:Int)<(w.length:Int))/\i<w.length/\(d9 g (w.getD i (0:Int))=true->aE [vI (i:Int)]=nI (nD g (ac0 i w) i)/\[Ob.mk 26 [fI g,fL r]]=[fM g r])/\(d9 g (w.getD i (0:Int))=false->av sIxG (aD (nI (nD g (ac0 i w) i)) [fM g r]) [0,1,0,1] (fr [(0,bI w),(1,aP (W.func 53 [(0,(0:Nat))])),(7,nI (w.length:Int)),(8,nI (IntKind.i64.wrap ((i:Int)+1)))]) (ak.ofList [Ob.mk 26 [fI g,fL r]])))/\(decide ((i:Int)<(w.length:Int))=false->aE [vI (-1)]=nI (nD g (ac0 i w) i)/\[Ob.mk 26 [fI g,fL r]]=[fM g r])) (by kernel_rfl)
   try simp only[sL]
   rw[wrap64 (n:=(i:Int)+1) (by omega) (by omega)];refine⟨fun h=>⟨by omega,by omega,fun g=>?_,fun g=>?_⟩,fun h=>?_⟩;rw[jM (by omega),nD,if_pos g];rfl
   . rw[jM (by omega),nD,g,if_neg (by simp)];cases k with
     | zero=>omega
     | succ k=>exact MF w _ r hl k (i+1) (by omega) (by omega)
   rw[List.drop_eq_nil_of_le (by omega)];rfl
theorem ix_semG(w:List Int)(g:Int)(r:List (List Int))(hl:w.length<=1000000):bA Tryz.prog 81 [bI w,fnG] [fM g r] (nI (nD g w 0)) [fM g r]:=by
 refine bU (aj:=[([0,1,0,1],[0,1,7,8])]) Qm Tryz.func81 (by kernel_rfl) (ay:=1) rfl (by kernel_rfl) 100 ?_;apply of_eq (q:=av (eJ Tryz.prog aaV Tryz.f81 (1:Nat) [([0,1,0,1],[0,1,7,8])]) (aD (nI (nD g w (0:Nat))) [fM g r]) [0,1,0,1] (fr [(0,bI w),(1,aP (W.func 53 [(0,(0:Nat))])),(7,nI (w.length:Int)),(8,nI (0))]) (ak.ofList [Ob.mk 26 [fI g,fL r]])) (by kernel_rfl)
 try simp only[sL,Int.reduceEq,Int.reduceNe,Nat.reduceAdd]
 exact MF w g r hl w.length 0 (by omega) (by omega)
def aaW:bQ:={ cI:=[false,true],f:=fun args au=>match args,au with | [x,.p (.c (.func f [(0,0)]))],[⟨t,[.c (.int .i64 g),.c (.rd (.sl (.int .i64)) r)]⟩]=>(bif acV f 53&&acV t 26 then(match gq dI x with|some w=>some (.p (ac7 (α:=Int) w<=1000000),nI (nD g w 0),[fM g r])|none=>none) else none)|_,_=>none }
theorem cIx_okG:aM Tryz.prog 81 aaW:=by
 refine⟨by kernel_rfl,fun args au c r bg e hc=>?_⟩;simp only[aaW] at e;split at e;rename_i x f t g r;obtain⟨ht,e⟩:=aC.aK e;simp only[ac4] at ht;have h1:=acP ht.1;have h2:=acP ht.2;subst h1 h2;split at e;rename_i w hw;cases e;exact(ix_semG w g r hc).args fun η Z vs h=>by
  cases vs with
  | nil=>exact h.elim
  | cons v vs=>exact⟨cF hw h.1,h.2⟩
 cases e;cases e
def gCo2G:bW:=[(81,aaW)]
theorem aaX:bt Tryz.prog gCo2G:=ar cIx_okG aG
theorem co_semG(w:List Int)(g:Int)(r:List (List Int))(hl:w.length<=1000000):bA Tryz.prog 52 [bI w,fnG] [fM g r] (bB (w.any (d9 g))) [fM g r]:=by
 refine bU (aj:=[]) aaX Tryz.func52 (by kernel_rfl) (ay:=1) rfl (by kernel_rfl) 100 ?_;apply of_eq (q:=w.length<=1000000/\aE [vB (decide ((0:Int)<=nD g w (0:Nat)))]=bB (w.any (d9 g))/\[Ob.mk 26 [fI g,fL r]]=[fM g r]) (by kernel_rfl)
 try simp only[sL]
 refine⟨hl,?_⟩;rw[GK];rfl
def aaY:bQ:={ cI:=[false,true],f:=fun args au=>match args,au with | [x,.p (.c (.func f [(0,0)]))],[⟨t,[.c (.int .i64 g),.c (.rd (.sl (.int .i64)) r)]⟩]=>(bif acV f 53&&acV t 26 then(match gq dI x with|some w=>some (.p (ac7 (α:=Int) w<=1000000),bB (List.any w (d9 g)),[fM g r])|none=>none) else none)|_,_=>none }
theorem cCo_okG:aM Tryz.prog 52 aaY:=by
 refine⟨by kernel_rfl,fun args au c r bg e hc=>?_⟩;simp only[aaY] at e;split at e;rename_i x f t g r;obtain⟨ht,e⟩:=aC.aK e;simp only[ac4] at ht;have h1:=acP ht.1;have h2:=acP ht.2;subst h1 h2;split at e;rename_i w hw;cases e;exact(co_semG w g r hc).args fun η Z vs h=>by
  cases vs with
  | nil=>exact h.elim
  | cons v vs=>exact⟨cF hw h.1,h.2⟩
 cases e;cases e
abbrev obL1(l:List (List Int)):Ob:=⟨51,[.a 1 (.sl (.int .i64)) l]⟩
def gOw:bW:=[(54,WG)]
theorem W9:bt Tryz.prog gOw:=ar WH aG
def sOw:bJ:=bG Tryz.prog gOw Tryz.f21 0 [([0,1,0,1,1],[3,9,10,11])] [] [some dL]
theorem MG(r:List (List Int))(hr:Sh r)(hl:r.length<=1000000):∀(n i:Nat)(l:List (List Int)),n=r.length-i->i<=r.length->l.length=r.length->l.take i=r.take i->
 av sOw (aD (bK r) []) [0,1,0,1,1] (fr [(3,fK 0 r.length),(9,bK r),(10,nI r.length),(11,nI i)]) (.ofList [obL1 l])
 | n,i,l,hn,hi,h1,h2=>by
   refine aN W9 (by kernel_rfl) 100 ?_;apply of_eq (q:=(decide ((i:Int)<(r.length:Int))=true->((0:Int)<=(i:Int)/\(i:Int)<(r.length:Int))/\i<r.length/\(r.getD i []).length<=1000000/\((0:Int)<=(i:Int)/\(i:Int)<(r.length:Int))/\(0:Nat)+i<l.length/\av sOw (aD (bK r) []) [0,1,0,1,1] (fr [(3,aS 0 0 r.length),(9,bK r),(10,nI (r.length:Int)),(11,nI (IntKind.i64.wrap ((i:Int)+1)))]) (ak.ofList [Ob.mk 51 [Fd.a 1 (D.int .i64).sl (l.set ((0:Nat)+i) (r.getD i []))]]))/\(decide ((i:Int)<(r.length:Int))=false->(0:Nat)+r.length<=l.length/\aE [V.c (wL (acW r.length (ac0 (0:Nat) l)))]=bK r/\([]:List Ob)=[])) (by kernel_rfl)
   try simp only[sL]
   rw[wrap64 (n:=(i:Int)+1) (by omega) (by omega)];refine⟨fun h=>⟨by omega,by omega,hr.get i,by omega,by omega,?_⟩,fun h=>⟨by omega,?_⟩⟩
   . cases n with
     | zero=>omega
     | succ n =>
       refine MG r hr hl n (i+1) _ (by omega) (by omega) (by rw[acU];exact h1) ?_;rw[yI (by omega:i<r.length),yI (by rw[acU];omega),List.take_set_of_le (acS _),h2,yM,if_pos ⟨rfl,by omega⟩]
   have:i=r.length:=by omega
   subst this;rw[h2,List.take_length];rfl
theorem own_sem(r:List (List Int))(hr:Sh r)(hl:r.length<=1000000):bA Tryz.prog 21 [bK r] [] (bK r) []:=by
 refine dJ (aj:=[([0,1,0,1,1],[3,9,10,11])]) (cx:=[]) (fz:=[some dL]) W9 Tryz.func21 (by kernel_rfl) (ay:=0) rfl (by kernel_rfl) 100 ?_;apply of_eq (q:=((0:Int)<=(r.length:Int)/\(r.length:Int)<=(r.length:Int)/\(↑(24:Nat):Int)*(r.length:Int)<=140737488355328)/\av (bG Tryz.prog gOw Tryz.f21 (0:Nat) [([0,1,0,1,1],[3,9,10,11])] [] [some dL]) (aD (bK r) []) [0,1,0,1,1] (fr [(3,aS 0 0 r.length),(9,bK r),(10,nI (r.length:Int)),(11,nI (0))]) (ak.ofList [Ob.mk 51 [Fd.a 1 (D.int .i64).sl (acR r.length ([]:List Int))]])) (by kernel_rfl)
 try simp only[sL]
 refine⟨by omega,?_⟩;exact MG r hr hl r.length 0 _ (by omega) (by omega) (by simp) (by simp)
def cOwnL:bQ:=kI dL fun r=>(.p (Sh r/\ac7 (α:=List Int) r<=1000000),bK r,[])
theorem aaZ:aM Tryz.prog 21 cOwnL:=gE (by kernel_rfl) fun r h=>own_sem r h.1 h.2
def Xa:bW:=[(52,aaY),(42,LM)]
theorem Fs:bt Tryz.prog Xa:=ar cCo_okG (ar IX aG)
abbrev xB:List (List Nat×List Nat):=[([0,1,0,1,1,1],[1,2,3,9,20,21,22])]
def sGv:bJ:=bG Tryz.prog Xa Tryz.f20 0 xB [] []
theorem Qn(g aq:Int)(r sub:List (List Int))(hl:1<=aq/\aq<=20000)(hs:sub.length<=100/\sub.flatten.length<=4000)(hb:∀ w∈sub,w.any (d9 g)=false):∀(n i:Nat),n=sub.length-i->i<=sub.length->
 av sGv (aD (nI 0) []) [0,1,0,1,1,1] (fr [(1,bK sub),(2,nI aq),(3,.p (.c (.ptr 0 0))),(9,nI (sub.take i).flatten.length),(20,bK sub),(21,nI sub.length),(22,nI i)]) (.ofList [fM g r])
 | n,i,hn,hi=>by
   refine aN Fs (by kernel_rfl) 100 ?_;apply of_eq (q:=let q1:=decide ((4000:Int)<(↑(acW i sub).flatten.length:Int));let q5:=(sub.length:Int);let q2:=decide ((100:Int)<q5);let q3:=(bif bif q2 then true else q1 then true else decide (aq<1))=false;let q4:=(bif q2 then true else q1)=false;(decide ((i:Int)<q5)=true->((0:Int)<=(i:Int)/\(i:Int)<q5)/\i<sub.length/\(sub.getD i []).length<=1000000/\((sub.getD i []).any (d9 g)=true->aE [vI (2)]=nI (0:Int)/\([]:List Ob)=[])/\((sub.getD i []).any (d9 g)=false->av sGv (aD (nI (0:Int)) []) [0,1,0,1,1,1] (fr [(1,bK sub),(2,nI aq),(3,aR 0 0),(9,nI (IntKind.i64.wrap ((↑(acW i sub).flatten.length:Int)+(↑(sub.getD i []).length:Int)))),(20,bK sub),(21,nI q5),(22,nI (IntKind.i64.wrap ((i:Int)+1)))]) (ak.ofList [Ob.mk 26 [fI g,fL r]])))/\(decide ((i:Int)<q5)=false->(q2=false->q2=false)/\(q2=false->q2=false)/\(q4->q4)/\(q4->q4)/\(q3->q3)/\(q3->q3)/\((bif bif bif q2 then true else q1 then true else decide (aq<1) then true else decide ((20000:Int)<aq))=true->aE [vI (2)]=nI (0:Int)/\([]:List Ob)=[])/\((bif bif bif q2 then true else q1 then true else decide (aq<1) then true else decide ((20000:Int)<aq))=false->aE [vI (0)]=nI (0:Int)/\([]:List Ob)=[]))) (by kernel_rfl)
   try simp only[sL]
   have hle:=pV sub (i+1);have hle0:=pV sub i;rw[wrap64 (n:=(i:Int)+1) (by omega) (by omega)];refine⟨fun h=>?_,fun h=>⟨fun h1=>by omega,fun h1=>rfl⟩⟩;have gI:i<sub.length:=by omega
   have e:=sy gI;rw[e,acT] at hle;rw[wrap64 (n:=((sub.take i).flatten.length:Int)+(sub.getD i []).length) (by omega) (by omega)];have hbi:=hb _ (eI gI);refine⟨by omega,gI,by omega,fun h1=>(by rw[hbi] at h1;cases h1),fun _=>?_⟩;cases n with
   | zero=>omega
   | succ n =>
     have:=Qn g aq r sub hl hs hb n (i+1) (by omega) (by omega);rw[e,acT,Int.natCast_add] at this;exact this
theorem Jl(g aq:Int)(r sub:List (List Int))(hr:Sh r)(hc:(fC g r).1=0)(hl:1<=aq/\aq<=20000)(hs:sub.length<=100/\sub.flatten.length<=4000)(hb:∀ w∈sub,w.any (d9 g)=false):bA Tryz.prog 20 [pU g r,bK sub,nI aq] [] (nI 0) []:=by
 refine bU (aj:=xB) Fs Tryz.func20 (by kernel_rfl) (ay:=0) rfl (by kernel_rfl) 100 ?_;apply of_eq (q:=Sh r/\((!decide ((fC g r).fst=0))=true->aE [vI (fC g r).fst]=nI (0:Int)/\([]:List Ob)=[])/\((!decide ((fC g r).fst=0))=false->av (eJ Tryz.prog Xa Tryz.f20 (0:Nat) xB) (aD (nI (0:Int)) []) [0,1,0,1,1,1] (fr [(1,bK sub),(2,nI aq),(3,aR 0 0),(9,nI (0)),(20,bK sub),(21,nI (sub.length:Int)),(22,nI (0))]) (ak.ofList [Ob.mk 26 [fI g,fL r]]))) (by kernel_rfl)
 try simp only[sL]
 exact⟨hr,fun h=>absurd hc h,fun _=>Qn g aq r sub hl hs hb sub.length 0 (by omega) (by omega)⟩
structure Begins(g aq:Int)(r sub:List (List Int)):Prop where
 sh:Sh r
 fC:(fC g r).1=0
 aq:1<=aq/\aq<=20000
 subs:sub.length<=100/\sub.flatten.length<=4000
 bad:∀ w∈sub,w.any (d9 g)=false
def xC(f:Int->List (List Int)->List (List Int)->Int->Cd×A×List Ob):bQ:={ cI:=[],f:=fun args au=>match args,au with
 | [x,s,.p (.c (.int .i64 n))],[]=>(match Wl x,gq dL s with|some (g,r),some s=>some (f g r s n)|_,_=>none)
 | _,_=>none }
theorem vD{P:Program}{f:FuncId}{c:Int->List (List Int)->List (List Int)->Int->Cd×A×List Ob}(he:enters P f=true)(h:∀ g r s n,(c g r s n).1->bA P f [pU g r,bK s,nI n] [] (c g r s n).2.1 (c g r s n).2.2):aM P f (xC c):=by
 refine⟨he,fun args au cd r bg e hc=>?_⟩;simp only[xC] at e;split at e;rename_i x s n;split at e;rename_i g r' s' hx hs;have e:=Option.some.inj e;have:=h g r' s' n (by rw[e];exact hc);rw[e] at this;exact this.args fun η Z vs hv=>by
  match vs,hv with
  | [u,v,t],⟨a1,a2,a3,_⟩=>exact⟨GL hx a1,cF hs a2,a3,trivial⟩
 cases e;cases e
def MH:bQ:=xC fun g r s n=>(.p (Begins g n r s),nI 0,[])
theorem Jm:aM Tryz.prog 20 MH:=vD (by kernel_rfl) fun g r s n h=>Jl g n r s h.sh h.fC h.aq h.subs h.bad
def cT(g aq:Int)(ax sub:List (List Int)):Rn:={ g:=g,ax:=ax,sub:=sub,aq:=aq,aH:=1,aj:=1,aA:=0,ph:=0,co:=0,ix:=0,af:=[acR (2*g).toNat (-1)],ah:=[0],dl:=[],dn:=0 }
abbrev zeroO(g aq:Int)(ax sub:List (List Int)):Ob:=⟨61,[.c (.int .i64 g),.c (.rd (.sl (.int .i64)) ax),.c (.rd (.sl (.int .i64)) sub),.c (.int .i64 aq),.c (.int .i64 0),.c (.int .i64 0),.c (.int .i64 0),.c (.int .i64 0),.c (.int .i64 0),.c (.int .i64 0),.c .nil,.c .nil,.c .nil]⟩
abbrev qC(r:Rn):List Ob:=[⟨61,[.c (.int .i64 r.g),.c (.rd (.sl (.int .i64)) r.ax),.c (.rd (.sl (.int .i64)) r.sub),.c (.int .i64 r.aq),.c (.int .i64 r.aH),.c (.int .i64 r.aj),.c (.int .i64 r.aA),.c (.int .i64 r.ph),.c (.int .i64 r.co),.c (.int .i64 r.ix),.c (.sl 1 0 r.af.length 1),.c (.sl 2 0 r.ah.length 1),.c .nil]⟩,aQ r,aB r.ah]
theorem aa0(g aq:Int)(ax sub:List (List Int))(hg:1<=g/\g<=16):bq Tryz.prog 22 1 [pR] [zeroO g aq ax sub] (nI 0) (qC (cT g aq ax sub)):=by
 refine bR (aj:=[]) (cx:=[]) (fz:=[]) Fk Tryz.func22 (by kernel_rfl) 1 (by kernel_rfl) 100 ?_;apply of_eq (q:=let q0:=IntKind.i64.wrap;let q1:=(R1.pure (Cd.t.and Cd.t) (aP W.nil)).v=(R1.pure (Cd.t.and Cd.t) (aP W.nil)).v;let q2:=(q0 ((2:Int)*g));let q3:=(R1.pure (Cd.t.and Cd.t) (nI g));let q4:=(acW (1:Nat) (ac0 (0:Nat) [(-1:Int)]));(0:Nat)+1<=1/\((0:Int)<=q0 ((2:Int)*g)/\q0 ((2:Int)*g)<=100000/\(1:Nat)<=100000/\q2.toNat*1<=1000000)/\((pw q4 q2.toNat).length=q2.toNat*1/\(0:Nat)<q2.toNat*1/\(24:Nat)<=140737488355328)/\q1/\q1/\q1/\q1/\q3.v=q3.v/\q3.v=q3.v/\(0:Nat)+1<=1/\(1:Nat)*8<=140737488355328/\q1/\q1/\aE [vI (q0 ((↑(1:Nat):Int)-1))]=nI (0:Int)/\[Ob.mk 61 [fI g,fL ax,fL sub,fI aq,fI (max (0:Int) (q0 ((0:Int)+1))),fI (q0 ((0:Int)+1)),fI (0),fI (0),fI (0),fI (0),fS 1 0 1,fS 2 0 1,Fd.c W.nil],Ob.mk 22 [Fd.c (W.th (q2.toNat*1) [pw q4 q2.toNat])],aB (acW (1:Nat) (ac0 (0:Nat) [(0:Int)]))]=qC (cT g aq ax sub)) (by kernel_rfl)
 try simp only[sL]
 rw[wrap64 (n:=2*g) (by omega) (by omega),wrap64 (n:=0+1) (by omega) (by omega),wrap64 (n:=((1:Nat):Int)-1) (by omega) (by omega),AO];refine⟨⟨by omega,by omega,by omega,by omega⟩,⟨by rw[ac3],by omega,by omega⟩,by omega,rfl,rfl⟩
def Tg:bQ:={ cI:=[true],ay:=some 1,f:=fun args au=>match args,au with
 | [.p (.c (.ptr 0 0))],[⟨t,[.c (.int .i64 g),.c (.rd (.sl (.int .i64)) ax),.c (.rd (.sl (.int .i64)) sub),.c (.int .i64 aq),.c (.int .i64 0),.c (.int .i64 0),.c (.int .i64 0),.c (.int .i64 0),.c (.int .i64 0),.c (.int .i64 0),.c .nil,.c .nil,.c .nil]⟩] =>
   bif acV t 61 then some (.p (1<=g/\g<=16),nI 0,qC (cT g aq ax sub)) else none
 | _,_=>none }
theorem aa1:aM Tryz.prog 22 Tg:=by
 refine⟨by kernel_rfl,fun args au c r bg e hc=>?_⟩;simp only[Tg] at e;split at e;obtain⟨hb,e1⟩:=aC.aK e;clear e;cases acP hb;cases e1;exact aa0 _ _ _ _ hc;cases e
def gNw:bW:=[(20,MH),(21,cOwnL),(22,Tg)]
theorem gNw_ok:bt Tryz.prog gNw:=ar Jm (ar aaZ (ar aa1 aG))
theorem Xb{g x:Int}(hg:1<=g/\g<=16)(h:d9 g x=false):x≠0/\-g<=x/\x<=g:=by
 unfold d9 at h;rw[wrap64 (n:=0-g) (by omega) (by omega)] at h;simp only[Bool.or_eq_false_iff,decide_eq_false_iff_not] at h;omega
theorem MI{g:Int}(hg:1<=g/\g<=16){w:List Int}(h:w.any (d9 g)=false)(hl:w.length<=1000000):Wd g w:=by
 refine⟨hl,fun x hx=>Xb hg ?_⟩;rw[List.any_eq_false] at h;simpa using h x hx
theorem MJ{g:Int}:∀{r:List (List Int)}{left i:Int},(oR g r left i).1=0->left<=4000->∀ w∈r,w.any (d9 g)=false/\w.length<=4000
 | [],_,_,_,_,w,hw=>by cases hw
 | x :: r, left, i, h, hl, w, hw => by
   rw[oR] at h;split at h;cases h;rename_i h1;split at h;cases h;rename_i h2;rcases List.mem_cons.1 hw with rfl|hw;exact⟨by simpa using h2,by omega⟩;exact MJ h (by omega) w hw
theorem MK{g:Int}{r:List (List Int)}(h:(fC g r).1=0):(1<=g/\g<=16)/\r.length<=100/\∀ w∈r,w.any (d9 g)=false/\w.length<=4000:=by
 unfold fC at h;split at h;cases h;rename_i h1;split at h;cases h;rename_i h2;exact⟨by omega,by omega,MJ h (by omega)⟩
theorem DX{w:List Int}:∀{l:List (List Int)},w∈l->w.length<=l.flatten.length
 | x::l,h=>by
   rw[List.flatten_cons,acT];rcases List.mem_cons.1 h with rfl|h;omega;have:=DX h;omega
theorem Begins.good{g aq:Int}{ax sub:List (List Int)}(B:Begins g aq ax sub):cX (cT g aq ax sub):=by
 obtain⟨hg,hn,hw⟩:=MK B.fC;have hl:=B.aq;have hs:=B.subs;refine⟨⟨hg.1,hg.2,rfl,⟨(by show (1:Nat)<=1000000;omega),fun a ha=>?_⟩,fun l hl=>?_,acS _,fun x hx=>(by cases hx),rfl,acS _⟩,Nat.one_pos,hl.1,by show aq<=900000;omega,fun w hw'=>MI hg (hw w hw').1 (by have:=(hw w hw').2;omega),fun w hw'=>MI hg (B.bad w hw') (by have:w.length<=sub.flatten.length:=DX hw';omega),by show ax.length<=1000;omega,by show sub.length<=1000;omega,.inl rfl,⟨adb _,by show (0:Int)<=1;omega⟩,⟨adb _,by show (0:Int)<=1000;omega⟩,fun h=>by cases h⟩;have:a=0:=by
  have:a<1:=ha;omega
 subst this;exact⟨adb _,adb _⟩;have hl:l=acR (2*g).toNat (-1):=List.mem_singleton.1 hl;subst hl;refine⟨ac3,fun x hx=>?_⟩;rw[adj hx];exact⟨adb _,by show (-1:Int)<1;omega⟩
theorem Xc{base : Nat}{η : Eta}{Z : aF}{r : Rn}{w : World}(h0 : r.dn = 0)(h1 : r.dl = [])(R : St base η Z (.ofList (qC r)) w) : St base η Z (.ofList (obs r)) w := by
 have hf:∀ n,3<=n->η n=none:=R.fresh;have h3:η 3=none:=hf 3 (acS _);have eF:∀ n o p,(ak.ofList (obs r)).get n=some o->η n=some p->n<3/\∃ o1,(ak.ofList (qC r)).get n=some o1:=by
  intro n o p h hp;have hn:n<3:=by
   rcases acZ n 3 with h|h;exact h;rw[hf n h] at hp;cases hp
  refine⟨hn,?_⟩
  match n,hn with
  | 0,_=>exact⟨_,by rw[ak.aT];rfl⟩
  | 1,_=>exact⟨_,by rw[ak.aT];rfl⟩
  | 2,_=>exact⟨_,by rw[ak.aT];rfl⟩
 refine⟨fun n o p h hp=>?_,fun n o h hp=>?_,fun n o h=>?_,fun n n' o o' p p' b h h' hne hp hp'=>?_,R.zs,fun n hn=>hf n (by have:(ak.ofList (obs r)).next=4:=rfl;omega),R.gO,fun n o p h hp=>?_⟩
 . obtain⟨hn,o1,kr⟩:=eF n o p h hp;rw[ak.aT] at h
   match n,hn with
   | 0, _ =>
     cases h;obtain⟨a,b,L⟩:=R.au 0 _ p (by rw[ak.aT];rfl) hp;refine⟨a,b,?_⟩;obtain⟨c,fz,l1,l2,l3,l4⟩:=L.there (by simp[Ob.fG,Ob.isMap,Ob.iV,Ob.cells,Fd.cells]);refine eM.plain (by simp[Ob.fG,Ob.isMap,Ob.iV,Ob.cells,Fd.cells]) ⟨c,fz,l1,l2,fun i x hx=>?_,l4.plain fun hB=>by obtain⟨q,e⟩:=hB (.int .i64 r.g) (by simp[Ob.cells,Fd.cells]);cases e⟩ (L.size (by simp[Ob.fG,Ob.isMap,Ob.iV,Ob.cells,Fd.cells]));rcases acZ i 12 with hi|hi
     . refine l3 i x ?_;rw[<-hx]
       match i,hi with
       | 0,_|1,_|2,_|3,_|4,_|5,_|6,_|7,_|8,_|9,_|10,_|11,_=>rfl
     have hi2:i=12:=by
      have:=(List.getElem?_eq_some_iff.1 hx).1;have:i<13:=this;omega
     subst hi2;have hx:some (W.sl 3 0 r.dn 1)=some x:=hx;cases hx;obtain⟨v,v1,v2,v3⟩:=l3 12 .nil rfl;exact⟨v,v1,.inl ⟨h0,v2⟩,v3⟩
   | 1,_=>exact R.au 1 o p (by rw[ak.aT];exact h) hp
   | 2,_=>exact R.au 2 o p (by rw[ak.aT];exact h) hp
 . rw[ak.aT] at h
   match n,h with
   | 0,_=>exact absurd (R.cJ 0 _ (by rw[ak.aT];rfl) hp) (by simp[Ob.cells,Fd.cells])
   | 1,h=>exact R.cJ 1 o (by rw[ak.aT];exact h) hp
   | 2,h=>exact R.cJ 2 o (by rw[ak.aT];exact h) hp
   | 3,h =>
     have h:some (aB r.dl)=some o:=h;cases h;simp[Ob.cells,Fd.cells,h1]
 rw[ak.aT] at h;exact(List.getElem?_eq_some_iff.1 h).1;obtain⟨_,o1,g1⟩:=eF n o p h hp;obtain⟨_,o2,g2⟩:=eF n' o' p' h' hp';exact R.jB n n' o1 o2 p p' b g1 g2 hne hp hp';obtain⟨_,o1,g1⟩:=eF n o p h hp;exact R.sat n o1 p g1 hp
theorem bq.cJ{P:Program}{f:FuncId}{ay:Nat}{args:List A}{au:List Ob}{x:A}{r:Rn}(h0:r.dn=0)(h1:r.dl=[])(h:bq P f ay args au x (qC r)):bq P f ay args au x (obs r):=by
 intro base η Z w vs R hvs hK;refine(h base η Z w vs R hvs hK).mono ?_;rintro e w' ⟨u,aI,Z',rfl,mv,hx⟩;refine⟨u,aI,Z',rfl,⟨mv.le,Xc h0 h1 mv.st,⟨mv.step.os,mv.step.tape,mv.step.output,mv.step.size,mv.step.block,fun b ⟨n,o,p,hn,hp,hb⟩=>mv.step.own b ?_,mv.step.cZ,mv.step.gT,rfl⟩⟩,hx⟩;have hn3:n<3:=by
  rcases acZ n 3 with h|h;exact h;have:aI n=none:=mv.st.fresh n h;rw[this] at hp;cases hp
 match n,hn3 with
 | 0,_=>exact⟨0,_,p,by rw[ak.aT];rfl,hp,hb⟩
 | 1,_=>exact⟨1,_,p,by rw[ak.aT];rfl,hp,hb⟩
 | 2,_=>exact⟨2,_,p,by rw[ak.aT];rfl,hp,hb⟩
theorem aa2(g aq:Int)(ax sub:List (List Int))(B:Begins g aq ax sub):bA Tryz.prog 8 [pU g ax,bK sub,nI aq] [] (.aL [.c (.ptr 0 0),.c (.int .i64 0)]) (qC (cT g aq ax sub)):=by
 refine bR (aj:=[]) (cx:=[]) (fz:=[]) gNw_ok Tryz.func8 (by kernel_rfl) 0 (by kernel_rfl) 100 ?_;apply of_eq (q:=let q1:=(cT g aq ax sub);let q2:=(R1.pure (Cd.t.and Cd.t) (nI g));Begins g aq ax sub/\((!decide ((0:Int)=0))=true->aE [V.c W.dz,vI (0)]=A.aL [V.c (W.ptr 0 0),vI (0)]/\[]=qC q1)/\((!decide ((0:Int)=0))=false->(Sh ax/\ax.length<=1000000)/\(Sh sub/\sub.length<=1000000)/\q2.v=q2.v/\q2.v=q2.v/\q2.v=q2.v/\((1:Int)<=g/\g<=16)/\aE [V.c (W.ptr 0 0),vI (0)]=A.aL [V.c (W.ptr 0 0),vI (0)]/\[Ob.mk 61 [fI q1.g,fL q1.ax,fL q1.sub,fI q1.aq,fI q1.aH,fI q1.aj,fI q1.aA,fI q1.ph,fI q1.co,fI q1.ix,fS 1 0 1,fS 2 0 1,Fd.c W.nil],aQ q1,aB (q1.ah)]=qC q1)) (by kernel_rfl)
 try simp only[sL]
 obtain⟨hg,hn,hw⟩:=MK B.fC;have hs:=B.subs;refine⟨B,fun h=>absurd trivial h,fun _=>⟨⟨B.sh,by omega⟩,⟨fun w hw'=>by have:=DX hw';omega,by omega⟩,hg,rfl,rfl⟩⟩
theorem Qo(g aq:Int)(ax sub:List (List Int))(B:Begins g aq ax sub):bA Tryz.prog 8 [pU g ax,bK sub,nI aq] [] (.aL [.c (.ptr 0 0),.c (.int .i64 0)]) (obs (cT g aq ax sub)) :=
 bq.cJ rfl rfl (aa2 g aq ax sub B)
def cNew:bQ:=xC fun g r s n=>(.p (Begins g n r s),.aL [.c (.ptr 0 0),.c (.int .i64 0)],obs (cT g n r s))
theorem cNew_ok:aM Tryz.prog 8 cNew:=vD (by kernel_rfl) fun g r s n h=>Qo g n r s h
end Go.Proofs.YtdpbidkgdnnamaaGreatDoor
