/- Enumeration of cosets in steps: the procedure in plain words. -/
import Derived.Test.YtlbmkeimafgemaaGreatDoorText1
open Nat renaming eq_of_beq_eq_true->abZ,le_refl->ab2,beq->ab5,lt_or_ge->ab9,zero_add->ach,mul_le_mul_right->acj,succ_mul->acz,zero_le->acA,min_eq_left->acF,one_mul->acG
open List renaming getD_eq_getElem?_getD->ab0,replicate->ab1,length_append->ab3,length_set->ab4,take->ab6,length_singleton->ab7,drop->acd,getElem?_append_left->ace,length_replicate->acg,take_of_length_le->ack,length->acn,getElem?_eq_none->aco,countP_singleton->acp,countP_append->acr,getElem?_append_right->acu,mem_or_eq_of_mem_set->acv,getElem?_eq_getElem->acw,eq_of_mem_replicate->acy,range->acB,getElem?_set->acC,getElem_mem->acD,range_succ->acE
open Bool renaming false_eq_true->ab8,and_eq_true->aci,true_eq_false->acs
open Int renaming toNat_natCast->acf,le_refl->acq
noncomputable section
namespace Go.bh
structure Rn where
 g:Int
 ax:List (List Int)
 sub:List (List Int)
 aq:Int
 aF:Int
 aj:Int
 ay:Int
 ph:Int
 co:Int
 ix:Int
 af:List (List Int)
 ah:List Int
 dl:List Int
 dn:Nat
def aZ(af:List (List Int))(a c:Nat):Int:=(af.getD a []).getD c 0
def eJ(af:List (List Int))(a c:Nat)(x:Int):List (List Int):=af.set a ((af.getD a []).set c x)
theorem kC(af:List (List Int))(a c:Nat):(af.getD a []).getD c 0=aZ af a c:=rfl
theorem Lr(af:List (List Int))(a c:Nat)(x:Int):af.set a ((af.getD a []).set c x)=eJ af a c x:=rfl
def bT(x:Int):Int:=max (2*x-2) (-2*x-1)
def bQ(c:Nat):Nat:=if c%2=0 then c+1 else c-1
def si(ah:List Int):Nat->Nat->Nat
 | 0,a=>a
 | f+1,a=>if ah.getD a 0=(a:Int) then a else si ah f (ah.getD a 0).toNat
def top(ah:List Int)(a:Nat):Nat:=si ah (a+1) a
def merge(r:Rn)(a b:Nat):Rn :=
 if top r.ah a=top r.ah b then r
 else { r with ah:=r.ah.set (max (top r.ah a) (top r.ah b)) (min (top r.ah a) (top r.ah b):Nat),dl:=r.dl.take r.dn++[((max (top r.ah a) (top r.ah b):Nat):Int)],dn:=r.dn+1,aj:=r.aj-1 }
def join(r:Rn)(a c b:Nat):Rn:={ r with af:=eJ (eJ r.af a c b) b (bQ c) a }
def ck(r:Rn)(e c:Nat):Rn:={ r with af:=eJ (eJ r.af e c (-1)) (aZ r.af e c).toNat (bQ c) (-1) }
def kf(r:Rn)(u v c:Nat):Rn :=
 if 0<=aZ r.af u c then merge r (aZ r.af u c).toNat v
 else if 0<=aZ r.af v (bQ c) then merge r (aZ r.af v (bQ c)).toNat u
 else join r u c v
def cell(r:Rn)(e c:Nat):Rn:=if aZ r.af e c<0 then r else kf (ck r e c) (top r.ah e) (top r.ah (aZ r.af e c).toNat) c
def eV(e:Nat):Nat->Nat->Rn->Rn
 | 0,_,r=>r
 | f+1,c,r=>eV e f (c+1) (cell r e c)
def jw(k2:Nat):Nat->Nat->Rn->Rn
 | 0,_,r=>r
 | f+1,k,r=>if k<r.dn then jw k2 f (k+1) (eV (r.dl.getD k 0).toNat k2 0 r) else r
def coincide(r:Rn)(a b:Nat):Rn :=
 jw (2*r.g).toNat (r.af.length+1) 0 (merge { r with dn:=0 } a b)
def eD(af:List (List Int))(w:List Int):Nat->Nat->Nat->Nat×Nat
 | 0,f,i=>(f,i)
 | n+1,f,i=>if i<w.length/\0<=aZ af f (bT (w.getD i 0)).toNat then eD af w n (aZ af f (bT (w.getD i 0)).toNat).toNat (i+1) else(f,i)
def gi(af:List (List Int))(w:List Int)(i:Nat):Nat->Nat->Nat->Nat×Nat
 | 0,b,j=>(b,j)
 | n+1,b,j=>if i<j/\0<=aZ af b (bT (- w.getD (j-1) 0)).toNat then gi af w i n (aZ af b (bT (- w.getD (j-1) 0)).toNat).toNat (j-1) else(b,j)
def dY(ah:List Int):Prop:=ah.length<=1000000/\∀ a,a<ah.length->0<=ah.getD a 0/\ah.getD a 0<=a
theorem Pv{ah:List Int}(hp:dY ah):∀(f f' a:Nat),a<f->a<f'->a<ah.length->si ah f a=si ah f' a
 | 0,_,_,h,_,_=>by omega
 | _+1,0,_,_,h,_=>by omega
 | f + 1, f' + 1, a, h1, h2, h3 => by
   simp only[si];split;rfl;have:=hp.2 a h3;exact Pv hp f f' _ (by omega) (by omega) (by omega)
theorem iH{ah:List Int}(hp:dY ah){a:Nat}(h:a<ah.length)(hn:ah.getD a 0≠a):top ah a=top ah (ah.getD a 0).toNat:=by
 have:=hp.2 a h;unfold top;rw[si,if_neg hn];exact Pv hp _ _ _ (by omega) (by omega) (by omega)
theorem dz{ah:List Int}{a:Nat}(hn:ah.getD a 0=a):top ah a=a:=by
 unfold top;rw[si,if_pos hn]
theorem Pw{ah:List Int}(hp:dY ah):∀(f a:Nat),a<ah.length->si ah f a<=a
 | 0,_,_=>ab2 _
 | f + 1, a, h => by
   rw[si];split;exact ab2 _;have:=hp.2 a h;have:=Pw hp f (ah.getD a 0).toNat (by omega);omega
theorem fQ{ah:List Int}(hp:dY ah){a:Nat}(h:a<ah.length):top ah a<=a:=Pw hp _ _ h
theorem EN{ah:List Int}(hp:dY ah):∀(f a:Nat),a<f->a<ah.length->ah.getD (si ah f a) 0=(si ah f a:Nat)
 | 0,_,h,_=>by omega
 | f + 1, a, h, h2 => by
   rw[si];split;assumption;have:=hp.2 a h2;exact EN hp f _ (by omega) (by omega)
theorem gD{ah:List Int}(hp:dY ah){a:Nat}(h:a<ah.length):ah.getD (top ah a) 0=(top ah a:Nat):=EN hp _ _ (by omega) h
theorem gE{l:List Int}{i j:Nat}{x:Int}:(l.set i x).getD j 0=if i=j/\i<l.length then x else l.getD j 0:=by
 simp only[ab0,acC];split;rename_i h;subst h;split;rename_i h2;rw[if_pos ⟨rfl,h2⟩];rfl;rename_i h2;rw[if_neg (by omega),aco (by omega)];rename_i h;rw[if_neg (by omega)]
theorem xZ{l:List (List Int)}{i j:Nat}{x:List Int}:(l.set i x).getD j []=if i=j/\i<l.length then x else l.getD j []:=by
 simp only[ab0,acC];split;rename_i h;subst h;split;rename_i h2;rw[if_pos ⟨rfl,h2⟩];rfl;rename_i h2;rw[if_neg (by omega),aco (by omega)];rename_i h;rw[if_neg (by omega)]
def al(ah:List Int):Nat:=(acB ah.length).countP fun i=>decide (ah.getD i 0=(i:Int))
theorem Io{p q:Nat->Bool}{m:Nat}(hp:p m=true)(hq:q m=false)(h:∀ i,i≠m->p i=q i):∀ n,(acB n).countP q+(if m<n then 1 else 0)=(acB n).countP p
 | 0=>rfl
 | n + 1 => by
   have ih:=Io hp hq h n;rw[acE,acr,acr,acp,acp];by_cases e:n=m;subst e;rw[hp,hq];rw[if_neg (show ¬n<n by omega)] at ih;rw[if_pos (show n<n+1 by omega)];simp;omega;rw[h n e];by_cases h2:m<n;rw[if_pos h2] at ih;rw[if_pos (show m<n+1 by omega)];omega;rw[if_neg h2] at ih;rw[if_neg (show ¬m<n+1 by omega)];omega
theorem al_set{ah:List Int}{m b:Nat}(hm:m<ah.length)(ha:ah.getD m 0=(m:Int))(hb:b≠m):al (ah.set m (b:Int))+1=al ah:=by
 unfold al;rw[ab4];have:=Io (p:=fun i=>decide (ah.getD i 0=(i:Int))) (q:=fun i=>decide ((ah.set m (b:Int)).getD i 0=(i:Int))) (m:=m) (by simpa using ha) ?_ ?_ ah.length;rw[if_pos hm] at this;exact this;simp only[decide_eq_false_iff_not];rw[gE,if_pos ⟨rfl,hm⟩];omega;intro i hi;rw[gE,if_neg (show ¬(m=i/\m<ah.length) by omega)]
theorem rz(ah:List Int):al ah<=ah.length:=by
 unfold al;have:=List.countP_le_length (p:=fun i=>decide (ah.getD i 0=(i:Int))) (l:=acB ah.length);rw[List.length_range] at this;exact this
theorem Ad{ah:List Int}(hp:dY ah)(h:0<ah.length):0<al ah:=by
 unfold al;rw[List.countP_pos_iff];have:=hp.2 0 h;exact⟨0,by simpa using h,by simp only[decide_eq_true_eq];omega⟩
theorem al_app(ah:List Int):al (ah++[(ah.length:Int)])=al ah+1:=by
 unfold al;rw[ab3,ab7,acE,acr,acp];have e:(ah++[(ah.length:Int)]).getD ah.length 0=ah.length:=by
  rw[ab0,acu (ab2 _)];simp
 rw[e];simp only[decide_true,if_true];congr 1;refine List.countP_congr fun i hi=>?_;have hi:=List.mem_range.1 hi;have:(ah++[(ah.length:Int)]).getD i 0=ah.getD i 0:=by
  rw[ab0,ace hi,<-ab0]
 rw[this]
def Row(k:Nat)(n:Nat)(l:List Int):Prop:=l.length=k/\∀ x∈l,-1<=x/\x<n
structure cH(r:Rn):Prop where
 g1:1<=r.g
 g2:r.g<=16
 len:r.ah.length=r.af.length
 ah:dY r.ah
 row:∀ l∈r.af,Row (2*r.g).toNat r.af.length l
 dy:r.dn<=r.dl.length
 dx:∀ x∈r.dl,0<=x/\x<r.af.length
 aj:r.aj=al r.ah
 sum:al r.ah+r.dn<=r.af.length
theorem Row.set{k n:Nat}{l:List Int}(h:Row k n l){c:Nat}{x:Int}(hx:-1<=x/\x<n):Row k n (l.set c x):=by
 refine⟨by rw[ab4];exact h.1,fun y hy=>?_⟩;rcases acv hy with hy|rfl;exact h.2 y hy;exact hx
theorem dZ{l:List (List Int)}{a:Nat}(h:a<l.length):l.getD a []∈l:=by
 rw[ab0,acw h];exact acD h
theorem fB{l:List Int}{a:Nat}(h:a<l.length):l.getD a 0∈l:=by
 rw[ab0,acw h];exact acD h
theorem oQ{k n:Nat}{af:List (List Int)}(h:∀ l∈af,Row k n l){a c:Nat}{x:Int}(ha:a<af.length)(hx:-1<=x/\x<n):∀ l∈eJ af a c x,Row k n l:=by
 intro l hl;rcases acv hl with hl|rfl;exact h l hl;exact(h _ (dZ ha)).set hx
theorem cM(af:List (List Int))(a c:Nat)(x:Int):(eJ af a c x).length=af.length:=ab4 ..
theorem dM{k n:Nat}{af:List (List Int)}(h:∀ l∈af,Row k n l){a c:Nat}(ha:a<af.length)(hc:c<k):-1<=aZ af a c/\aZ af a c<n:=by
 have:=h _ (dZ ha);exact this.2 _ (fB (by rw[this.1];exact hc))
theorem cH.af{r:Rn}(T:cH r){af:List (List Int)}(hl:af.length=r.af.length)(h:∀ l∈af,Row (2*r.g).toNat r.af.length l):cH { r with af:=af } :=
 ⟨T.g1,T.g2,T.len.trans hl.symm,T.ah,by rw[show ({ r with af:=af }:Rn).af.length=r.af.length from hl];exact h,T.dy,by rw[show ({ r with af:=af }:Rn).af.length=r.af.length from hl];exact T.dx,T.aj,by rw[show ({ r with af:=af }:Rn).af.length=r.af.length from hl];exact T.sum⟩
theorem qL{c g:Nat}(h:c<2*g):bQ c<2*g:=by unfold bQ;split<;>omega
theorem cH.flip{r:Rn}(T:cH r){c:Nat}(h:c<(2*r.g).toNat):bQ c<(2*r.g).toNat:=by
 have:=T.g1;have:=@qL c r.g.toNat (by omega);omega
theorem cH.merge{r:Rn}(T:cH r){a b:Nat}(ha:a<r.af.length)(hb:b<r.af.length):cH (merge r a b):=by
 unfold bh.merge;split;exact T;rename_i h;have hl:=T.len;have pa:=fQ T.ah (show a<r.ah.length by omega);have pb:=fQ T.ah (show b<r.ah.length by omega);have qa:=gD T.ah (show a<r.ah.length by omega);have qb:=gD T.ah (show b<r.ah.length by omega);generalize top r.ah a=u at *;generalize top r.ah b=v at *;have hmax:max u v<r.ah.length:=by omega
 have hal:r.ah.getD (max u v) 0=((max u v:Nat):Int):=by
  rcases Nat.le_total u v with h1|h1;rw[Nat.max_eq_right h1];exact qb;rw[Nat.max_eq_left h1];exact qa
 have hs:=al_set hmax hal (show min u v≠max u v by omega);have hsum:=T.sum;have hlive:=T.aj;refine⟨T.g1,T.g2,by simp only[ab4];exact hl,⟨by simp only[ab4];exact T.ah.1,fun i hi=>?_⟩,T.row,?_,?_,?_,?_⟩;simp only[ab4] at hi;simp only;rw[gE];split;rename_i h2;omega;exact T.ah.2 i hi;have:=T.dy;simp only[ab3,List.length_take,ab7];omega;intro x hx;simp only[List.mem_append,List.mem_singleton] at hx;rcases hx with hx|rfl;exact T.dx x (List.mem_of_mem_take hx);simp only;omega;simp only;omega;simp only;omega
theorem lK(r:Rn)(a b:Nat):(merge r a b).af=r.af/\(merge r a b).g=r.g:=by unfold merge;split<;>exact⟨rfl,rfl⟩
theorem cH.join{r:Rn}(T:cH r){a c b:Nat}(ha:a<r.af.length)(hb:b<r.af.length):cH (join r a c b):=by
 refine T.af (by rw[cM,cM]) (oQ (oQ T.row ha (by omega)) (by rw[cM];exact hb) (by omega))
theorem jv(r:Rn)(a c b:Nat):(join r a c b).af.length=r.af.length/\(join r a c b).g=r.g:=⟨by unfold join;simp only[cM],rfl⟩
theorem cH.dead{r:Rn}(T:cH r){e c:Nat}(he:e<r.af.length){d:Nat}(hd:d<r.af.length):cH { r with af:=eJ (eJ r.af e c (-1)) d (bQ c) (-1) } :=
 T.af (by rw[cM,cM]) (oQ (oQ T.row he (by omega)) (by rw[cM];exact hd) (by omega))
theorem cH.kf{r:Rn}(T:cH r){u v c:Nat}(hu:u<r.af.length)(hv:v<r.af.length)(hc:c<(2*r.g).toNat):cH (kf r u v c)/\(kf r u v c).af.length=r.af.length/\(kf r u v c).g=r.g:=by
 have r1:=dM T.row hu hc;have r2:=dM T.row hv (T.flip hc);unfold bh.kf;split;have:=lK r (aZ r.af u c).toNat v;exact⟨T.merge (by omega) hv,by rw[this.1],this.2⟩;split;have:=lK r (aZ r.af v (bQ c)).toNat u;exact⟨T.merge (by omega) hu,by rw[this.1],this.2⟩;have:=jv r u c v;exact⟨T.join hu hv,this.1,this.2⟩
theorem cH.cell{r:Rn}(T:cH r){e c:Nat}(he:e<r.af.length)(hc:c<(2*r.g).toNat):cH (cell r e c)/\(cell r e c).af.length=r.af.length/\(cell r e c).g=r.g:=by
 unfold bh.cell;have hr:=dM T.row he hc;split;exact⟨T,rfl,rfl⟩;rename_i hd;have hd2:(aZ r.af e c).toNat<r.af.length:=by omega
 have T1:cH (ck r e c):=T.dead (c:=c) he hd2;have hl:=T.len;have hlen:(ck r e c).af.length=r.af.length:=by unfold ck;simp only[cM]
 have pu:=fQ T.ah (show e<r.ah.length by omega);have pv:=fQ T.ah (show (aZ r.af e c).toNat<r.ah.length by omega);have:=T1.kf (u:=top r.ah e) (v:=top r.ah (aZ r.af e c).toNat) (c:=c) (by omega) (by omega) hc;exact⟨this.1,this.2.1.trans hlen,this.2.2⟩
theorem cH.cells{e:Nat}:∀(f c:Nat){r:Rn},cH r->e<r.af.length->c+f<=(2*r.g).toNat->cH (eV e f c r)/\(eV e f c r).af.length=r.af.length/\(eV e f c r).g=r.g
 | 0,c,r,T,_,_=>⟨T,rfl,rfl⟩
 | f+1,c,r,T,he,hc=>by
   obtain⟨T1,h1,h2⟩:=T.cell (c:=c) he (by omega);have:=cH.cells (e:=e) f (c+1) T1 (by omega) (by rw[h2];omega);rw[eV];exact⟨this.1,this.2.1.trans h1,this.2.2.trans h2⟩
theorem cH.die{k2:Nat}:∀(f k:Nat){r:Rn},cH r->k2=(2*r.g).toNat->cH (jw k2 f k r)/\(jw k2 f k r).af.length=r.af.length/\(jw k2 f k r).g=r.g
 | 0,k,r,T,_=>⟨T,rfl,rfl⟩
 | f + 1, k, r, T, hk => by
   rw[jw];split;rename_i h;have hd:=T.dx _ (fB (l:=r.dl) (a:=k) (by have:=T.dy;omega));obtain⟨T1,h1,h2⟩:=cH.cells k2 0 T (show (r.dl.getD k 0).toNat<r.af.length by omega) (by omega);have:=cH.die (k2:=k2) f (k+1) T1 (by rw[h2];exact hk);exact⟨this.1,this.2.1.trans h1,this.2.2.trans h2⟩;exact⟨T,rfl,rfl⟩
def br(r:Rn):Prop:=cH { r with dn:=0 }
theorem br.coincide{r:Rn}(T:br r){a b:Nat}(ha:a<r.af.length)(hb:b<r.af.length):br (coincide r a b)/\(coincide r a b).af.length=r.af.length/\(coincide r a b).g=r.g:=by
 have T1:cH (merge { r with dn:=0 } a b):=cH.merge T ha hb;have hm:=lK { r with dn:=0 } a b;obtain⟨T2,h1,h2⟩:=cH.die (k2:=(2*r.g).toNat) (r.af.length+1) 0 T1 (by rw[hm.2]);refine⟨?_,h1.trans (by rw[hm.1]),h2.trans hm.2⟩;have hs:=T2.sum;exact⟨T2.g1,T2.g2,T2.len,T2.ah,T2.row,acA _,T2.dx,T2.aj,Nat.le_trans (Nat.le_add_right _ _) hs⟩
theorem br.at{r:Rn}(T:br r){a c:Nat}(ha:a<r.af.length)(hc:c<(2*r.g).toNat):-1<=aZ r.af a c/\aZ r.af a c<r.af.length :=
 dM (af:=r.af) T.row ha hc
def add(r:Rn):Rn:={ r with af:=r.af++[ab1 (2*r.g).toNat (-1)],ah:=r.ah++[(r.ah.length:Int)],aj:=r.aj+1,aF:=max r.aF (r.aj+1) }
theorem qM(r:Rn):(add r).af.length=r.af.length+1/\(add r).g=r.g:=⟨by unfold add;simp,rfl⟩
theorem br.add{r:Rn}(T:br r)(h:r.af.length<1000000):br (add r):=by
 have hl:r.ah.length=r.af.length:=T.len;have hp:dY r.ah:=T.ah;have hlive:r.aj=al r.ah:=T.aj;refine⟨T.g1,T.g2,?_,⟨?_,?_⟩,?_,acA _,?_,?_,?_⟩;show (r.ah++[(r.ah.length:Int)]).length=(r.af++[ab1 (2*r.g).toNat (-1)]).length;simp[hl];show (r.ah++[(r.ah.length:Int)]).length<=1000000;simp;omega;show ∀ a,a<(r.ah++[(r.ah.length:Int)]).length->0<=(r.ah++[(r.ah.length:Int)]).getD a 0/\(r.ah++[(r.ah.length:Int)]).getD a 0<=a;intro a ha;rw[ab3,ab7] at ha;rw[ab0];rcases ab9 a r.ah.length with h1|h1;rw[ace h1,<-ab0];exact hp.2 a h1;rw[acu h1,show a-r.ah.length=0 by omega];simp;omega;show ∀ l∈r.af++[ab1 (2*r.g).toNat (-1)],Row (2*r.g).toNat (r.af++[ab1 (2*r.g).toNat (-1)]).length l;intro l hl;rw[ab3,ab7];rcases List.mem_append.1 hl with hl|hl;obtain⟨h1,h2⟩:=T.row l hl;refine⟨h1,fun x hx=>?_⟩;have h2:∀ x∈l,-1<=x/\x<r.af.length:=h2;have:=h2 x hx;omega;rw[List.mem_singleton.1 hl];refine⟨acg,fun x hx=>?_⟩;rw[acy hx];omega;show ∀ x∈r.dl,0<=x/\x<((r.af++[ab1 (2*r.g).toNat (-1)]).length:Nat);intro x hx;have:0<=x/\x<r.af.length:=T.dx x hx;rw[ab3,ab7];omega;show r.aj+1=(al (r.ah++[(r.ah.length:Int)]):Nat);rw[al_app,hlive];omega;show al (r.ah++[(r.ah.length:Int)])+0<=(r.af++[ab1 (2*r.g).toNat (-1)]).length;have:=rz (r.ah++[(r.ah.length:Int)]);simp only[ab3,ab7] at this ⊢;omega
theorem br.joins{r:Rn}(T:br r){a c b:Nat}(ha:a<r.af.length)(hb:b<r.af.length):br (join r a c b):=cH.join (r:={ r with dn:=0 }) T ha hb
def Wd(g:Int)(w:List Int):Prop:=w.length<=1000000/\∀ x∈w,x≠0/\-g<=x/\x<=g
theorem Wd.get{g:Int}{w:List Int}(h:Wd g w){i:Nat}(hi:i<w.length):w.getD i 0≠0/\-g<=w.getD i 0/\w.getD i 0<=g:=h.2 _ (fB hi)
theorem Wd.any{g:Int}{w:List Int}(h:Wd g w)(h0:0<=g)(i:Nat):-g<=w.getD i 0/\w.getD i 0<=g:=by
 rcases ab9 i w.length with hi|hi;exact(h.get hi).2;rw[ab0,aco hi];exact⟨by simp;omega,by simpa using h0⟩
theorem iq{g x:Int}(h:x≠0/\-g<=x/\x<=g):0<=bT x/\bT x<2*g:=by
 unfold bT;omega
def qe(r:Rn)(w:List Int)(f i b j:Nat):Rn×Nat×Nat×Bool :=
 if i=j then(coincide r f b,0,0,false)
 else if i+1=j then(join r f (bT (w.getD i 0)).toNat b,0,0,false)
 else(r,f,(bT (w.getD i 0)).toNat,true)
def uL(r:Rn)(a:Nat)(w:List Int)(f i:Nat):Rn×Nat×Nat×Bool :=
 qe r w f i (gi r.af w i w.length a w.length).1 (gi r.af w i w.length a w.length).2
def scan(r:Rn)(a:Nat)(w:List Int):Rn×Nat×Nat×Bool :=
 uL r a w (eD r.af w w.length a 0).1 (eD r.af w w.length a 0).2
theorem pF{r:Rn}(T:br r){w:List Int}(hw:Wd r.g w):∀(n f i:Nat),f<r.af.length->i<=w.length->(eD r.af w n f i).1<r.af.length/\(eD r.af w n f i).2<=w.length
 | 0,f,i,hf,hi=>⟨hf,hi⟩
 | n + 1, f, i, hf, hi => by
   rw[eD];split;rename_i h;have hc:=iq (hw.get h.1);have:=T.at (a:=f) (c:=(bT (w.getD i 0)).toNat) hf (by omega);exact pF T hw n _ _ (by omega) (by omega);exact⟨hf,hi⟩
theorem pG{r:Rn}(T:br r){w:List Int}(hw:Wd r.g w){i:Nat}:∀(n b j:Nat),b<r.af.length->i<=j->j<=w.length->(gi r.af w i n b j).1<r.af.length/\i<=(gi r.af w i n b j).2/\(gi r.af w i n b j).2<=w.length
 | 0,b,j,hb,hi,hj=>⟨hb,hi,hj⟩
 | n + 1, b, j, hb, hi, hj => by
   rw[gi];split;rename_i h;have hg:=hw.get (show j-1<w.length by omega);have hc:=iq (show-w.getD (j-1) 0≠0/\- r.g<=- w.getD (j-1) 0/\- w.getD (j-1) 0<=r.g by omega);have:=T.at (a:=b) (c:=(bT (- w.getD (j-1) 0)).toNat) hb (by omega);exact pG T hw n _ _ (by omega) (by omega) (by omega);exact⟨hb,hi,hj⟩
def Keep(r r':Rn):Prop:=r'.g=r.g/\r'.ax=r.ax/\r'.sub=r.sub/\r'.aq=r.aq/\r'.ph=r.ph/\r'.co=r.co/\r'.ix=r.ix/\r'.ay=r.ay
theorem Keep.refl(r:Rn):Keep r r:=⟨rfl,rfl,rfl,rfl,rfl,rfl,rfl,rfl⟩
theorem Keep.trans{a b c:Rn}(h:Keep a b)(k:Keep b c):Keep a c:=by
 obtain⟨h1,h2,h3,h4,h5,h6,h7,h8⟩:=h;obtain⟨k1,k2,k3,k4,k5,k6,k7,k8⟩:=k;exact⟨k1.trans h1,k2.trans h2,k3.trans h3,k4.trans h4,k5.trans h5,k6.trans h6,k7.trans h7,k8.trans h8⟩
theorem sN(r:Rn)(a b:Nat):Keep r (merge r a b):=by unfold merge;split<;>exact Keep.refl _
theorem Ip(r:Rn)(a c b:Nat):Keep r (join r a c b):=Keep.refl _
theorem Iq(r:Rn)(e c:Nat):Keep r (cell r e c):=by
 unfold cell;split;exact Keep.refl _;unfold kf;split;exact sN (ck r e c) _ _;split;exact sN (ck r e c) _ _;exact Ip (ck r e c) _ _ _
theorem x5(e:Nat):∀(f c:Nat)(r:Rn),Keep r (eV e f c r)
 | 0,_,_=>Keep.refl _
 | f+1,c,r=>(Iq r e c).trans (x5 e f (c+1) _)
theorem Ls(k2:Nat):∀(f k:Nat)(r:Rn),Keep r (jw k2 f k r)
 | 0,_,_=>Keep.refl _
 | f+1,k,r=>by
   rw[jw];split;exact(x5 _ _ _ r).trans (Ls k2 f (k+1) _);exact Keep.refl _
theorem Js(r:Rn)(a b:Nat):Keep r (coincide r a b) :=
 (sN { r with dn:=0 } a b).trans (Ls _ _ _ _)
structure Scanned(r:Rn)(x:Rn×Nat×Nat×Bool):Prop where
 fine:br x.1
 len:x.1.af.length=r.af.length
 keep:Keep r x.1
 opn:x.2.2.2=true->x.1=r/\x.2.1<r.af.length/\x.2.2.1<(2*r.g).toNat
theorem iK{r:Rn}(T:br r){w:List Int}(hw:Wd r.g w){a:Nat}(ha:a<r.af.length):Scanned r (scan r a w):=by
 obtain⟨f1,f2⟩:=pF T hw w.length a 0 ha (acA _);obtain⟨b1,b2,b3⟩:=pG T hw (i:=(eD r.af w w.length a 0).2) w.length a w.length ha f2 (ab2 _);unfold scan uL;generalize eD r.af w w.length a 0=p at *;generalize gi r.af w p.2 w.length a w.length=q at *;unfold qe;split;obtain⟨c1,c2,c3⟩:=T.coincide f1 b1;exact⟨c1,c2,Js _ _ _,fun h=>by cases h⟩;split;exact⟨T.joins f1 b1,(jv _ _ _ _).1,Ip _ _ _ _,fun h=>by cases h⟩;have:=iq (hw.get (show p.2<w.length by omega));exact⟨T,rfl,Keep.refl _,fun _=>⟨rfl,f1,by simp only;omega⟩⟩
def grow(r:Rn)(f c:Nat):Rn:=join (add r) f c r.af.length
theorem gG{r:Rn}(T:br r){f:Nat}(c:Nat)(hf:f<r.af.length)(h:r.af.length<1000000):br (grow r f c)/\(grow r f c).af.length=r.af.length+1/\Keep r (grow r f c):=by
 have h1:=qM r;exact⟨(T.add h).joins (by omega) (by omega),(jv _ _ _ _).1.trans h1.1,Keep.refl _⟩
def aV(a:Nat)(w:List Int):Nat->Rn->Rn×Nat×Bool
 | 0,r =>
   if(scan r a w).2.2.2=false then((scan r a w).1,0,true)
   else if r.aq<=(scan r a w).1.af.length then({ (scan r a w).1 with ay:=2 },0,false)
   else((scan r a w).1,0,false)
 | q+1,r =>
   if(scan r a w).2.2.2=false then((scan r a w).1,q+1,true)
   else if r.aq<=(scan r a w).1.af.length then({ (scan r a w).1 with ay:=2 },q+1,false)
   else aV a w q (grow (scan r a w).1 (scan r a w).2.1 (scan r a w).2.2.1)
def bG(a:Nat):Nat->Nat->Rn->Nat->Rn×Nat×Bool
 | 0,_,r,q=>(r,q,true)
 | f+1,c,r,q =>
   if 0<=aZ r.af a c then bG a f (c+1) r q
   else if r.aq<=r.af.length then({ r with ay:=2 },q,false)
   else if q=0 then(r,0,false)
   else bG a f (c+1) (grow r a c) (q-1)
structure Lu(r:Rn)(q:Nat)(x:Rn×Nat×Bool):Prop where
 fine:br x.1
 len:x.1.af.length+x.2.1=r.af.length+q
 aq:x.1.af.length<=r.aq
 grown:r.af.length<=x.1.af.length
 keep:Keep r { x.1 with ay:=r.ay }
 yes:x.2.2=true->x.1.ay=r.ay
 no:x.2.2=false->(x.1.ay=2/\r.aq<=x.1.af.length)∨(x.1.ay=r.ay/\x.2.1=0/\x.1.af.length<r.aq)
theorem Keep.ay{a b:Rn}(h:Keep a b):Keep a { b with ay:=a.ay }:=by
 obtain⟨h1,h2,h3,h4,h5,h6,h7,h8⟩:=h;exact⟨h1,h2,h3,h4,h5,h6,h7,rfl⟩
theorem br.ay{r:Rn}(T:br r)(s:Int):br { r with ay:=s }:=⟨T.g1,T.g2,T.len,T.ah,T.row,T.dy,T.dx,T.aj,T.sum⟩
theorem Keep.trans'{a b c:Rn}(h:Keep a b)(k:Keep b { c with ay:=b.ay }):Keep a { c with ay:=a.ay }:=by
 obtain⟨h1,h2,h3,h4,h5,h6,h7,h8⟩:=h;obtain⟨k1,k2,k3,k4,k5,k6,k7,k8⟩:=k;exact⟨k1.trans h1,k2.trans h2,k3.trans h3,k4.trans h4,k5.trans h5,k6.trans h6,k7.trans h7,rfl⟩
theorem kD{a:Nat}{w:List Int}:∀(q:Nat){r:Rn},br r->Wd r.g w->a<r.af.length->r.af.length<=r.aq->r.aq<=900000->Lu r q (aV a w q r)
 | 0,r,T,hw,ha,hl,hm=>by
   have S:=iK T hw ha;have h1:=S.len;rw[aV];split;exact⟨S.fine,by simp only;omega,by simp only;omega,by simp only;omega,S.keep.ay,fun _=>S.keep.2.2.2.2.2.2.2,fun h=>by cases h⟩;split;rename_i h2 h3;exact⟨S.fine.ay 2,by simp only;omega,by simp only;omega,by simp only;omega,S.keep.ay,fun h=>(by cases h),fun _=>.inl ⟨rfl,h3⟩⟩;exact⟨S.fine,by simp only;omega,by simp only;omega,by simp only;omega,S.keep.ay,fun h=>(by cases h),fun _=>.inr ⟨S.keep.2.2.2.2.2.2.2,rfl,by simp only;omega⟩⟩
 | q + 1, r, T, hw, ha, hl, hm => by
   have S:=iK T hw ha;have h1:=S.len;rw[aV];split;exact⟨S.fine,by simp only;omega,by simp only;omega,by simp only;omega,S.keep.ay,fun _=>S.keep.2.2.2.2.2.2.2,fun h=>by cases h⟩;split;rename_i h2 h3;exact⟨S.fine.ay 2,by simp only;omega,by simp only;omega,by simp only;omega,S.keep.ay,fun h=>(by cases h),fun _=>.inl ⟨rfl,h3⟩⟩;rename_i h2 h3;obtain⟨o1,o2,o3⟩:=S.opn (by simpa using h2);obtain⟨g1,g2,g3⟩:=gG S.fine (scan r a w).2.2.1 (show (scan r a w).2.1<(scan r a w).1.af.length by omega) (by omega);have k:=S.keep.trans g3;have F:=kD (a:=a) (w:=w) q g1 (by rw[k.1];exact hw) (by omega) (by rw[k.2.2.2.1];omega) (by rw[k.2.2.2.1];exact hm);refine⟨F.fine,by have:=F.len;omega,by have:=F.aq;rw[k.2.2.2.1] at this;exact this,by have:=F.grown;omega,k.trans' F.keep,fun h=>(F.yes h).trans k.2.2.2.2.2.2.2,fun h=>?_⟩;have:=F.no h;rw[k.2.2.2.1,k.2.2.2.2.2.2.2] at this;exact this
theorem pH{a:Nat}:∀(f c:Nat)(q:Nat){r:Rn},br r->c+f=(2*r.g).toNat->a<r.af.length->r.af.length<=r.aq->r.aq<=900000->Lu r q (bG a f c r q)
 | 0,c,q,r,T,hc,ha,hl,hm=>by
   show Lu r q (r,q,true);exact⟨T,rfl,hl,ab2 _,Keep.refl _,fun _=>rfl,fun h=>by cases h⟩
 | f + 1, c, q, r, T, hc, ha, hl, hm => by
   rw[bG];split;exact pH f (c+1) q T (by omega) ha hl hm;split;rename_i h2 h3;exact⟨T.ay 2,rfl,hl,ab2 _,Keep.refl _,fun h=>(by cases h),fun _=>.inl ⟨rfl,h3⟩⟩;rename_i h2 h3;split;rename_i h4;exact⟨T,by simp only;omega,hl,ab2 _,Keep.refl _,fun h=>(by cases h),fun _=>.inr ⟨rfl,rfl,by simp only;omega⟩⟩;obtain⟨g1,g2,g3⟩:=gG T c ha (by omega);have F:=pH (a:=a) f (c+1) (q-1) g1 (by rw[g3.1];omega) (by omega) (by rw[g3.2.2.2.1];omega) (by rw[g3.2.2.2.1];exact hm);refine⟨F.fine,by have:=F.len;omega,by have:=F.aq;rw[g3.2.2.2.1] at this;exact this,by have:=F.grown;omega,g3.trans' F.keep,fun h=>(F.yes h).trans g3.2.2.2.2.2.2.2,fun h=>?_⟩;have:=F.no h;rw[g3.2.2.2.1,g3.2.2.2.2.2.2.2] at this;exact this
end Go.bh
namespace Go.Proofs.YtlbmkeimafgemaaGreatDoor
open Go.aT Go.Words Go.bh
set_option maxRecDepth 100000
abbrev bL(r:Rn)(a b c:Nat):Ob:=⟨73,[.c (.int .i64 r.g),.c (.rd (.sl (.int .i64)) r.ax),.c (.rd (.sl (.int .i64)) r.sub),.c (.int .i64 r.aq),.c (.int .i64 r.aF),.c (.int .i64 r.aj),.c (.int .i64 r.ay),.c (.int .i64 r.ph),.c (.int .i64 r.co),.c (.int .i64 r.ix),.c (.sl a 0 r.af.length 1),.c (.sl b 0 r.ah.length 1),.c (.sl c 0 r.dn 1)]⟩
abbrev aO(r:Rn):Ob:=⟨22,[.c (.th (2*r.g).toNat r.af)]⟩
abbrev obs(r:Rn):List Ob:=[bL r 1 2 3,aO r,aB r.ah,aB r.dl]
abbrev pR:A:=.p (.c (.ptr 0 0))
def Lv(i j m:Nat):List Ob->Option (Prop×Rn)
 | [⟨t,[.c (.int .i64 g),.c (.rd (.sl (.int .i64)) ax),.c (.rd (.sl (.int .i64)) sub),.c (.int .i64 aq),.c (.int .i64 aF),.c (.int .i64 aj),.c (.int .i64 ay),.c (.int .i64 ph),.c (.int .i64 co),.c (.int .i64 ix),.c (.sl a 0 nr 1),.c (.sl b 0 np 1),.c (.sl c 0 dn 1)]⟩,⟨t1,[.c (.th k af)]⟩,⟨t2,[.a 0 (.int .i64) ah]⟩,⟨t3,[.a 0 (.int .i64) dl]⟩] =>
   bif ab5 t 73&&(ab5 t1 22&&(ab5 t2 3&&(ab5 t3 3&&(ab5 a i&&(ab5 b j&&ab5 c m))))) then some (nr=af.length/\np=ah.length/\k=(2*g).toNat,⟨g,ax,sub,aq,aF,aj,ay,ph,co,ix,af,ah,dl,dn⟩) else none
 | _=>none
theorem Gb{i j m:Nat}{ar:List Ob}{c:Prop}{r:Rn}(e:Lv i j m ar=some (c,r))(hc:c):ar=[bL r i j m,aO r,aB r.ah,aB r.dl]:=by
 unfold Lv at e;split at e;obtain⟨hb,e1⟩:=aA.aH e;clear e;simp only[aci] at hb;obtain⟨h1,h2,h3,h4,h5,h6,h7⟩:=hb;cases abZ h1;cases abZ h2;cases abZ h3;cases abZ h4;cases abZ h5;cases abZ h6;cases abZ h7;cases e1;obtain⟨rfl,rfl,rfl⟩:=hc;rfl;cases e
def EO(ar:List Ob):Option (Prop×Rn):=Lv 1 2 3 ar
theorem rT{ar:List Ob}{c:Prop}{r:Rn}(e:EO ar=some (c,r))(hc:c):ar=obs r:=Gb e hc
theorem fR{x:Int}(h:0<=x):x=(x.toNat:Int):=by omega
def JI(f:Rn->Nat->Prop×A×Rn):bI:={ refs:=[true,false],keep:=some 1,f:=fun args ar=>match args with
 | [.p (.c (.ptr 0 0)),.p (.c (.int .i64 x))]=>match EO ar with
   | some (c,r)=>some (.p (c/\0<=x/\(f r x.toNat).1),(f r x.toNat).2.1,obs (f r x.toNat).2.2)
   | none=>none
 | _=>none }
theorem Lw{P:Program}{fn:FuncId}{f:Rn->Nat->Prop×A×Rn}(he:enters P fn=true)(h:∀ r a,(f r a).1->bn P fn 1 [pR,nI a] (obs r) (f r a).2.1 (obs (f r a).2.2)):aK P fn (JI f):=by
 refine⟨he,fun args ar c r aY e hc=>?_⟩;simp only[JI] at e;split at e;rename_i x;split at e;rename_i c1 r1 hr;cases e;obtain⟨h1,h2,h3⟩:=hc;have:=h _ _ h3;rw[<-fR h2] at this;rw[rT hr h1];exact this;cases e;cases e
def JJ(f:Rn->Nat->Nat->Prop×A×Rn):bI:={ refs:=[true,false,false],keep:=some 1,f:=fun args ar=>match args with
 | [.p (.c (.ptr 0 0)),.p (.c (.int .i64 x)),.p (.c (.int .i64 y))]=>match EO ar with
   | some (c,r)=>some (.p (c/\0<=x/\0<=y/\(f r x.toNat y.toNat).1),(f r x.toNat y.toNat).2.1,obs (f r x.toNat y.toNat).2.2)
   | none=>none
 | _=>none }
theorem Lx{P:Program}{fn:FuncId}{f:Rn->Nat->Nat->Prop×A×Rn}(he:enters P fn=true)(h:∀ r a b,(f r a b).1->bn P fn 1 [pR,nI a,nI b] (obs r) (f r a b).2.1 (obs (f r a b).2.2)):aK P fn (JJ f):=by
 refine⟨he,fun args ar c r aY e hc=>?_⟩;simp only[JJ] at e;split at e;rename_i x y;split at e;rename_i c1 r1 hr;cases e;obtain⟨h1,h2,h3,h4⟩:=hc;have:=h _ _ _ h4;rw[<-fR h2,<-fR h3] at this;rw[rT hr h1];exact this;cases e;cases e
def R8(f:Rn->Nat->Nat->Nat->Prop×A×Rn):bI:={ refs:=[true,false,false,false],keep:=some 1,f:=fun args ar=>match args with
 | [.p (.c (.ptr 0 0)),.p (.c (.int .i64 x)),.p (.c (.int .i64 y)),.p (.c (.int .i64 z))]=>match EO ar with
   | some (c,r)=>some (.p (c/\0<=x/\0<=y/\0<=z/\(f r x.toNat y.toNat z.toNat).1),(f r x.toNat y.toNat z.toNat).2.1,obs (f r x.toNat y.toNat z.toNat).2.2)
   | none=>none
 | _=>none }
theorem ZK{P:Program}{fn:FuncId}{f:Rn->Nat->Nat->Nat->Prop×A×Rn}(he:enters P fn=true)(h:∀ r a b c,(f r a b c).1->bn P fn 1 [pR,nI a,nI b,nI c] (obs r) (f r a b c).2.1 (obs (f r a b c).2.2)):aK P fn (R8 f):=by
 refine⟨he,fun args ar c r aY e hc=>?_⟩;simp only[R8] at e;split at e;rename_i x y z;split at e;rename_i c1 r1 hr;cases e;obtain⟨h1,h2,h3,h4,h5⟩:=hc;have:=h _ _ _ _ h5;rw[<-fR h2,<-fR h3,<-fR h4] at this;rw[rT hr h1];exact this;cases e;cases e
theorem R9(x:Int)(h:-1000<=x/\x<=1000):bA Tryz.prog 102 [nI x] [] (nI (bT x)) []:=by
 refine bO (aj:=[]) aE Tryz.func102 (by kernel_rfl) (keep:=0) rfl (by kernel_rfl) 100 ?_;apply of_eq (q:=let q0:=IntKind.i64.wrap;aD [vI (max (q0 (q0 ((2:Int)*x)-2)) (q0 (q0 ((-2:Int)*x)-1)))]=nI (bT x)/\([]:List Ob)=[]) (by kernel_rfl)
 try simp only[and_true]
 rw[wrap64 (n:=2*x) (by omega) (by omega),wrap64 (n:=-2*x) (by omega) (by omega),wrap64 (n:=2*x-2) (by omega) (by omega),wrap64 (n:=-2*x-1) (by omega) (by omega)];rfl
def cCol:bI:=jJ (.int .i64) fun x=>(.p (-1000<=(show Int from x)/\(show Int from x)<=1000),nI (bT x),[])
theorem cCol_ok:aK Tryz.prog 102 cCol:=fE (by kernel_rfl) fun x h=>R9 x h
theorem V4(r:Rn)(a:Nat)(h:a<r.ah.length):bn Tryz.prog 45 1 [pR,nI a] (obs r) (bB (decide (r.ah.getD a 0=a))) (obs r):=by
 refine bJ (aj:=[]) (bZ:=[]) (fz:=[]) aE Tryz.func45 (by kernel_rfl) 1 (by kernel_rfl) 100 ?_;apply of_eq (q:=((0:Int)<=(a:Int)/\(a:Int)<(r.ah.length:Int))/\(0:Nat)+a<r.ah.length/\aD [vB (decide (r.ah.getD ((0:Nat)+a) (0:Int)=(a:Int)))]=bB (decide (r.ah.getD a (0:Int)=(a:Int)))/\[bL r (1:Nat) (2:Nat) (3:Nat),aO r,aB r.ah,aB r.dl]=obs r) (by kernel_rfl)
 try simp only[sL,Nat.reduceAdd]
 exact⟨by omega,h,rfl⟩
def Ly:bI:=JI fun r a=>(a<r.ah.length,bB (decide (r.ah.getD a 0=a)),r)
theorem Ir:aK Tryz.prog 45 Ly:=Lw (by kernel_rfl) fun r a h=>V4 r a h
theorem qN(c:Nat)(h:c<64):IntKind.i64.wrap ↑(BitVec.ofInt 64 (c:Int) ^^^ BitVec.ofInt 64 1).toNat=(bQ c:Int):=by
 revert c;decide +kernel
theorem qL{c g:Nat}(h:c<2*g):bQ c<2*g:=by unfold bQ;split<;>omega
theorem V5(r:Rn)(a c b:Nat)(h:a<r.af.length/\b<r.af.length/\c<(2*r.g).toNat/\r.g<=16):bn Tryz.prog 86 1 [pR,nI a,nI c,nI b] (obs r) (.aJ []) (obs (join r a c b)):=by
 refine bJ (aj:=[]) (bZ:=[]) (fz:=[]) aE Tryz.func86 (by kernel_rfl) 1 (by kernel_rfl) 100 ?_;apply of_eq (q:=let q0:=IntKind.i64.wrap;let q1:=(↑(BitVec.ofInt (64:Nat) (c:Int) ^^^ BitVec.ofInt (64:Nat) (1:Int)).toNat:Int);let q2:=(r.af.set ((0:Nat)+a) ((r.af.getD ((0:Nat)+a) []).set c (b:Int)));let q3:=((2:Int)*r.g);((0:Int)<=(a:Int)/\(a:Int)<(r.af.length:Int))/\(0:Nat)+a<r.af.length/\((0:Int)<=(b:Int)/\(b:Int)<(r.af.length:Int))/\(0:Nat)+b<r.af.length/\((0:Int)<=(c:Int)/\(c:Int)<(↑q3.toNat:Int))/\((0:Nat)+a<r.af.length/\c<q3.toNat)/\((0:Int)<=q0 q1/\q0 q1<(↑q3.toNat:Int))/\((0:Nat)+b<q2.length/\(q0 q1).toNat<q3.toNat)/\aD []=A.aJ []/\[bL r (1:Nat) (2:Nat) (3:Nat),Ob.mk 22 [Fd.c (W.th q3.toNat (q2.set ((0:Nat)+b) ((q2.getD ((0:Nat)+b) []).set (q0 q1).toNat (a:Int))))],aB r.ah,aB r.dl]=obs (join r a c b)) (by kernel_rfl)
 try simp only[ach,Nat.reduceAdd]
 have hf:=@qL c r.g.toNat (by omega);rw[qN c (by omega)];simp only[ab4,acf];refine⟨by omega,by omega,by omega,by omega,by omega,by omega,by omega,by omega,rfl,?_⟩;simp only[obs,bL,aO,join,eJ,ab4]
def Ae:bI:=R8 fun r a c b=>(a<r.af.length/\b<r.af.length/\c<(2*r.g).toNat/\r.g<=16,.aJ [],join r a c b)
theorem uM:aK Tryz.prog 86 Ae:=ZK (by kernel_rfl) fun r a c b h=>V5 r a c b h
def ZL:bN:=[(45,Ly)]
theorem Px:bp Tryz.prog ZL:=av Ir aE
def sTop:Site:=bD Tryz.prog ZL Tryz.f120 1 [([0,0,1],[0,1])] [] []
theorem Lz(r:Rn)(hp:dY r.ah)(b:Nat):∀(n a:Nat),a<n->a<r.ah.length->b=top r.ah a->
 au sTop (aC (nI b) (obs r)) [0,0,1] (fr [(0,pR),(1,nI a)]) (.ofList (obs r))
 | n,a,hn,ha,hb=>by
   refine aL Px (by kernel_rfl) 100 ?_;apply of_eq (q:=((r.af.length=r.af.length/\r.ah.length=r.ah.length/\((2:Int)*r.g).toNat=((2:Int)*r.g).toNat)/\(0:Int)<=(a:Int)/\a<r.ah.length)/\((!decide (r.ah.getD a (0:Int)=(a:Int)))=true->((0:Int)<=(a:Int)/\(a:Int)<(r.ah.length:Int))/\(0:Nat)+a<r.ah.length/\au sTop (aC (nI (b:Int)) (obs r)) [0,0,1] (fr [(0,aR 0 0),(1,nI (r.ah.getD ((0:Nat)+a) (0:Int)))]) (ak.ofList [bL r 1 2 3,aO r,aB r.ah,aB r.dl]))/\((!decide (r.ah.getD a (0:Int)=(a:Int)))=false->aD [vI (a:Int)]=nI (b:Int)/\[bL r (1:Nat) (2:Nat) (3:Nat),aO r,aB r.ah,aB r.dl]=obs r)) (by kernel_rfl)
   try simp only[sL,Nat.reduceAdd]
   have:=hp.2 a ha;refine⟨⟨by omega,ha⟩,fun h=>⟨by omega,ha,?_⟩,fun h=>?_⟩
   . rw[iH hp ha h] at hb;have e:=fR this.1;rw[e];cases n with
     | zero=>omega
     | succ n=>exact Lz r hp b n _ (by omega) (by omega) hb
   rw[dz h] at hb;rw[hb];rfl
theorem top_sem(r:Rn)(hp:dY r.ah)(a:Nat)(ha:a<r.ah.length):bn Tryz.prog 120 1 [pR,nI a] (obs r) (nI (top r.ah a)) (obs r):=by
 refine bJ (aj:=[([0,0,1],[0,1])]) (bZ:=[]) (fz:=[]) Px Tryz.func120 (by kernel_rfl) 1 (by kernel_rfl) 100 ?_;apply of_eq (q:=au (bD Tryz.prog ZL Tryz.f120 (1:Nat) [([0,0,1],[0,1])] [] []) (aC (nI (↑(top r.ah a):Int)) (obs r)) [0,0,1] (fr [(0,aR 0 0),(1,nI (a:Int))]) (ak.ofList [bL r 1 2 3,aO r,aB r.ah,aB r.dl])) (by kernel_rfl)
 try simp only[sL,Int.reduceEq,Int.reduceNe,Nat.reduceAdd]
 exact Lz r hp _ (a+1) a (by omega) ha rfl
def ZM:bI:=JI fun r a=>(dY r.ah/\a<r.ah.length,nI (top r.ah a),r)
theorem Py:aK Tryz.prog 120 ZM:=Lw (by kernel_rfl) fun r a h=>top_sem r h.1 a h.2
def gMe:bN:=[(120,ZM)]
theorem gMe_ok:bp Tryz.prog gMe:=av Py aE
theorem V6(r:Rn)(hp:dY r.ah)(a b:Nat)(ha:a<r.ah.length/\b<r.ah.length/\r.dn<=r.dl.length/\r.dn<=1000000/\0<=r.aj/\r.aj<=1000000):bn Tryz.prog 119 1 [pR,nI a,nI b] (obs r) (.aJ []) (obs (merge r a b)):=by
 refine bJ (aj:=[]) (bZ:=[]) (fz:=[]) gMe_ok Tryz.func119 (by kernel_rfl) 1 (by kernel_rfl) 100 ?_;apply of_eq (q:=let q1:=(↑(top r.ah a):Int);let q2:=(↑(top r.ah b):Int);let q3:=r.ah.length=r.ah.length/\((2:Int)*r.g).toNat=((2:Int)*r.g).toNat;((r.af.length=r.af.length/\q3)/\(0:Int)<=(a:Int)/\dY r.ah/\a<r.ah.length)/\((r.af.length=r.af.length/\q3)/\(0:Int)<=(b:Int)/\dY r.ah/\b<r.ah.length)/\((!decide (q1=q2))=true->((0:Int)<=max q1 q2/\max q1 q2<(r.ah.length:Int))/\(0:Nat)+(max q1 q2).toNat<r.ah.length/\(0:Nat)+1<=1/\((0:Nat)+r.dn<=r.dl.length/\(r.dn+1)*8<=140737488355328)/\aD []=A.aJ []/\[Ob.mk 73 [fI r.g,fL r.ax,fL r.sub,fI r.aq,fI r.aF,fI (IntKind.i64.wrap (r.aj-1)),fI r.ay,fI r.ph,fI r.co,fI r.ix,fS 1 0 r.af.length,fS 2 0 r.ah.length,fS 3 0 (r.dn+1)],aO r,aB (r.ah.set ((0:Nat)+(max q1 q2).toNat) (min q1 q2)),aB (ab6 r.dn (acd (0:Nat) r.dl)++ab6 (1:Nat) (acd (0:Nat) [max q1 q2]))]=obs (merge r a b))/\((!decide (q1=q2))=false->aD []=A.aJ []/\[bL r (1:Nat) (2:Nat) (3:Nat),aO r,aB r.ah,aB r.dl]=obs (merge r a b))) (by kernel_rfl)
 try simp only[sL,Nat.reduceAdd]
 obtain⟨ha,hb,h1,h2,h3,h4⟩:=ha;have ta:=fQ hp ha;have tb:=fQ hp hb;rw[wrap64 (n:=r.aj-1) (by omega) (by omega)];have e1:(max ((top r.ah a:Nat):Int) ((top r.ah b:Nat):Int))=((max (top r.ah a) (top r.ah b):Nat):Int):=by omega
 have e2:(min ((top r.ah a:Nat):Int) ((top r.ah b:Nat):Int))=((min (top r.ah a) (top r.ah b):Nat):Int):=by omega
 rw[e1,e2,acf];refine⟨⟨by omega,hp,ha⟩,⟨by omega,hp,hb⟩,fun h=>⟨by omega,by omega,by omega,rfl,?_⟩,fun h=>⟨rfl,?_⟩⟩;unfold merge;rw[if_neg (by omega)];simp only[obs,bL,aO,ab4];unfold merge;rw[if_pos (by omega)]
def V7:bI:=JJ fun r a b=>(dY r.ah/\a<r.ah.length/\b<r.ah.length/\r.dn<=r.dl.length/\r.dn<=1000000/\0<=r.aj/\r.aj<=1000000,.aJ [],merge r a b)
theorem V8:aK Tryz.prog 119 V7:=Lx (by kernel_rfl) fun r a b h=>V6 r h.1 a b h.2
def gCi:bN:=[(120,ZM),(119,V7),(86,Ae)]
theorem LA:bp Tryz.prog gCi:=av Py (av V8 (av uM aE))
abbrev LB:List (List Nat×List Nat):=[([0,1,1,1],[0,6]),([0,1,1,0,0,1,0,0,1,1,1],[0,6,7,47,48])]
def EP:Site:=bD Tryz.prog gCi Tryz.f103 1 LB [] []
theorem LC(r0:Rn)(k e G:Nat):∀(n c:Nat)(r:Rn),cH r->(2*r.g).toNat=G->e<r.af.length->c+n=G->k<1000000->
 au EP (aC (.aJ []) (obs r0)) [0,1,1,1] (fr [(0,pR),(6,nI (k+1:Nat))]) (.ofList (obs (eV e n c r)))->
 au EP (aC (.aJ []) (obs r0)) [0,1,1,0,0,1,0,0,1,1,1] (fr [(0,pR),(6,nI k),(7,nI e),(47,nI G),(48,nI c)]) (.ofList (obs r))
 | n,c,r,T,hG,he,hn,hk,hout=>by
   refine aL LA (by kernel_rfl) 100 ?_;apply of_eq (q:=let q0:=IntKind.i64.wrap;let q8:=((2:Int)*r.g);let aU:=(0:Int);let bC:=r.ah.length=r.ah.length/\q8.toNat=q8.toNat;let d9:=(↑(top r.ah e):Int);let lM:=(↑q8.toNat:Int);let jA:=[0,1,1,0,0,1,0,0,1,1,1];let kr:=r.dn<=r.dl.length/\r.dn<=1000000/\aU<=r.aj/\r.aj<=1000000;let gL:=(c:Int);let nP:=(ak.ofList [bL r 1 2 3,aO r,aB r.ah,aB r.dl]);let mU:=(0:Nat);let q5:=(↑(BitVec.ofInt (64:Nat) gL ^^^ BitVec.ofInt (64:Nat) (1:Int)).toNat:Int);let q7:=(fr [(0,aR 0 0),(6,nI (k:Int)),(7,nI (e:Int)),(47,nI (G:Int)),(48,nI (q0 (gL+1)))]);let q9:=(r.af.getD (mU+e) []);let cK:=(q0 q5);let kV:=(r.af.set (mU+e) (q9.set c (-1:Int)));let jB:=mU+e<r.af.length;let q6:=(q9.getD c aU);let eW:=(↑(top r.ah q6.toNat):Int);let q1:=(kV.set (mU+q6.toNat) ((kV.getD (mU+q6.toNat) []).set cK.toNat (-1:Int)));let bF:=(q1.getD (mU+top r.ah q6.toNat) []);let cA:=(Rn.mk r.g r.ax r.sub r.aq r.aF r.aj r.ay r.ph r.co r.ix q1 r.ah r.dl r.dn);let cU:=(q1.getD (mU+top r.ah e) []);let eC:=mU+top r.ah q6.toNat<q1.length;let dP:=mU+top r.ah e<q1.length;let yX:=q1.length=q1.length;let q2:=(merge cA (bF.getD cK.toNat aU).toNat (top r.ah e));let q3:=(merge cA (cU.getD c aU).toNat (top r.ah q6.toNat));let q4:=(join cA (top r.ah e) c (top r.ah q6.toNat));(decide (gL<(G:Int))=true->(aU<=(e:Int)/\(e:Int)<(r.af.length:Int))/\jB/\(aU<=gL/\gL<lM)/\(jB/\c<q8.toNat)/\(decide (q9.getD c aU<0)=true->au EP (aC (A.aJ []) (obs r0)) jA q7 nP)/\(decide (q9.getD c aU<0)=false->(aU<=(e:Int)/\(e:Int)<(r.af.length:Int))/\jB/\(aU<=q9.getD c aU/\q9.getD c aU<(r.af.length:Int))/\mU+q6.toNat<r.af.length/\(aU<=gL/\gL<lM)/\(jB/\c<q8.toNat)/\(aU<=q0 q5/\q0 q5<lM)/\(mU+q6.toNat<kV.length/\cK.toNat<q8.toNat)/\((r.af.length=q1.length/\bC)/\aU<=(e:Int)/\dY r.ah/\e<r.ah.length)/\((yX/\bC)/\aU<=q9.getD c aU/\dY r.ah/\q6.toNat<r.ah.length)/\(aU<=d9/\d9<(↑q1.length:Int))/\dP/\(aU<=gL/\gL<lM)/\(dP/\c<q8.toNat)/\(decide (aU<=cU.getD c aU)=true->(aU<=d9/\d9<(↑q1.length:Int))/\dP/\(aU<=gL/\gL<lM)/\(dP/\c<q8.toNat)/\((yX/\bC)/\aU<=cU.getD c aU/\aU<=eW/\dY r.ah/\(cU.getD c aU).toNat<r.ah.length/\top r.ah q6.toNat<r.ah.length/\kr)/\au EP (aC (A.aJ []) (obs r0)) jA q7 (ak.ofList [Ob.mk 73 [fI q3.g,fL q3.ax,fL q3.sub,fI q3.aq,fI q3.aF,fI q3.aj,fI q3.ay,fI q3.ph,fI q3.co,fI q3.ix,fS 1 0 q3.af.length,fS 2 0 q3.ah.length,fS 3 0 q3.dn],Ob.mk 22 [Fd.c (W.th ((2:Int)*q3.g).toNat q3.af)],aB (q3.ah),aB (q3.dl)]))/\(decide (aU<=cU.getD c aU)=false->(aU<=eW/\eW<(↑q1.length:Int))/\eC/\(aU<=q0 q5/\q0 q5<lM)/\(eC/\cK.toNat<q8.toNat)/\(decide (aU<=bF.getD cK.toNat aU)=true->(aU<=eW/\eW<(↑q1.length:Int))/\eC/\(aU<=q0 q5/\q0 q5<lM)/\(eC/\cK.toNat<q8.toNat)/\((yX/\bC)/\aU<=bF.getD cK.toNat aU/\aU<=d9/\dY r.ah/\(bF.getD cK.toNat aU).toNat<r.ah.length/\top r.ah e<r.ah.length/\kr)/\au EP (aC (A.aJ []) (obs r0)) jA q7 (ak.ofList [Ob.mk 73 [fI q2.g,fL q2.ax,fL q2.sub,fI q2.aq,fI q2.aF,fI q2.aj,fI q2.ay,fI q2.ph,fI q2.co,fI q2.ix,fS 1 0 q2.af.length,fS 2 0 q2.ah.length,fS 3 0 q2.dn],Ob.mk 22 [Fd.c (W.th ((2:Int)*q2.g).toNat q2.af)],aB (q2.ah),aB (q2.dl)]))/\(decide (aU<=bF.getD cK.toNat aU)=false->((yX/\bC)/\aU<=d9/\aU<=gL/\aU<=eW/\top r.ah e<q1.length/\top r.ah q6.toNat<q1.length/\c<q8.toNat/\r.g<=16)/\au EP (aC (A.aJ []) (obs r0)) jA q7 (ak.ofList [Ob.mk 73 [fI q4.g,fL q4.ax,fL q4.sub,fI q4.aq,fI q4.aF,fI q4.aj,fI q4.ay,fI q4.ph,fI q4.co,fI q4.ix,fS 1 0 q4.af.length,fS 2 0 q4.ah.length,fS 3 0 q4.dn],aO q4,aB (q4.ah),aB (q4.dl)])))))/\(decide (gL<(G:Int))=false->au EP (aC (A.aJ []) (obs r0)) [0,1,1,1] (fr [(0,aR 0 0),(6,nI (q0 ((k:Int)+1)))]) nP)) (by kernel_rfl)
   try simp only[sL]
   have hg:=T.g2;have ko:=T.g1;have hl:=T.len;have hp:=T.ah.1;have hal:=rz r.ah;have hlv:=T.aj;have hsum:=T.sum;have V9:=T.dy;rw[wrap64 (n:=(c:Int)+1) (by omega) (by omega),wrap64 (n:=(k:Int)+1) (by omega) (by omega)];refine⟨fun h=>?_,fun h=>?_⟩
   . have hc:c<G:=by omega
     have hcell:=T.cell he (by omega:c<(2*r.g).toNat);cases n with
     | zero=>omega
     | succ n =>
     have ih:=LC r0 k e G n (c+1) (cell r e c) hcell.1 (by rw[hcell.2.2];exact hG) (by omega) (by omega) hk hout;have hr:=dM T.row he (by omega:c<(2*r.g).toNat);have hfl:=T.flip (by omega:c<(2*r.g).toNat);rw[qN c (by omega)];simp only[acf,kC,Lr];refine⟨by omega,by omega,by omega,by omega,fun hd=>?_,fun hd=>?_⟩;rw[cell,if_pos hd] at ih;exact ih;have T1:cH (ck r e c):=T.dead (c:=c) he (by omega);have hlen:(ck r e c).af.length=r.af.length:=by unfold ck;simp only[cM]
     have pu:=fQ T.ah (show e<r.ah.length by omega);have pv:=fQ T.ah (show (aZ r.af e c).toNat<r.ah.length by omega);have r1:=dM T1.row (a:=top r.ah e) (c:=c) (by omega) (by show c<(2*r.g).toNat;omega);have r2:=dM T1.row (a:=top r.ah (aZ r.af e c).toNat) (c:=bQ c) (by omega) hfl;rw[hlen] at r1 r2;rw[cell,if_neg (by omega),kf] at ih;have hT:(ck r e c).af=eJ (eJ r.af e c (-1)) (aZ r.af e c).toNat (bQ c) (-1):=rfl;rw[hT] at ih r1 r2;simp only[cM];have hpar:=T.ah;have hpl:r.ah.length=r.af.length:=hl;rw[hpl];refine⟨by omega,by omega,by omega,by omega,by omega,by omega,by omega,by omega,⟨by first|trivial|omega,by omega,hpar,by omega⟩,⟨by omega,hpar,by omega⟩,by omega,by omega,by omega,by omega,fun h1=>⟨by omega,by omega,by omega,by omega,⟨by omega,by omega,hpar,by omega⟩,?_⟩,fun h1=>⟨by omega,by omega,by omega,by omega,fun h2=>⟨by omega,by omega,by omega,by omega,⟨by omega,by omega,hpar,by omega⟩,?_⟩,fun h2=>⟨by omega,?_⟩⟩⟩;rw[if_pos h1] at ih;exact ih;rw[if_neg (by omega),if_pos h2] at ih;exact ih;rw[if_neg (by omega),if_neg (by omega)] at ih;exact ih
   rw[show n=0 by omega,eV] at hout;exact hout
theorem LD(r0:Rn)(G:Nat):∀(f k:Nat)(r:Rn),cH r->(2*r.g).toNat=G->r0=jw G f k r->f+k=r.af.length+1->0<r.af.length->
 au EP (aC (.aJ []) (obs r0)) [0,1,1,1] (fr [(0,pR),(6,nI k)]) (.ofList (obs r))
 | f, k, r, T, hG, h0, hf, hn => by
   have hout:=fun(h0:0<f) h1 h2=>LD r0 G (f-1) (k+1) (eV (r.dl.getD k 0).toNat G 0 r) h1 h2;refine aL LA (by kernel_rfl) 100 ?_;apply of_eq (q:=(decide ((k:Int)<(r.dn:Int))=true->((0:Int)<=(k:Int)/\(k:Int)<(r.dn:Int))/\(0:Nat)+k<r.dl.length/\((0:Int)<=r.dl.getD ((0:Nat)+k) (0:Int)/\r.dl.getD ((0:Nat)+k) (0:Int)<(r.af.length:Int))/\(0:Nat)+(r.dl.getD ((0:Nat)+k) (0:Int)).toNat<r.af.length/\au EP (aC (A.aJ []) (obs r0)) [0,1,1,0,0,1,0,0,1,1,1] (fr [(0,aR 0 0),(6,nI (k:Int)),(7,nI (r.dl.getD ((0:Nat)+k) (0:Int))),(47,nI (↑((2:Int)*r.g).toNat:Int)),(48,nI (0))]) (ak.ofList [bL r 1 2 3,aO r,aB r.ah,aB r.dl]))/\(decide ((k:Int)<(r.dn:Int))=false->aD []=A.aJ []/\[bL r (1:Nat) (2:Nat) (3:Nat),aO r,aB r.ah,aB r.dl]=obs r0)) (by kernel_rfl)
   try simp only[sL,Nat.reduceAdd]
   have hl:=T.len;have hp:=T.ah.1;have hal:=Ad T.ah (by omega);have hsum:=T.sum;have V9:=T.dy;refine⟨fun h=>?_,fun h=>?_⟩
   . have hd:=T.dx _ (fB (l:=r.dl) (a:=k) (by omega));obtain⟨T1,h1,h2⟩:=cH.cells G 0 T (show (r.dl.getD k 0).toNat<r.af.length by omega) (by omega);refine⟨by omega,by omega,by omega,by omega,?_⟩;cases f with
     | zero=>omega
     | succ f =>
     rw[jw,if_pos (by omega)] at h0;have:=LC r0 k (r.dl.getD k 0).toNat G G 0 r T hG (by omega) (by omega) (by omega) (hout (by omega) T1 (by rw[h2];exact hG) h0 (by rw[h1];omega) (by omega));rw[<-fR hd.1,<-hG] at this;exact this
   have:jw G f k r=r:=by
    cases f with
    | zero=>rfl
    | succ f=>rw[jw,if_neg (by omega)]
   rw[this] at h0;rw[h0];exact⟨rfl,rfl⟩
 termination_by f=>f
 decreasing_by omega
theorem LF(r:Rn)(a b:Nat)(T:cH { r with dn:=0 })(ha:a<r.af.length)(hb:b<r.af.length):bn Tryz.prog 103 1 [pR,nI a,nI b] (obs r) (.aJ []) (obs (coincide r a b)):=by
 refine bJ (aj:=LB) (bZ:=[]) (fz:=[]) LA Tryz.func103 (by kernel_rfl) 1 (by kernel_rfl) 100 ?_;apply of_eq (q:=let q1:=(merge (Rn.mk r.g r.ax r.sub r.aq r.aF r.aj r.ay r.ph r.co r.ix r.af r.ah r.dl (0:Nat)) a b);((0:Int)<=0/\(0:Int)<=0/\(0:Int)<=(r.dn:Int))/\((r.af.length=r.af.length/\r.ah.length=r.ah.length/\((2:Int)*r.g).toNat=((2:Int)*r.g).toNat)/\(0:Int)<=(a:Int)/\(0:Int)<=(b:Int)/\dY r.ah/\a<r.ah.length/\b<r.ah.length/\(0:Nat)<=r.dl.length/\(0:Nat)<=1000000/\(0:Int)<=r.aj/\r.aj<=1000000)/\au (bD Tryz.prog gCi Tryz.f103 (1:Nat) LB [] []) (aC (A.aJ []) (obs (coincide r a b))) [0,1,1,1] (fr [(0,aR 0 0),(6,nI (0))]) (ak.ofList [Ob.mk 73 [fI q1.g,fL q1.ax,fL q1.sub,fI q1.aq,fI q1.aF,fI q1.aj,fI q1.ay,fI q1.ph,fI q1.co,fI q1.ix,fS 1 0 q1.af.length,fS 2 0 q1.ah.length,fS 3 0 q1.dn],aO q1,aB (q1.ah),aB (q1.dl)])) (by kernel_rfl)
 try simp only[sL]
 have hl:=T.len;have hp:=T.ah;have hal:=rz r.ah;have hlv:r.aj=(al r.ah:Nat):=T.aj;have hlen:=hp.1;have hl:r.ah.length=r.af.length:=hl;have hpp:dY r.ah:=hp;have hll:r.ah.length<=1000000:=hlen;have hm:=lK { r with dn:=0 } a b;refine⟨by omega,⟨by omega,by omega,hpp,by omega⟩,?_⟩;have T1:=T.merge ha hb;have:=LD (coincide r a b) (2*r.g).toNat (r.af.length+1) 0 _ T1 (by rw[hm.2]) (by unfold coincide;rfl) (by rw[hm.1]) (by rw[hm.1];exact Nat.lt_of_le_of_lt (acA a) ha);exact this
def cCoin:bI:=JJ fun r a b=>(br r/\a<r.af.length/\b<r.af.length,.aJ [],coincide r a b)
theorem ZN:aK Tryz.prog 103 cCoin:=Lx (by kernel_rfl) fun r a b h=>LF r a b h.1 h.2.1 h.2.2
def gSc:bN:=[(102,cCol),(103,cCoin),(86,Ae)]
theorem LG:bp Tryz.prog gSc:=av cCol_ok (av ZN (av uM aE))
abbrev LH:List (List Nat×List Nat):=[([0,0,1,1],[0,2,6,9,10,11]),([0,0,1,1,1],[0,2,6,9,10,11])]
def Wa:Site:=bD Tryz.prog gSc Tryz.f85 1 LH [] []
abbrev lN(x:Rn×Nat×Nat×Bool):A:=.aJ [.c (.int .i64 x.2.1),.c (.int .i64 x.2.2.1),.c (.bool x.2.2.2)]
theorem Wb(r : Rn)(w : List Int)(x : Rn × Nat × Nat × Bool)(T : br r)(hw : Wd r.g w)(f i : Nat)(hf : f < r.af.length)(hi : i ≤ w.length) : ∀(n b j : Nat), j ≤ i + n → i ≤ j → j ≤ w.length → b < r.af.length → x = qe r w f i (gi r.af w i n b j).1 (gi r.af w i n b j).2 →
 au Wa (aC (lN x) (obs x.1)) [0,0,1,1,1] (fr [(0,pR),(2,bw w),(6,nI f),(9,nI b),(10,nI i),(11,nI j)]) (.ofList (obs r))
 | n, b, j, hn, hij, hj, hb, hx => by
   refine aL LG (by kernel_rfl) 100 ?_;apply of_eq (q:=let q0:=IntKind.i64.wrap;let q4:=(0:Nat)+b<r.af.length;let q5:=(coincide r f b);let q6:=(0:Int);let q8:=(R1.pure (Cd.t.and Cd.t) (aS 1 0 r.af.length));let q9:=((2:Int)*r.g);let bC:=(join r f (bT (w.getD i q6)).toNat b);let cU:=(i:Int);let eW:=(j:Int);let q1:=decide (cU<eW)=true;let q3:=(W.row (1:Nat) ((0:Nat)+b) q9.toNat);let aU:=(R1.pure (Cd.t.and (Cd.p (q4))) (aP q3));let bF:=(q0 (eW-1));let cA:=A.cond (q1) (V.c (W.sl 1 0 r.af.length 1))=A.cond (q1) (V.c (W.sl 1 0 r.af.length 1));let q2:=(q6-w.getD bF.toNat q6);let q7:=(q0 q2);let cK:=decide (q6<=(r.af.getD ((0:Nat)+b) []).getD (bT q7).toNat q6);(q1->q1)/\(q1->q1)/\(q1->q1)/\(q1->q1)/\(q1->q1)/\(q1->q6<=(b:Int)/\(b:Int)<(r.af.length:Int))/\(q1->q1)/\(q1->q4)/\(q1->q1)/\(q1->q1)/\(q1->q1)/\(q1->q6<=q0 (eW-1)/\q0 (eW-1)<(w.length:Int))/\(q1->q1)/\(q1->bF.toNat<w.length)/\(q1->q1)/\(q1->q1)/\(q1->(-1000:Int)<=q0 q2/\q0 q2<=1000)/\(q1->q1)/\(q1->q1)/\(q1->q6<=bT q7/\bT q7<(↑q9.toNat:Int))/\(q1->q1)/\(q1->q4/\(bT q7).toNat<q9.toNat)/\(q1->q1)/\(q1->q1)/\(q1->q1)/\cA/\(q1->q1)/\cA/\(q1->q1)/\(q1->q4)/\A.cond (q1) (V.c q3)=A.cond (q1) (V.c q3)/\(q1->q1)/\(q1->q4)/\A.cond (q1) (V.c q3)=A.cond (q1) (V.c q3)/\((bif decide (cU<eW) then cK else false)=true->(q6<=(b:Int)/\(b:Int)<(r.af.length:Int))/\q4/\(q6<=q0 (eW-1)/\q0 (eW-1)<(w.length:Int))/\bF.toNat<w.length/\((-1000:Int)<=q0 q2/\q0 q2<=1000)/\(q6<=bT q7/\bT q7<(↑q9.toNat:Int))/\(q4/\(bT q7).toNat<q9.toNat)/\q8.v=q8.v/\q8.v=q8.v/\q4/\aU.v=aU.v/\q4/\aU.v=aU.v/\au Wa (aC (lN x) (obs x.fst)) [0,0,1,1,1] (fr [(0,aR 0 0),(2,bw w),(6,nI (f:Int)),(9,nI ((r.af.getD ((0:Nat)+b) []).getD (bT q7).toNat q6)),(10,nI cU),(11,nI bF)]) (ak.ofList [bL r 1 2 3,aO r,aB r.ah,aB r.dl]))/\((bif decide (cU<eW) then cK else false)=false->(decide (cU=eW)=true->((r.af.length=r.af.length/\r.ah.length=r.ah.length/\q9.toNat=q9.toNat)/\q6<=(f:Int)/\q6<=(b:Int)/\br r/\f<r.af.length/\b<r.af.length)/\aD [vI (0),vI (0),vB false]=lN x/\[Ob.mk 73 [fI q5.g,fL q5.ax,fL q5.sub,fI q5.aq,fI q5.aF,fI q5.aj,fI q5.ay,fI q5.ph,fI q5.co,fI q5.ix,fS 1 0 q5.af.length,fS 2 0 q5.ah.length,fS 3 0 q5.dn],aO q5,aB (q5.ah),aB (q5.dl)]=obs x.fst)/\(decide (cU=eW)=false->(decide (q0 (cU+1)=eW)=true->(q6<=cU/\cU<(w.length:Int))/\i<w.length/\((-1000:Int)<=w.getD i q6/\w.getD i q6<=1000)/\((r.af.length=r.af.length/\r.ah.length=r.ah.length/\q9.toNat=q9.toNat)/\q6<=(f:Int)/\q6<=bT (w.getD i q6)/\q6<=(b:Int)/\f<r.af.length/\b<r.af.length/\(bT (w.getD i q6)).toNat<q9.toNat/\r.g<=16)/\aD [vI (0),vI (0),vB false]=lN x/\[bL bC (1:Nat) (2:Nat) (3:Nat),aO bC,aB (bC.ah),aB (bC.dl)]=obs x.fst)/\(decide (q0 (cU+1)=eW)=false->(q6<=cU/\cU<(w.length:Int))/\i<w.length/\((-1000:Int)<=w.getD i q6/\w.getD i q6<=1000)/\aD [vI (f:Int),vI (bT (w.getD i q6)),vB true]=lN x/\[bL r (1:Nat) (2:Nat) (3:Nat),aO r,aB r.ah,aB r.dl]=obs x.fst)))) (by kernel_rfl)
   try simp only[sL,Nat.reduceAdd]
   have ko:1<=r.g:=T.g1;have kT:r.g<=16:=T.g2;have BU:=hw.1;have hwj:=hw.any (by omega) (j-1);rw[wrap64 (n:=(j:Int)-1) (by omega) (by omega),show ((j:Int)-1).toNat=j-1 by omega,wrap64 (n:=0-w.getD (j-1) 0) (by omega) (by omega),wrap64 (n:=(i:Int)+1) (by omega) (by omega),Int.zero_sub];simp only[kC];have hc:i<j->0<=bT (- w.getD (j-1) 0)/\bT (- w.getD (j-1) 0)<2*r.g:=fun h=>by
    have hg:=hw.get (show j-1<w.length by omega);exact iq (by omega)
   have hat:i<j->-1<=aZ r.af b (bT (- w.getD (j-1) 0)).toNat/\aZ r.af b (bT (- w.getD (j-1) 0)).toNat<r.af.length:=fun h=>by
    have:=hc h;exact T.at hb (by omega)
   have Wc:i<w.length->0<=bT (w.getD i 0)/\bT (w.getD i 0)<2*r.g:=fun h=>iq (hw.get h);refine⟨fun h=>by omega,fun h=>by omega,fun h=>by omega,fun h=>by omega,fun h=>by omega,fun h=>by have:=hc (by omega);omega,fun h=>by have:=hc (by omega);omega,fun h=>by omega,fun h=>by omega,fun h=>?_,fun h=>?_⟩
   . have hcc:=hc (by omega);have haa:=hat (by omega);refine⟨by omega,by omega,by omega,by omega,by omega,by omega,by omega,by omega,by omega,?_⟩;cases n with
     | zero=>omega
     | succ n =>
       rw[gi,if_pos ⟨by omega,h.2⟩] at hx;have:=Wb r w x T hw f i hf hi n _ (j-1) (by omega) (by omega) (by omega) (by omega) hx;rw[<-fR h.2,show ((j-1:Nat):Int)=(j:Int)-1 by omega] at this;exact this
   have hb0:gi r.af w i n b j=(b,j):=by
    cases n with
    | zero=>rfl
    | succ n =>
      rw[gi,if_neg];rintro⟨h1,h2⟩;have:=h (by omega);omega
   rw[hb0] at hx;have kU:x=qe r w f i b j:=hx;clear hx;unfold qe at kU;refine⟨fun h1=>⟨⟨by omega,by omega,T,hf,hb⟩,?_⟩,fun h1=>?_⟩;rw[if_pos (by omega)] at kU;subst kU;exact⟨rfl,rfl⟩;have hcc:=Wc (by omega);have hl1:=hw.any (by omega) i;refine⟨fun h2=>⟨by omega,by omega,by omega,by omega,?_⟩,fun h2=>⟨by omega,by omega,by omega,?_⟩⟩;rw[if_neg (by omega),if_pos (by omega)] at kU;subst kU;exact⟨rfl,rfl⟩;rw[if_neg (by omega),if_neg (by omega)] at kU;subst kU;simp only[lN];rw[<-fR hcc.1];exact⟨rfl,trivial⟩
theorem Wf(r : Rn)(w : List Int)(x : Rn × Nat × Nat × Bool)(T : br r)(hw : Wd r.g w)(b : Nat)(hb : b < r.af.length) : ∀(n f i : Nat), w.length ≤ i + n → i ≤ w.length → f < r.af.length → x = uL r b w (eD r.af w n f i).1 (eD r.af w n f i).2 →
 au Wa (aC (lN x) (obs x.1)) [0,0,1,1] (fr [(0,pR),(2,bw w),(6,nI f),(9,nI b),(10,nI i),(11,nI w.length)]) (.ofList (obs r))
 | n, f, i, hn, hi, hf, hx => by
   refine aL LG (by kernel_rfl) 100 ?_;apply of_eq (q:=let q3:=(0:Nat)+f<r.af.length;let q4:=(R1.pure (Cd.t.and Cd.t) (aS 1 0 r.af.length));let q9:=(w.length:Int);let aU:=(0:Int);let bC:=((2:Int)*r.g);let bF:=(ak.ofList [bL r 1 2 3,aO r,aB r.ah,aB r.dl]);let q1:=decide ((i:Int)<q9)=true;let q2:=(W.row (1:Nat) ((0:Nat)+f) bC.toNat);let q5:=(w.getD i aU);let q6:=(R1.pure (Cd.t.and (Cd.p (q3))) (aP q2));let q7:=A.cond (q1) (V.c (W.sl 1 0 r.af.length 1))=A.cond (q1) (V.c (W.sl 1 0 r.af.length 1));let q8:=decide (aU<=(r.af.getD ((0:Nat)+f) []).getD (bT q5).toNat aU);(q1->q1)/\(q1->q1)/\(q1->q1)/\(q1->q1)/\(q1->q1)/\(q1->aU<=(f:Int)/\(f:Int)<(r.af.length:Int))/\(q1->q1)/\(q1->q3)/\(q1->q1)/\(q1->q1)/\(q1->aU<=(i:Int)/\(i:Int)<q9)/\(q1->q1)/\(q1->i<w.length)/\(q1->q1)/\(q1->(-1000:Int)<=w.getD i aU/\w.getD i aU<=1000)/\(q1->q1)/\(q1->q1)/\(q1->aU<=bT q5/\bT q5<(↑bC.toNat:Int))/\(q1->q1)/\(q1->q3/\(bT q5).toNat<bC.toNat)/\(q1->q1)/\(q1->q1)/\(q1->q1)/\q7/\(q1->q1)/\q7/\(q1->q1)/\(q1->q3)/\A.cond (q1) (V.c q2)=A.cond (q1) (V.c q2)/\(q1->q1)/\(q1->q3)/\A.cond (q1) (V.c q2)=A.cond (q1) (V.c q2)/\((bif decide ((i:Int)<q9) then q8 else false)=true->(aU<=(f:Int)/\(f:Int)<(r.af.length:Int))/\q3/\(aU<=(i:Int)/\(i:Int)<q9)/\i<w.length/\((-1000:Int)<=w.getD i aU/\w.getD i aU<=1000)/\(aU<=bT q5/\bT q5<(↑bC.toNat:Int))/\(q3/\(bT q5).toNat<bC.toNat)/\q4.v=q4.v/\q4.v=q4.v/\q3/\q6.v=q6.v/\q3/\q6.v=q6.v/\au Wa (aC (lN x) (obs x.fst)) [0,0,1,1] (fr [(0,aR 0 0),(2,bw w),(6,nI ((r.af.getD ((0:Nat)+f) []).getD (bT q5).toNat aU)),(9,nI (b:Int)),(10,nI (IntKind.i64.wrap ((i:Int)+1))),(11,nI q9)]) bF)/\((bif decide ((i:Int)<q9) then q8 else false)=false->au Wa (aC (lN x) (obs x.fst)) [0,0,1,1,1] (fr [(0,aR 0 0),(2,bw w),(6,nI (f:Int)),(9,nI (b:Int)),(10,nI (i:Int)),(11,nI q9)]) bF)) (by kernel_rfl)
   try simp only[sL]
   have ko:1<=r.g:=T.g1;have kT:r.g<=16:=T.g2;have BU:=hw.1;have hwj:=hw.any (by omega) i;rw[wrap64 (n:=(i:Int)+1) (by omega) (by omega)];simp only[kC];have hc:i<w.length->0<=bT (w.getD i 0)/\bT (w.getD i 0)<2*r.g:=fun h=>iq (hw.get h);have hat:i<w.length->-1<=aZ r.af f (bT (w.getD i 0)).toNat/\aZ r.af f (bT (w.getD i 0)).toNat<r.af.length:=fun h=>by
    have:=hc h;exact T.at hf (by omega)
   refine⟨fun h=>by omega,fun h=>by omega,fun h=>by omega,fun h=>by omega,fun h=>by omega,fun h=>by have:=hc (by omega);omega,fun h=>by have:=hc (by omega);omega,fun h=>by omega,fun h=>by omega,fun h=>?_,fun h=>?_⟩
   . have hcc:=hc (by omega);have haa:=hat (by omega);refine⟨by omega,by omega,by omega,by omega,by omega,by omega,by omega,by omega,by omega,?_⟩;cases n with
     | zero=>omega
     | succ n =>
       rw[eD,if_pos ⟨by omega,h.2⟩] at hx;have:=Wf r w x T hw b hb n _ (i+1) (by omega) (by omega) (by omega) hx;rw[<-fR h.2] at this;exact this
   have hb0:eD r.af w n f i=(f,i):=by
    cases n with
    | zero=>rfl
    | succ n =>
      rw[eD,if_neg];rintro⟨h1,h2⟩;have:=h (by omega);omega
   rw[hb0] at hx;exact Wb r w x T hw f i hf hi w.length b w.length (by omega) hi (ab2 _) hb hx
theorem ZO(r:Rn)(a:Nat)(w:List Int)(T:br r)(hw:Wd r.g w)(ha:a<r.af.length):bn Tryz.prog 85 1 [pR,nI a,bw w] (obs r) (lN (scan r a w)) (obs (scan r a w).1):=by
 refine bJ (aj:=LH) (bZ:=[]) (fz:=[]) LG Tryz.func85 (by kernel_rfl) 1 (by kernel_rfl) 100 ?_;apply of_eq (q:=au (bD Tryz.prog gSc Tryz.f85 (1:Nat) LH [] []) (aC (lN (scan r a w)) (obs (scan r a w).fst)) [0,0,1,1] (fr [(0,aR 0 0),(2,bw w),(6,nI (a:Int)),(9,nI (a:Int)),(10,nI (0)),(11,nI (w.length:Int))]) (ak.ofList [bL r 1 2 3,aO r,aB r.ah,aB r.dl])) (by kernel_rfl)
 try simp only[sL,Int.reduceEq,Int.reduceNe,Nat.reduceAdd]
 exact Wf r w (scan r a w) T hw a ha w.length a 0 (by omega) (by omega) ha rfl
def Sb(f:Rn->Nat->List Int->Prop×A×Rn):bI:={ refs:=[true,false,false],keep:=some 1,f:=fun args ar=>match args with
 | [.p (.c (.ptr 0 0)),.p (.c (.int .i64 x)),w]=>match fP dI w,EO ar with
   | some w,some (c,r)=>some (.p (c/\0<=x/\(f r x.toNat w).1),(f r x.toNat w).2.1,obs (f r x.toNat w).2.2)
   | _,_=>none
 | _=>none }
theorem ZP{P:Program}{fn:FuncId}{f:Rn->Nat->List Int->Prop×A×Rn}(he:enters P fn=true)(h:∀ r a w,(f r a w).1->bn P fn 1 [pR,nI a,bw w] (obs r) (f r a w).2.1 (obs (f r a w).2.2)):aK P fn (Sb f):=by
 refine⟨he,fun args ar c r aY e hc=>?_⟩;simp only[Sb] at e;split at e;rename_i x w0;split at e
 . rename_i w c1 r1 hw hr;cases e;obtain⟨h1,h2,h3⟩:=hc;have:=h _ _ _ h3;rw[<-fR h2] at this;rw[rT hr h1];intro base η Z W vs R hvs hK
   match vs,hvs with
   | [u,v,t],⟨a1,a2,a3,_⟩=>exact this base η Z W _ R ⟨a1,a2,cg hw a3,trivial⟩ hK
 cases e;cases e
def cScan:bI:=Sb fun r a w=>(br r/\Wd r.g w/\a<r.af.length,lN (scan r a w),(scan r a w).1)
theorem ZQ:aK Tryz.prog 85 cScan:=ZP (by kernel_rfl) fun r a w h=>ZO r a w h.1 h.2.1 h.2.2
theorem Wg(n:Int)(h:0<=n/\n<=1000000):bA Tryz.prog 77 [.p (.c .nil),nI n] [] (eY 0 0) [aB (ab1 n.toNat 0)]:=by
 refine bO (aj:=[]) aE Tryz.func77 (by kernel_rfl) (keep:=0) rfl (by kernel_rfl) 100 ?_;apply of_eq (q:=let q0:=IntKind.i64.wrap;let q2:=(0:Int);let q1:=(n-q0 (q2-0));(decide (n<0)=true->False)/\(decide (n<0)=false->(decide (q2<q0 q1)=true->(q2=0/\q2=0)/\(q2<q0 q1/\(↑(8:Nat):Int)*q0 q1<=140737488355328)/\(q2<=0/\q2<=0/\q2<=(↑(q0 q1).toNat:Int))/\aD [V.c (W.sl (0:Nat) ((0:Nat)+0*1) (0:Nat) (1:Nat))]=eY (0:Nat) (0:Nat)/\[aB (ab1 (q0 q1).toNat q2)]=[aB (ab1 n.toNat q2)])/\(decide (q2<q0 q1)=false->aD [V.c (W.sl 0 0 0 1)]=eY (0:Nat) (0:Nat)/\[aB ([])]=[aB (ab1 n.toNat q2)]))) (by kernel_rfl)
 try simp only[sL]
 rw[wrap64 (n:=0-0) (by omega) (by omega),wrap64 (n:=n-(0-0)) (by omega) (by omega),show n-(0-0)=n by omega];refine⟨fun g=>by omega,fun _=>⟨fun g=>⟨by omega,by omega,rfl,rfl⟩,fun g=>⟨rfl,?_⟩⟩⟩;rw[show n.toNat=0 by omega];rfl
def LI:bI:={ refs:=[],f:=fun args ar=>match args,ar with | [.p (.c .nil),.p (.c (.int .i64 n))],[]=>some (.p (0<=n/\n<=1000000),eY 0 0,[aB (ab1 n.toNat 0)])|_,_=>none }
theorem Wh:aK Tryz.prog 77 LI:=by
 refine⟨by kernel_rfl,fun args ar c r aY e hc=>?_⟩;simp only[LI] at e;split at e;cases e;exact Wg _ hc;cases e
def Sc:bN:=[(77,LI)]
theorem Dk:bp Tryz.prog Sc:=av Wh aE
def sRepJ:Site:=bD Tryz.prog Lj Tryz.f62 0 [([0,0,1,1,1,1,1,1],[7,8])] [] []
theorem uN(x : List Int)(c : Nat)(hL : c * x.length ≤ 1000000) : ∀(k m : Nat)(l : List Int), k = c - m → (0 < m ∨ c = 0) → m ≤ c → l.length = c * x.length → l.take (m * x.length) = pw x m →
 au sRepJ (aC (eY 0 (c*x.length)) [aB (pw x c)]) [0,0,1,1,1,1,1,1] (fr [(7,eY 0 (c*x.length)),(8,nI ((m*x.length:Nat):Int))]) (.ofList [aB l])
 | k, m, l, hk, hm, hmc, hl, hr => by
   refine aL Bv (by kernel_rfl) 100 ?_;apply of_eq (q:=let q1:=(↑(m*x.length):Int);let q2:=(↑(c*x.length):Int);let q3:=(ab6 (q1-0).toNat (acd ((0:Nat)+0*1) l));(decide (q1<q2)=true->((0:Int)<=q1/\q1<=q2/\q2<=q2)/\((0:Int)<=0/\(0:Int)<=q1/\q1<=q2)/\(0:Nat)+0*1+(q1-0).toNat<=l.length/\(0:Nat)+m*x.length*1+(q2-q1).toNat<=l.length/\au sRepJ (aC (eY (0:Nat) (c*x.length)) [aB (pw x c)]) [0,0,1,1,1,1,1,1] (fr [(7,aS 0 0 (c*x.length)),(8,nI (IntKind.i64.wrap (q1+(↑(q3.length.min (q2-q1).toNat):Int))))]) (ak.ofList [aB (spl l ((0:Nat)+m*x.length*1) (ab6 (q2-q1).toNat q3))]))/\(decide (q1<q2)=false->aD [V.c (W.sl 0 0 (c*x.length) 1)]=eY (0:Nat) (c*x.length)/\[aB l]=[aB (pw x c)])) (by kernel_rfl)
   try simp only[sL]
   have hnL:m*x.length<=c*x.length:=acj _ hmc;have hpl:(pw x m).length=m*x.length:=kL x m;generalize hn:m*x.length=n at *;generalize tS:c*x.length=L at *;rw[show ((n:Int)-0).toNat=n by omega,show ((L:Int)-n).toNat=L-n by omega,hr,hpl];refine⟨fun h=>⟨by omega,by omega,by omega,by omega,?_⟩,fun h=>?_⟩
   · have hne : m < c := by
      rcases ab9 m c with h1|h1;exact h1;have:m=c:=by omega
      subst this;omega
     rw[wrap64 (n:=(n:Int)+((n.min (L-n):Nat):Int)) (by omega) (by have:=Nat.min_le_right n (L-n);simp only[Nat.min_def] at *;split<;>omega)];have hsl:∀ q:List Int,q.length<=L-n->(spl l n q).length=L/\(spl l n q).take (n+q.length)=pw x m++q:=by
      intro q hq;have e:spl l n q=(pw x m++q)++l.drop (n+q.length):=by rw[spl,hr]
      refine⟨by rw[e];simp[hpl];omega,?_⟩;rw[e,show n+q.length=(pw x m++q).length by simp[hpl],List.take_left]
     cases k with
     | zero=>omega
     | succ k =>
       rcases ab9 c (2*m) with h2|h2;have h3:L-n=(c-m)*x.length:=by rw[Nat.sub_mul,hn,tS]
       have h4:L-n<=n:=by rw[h3,<-hn];exact acj _ (by omega)
       have e1:n.min (L-n)=L-n:=Nat.min_eq_right h4;have e2:ab6 (L-n) (pw x m)=pw x (c-m):=by rw[h3];exact Pm x (by omega)
       have e3:(pw x (c-m)).length=L-n:=by rw[kL,h3]
       obtain⟨g1,g2⟩:=hsl (pw x (c-m)) (by omega);have:=uN x c (by omega) 0 c (spl l n (pw x (c-m))) (by omega) (by omega) (by omega) (by omega) (by
        rw[tS,show L=n+(pw x (c-m)).length by omega,g2,<-z7];congr 1;omega)
       rw[e1,e2,show ((n:Int)+((L-n:Nat):Int))=((L:Nat):Int) by omega];rw[tS] at this;exact this;have h3:2*m*x.length<=L:=by rw[<-tS];exact acj _ h2
       have h4:2*m*x.length=n+n:=by rw[Nat.mul_assoc,hn];omega
       have e1:n.min (L-n)=n:=acF (by omega);have e2:ab6 (L-n) (pw x m)=pw x m:=ack (by omega);obtain⟨g1,g2⟩:=hsl (pw x m) (by omega);have:=uN x c (by omega) (c-2*m) (2*m) (spl l n (pw x m)) (by omega) (by omega) (by omega) (by omega) (by
        rw[h4,show n+n=n+(pw x m).length by omega,g2,<-z7];congr 1;omega)
       rw[e1,e2,show ((n:Int)+((n:Nat):Int))=((n+n:Nat):Int) by omega];rw[tS,h4] at this;exact this
   have ZB:n=L:=by omega
   have:m=c∨x.length=0:=by
    rcases ab9 m c with h1|h1;right;have:=acj x.length (show m+1<=c by omega);rw[acz] at this;omega;left;omega
   rw[show l=pw x c from ?_];exact⟨rfl,rfl⟩;rw[<-ack (show l.length<=L by omega)];rcases this with rfl|h0;rw[<-ZB];exact hr;have:(pw x c).length=0:=by rw[kL,h0];simp
   rw[List.eq_nil_of_length_eq_zero this];rw[h0,Nat.mul_zero] at tS;rw[<-tS];rfl
 termination_by k=>k
theorem Og(x:List Int)(n:Int)(h:0<=n/\n<=100000/\x.length<=100000/\n.toNat*x.length<=1000000):bA Tryz.prog 62 [bw x,nI n] [] (eY 0 (n.toNat*x.length)) [aB (pw x n.toNat)]:=by
 refine dh (aj:=[([0,0,1,1,1,1,1,1],[7,8])]) (bZ:=[]) (fz:=[]) Bv Tryz.func62 (by kernel_rfl) (keep:=0) rfl (by kernel_rfl) 100 ?_;apply of_eq (q:=let q0:=IntKind.i64.wrap;let q1:=(IntKind.u64.wrap (x.length:Int)*IntKind.u64.wrap n);let q2:=decide ((0:Int)<0);let q3:=decide ((9223372036854775807:Int)<IntKind.u64.wrap (x.length:Int)*IntKind.u64.wrap n);let q4:=(q0 q1);(decide (n<0)=true->False)/\(decide (n<0)=false->(((0:Int)<=IntKind.u64.wrap (x.length:Int)/\IntKind.u64.wrap (x.length:Int)<1073741824)/\(0:Int)<=IntKind.u64.wrap n/\IntKind.u64.wrap n<1073741824)/\(q2=false->q2=false)/\(q2=false->q2=false)/\((bif q2 then true else q3)=true->False)/\((bif q2 then true else q3)=false->((0:Int)<=q0 q1/\q0 q1<=q0 q1/\(↑(8:Nat):Int)*q0 q1<=140737488355328)/\(0:Nat)+q4.toNat<=(ab1 q4.toNat (0:Int)).length/\au (bD Tryz.prog Lj Tryz.f62 (0:Nat) [([0,0,1,1,1,1,1,1],[7,8])] [] []) (aC (eY (0:Nat) (n.toNat*x.length)) [aB (pw x n.toNat)]) [0,0,1,1,1,1,1,1] (fr [(7,aS 0 0 q4.toNat),(8,nI (↑(x.length.min q4.toNat):Int))]) (ak.ofList [aB (spl (ab1 q4.toNat (0:Int)) (0:Nat) (ab6 q4.toNat x))])))) (by kernel_rfl)
 try simp only[sL]
 obtain⟨c,rfl⟩:∃ c:Nat,n=c:=⟨n.toNat,by omega⟩;obtain⟨h1,h2,h3,h4⟩:=h;rw[acf] at h4;have e1:IntKind.u64.wrap (x.length:Int)=x.length:=kB (by omega) (by omega);have e2:IntKind.u64.wrap (c:Int)=c:=kB (by omega) (by omega);have e3:(x.length:Int)*(c:Int)=((c*x.length:Nat):Int):=by rw[Nat.mul_comm,Int.natCast_mul]
 rw[e1,e2,e3];have e4:IntKind.i64.wrap ((c*x.length:Nat):Int)=((c*x.length:Nat):Int):=wrap64 (by omega) (by omega);rw[e4,acf];refine⟨fun g=>by omega,fun _=>⟨⟨by omega,by omega⟩,fun g=>by omega,fun _=>⟨by omega,by simp,?_⟩⟩⟩;cases c with
 | zero =>
   have:=uN x 0 (by omega) 0 0 (spl (ab1 (0*x.length) 0) 0 (ab6 (0*x.length) x)) rfl (.inr rfl) (by omega) (by simp[spl]) (by simp[pw]);rw[show x.length.min (0*x.length)=0*x.length by simp];exact this
 | succ c =>
   have hl:x.length<=(c+1)*x.length:=by rw[acz];omega
   have e5:ab6 ((c+1)*x.length) x=x:=ack hl;have e6:x.length.min ((c+1)*x.length)=x.length:=acF hl;rw[e5,e6];have:=uN x (c+1) (by omega) (c+1-1) 1 (spl (ab1 ((c+1)*x.length) 0) 0 x) rfl (by omega) (by omega) (by simp[spl];omega) (by
    rw[acG,spl];simp[pw])
   rw[acG] at this;exact this
def cRepI:bI:=jK dI (.int .i64) fun x n=>(.p (0<=(show Int from n)/\(show Int from n)<=100000/\acn (α:=Int) x<=100000/\(show Int from n).toNat*acn (α:=Int) x<=1000000),eY 0 ((show Int from n).toNat*acn (α:=Int) x),[aB (pw x (show Int from n).toNat)])
theorem ZR:aK Tryz.prog 62 cRepI:=fF (by kernel_rfl) fun x n h=>Og x n h
def gAd:bN:=[(62,cRepI)]
theorem EQ:bp Tryz.prog gAd:=av ZR aE
theorem Af:∀ n,pw [(-1:Int)] n=ab1 n (-1)
 | 0=>rfl
 | n+1=>by rw[pw,Af n];rfl
theorem add_sem(r:Rn)(T:br r)(hl:r.af.length<=900000):bn Tryz.prog 27 1 [pR] (obs r) (nI r.af.length) (obs (add r)):=by
 refine bJ (aj:=[]) (bZ:=[]) (fz:=[]) EQ Tryz.func27 (by kernel_rfl) 1 (by kernel_rfl) 100 ?_;apply of_eq (q:=let q0:=IntKind.i64.wrap;let q1:=(R1.pure (Cd.t.and Cd.t) (aS 1 0 r.af.length));let q2:=(q0 ((2:Int)*r.g));let q3:=(R1.pure (Cd.t.and Cd.t) (aS 2 0 r.ah.length));let q4:=(R1.pure (Cd.t.and Cd.t) (nI r.g));let q5:=(ab6 (1:Nat) (acd (0:Nat) [(-1:Int)]));(0:Nat)+1<=1/\((0:Int)<=q0 ((2:Int)*r.g)/\q0 ((2:Int)*r.g)<=100000/\(1:Nat)<=100000/\q2.toNat*1<=1000000)/\((0:Nat)=0/\r.af.length=r.af.length/\((2:Int)*r.g).toNat=q2.toNat*1/\(pw q5 q2.toNat).length=q2.toNat*1/\(0:Nat)<q2.toNat*1/\(r.af.length+1)*24<=140737488355328)/\q1.v=q1.v/\q1.v=q1.v/\q1.v=q1.v/\q1.v=q1.v/\q4.v=q4.v/\q4.v=q4.v/\(0:Nat)+1<=1/\((0:Nat)+r.ah.length<=r.ah.length/\(r.ah.length+1)*8<=140737488355328)/\q3.v=q3.v/\q3.v=q3.v/\aD [vI (q0 ((↑(r.af.length+1):Int)-1))]=nI (r.af.length:Int)/\[Ob.mk 73 [fI r.g,fL r.ax,fL r.sub,fI r.aq,fI (max r.aF (q0 (r.aj+1))),fI (q0 (r.aj+1)),fI r.ay,fI r.ph,fI r.co,fI r.ix,fS 1 0 (r.af.length+1),fS 2 0 (r.ah.length+1),fS 3 0 r.dn],Ob.mk 22 [Fd.c (W.th (q2.toNat*1) (r.af++[pw q5 q2.toNat]))],aB (ab6 r.ah.length (acd (0:Nat) r.ah)++ab6 (1:Nat) (acd (0:Nat) [(r.ah.length:Int)])),aB r.dl]=obs (add r)) (by kernel_rfl)
 try simp only[sL,Nat.reduceAdd]
 have ko:1<=r.g:=T.g1;have kT:r.g<=16:=T.g2;have hpl:r.ah.length=r.af.length:=T.len;have hlv:r.aj=(al r.ah:Nat):=T.aj;have hal:=rz r.ah;rw[wrap64 (n:=2*r.g) (by omega) (by omega),wrap64 (n:=r.aj+1) (by omega) (by omega),wrap64 (n:=((r.af.length+1:Nat):Int)-1) (by omega) (by omega),Af,show ((r.af.length+1:Nat):Int)-1=r.af.length by omega];refine⟨⟨by omega,by omega,by omega,by omega⟩,⟨by omega,by rw[acg],by omega,by omega⟩,by omega,rfl,?_⟩;simp only[obs,bL,aO,add,ab3,ab7]
def x6(f:Rn->Prop×A×Rn):bI:={ refs:=[true],keep:=some 1,f:=fun args ar=>match args with
 | [.p (.c (.ptr 0 0))]=>match EO ar with
   | some (c,r)=>some (.p (c/\(f r).1),(f r).2.1,obs (f r).2.2)
   | none=>none
 | _=>none }
theorem tT{P:Program}{fn:FuncId}{f:Rn->Prop×A×Rn}(he:enters P fn=true)(h:∀ r,(f r).1->bn P fn 1 [pR] (obs r) (f r).2.1 (obs (f r).2.2)):aK P fn (x6 f):=by
 refine⟨he,fun args ar c r aY e hc=>?_⟩;simp only[x6] at e;split at e;split at e;rename_i c1 r1 hr;cases e;obtain⟨h1,h2⟩:=hc;rw[rT hr h1];exact h _ h2;cases e;cases e
def Sg:bI:=x6 fun r=>(br r/\r.af.length<=900000,nI r.af.length,add r)
theorem LJ:aK Tryz.prog 27 Sg:=tT (by kernel_rfl) fun r h=>add_sem r h.1 h.2
abbrev j6(n:Int):Ob:=⟨3,[.c (.int .i64 n)]⟩
abbrev celR(k:Nat):Ob:=⟨37,[.c (.ptr k 0)]⟩
abbrev jR(r:Rn)(N q:Nat):List Ob:=[bL r 4 5 6,celR 0,j6 ((N:Int)-q),j6 N,aO r,aB r.ah,aB r.dl]
abbrev Iu(r:Rn)(N q:Nat):List Ob:=[celR 3,j6 ((N:Int)-q),j6 N,bL r 4 5 6,aO r,aB r.ah,aB r.dl]
abbrev Pz:A:=.p (.c (.func 29 [(1,0),(2,0),(3,0)]))
def gH(r:Rn)(q:Nat):Rn×Nat×Bool:=if r.aq<=r.af.length then({ r with ay:=2 },q,false) else if q=0 then(r,0,false) else(r,q-1,true)
theorem may_sem(r:Rn)(N q:Nat)(h:q<=N/\N<=1000000):bn Tryz.prog 29 7 [.p (.c (.ptr 0 0)),.p (.c (.ptr 1 0)),.p (.c (.ptr 2 0))] (Iu r N q) (bB (gH r q).2.2) (Iu (gH r q).1 N (gH r q).2.1):=by
 refine bJ (aj:=[]) (bZ:=[]) (fz:=[]) aE Tryz.func29 (by kernel_rfl) 7 (by kernel_rfl) 100 ?_;apply of_eq (q:=let q1:=Ob.mk 37 [Fd.c (W.ptr (3:Nat) (0:Nat))];(decide (r.aq<=(r.af.length:Int))=true->aD [vB false]=bB (gH r q).snd.snd/\[q1,Ob.mk 3 [fI ((N:Int)-(q:Int))],Ob.mk 3 [fI (N:Int)],Ob.mk 73 [fI r.g,fL r.ax,fL r.sub,fI r.aq,fI r.aF,fI r.aj,fI (2),fI r.ph,fI r.co,fI r.ix,fS 4 0 r.af.length,fS 5 0 r.ah.length,fS 6 0 r.dn],aO r,aB r.ah,aB r.dl]=Iu (gH r q).fst N (gH r q).snd.fst)/\(decide (r.aq<=(r.af.length:Int))=false->(decide ((N:Int)-(q:Int)=(N:Int))=true->aD [vB false]=bB (gH r q).snd.snd/\[q1,Ob.mk 3 [fI ((N:Int)-(q:Int))],Ob.mk 3 [fI (N:Int)],bL r (4:Nat) (5:Nat) (6:Nat),aO r,aB r.ah,aB r.dl]=Iu (gH r q).fst N (gH r q).snd.fst)/\(decide ((N:Int)-(q:Int)=(N:Int))=false->aD [vB true]=bB (gH r q).snd.snd/\[q1,Ob.mk 3 [fI (IntKind.i64.wrap ((N:Int)-(q:Int)+1))],Ob.mk 3 [fI (N:Int)],bL r (4:Nat) (5:Nat) (6:Nat),aO r,aB r.ah,aB r.dl]=Iu (gH r q).fst N (gH r q).snd.fst))) (by kernel_rfl)
 try simp only[sL,Nat.reduceAdd]
 refine⟨fun h1=>?_,fun h1=>⟨fun h2=>?_,fun h2=>?_⟩⟩;rw[gH,if_pos h1];exact⟨rfl,rfl⟩;have h0:q=0:=by omega
 subst h0;rw[gH,if_neg (by omega),if_pos rfl];exact⟨rfl,rfl⟩;rw[gH,if_neg (by omega),if_neg (by omega),wrap64 (n:=(N:Int)-q+1) (by omega) (by omega),show (N:Int)-q+1=(N:Int)-((q-1:Nat):Int) by omega];exact⟨rfl,rfl⟩
def Wi : List Ob → Option (Prop × Rn × Nat × Nat)
 | [a,⟨u,[.c (.ptr 0 0)]⟩,⟨u1,[.c (.int .i64 d)]⟩,⟨u2,[.c (.int .i64 n)]⟩,b,c,e] =>
   bif ab5 u 37&&(ab5 u1 3&&ab5 u2 3) then match Lv 4 5 6 [a,b,c,e] with
    | some (p,r)=>some (p/\0<=d/\d<=n/\n<=1000000,r,n.toNat,(n-d).toNat)
    | none=>none
   else none
 | _=>none
theorem LK{ar:List Ob}{c:Prop}{r:Rn}{N q:Nat}(e:Wi ar=some (c,r,N,q))(hc:c):ar=jR r N q/\q<=N/\N<=1000000:=by
 unfold Wi at e;split at e;rename_i a u u1 d u2 n b c e';obtain⟨hb,e1⟩:=aA.aH e;clear e;simp only[aci] at hb;obtain⟨h1,h2,h3⟩:=hb;cases abZ h1;cases abZ h2;cases abZ h3;split at e1;rename_i p r' hr;cases e1;obtain⟨g1,g2,g3,g4⟩:=hc;have:=Gb hr g1;simp only[List.cons.injEq] at this;obtain⟨rfl,rfl,rfl,rfl,_⟩:=this;refine⟨?_,by omega,by omega⟩;rw[jR,show ((n.toNat:Nat):Int)-((n-d).toNat:Nat)=d by omega,show ((n.toNat:Nat):Int)=n by omega];cases e1;cases e
def asC : List Ob → Option (Prop × Rn × Nat × Nat)
 | [⟨u,[.c (.ptr 3 0)]⟩,⟨u1,[.c (.int .i64 d)]⟩,⟨u2,[.c (.int .i64 n)]⟩,a,b,c,e] =>
   bif ab5 u 37&&(ab5 u1 3&&ab5 u2 3) then match Lv 4 5 6 [a,b,c,e] with
    | some (p,r)=>some (p/\0<=d/\d<=n/\n<=1000000,r,n.toNat,(n-d).toNat)
    | none=>none
   else none
 | _=>none
theorem asC_eq{ar:List Ob}{c:Prop}{r:Rn}{N q:Nat}(e:asC ar=some (c,r,N,q))(hc:c):ar=Iu r N q/\q<=N/\N<=1000000:=by
 unfold asC at e;split at e;rename_i u u1 d u2 n a b c e';obtain⟨hb,e1⟩:=aA.aH e;clear e;simp only[aci] at hb;obtain⟨h1,h2,h3⟩:=hb;cases abZ h1;cases abZ h2;cases abZ h3;split at e1;rename_i p r' hr;cases e1;obtain⟨g1,g2,g3,g4⟩:=hc;have:=Gb hr g1;simp only[List.cons.injEq] at this;obtain⟨rfl,rfl,rfl,rfl,_⟩:=this;refine⟨?_,by omega,by omega⟩;rw[Iu,show ((n.toNat:Nat):Int)-((n-d).toNat:Nat)=d by omega,show ((n.toNat:Nat):Int)=n by omega];cases e1;cases e
def Si:bI:={ refs:=[true,true,true],f:=fun args ar=>match args with
 | [.p (.c (.ptr 0 0)),.p (.c (.ptr 1 0)),.p (.c (.ptr 2 0))]=>match asC ar with
   | some (c,r,N,q)=>some (.p c,bB (gH r q).2.2,Iu (gH r q).1 N (gH r q).2.1)
   | none=>none
 | _=>none }
theorem PA:aK Tryz.prog 29 Si:=by
 refine⟨by kernel_rfl,fun args ar c r aY e hc=>?_⟩;simp only[Si] at e;split at e;split at e;rename_i c1 r1 N q hr;cases e;obtain⟨rfl,h1,h2⟩:=asC_eq hr hc;exact may_sem r1 N q ⟨h1,h2⟩;cases e;cases e
def ZS:bN:=[(85,cScan),(86,Ae),(27,Sg),(29,Si)]
theorem PB:bp Tryz.prog ZS:=av ZQ (av uM (av LJ (av PA aE)))
def sFil:Site:=bD Tryz.prog ZS Tryz.f63 4 [([0,1],[0,1,2,3])] [] []
abbrev Wj(x:Rn×Nat×Bool)(N:Nat):A->List Ob->Prop:=aC (bB x.2.2) (jR x.1 N x.2.1)
theorem LL(a : Nat)(w : List Int)(x : Rn × Nat × Bool)(N : Nat)(hN : N ≤ 1000000) : ∀(q : Nat)(r : Rn), br r → Wd r.g w → a < r.af.length → r.af.length ≤ r.aq → r.aq ≤ 900000 → q ≤ N → x = aV a w q r →
 au sFil (Wj x N) [0,1] (fr [(0,pR),(1,nI a),(2,bw w),(3,Pz)]) (.ofList (jR r N q))
 | q, r, T, hw, ha, hl, hm, hq, hx => by
   refine aL PB (by kernel_rfl) 100 ?_;apply of_eq (q:=let q3:=(scan r a w);let q5:=(N:Int);let q1:=(gH q3.fst (q5-(q5-(q:Int))).toNat);let q4:=(add q1.fst);let q2:=(join q4 q3.snd.fst q3.snd.snd.fst q1.fst.af.length);((r.af.length=r.af.length/\r.ah.length=r.ah.length/\((2:Int)*r.g).toNat=((2:Int)*r.g).toNat)/\(0:Int)<=(a:Int)/\br r/\Wd r.g w/\a<r.af.length)/\((!q3.snd.snd.snd)=true->aD [vB true]=bB x.snd.snd/\[bL (q3.fst) (4:Nat) (5:Nat) (6:Nat),Ob.mk 37 [Fd.c (W.ptr 0 0)],Ob.mk 3 [fI (q5-(q:Int))],Ob.mk 3 [fI q5],aO (q3.fst),aB (q3.fst.ah),aB (q3.fst.dl)]=jR x.fst N x.snd.fst)/\((!q3.snd.snd.snd)=false->((q3.fst.af.length=q3.fst.af.length/\q3.fst.ah.length=q3.fst.ah.length/\((2:Int)*q3.fst.g).toNat=((2:Int)*q3.fst.g).toNat)/\(0:Int)<=q5-(q:Int)/\q5-(q:Int)<=q5/\q5<=1000000)/\((!q1.snd.snd)=true->aD [vB false]=bB x.snd.snd/\[bL (q1.fst) (4:Nat) (5:Nat) (6:Nat),Ob.mk 37 [Fd.c (W.ptr 0 0)],Ob.mk 3 [fI (q5-(↑q1.snd.fst:Int))],Ob.mk 3 [fI q5],Ob.mk 22 [Fd.c (W.th ((2:Int)*q1.fst.g).toNat q1.fst.af)],aB (q1.fst.ah),aB (q1.fst.dl)]=jR x.fst N x.snd.fst)/\((!q1.snd.snd)=false->((q1.fst.af.length=q1.fst.af.length/\q1.fst.ah.length=q1.fst.ah.length/\((2:Int)*q1.fst.g).toNat=((2:Int)*q1.fst.g).toNat)/\br q1.fst/\q1.fst.af.length<=900000)/\((q4.af.length=q4.af.length/\q4.ah.length=q4.ah.length/\((2:Int)*q4.g).toNat=((2:Int)*q4.g).toNat)/\(0:Int)<=(↑q3.snd.fst:Int)/\(0:Int)<=(↑q3.snd.snd.fst:Int)/\(0:Int)<=(↑q1.fst.af.length:Int)/\q3.snd.fst<q4.af.length/\q1.fst.af.length<q4.af.length/\q3.snd.snd.fst<((2:Int)*q4.g).toNat/\q4.g<=16)/\au sFil (Wj x N) [0,1] (fr [(0,aR 0 0),(1,nI (a:Int)),(2,bw w),(3,aP (W.func 29 [(1,(0:Nat)),(2,(0:Nat)),(3,(0:Nat))]))]) (ak.ofList [Ob.mk 73 [fI q2.g,fL q2.ax,fL q2.sub,fI q2.aq,fI q2.aF,fI q2.aj,fI q2.ay,fI q2.ph,fI q2.co,fI q2.ix,fS 4 0 q2.af.length,fS 5 0 q2.ah.length,fS 6 0 q2.dn],Ob.mk 37 [Fd.c (W.ptr 0 0)],Ob.mk 3 [fI (q5-(↑q1.snd.fst:Int))],Ob.mk 3 [fI q5],aO q2,aB (q2.ah),aB (q2.dl)])))) (by kernel_rfl)
   try simp only[sL,Nat.reduceAdd]
   have S:=iK T hw ha;have h1:=S.len;rw[show ((N:Int)-((N:Int)-(q:Int))).toNat=q by omega];have hx':x=if(scan r a w).2.2.2=false then((scan r a w).1,q,true) else if(gH (scan r a w).1 q).2.2=false then((gH (scan r a w).1 q).1,(gH (scan r a w).1 q).2.1,false) else aV a w (q-1) (grow (scan r a w).1 (scan r a w).2.1 (scan r a w).2.2.1):=by
    rw[hx];have hl:(scan r a w).1.aq=r.aq:=S.keep.2.2.2.1;cases q with
    | zero =>
      rw[aV,<-hl];unfold gH;split;rfl;split<;>rfl
    | succ q =>
      rw[aV,<-hl];unfold gH;split;rfl;split<;>rfl
   refine⟨⟨by omega,T,hw,ha⟩,fun h=>?_,fun h=>⟨⟨by omega,by omega,by omega⟩,fun h2=>?_,fun h2=>?_⟩⟩;rw[if_pos h] at hx';rw[hx'];exact⟨rfl,rfl⟩;rw[if_neg (by rw[h];simp),if_pos h2] at hx';rw[hx'];exact⟨rfl,rfl⟩
   · rw[if_neg (by rw[h]; simp), if_neg (by rw[h2]; simp)] at hx'
     obtain⟨o1,o2,o3⟩:=S.opn h;have hm2:(gH (scan r a w).1 q).1=(scan r a w).1/\(gH (scan r a w).1 q).2.1=q-1/\(scan r a w).1.af.length<(scan r a w).1.aq/\0<q:=by
      unfold gH at h2 ⊢;split;rename_i g;rw[if_pos g] at h2;cases h2;rename_i g;rw[if_neg g] at h2;split;rename_i g2;rw[if_pos g2] at h2;cases h2;exact⟨rfl,rfl,by omega,by omega⟩
     obtain⟨m1,m2,m3,m4⟩:=hm2;rw[m1,m2];have hs:(scan r a w).1.g=r.g:=S.keep.1;have hsl:(scan r a w).1.aq=r.aq:=S.keep.2.2.2.1;have al:=qM (scan r a w).1;obtain⟨g1,g2,g3⟩:=gG S.fine (scan r a w).2.2.1 (show (scan r a w).2.1<(scan r a w).1.af.length by omega) (by omega);have k:=S.keep.trans g3;have kT:r.g<=16:=T.g2;refine⟨⟨S.fine,by omega⟩,⟨by omega,by omega,by omega,by omega,by omega,by rw[al.2,hs];exact o3,by rw[al.2,hs];exact kT⟩,?_⟩;cases q with
     | zero=>omega
     | succ q =>
       exact LL a w x N hN q (grow (scan r a w).1 (scan r a w).2.1 (scan r a w).2.2.1) g1 (by rw[k.1];exact hw) (by omega) (by rw[k.2.2.2.1];omega) (by rw[k.2.2.2.1];exact hm) (by omega) hx'
theorem fil_sem(r:Rn)(N q a:Nat)(w:List Int)(T:br r)(hw:Wd r.g w)(h:a<r.af.length/\r.af.length<=r.aq/\r.aq<=900000/\q<=N/\N<=1000000):bn Tryz.prog 63 4 [pR,nI a,bw w,Pz] (jR r N q) (bB (aV a w q r).2.2) (jR (aV a w q r).1 N (aV a w q r).2.1):=by
 refine bJ (aj:=[([0,1],[0,1,2,3])]) (bZ:=[]) (fz:=[]) PB Tryz.func63 (by kernel_rfl) 4 (by kernel_rfl) 100 ?_;apply of_eq (q:=au (bD Tryz.prog ZS Tryz.f63 (4:Nat) [([0,1],[0,1,2,3])] [] []) (aC (bB (aV a w q r).snd.snd) (jR (aV a w q r).fst N (aV a w q r).snd.fst)) [0,1] (fr [(0,aR 0 0),(1,nI (a:Int)),(2,bw w),(3,aP (W.func 29 [(1,(0:Nat)),(2,(0:Nat)),(3,(0:Nat))]))]) (ak.ofList [bL r 4 5 6,Ob.mk 37 [Fd.c (W.ptr 0 0)],Ob.mk 3 [fI ((N:Int)-(q:Int))],Ob.mk 3 [fI (N:Int)],aO r,aB r.ah,aB r.dl])) (by kernel_rfl)
 try simp only[sL,Int.reduceEq,Int.reduceNe,Nat.reduceAdd]
 exact LL a w _ N h.2.2.2.2 q r T hw h.1 h.2.1 h.2.2.1 h.2.2.2.1 rfl
def Sj:bI:={ refs:=[true,false,false,true],keep:=some 4,f:=fun args ar=>match args with
 | [.p (.c (.ptr 0 0)),.p (.c (.int .i64 a)),w,.p (.c (.func f [(1,0),(2,0),(3,0)]))]=>bif ab5 f 29 then match fP dI w,Wi ar with
   | some w,some (c,r,N,q)=>some (.p (c/\0<=a/\br r/\Wd r.g w/\a.toNat<r.af.length/\r.af.length<=r.aq/\r.aq<=900000),bB (aV a.toNat w q r).2.2,jR (aV a.toNat w q r).1 N (aV a.toNat w q r).2.1)
   | _,_=>none
   else none
 | _=>none }
theorem ZT:aK Tryz.prog 63 Sj:=by
 refine⟨by kernel_rfl,fun args ar c r aY e hc=>?_⟩;simp only[Sj] at e;split at e;rename_i a w0 f;obtain⟨hb,e1⟩:=aA.aH e;clear e;cases abZ hb;split at e1
 . rename_i w c1 r1 N q hw hr;cases e1;obtain⟨h1,h2,h3,h4,h5,h6,h7⟩:=hc;obtain⟨rfl,g1,g2⟩:=LK hr h1;have:=fil_sem r1 N q a.toNat w h3 h4 ⟨h5,h6,h7,g1,g2⟩;rw[<-fR h2] at this;intro base η Z W vs R hvs hK
   match vs,hvs with
   | [u,v,t,s],⟨a1,a2,a3,a4,_⟩=>exact this base η Z W _ R ⟨a1,a2,cg hw a3,a4,trivial⟩ hK
 cases e1;cases e
def ZU:bN:=[(86,Ae),(27,Sg),(29,Si)]
theorem PD:bp Tryz.prog ZU:=av uM (av LJ (av PA aE))
def ZV:Site:=bD Tryz.prog ZU Tryz.f64 4 [([0,1,0,1],[0,1,2,15,16])] [] []
theorem Dl(a G : Nat)(x : Rn × Nat × Bool)(N : Nat)(hN : N ≤ 1000000) : ∀(f c q : Nat)(r : Rn), br r → c + f = G → G = (2 * r.g).toNat → a < r.af.length → r.af.length ≤ r.aq → r.aq ≤ 900000 → q ≤ N → x = bG a f c r q →
 au ZV (Wj x N) [0,1,0,1] (fr [(0,pR),(1,nI a),(2,Pz),(15,nI G),(16,nI c)]) (.ofList (jR r N q))
 | f,c,q,r,T,hc,hG,ha,hl,hm,hq,hx=>by
   refine aL PD (by kernel_rfl) 100 ?_;apply of_eq (q:=let q3:=(fr [(0,aR 0 0),(1,nI (a:Int)),(2,aP (W.func 29 [(1,(0:Nat)),(2,(0:Nat)),(3,(0:Nat))])),(15,nI (G:Int)),(16,nI (IntKind.i64.wrap ((c:Int)+1)))]);let q5:=Ob.mk 37 [Fd.c (W.ptr 0 0)];let q6:=decide ((0:Int)<=(r.af.getD ((0:Nat)+a) []).getD c (0:Int));let q7:=(N:Int);let q1:=(gH r (q7-(q7-(q:Int))).toNat);let q4:=(add q1.fst);let q2:=(join q4 a c q1.fst.af.length);(decide ((c:Int)<(G:Int))=true->((0:Int)<=(a:Int)/\(a:Int)<(r.af.length:Int))/\(0:Nat)+a<r.af.length/\((0:Int)<=(c:Int)/\(c:Int)<(↑((2:Int)*r.g).toNat:Int))/\((0:Nat)+a<r.af.length/\c<((2:Int)*r.g).toNat)/\(q6=true->au ZV (Wj x N) [0,1,0,1] q3 (ak.ofList [bL r 4 5 6,q5,Ob.mk 3 [fI (q7-(q:Int))],Ob.mk 3 [fI q7],aO r,aB r.ah,aB r.dl]))/\(q6=false->((r.af.length=r.af.length/\r.ah.length=r.ah.length/\((2:Int)*r.g).toNat=((2:Int)*r.g).toNat)/\(0:Int)<=q7-(q:Int)/\q7-(q:Int)<=q7/\q7<=1000000)/\((!q1.snd.snd)=true->aD [vB false]=bB x.snd.snd/\[Ob.mk 73 [fI q1.fst.g,fL q1.fst.ax,fL q1.fst.sub,fI q1.fst.aq,fI q1.fst.aF,fI q1.fst.aj,fI q1.fst.ay,fI q1.fst.ph,fI q1.fst.co,fI q1.fst.ix,fS 4 0 q1.fst.af.length,fS 5 0 q1.fst.ah.length,fS 6 0 q1.fst.dn],q5,Ob.mk 3 [fI (q7-(↑q1.snd.fst:Int))],Ob.mk 3 [fI q7],aO (q1.fst),aB (q1.fst.ah),aB (q1.fst.dl)]=jR x.fst N x.snd.fst)/\((!q1.snd.snd)=false->((q1.fst.af.length=q1.fst.af.length/\q1.fst.ah.length=q1.fst.ah.length/\((2:Int)*q1.fst.g).toNat=((2:Int)*q1.fst.g).toNat)/\br q1.fst/\q1.fst.af.length<=900000)/\((q4.af.length=q4.af.length/\q4.ah.length=q4.ah.length/\((2:Int)*q4.g).toNat=((2:Int)*q4.g).toNat)/\(0:Int)<=(a:Int)/\(0:Int)<=(c:Int)/\(0:Int)<=(↑q1.fst.af.length:Int)/\a<q4.af.length/\q1.fst.af.length<q4.af.length/\c<((2:Int)*q4.g).toNat/\q4.g<=16)/\au ZV (Wj x N) [0,1,0,1] q3 (ak.ofList [Ob.mk 73 [fI q2.g,fL q2.ax,fL q2.sub,fI q2.aq,fI q2.aF,fI q2.aj,fI q2.ay,fI q2.ph,fI q2.co,fI q2.ix,fS 4 0 q2.af.length,fS 5 0 q2.ah.length,fS 6 0 q2.dn],q5,Ob.mk 3 [fI (q7-(↑q1.snd.fst:Int))],Ob.mk 3 [fI q7],aO q2,aB (q2.ah),aB (q2.dl)]))))/\(decide ((c:Int)<(G:Int))=false->aD [vB true]=bB x.snd.snd/\[bL r (4:Nat) (5:Nat) (6:Nat),q5,Ob.mk 3 [fI (q7-(q:Int))],Ob.mk 3 [fI q7],aO r,aB r.ah,aB r.dl]=jR x.fst N x.snd.fst)) (by kernel_rfl)
   try simp only[sL,Nat.reduceAdd]
   have ko:1<=r.g:=T.g1;have kT:r.g<=16:=T.g2;rw[show ((N:Int)-((N:Int)-(q:Int))).toNat=q by omega,wrap64 (n:=(c:Int)+1) (by omega) (by omega)];simp only[kC];refine⟨fun h=>?_,fun h=>?_⟩
   . cases f with
     | zero=>omega
     | succ f =>
     rw[bG] at hx;refine⟨by omega,ha,by omega,by omega,fun h1=>?_,fun h1=>⟨⟨by omega,by omega,by omega⟩,fun h2=>?_,fun h2=>?_⟩⟩;rw[if_pos h1] at hx;exact Dl a G x N hN f (c+1) q r T (by omega) hG ha hl hm hq hx
     · rw[if_neg (by omega)] at hx
       have hx':x=((gH r q).1,(gH r q).2.1,false):=by
        rw[hx];unfold gH at h2 ⊢;split;rfl;split;rfl;rename_i g1 g2;rw[if_neg g1,if_neg g2] at h2;cases h2
       rw[hx'];exact⟨rfl,rfl⟩
     · rw[if_neg (by omega)] at hx
       have hm2:(gH r q).1=r/\(gH r q).2.1=q-1/\r.af.length<r.aq/\0<q:=by
        unfold gH at h2 ⊢;split;rename_i g;rw[if_pos g] at h2;cases h2;rename_i g;rw[if_neg g] at h2;split;rename_i g2;rw[if_pos g2] at h2;cases h2;exact⟨rfl,rfl,by omega,by omega⟩
       obtain⟨m1,m2,m3,m4⟩:=hm2;rw[m1,m2];have al:=qM r;obtain⟨g1,g2,g3⟩:=gG T c ha (by omega);rw[if_neg (by omega),if_neg (by omega)] at hx;refine⟨⟨T,by omega⟩,⟨by omega,by omega,by omega,by omega,by omega,by rw[al.2];omega,by rw[al.2];exact kT⟩,?_⟩;exact Dl a G x N hN f (c+1) (q-1) (grow r a c) g1 (by omega) (by rw[g3.1];exact hG) (by omega) (by rw[g3.2.2.2.1];omega) (by rw[g3.2.2.2.1];exact hm) (by omega) hx
   have:f=0:=by omega
   subst this;have hx:x=(r,q,true):=hx;rw[hx];exact⟨rfl,rfl⟩
theorem co3_sem(r:Rn)(N q a:Nat)(T:br r)(h:a<r.af.length/\r.af.length<=r.aq/\r.aq<=900000/\q<=N/\N<=1000000):bn Tryz.prog 64 4 [pR,nI a,Pz] (jR r N q) (bB (bG a (2*r.g).toNat 0 r q).2.2) (jR (bG a (2*r.g).toNat 0 r q).1 N (bG a (2*r.g).toNat 0 r q).2.1):=by
 refine bJ (aj:=[([0,1,0,1],[0,1,2,15,16])]) (bZ:=[]) (fz:=[]) PD Tryz.func64 (by kernel_rfl) 4 (by kernel_rfl) 100 ?_;apply of_eq (q:=let q1:=(bG a ((2:Int)*r.g).toNat (0:Nat) r q);((0:Int)<=(a:Int)/\(a:Int)<(r.af.length:Int))/\(0:Nat)+a<r.af.length/\au (bD Tryz.prog ZU Tryz.f64 (4:Nat) [([0,1,0,1],[0,1,2,15,16])] [] []) (aC (bB q1.snd.snd) (jR q1.fst N q1.snd.fst)) [0,1,0,1] (fr [(0,aR 0 0),(1,nI (a:Int)),(2,aP (W.func 29 [(1,(0:Nat)),(2,(0:Nat)),(3,(0:Nat))])),(15,nI (↑((2:Int)*r.g).toNat:Int)),(16,nI (0))]) (ak.ofList [bL r 4 5 6,Ob.mk 37 [Fd.c (W.ptr 0 0)],Ob.mk 3 [fI ((N:Int)-(q:Int))],Ob.mk 3 [fI (N:Int)],aO r,aB r.ah,aB r.dl])) (by kernel_rfl)
 try simp only[ach]
 exact⟨by omega,h.1,Dl a _ _ N h.2.2.2.2 (2*r.g).toNat 0 q r T (by omega) rfl h.1 h.2.1 h.2.2.1 h.2.2.2.1 rfl⟩
def Sk:bI:={ refs:=[true,false,true],keep:=some 4,f:=fun args ar=>match args with
 | [.p (.c (.ptr 0 0)),.p (.c (.int .i64 a)),.p (.c (.func f [(1,0),(2,0),(3,0)]))]=>bif ab5 f 29 then match Wi ar with
   | some (c,r,N,q)=>some (.p (c/\0<=a/\br r/\a.toNat<r.af.length/\r.af.length<=r.aq/\r.aq<=900000),bB (bG a.toNat (2*r.g).toNat 0 r q).2.2,jR (bG a.toNat (2*r.g).toNat 0 r q).1 N (bG a.toNat (2*r.g).toNat 0 r q).2.1)
   | _=>none
   else none
 | _=>none }
theorem ZW:aK Tryz.prog 64 Sk:=by
 refine⟨by kernel_rfl,fun args ar c r aY e hc=>?_⟩;simp only[Sk] at e;split at e;rename_i a f;obtain⟨hb,e1⟩:=aA.aH e;clear e;cases abZ hb;split at e1;rename_i c1 r1 N q hr;cases e1;obtain⟨h1,h2,h3,h5,h6,h7⟩:=hc;obtain⟨rfl,g1,g2⟩:=LK hr h1;have:=co3_sem r1 N q a.toNat h3 ⟨h5,h6,h7,g1,g2⟩;rw[<-fR h2] at this;exact this;cases e1;cases e
end Go.Proofs.YtlbmkeimafgemaaGreatDoor
namespace Go.bh
def act(r:Rn)(q:Nat):Rn×Nat×Bool :=
 if r.ph=0/\(r.sub.length:Int)<=r.ix then({ r with ph:=1,co:=0,ix:=0 },q,false)
 else if r.ph=0 then
  if(aV 0 (r.sub.getD r.ix.toNat []) q r).2.2=false then((aV 0 (r.sub.getD r.ix.toNat []) q r).1,(aV 0 (r.sub.getD r.ix.toNat []) q r).2.1,true)
  else({ (aV 0 (r.sub.getD r.ix.toNat []) q r).1 with ix:=r.ix+1 },(aV 0 (r.sub.getD r.ix.toNat []) q r).2.1,false)
 else if r.ph=2 then
  if(bG r.co.toNat (2*r.g).toNat 0 r q).2.2=false then((bG r.co.toNat (2*r.g).toNat 0 r q).1,(bG r.co.toNat (2*r.g).toNat 0 r q).2.1,true)
  else({ (bG r.co.toNat (2*r.g).toNat 0 r q).1 with ph:=1,co:=r.co+1,ix:=0 },(bG r.co.toNat (2*r.g).toNat 0 r q).2.1,false)
 else if r.co=r.af.length then({ r with ph:=3,co:=0,ix:=0,ay:=1 },q,true)
 else if ¬(r.ah.getD r.co.toNat 0=r.co) then({ r with ph:=1,co:=r.co+1,ix:=0 },q,false)
 else if(r.ax.length:Int)<=r.ix then({ r with ph:=2,co:=r.co,ix:=0 },q,false)
 else if(aV r.co.toNat (r.ax.getD r.ix.toNat []) q r).2.2=false then((aV r.co.toNat (r.ax.getD r.ix.toNat []) q r).1,(aV r.co.toNat (r.ax.getD r.ix.toNat []) q r).2.1,true)
 else({ (aV r.co.toNat (r.ax.getD r.ix.toNat []) q r).1 with ix:=r.ix+1 },(aV r.co.toNat (r.ax.getD r.ix.toNat []) q r).2.1,false)
structure cT(r:Rn):Prop where
 fine:br r
 n1:0<r.af.length
 aq:r.af.length<=r.aq
 x7:r.aq<=900000
 ax:∀ w∈r.ax,Wd r.g w
 sub:∀ w∈r.sub,Wd r.g w
 nr:r.ax.length<=1000
 ns:r.sub.length<=1000
 ph:r.ph=0∨r.ph=1∨r.ph=2
 co:0<=r.co/\r.co<=r.af.length
 ix:0<=r.ix/\r.ix<=1000
 ER:r.ph=2->r.co<r.af.length
def meas(r:Rn):Nat :=
 if r.ph=0 then(r.aq.toNat+1)*(r.ax.length+3)+3+(r.sub.length-r.ix.toNat)
 else if r.ph=1 then(r.aq.toNat-r.co.toNat)*(r.ax.length+3)+(r.ax.length-r.ix.toNat)+2
 else(r.aq.toNat-r.co.toNat)*(r.ax.length+3)+1
structure Acted(r:Rn)(q:Nat)(x:Rn×Nat×Bool):Prop where
 fine:br x.1
 len:x.1.af.length+x.2.1=r.af.length+q
 aq:x.1.af.length<=r.aq
 grown:r.af.length<=x.1.af.length
 same:x.1.g=r.g/\x.1.ax=r.ax/\x.1.sub=r.sub/\x.1.aq=r.aq
 pos:(0<=x.1.ph/\x.1.ph<=3)/\(0<=x.1.co/\x.1.co<=x.1.af.length)/\(0<=x.1.ix/\x.1.ix<=1000)
 go:x.2.2=false->cT x.1/\meas x.1<meas r/\x.1.ay=r.ay
 stop:x.2.2=true->x.1.ay=1∨x.1.ay=2∨(x.1.ay=r.ay/\x.2.1=0/\cT x.1)
theorem f9{l:List (List Int)}{i:Int}(h0:0<=i)(h:i<l.length):l.getD i.toNat []∈l:=dZ (by omega)
theorem br.place{r:Rn}(T:br r)(p c i s:Int):br { r with ph:=p,co:=c,ix:=i,ay:=s }:=⟨T.g1,T.g2,T.len,T.ah,T.row,T.dy,T.dx,T.aj,T.sum⟩
theorem mul_pred{a b:Nat}(h:0<a):a*b=(a-1)*b+b:=by
 obtain⟨c,rfl⟩:∃ c,a=c+1:=⟨a-1,by omega⟩;rw[acz];rfl
theorem qf{r:Rn}(G:cT r)(q:Nat):Acted r q (act r q):=by
 have hg:=G.ix;have hc:=G.co;have hl:=G.aq;have hl2:=G.x7;have Cz:=G.ph;have uO:=G.nr;have hns:=G.ns;have hn1:=G.n1;unfold act;split;rename_i h;refine⟨G.fine.place 1 0 0 r.ay,rfl,hl,ab2 _,⟨rfl,rfl,rfl,rfl⟩,⟨by simp only;omega,by simp only;omega,by simp only;omega⟩,fun _=>⟨⟨G.fine.place 1 0 0 r.ay,hn1,hl,hl2,G.ax,G.sub,uO,hns,.inr (.inl rfl),by simp only;omega,by simp only;omega,fun h=>by simp only at h;omega⟩,?_,rfl⟩,fun h=>by cases h⟩;unfold meas;rw[if_pos h.1];simp only[Int.reduceEq,if_false,if_true];have:(r.aq.toNat+1)*(r.ax.length+3)=r.aq.toNat*(r.ax.length+3)+(r.ax.length+3):=acz _ _;have e:r.aq.toNat-(0:Int).toNat=r.aq.toNat:=rfl;rw[e];omega;rename_i h0;split;rename_i hp;have hi:r.ix<r.sub.length:=by omega
 have hw:=G.sub _ (f9 hg.1 hi);have F:=kD (a:=0) (w:=r.sub.getD r.ix.toNat []) q G.fine hw hn1 hl hl2;generalize aV 0 (r.sub.getD r.ix.toNat []) q r=x at *;obtain⟨k1,k2,k3,k4,k5,k6,k7,_⟩:=F.keep;simp only at k1 k2 k3 k4 k5 k6 k7;have f1:=F.len;have f2:=F.aq;have f3:=F.grown;split;rename_i hx;refine⟨F.fine,f1,f2,f3,⟨k1,k2,k3,k4⟩,⟨by simp only;omega,by simp only;omega,by simp only;omega⟩,fun h=>(by cases h),fun _=>?_⟩;rcases F.no hx with ⟨h1,_⟩|⟨h1,h2,h3⟩;exact .inr (.inl h1);exact .inr (.inr ⟨h1,h2,⟨F.fine,by simp only;omega,by simp only;omega,by simp only;omega,by rw[k1,k2];exact G.ax,by rw[k1,k3];exact G.sub,by rw[k2];exact uO,by rw[k3];exact hns,by rw[k5];exact Cz,by simp only;omega,by simp only;omega,fun h=>by simp only at h;omega⟩⟩);rename_i hx;have hx:x.2.2=true:=by simpa using hx
 refine⟨F.fine.place x.1.ph x.1.co (r.ix+1) x.1.ay,f1,f2,f3,⟨k1,k2,k3,k4⟩,⟨by simp only;omega,by simp only;omega,by simp only;omega⟩,fun _=>⟨⟨F.fine.place x.1.ph x.1.co (r.ix+1) x.1.ay,by simp only;omega,by simp only;omega,by simp only;omega,by simp only;rw[k1,k2];exact G.ax,by simp only;rw[k1,k3];exact G.sub,by simp only;rw[k2];exact uO,by simp only;rw[k3];exact hns,by simp only;rw[k5];exact Cz,by simp only;omega,by simp only;omega,fun h=>by simp only at h;omega⟩,?_,F.yes hx⟩,fun h=>by cases h⟩;unfold meas;simp only;rw[k5,if_pos hp,if_pos hp,k4,k2,k3];omega;rename_i hp;split;rename_i hp2;have hco:=G.ER hp2;have F:=pH (a:=r.co.toNat) (2*r.g).toNat 0 q G.fine (by omega) (by omega) hl hl2;generalize bG r.co.toNat (2*r.g).toNat 0 r q=x at *;obtain⟨k1,k2,k3,k4,k5,k6,k7,_⟩:=F.keep;simp only at k1 k2 k3 k4 k5 k6 k7;have f1:=F.len;have f2:=F.aq;have f3:=F.grown;split;rename_i hx;refine⟨F.fine,f1,f2,f3,⟨k1,k2,k3,k4⟩,⟨by simp only;omega,by simp only;omega,by simp only;omega⟩,fun h=>(by cases h),fun _=>?_⟩;rcases F.no hx with ⟨h1,_⟩|⟨h1,h2,h3⟩;exact .inr (.inl h1);exact .inr (.inr ⟨h1,h2,⟨F.fine,by simp only;omega,by simp only;omega,by simp only;omega,by rw[k1,k2];exact G.ax,by rw[k1,k3];exact G.sub,by rw[k2];exact uO,by rw[k3];exact hns,by rw[k5];exact Cz,by simp only;omega,by simp only;omega,fun h=>by simp only;omega⟩⟩);rename_i hx;have hx:x.2.2=true:=by simpa using hx
 refine⟨F.fine.place 1 (r.co+1) 0 x.1.ay,f1,f2,f3,⟨k1,k2,k3,k4⟩,⟨by simp only;omega,by simp only;omega,by simp only;omega⟩,fun _=>⟨⟨F.fine.place 1 (r.co+1) 0 x.1.ay,by simp only;omega,by simp only;omega,by simp only;omega,by simp only;rw[k1,k2];exact G.ax,by simp only;rw[k1,k3];exact G.sub,by simp only;rw[k2];exact uO,by simp only;rw[k3];exact hns,.inr (.inl rfl),by simp only;omega,by simp only;omega,fun h=>by simp only at h;omega⟩,?_,F.yes hx⟩,fun h=>by cases h⟩;unfold meas;simp only[Int.reduceEq,if_false,if_true];rw[if_neg hp,if_neg (by omega),k4,k2];have:=mul_pred (a:=r.aq.toNat-r.co.toNat) (b:=r.ax.length+3) (by omega);rw[show r.aq.toNat-(r.co+1).toNat=r.aq.toNat-r.co.toNat-1 by omega];have e:r.ax.length-(0:Int).toNat=r.ax.length:=rfl;omega;rename_i hp2;have hp1:r.ph=1:=by omega
 split;exact⟨G.fine.place 3 0 0 1,rfl,hl,ab2 _,⟨rfl,rfl,rfl,rfl⟩,⟨by simp only;omega,by simp only;omega,by simp only;omega⟩,fun h=>(by cases h),fun _=>.inl rfl⟩;rename_i hne;have hlt:r.co<r.af.length:=by omega
 split;refine⟨G.fine.place 1 (r.co+1) 0 r.ay,rfl,hl,ab2 _,⟨rfl,rfl,rfl,rfl⟩,⟨by simp only;omega,by simp only;omega,by simp only;omega⟩,fun _=>⟨⟨G.fine.place 1 (r.co+1) 0 r.ay,hn1,hl,hl2,G.ax,G.sub,uO,hns,.inr (.inl rfl),by simp only;omega,by simp only;omega,fun h=>by simp only at h;omega⟩,?_,rfl⟩,fun h=>by cases h⟩;unfold meas;simp only[Int.reduceEq,if_false,if_true];rw[if_neg hp,if_pos hp1];have:=mul_pred (a:=r.aq.toNat-r.co.toNat) (b:=r.ax.length+3) (by omega);rw[show r.aq.toNat-(r.co+1).toNat=r.aq.toNat-r.co.toNat-1 by omega];have e:r.ax.length-(0:Int).toNat=r.ax.length:=rfl;omega;split;refine⟨G.fine.place 2 r.co 0 r.ay,rfl,hl,ab2 _,⟨rfl,rfl,rfl,rfl⟩,⟨by simp only;omega,by simp only;omega,by simp only;omega⟩,fun _=>⟨⟨G.fine.place 2 r.co 0 r.ay,hn1,hl,hl2,G.ax,G.sub,uO,hns,.inr (.inr rfl),by simp only;omega,by simp only;omega,fun _=>hlt⟩,?_,rfl⟩,fun h=>by cases h⟩;unfold meas;simp only[Int.reduceEq,if_false];rw[if_neg hp,if_pos hp1];omega;rename_i hal hi;have hi:r.ix<r.ax.length:=by omega
 have hw:=G.ax _ (f9 hg.1 hi);have F:=kD (a:=r.co.toNat) (w:=r.ax.getD r.ix.toNat []) q G.fine hw (by omega) hl hl2;generalize aV r.co.toNat (r.ax.getD r.ix.toNat []) q r=x at *;obtain⟨k1,k2,k3,k4,k5,k6,k7,_⟩:=F.keep;simp only at k1 k2 k3 k4 k5 k6 k7;have f1:=F.len;have f2:=F.aq;have f3:=F.grown;split;rename_i hx;refine⟨F.fine,f1,f2,f3,⟨k1,k2,k3,k4⟩,⟨by simp only;omega,by simp only;omega,by simp only;omega⟩,fun h=>(by cases h),fun _=>?_⟩;rcases F.no hx with ⟨h1,_⟩|⟨h1,h2,h3⟩;exact .inr (.inl h1);exact .inr (.inr ⟨h1,h2,⟨F.fine,by simp only;omega,by simp only;omega,by simp only;omega,by rw[k1,k2];exact G.ax,by rw[k1,k3];exact G.sub,by rw[k2];exact uO,by rw[k3];exact hns,by rw[k5];exact Cz,by simp only;omega,by simp only;omega,fun h=>by simp only at h;omega⟩⟩);rename_i hx;have hx:x.2.2=true:=by simpa using hx
 refine⟨F.fine.place x.1.ph x.1.co (r.ix+1) x.1.ay,f1,f2,f3,⟨k1,k2,k3,k4⟩,⟨by simp only;omega,by simp only;omega,by simp only;omega⟩,fun _=>⟨⟨F.fine.place x.1.ph x.1.co (r.ix+1) x.1.ay,by simp only;omega,by simp only;omega,by simp only;omega,by simp only;rw[k1,k2];exact G.ax,by simp only;rw[k1,k3];exact G.sub,by simp only;rw[k2];exact uO,by simp only;rw[k3];exact hns,by simp only;rw[k5];exact Cz,by simp only;omega,by simp only;omega,fun h=>by simp only at h;omega⟩,?_,F.yes hx⟩,fun h=>by cases h⟩;unfold meas;simp only;rw[k5,if_neg hp,if_pos hp1,if_neg hp,if_pos hp1,k4,k6,k2];omega
def fD:Nat->Rn->Nat->Option (Rn×Nat)
 | 0,_,_=>none
 | f+1,r,q=>if(act r q).2.2=true then some ((act r q).1,(act r q).2.1) else fD f (act r q).1 (act r q).2.1
theorem jm:∀(f:Nat){r:Rn}(q:Nat),cT r->meas r<f->∃ y,fD f r q=some y
 | 0,_,_,_,h=>by omega
 | f + 1, r, q, G, h => by
   have A:=qf G q;rw[fD];split;exact⟨_,rfl⟩;rename_i hx;obtain⟨g1,g2,_⟩:=A.go (by simpa using hx);exact jm f _ g1 (by omega)
theorem Ag:∀(f k:Nat){r:Rn}{q:Nat}{y},fD f r q=some y->fD (f+k) r q=some y
 | 0,_,_,_,_,h=>by cases h
 | f+1,k,r,q,y,h=>by
   rw[show f+1+k=(f+k)+1 by omega,fD];rw[fD] at h;split;rename_i hx;rw[if_pos hx] at h;exact h;rename_i hx;rw[if_neg hx] at h;exact Ag f k h
theorem ZX{f f':Nat}{r:Rn}{q:Nat}{y y'}(h:fD f r q=some y)(h':fD f' r q=some y'):y=y':=by
 have h1:=Ag f f' h;have h2:=Ag f' f h';rw[Nat.add_comm] at h2;rw[h1] at h2;exact Option.some.inj h2
def run(r:Rn)(q:Nat):Rn×Nat:=(fD (meas r+1) r q).getD (r,q)
theorem mw{f:Nat}{r:Rn}{q:Nat}{y}(G:cT r)(h:fD f r q=some y):run r q=y:=by
 obtain⟨z,hz⟩:=jm (meas r+1) q G (by omega);unfold run;rw[hz];exact ZX hz h
structure Ran(r:Rn)(q:Nat)(x:Rn×Nat):Prop where
 fine:br x.1
 len:x.1.af.length+x.2=r.af.length+q
 aq:x.1.af.length<=r.aq
 grown:r.af.length<=x.1.af.length
 same:x.1.g=r.g/\x.1.ax=r.ax/\x.1.sub=r.sub/\x.1.aq=r.aq
 pos:(0<=x.1.ph/\x.1.ph<=3)/\(0<=x.1.co/\x.1.co<=x.1.af.length)/\(0<=x.1.ix/\x.1.ix<=1000)
 stop:x.1.ay=1∨x.1.ay=2∨(x.1.ay=r.ay/\x.2=0/\cT x.1)
theorem Gc:∀(f:Nat){r:Rn}{q:Nat}{y},cT r->fD f r q=some y->Ran r q y
 | 0,_,_,_,_,h=>by cases h
 | f + 1, r, q, y, G, h => by
   have A:=qf G q;rw[fD] at h;split at h;rename_i hx;cases h;exact⟨A.fine,A.len,A.aq,A.grown,A.same,A.pos,A.stop hx⟩;rename_i hx;obtain⟨g1,_,g3⟩:=A.go (by simpa using hx);have R:=Gc f g1 h;obtain⟨s1,s2,s3,s4⟩:=A.same;obtain⟨t1,t2,t3,t4⟩:=R.same;have a1:=A.len;have a2:=A.grown;have r1:=R.len;have r2:=R.grown;have r3:=R.aq;rw[s4] at r3;refine⟨R.fine,by omega,r3,by omega,⟨t1.trans s1,t2.trans s2,t3.trans s3,t4.trans s4⟩,R.pos,?_⟩;have:=R.stop;rw[g3] at this;exact this
theorem wH{r:Rn}(G:cT r)(q:Nat):Ran r q (run r q):=by
 obtain⟨z,hz⟩:=jm (meas r+1) q G (by omega);rw[mw G hz];exact Gc _ G hz
theorem Dm{a:Nat}{w:List Int}(n:Nat):∀(m:Nat){r:Rn},br r->Wd r.g w->a<r.af.length->r.af.length<=r.aq->r.aq<=900000->
 aV a w (m+n) r=if(aV a w m r).2.2=true then((aV a w m r).1,(aV a w m r).2.1+n,true) else if r.aq<=(aV a w m r).1.af.length then((aV a w m r).1,(aV a w m r).2.1+n,false) else aV a w n (aV a w m r).1
 | 0,r,T,hw,ha,hl,hm=>by
   have S:=iK T hw ha;rw[ach];by_cases h1:(scan r a w).2.2.2=false;have e:aV a w 0 r=((scan r a w).1,0,true):=by rw[aV,if_pos h1]
   have e2:aV a w n r=((scan r a w).1,n,true):=by cases n<;>rw[aV,if_pos h1]
   rw[e,e2];simp;by_cases h2:r.aq<=(scan r a w).1.af.length;have e:aV a w 0 r=({ (scan r a w).1 with ay:=2 },0,false):=by rw[aV,if_neg h1,if_pos h2]
   have e2:aV a w n r=({ (scan r a w).1 with ay:=2 },n,false):=by cases n<;>rw[aV,if_neg h1,if_pos h2]
   rw[e,e2];simp only[ab8,if_false,ach];rw[if_pos h2];have e:aV a w 0 r=((scan r a w).1,0,false):=by rw[aV,if_neg h1,if_neg h2]
   rw[e];simp only[ab8,if_false];rw[if_neg h2,(S.opn (by simpa using h1)).1]
 | m + 1, r, T, hw, ha, hl, hm => by
   have S:=iK T hw ha;rw[show m+1+n=(m+n)+1 by omega];by_cases h1:(scan r a w).2.2.2=false;have e:aV a w (m+1) r=((scan r a w).1,m+1,true):=by rw[aV,if_pos h1]
   have e2:aV a w (m+n+1) r=((scan r a w).1,m+n+1,true):=by rw[aV,if_pos h1]
   rw[e,e2];simp only[if_true];rw[show m+n+1=m+1+n by omega];by_cases h2:r.aq<=(scan r a w).1.af.length;have e:aV a w (m+1) r=({ (scan r a w).1 with ay:=2 },m+1,false):=by rw[aV,if_neg h1,if_pos h2]
   have e2:aV a w (m+n+1) r=({ (scan r a w).1 with ay:=2 },m+n+1,false):=by rw[aV,if_neg h1,if_pos h2]
   rw[e,e2];simp only[ab8,if_false];rw[if_pos h2,show m+n+1=m+1+n by omega];have e:aV a w (m+1) r=aV a w m (grow (scan r a w).1 (scan r a w).2.1 (scan r a w).2.2.1):=by rw[aV,if_neg h1,if_neg h2]
   have e2:aV a w (m+n+1) r=aV a w (m+n) (grow (scan r a w).1 (scan r a w).2.1 (scan r a w).2.2.1):=by rw[aV,if_neg h1,if_neg h2]
   obtain⟨o1,o2,o3⟩:=S.opn (by simpa using h1);have hsl:=S.len;obtain⟨g1,g2,g3⟩:=gG S.fine (scan r a w).2.2.1 (show (scan r a w).2.1<(scan r a w).1.af.length by omega) (by omega);have k:=S.keep.trans g3;have ih:=Dm (a:=a) (w:=w) n m g1 (by rw[k.1];exact hw) (by omega) (by rw[k.2.2.2.1];omega) (by rw[k.2.2.2.1];exact hm);rw[e,e2,ih,k.2.2.2.1]
theorem Ge{l:List Int}{x:Int}{i:Nat}(h:i<l.length):(l++[x]).getD i 0=l.getD i 0:=by
 rw[ab0,ace h,<-ab0]
theorem LM{a:Nat}{w:List Int}:∀(m:Nat){r:Rn},br r->Wd r.g w->a<r.af.length->r.af.length<=r.aq->r.aq<=900000->(aV a w m r).2.2=false->∀ i,i<r.af.length->(aV a w m r).1.ah.getD i 0=r.ah.getD i 0
 | 0,r,T,hw,ha,hl,hm,hx,i,hi=>by
   have S:=iK T hw ha;rw[aV] at hx ⊢;split at hx;cases hx;rename_i h1;have h1':(scan r a w).2.2.2=true:=by simpa using h1
   rw[if_neg h1];split;show (scan r a w).1.ah.getD i 0=_;rw[(S.opn h1').1];show (scan r a w).1.ah.getD i 0=_;rw[(S.opn h1').1]
 | m + 1, r, T, hw, ha, hl, hm, hx, i, hi => by
   have S:=iK T hw ha;rw[aV] at hx ⊢;split at hx;cases hx;rename_i h1;have h1':(scan r a w).2.2.2=true:=by simpa using h1
   rw[if_neg h1];split;show (scan r a w).1.ah.getD i 0=_;rw[(S.opn h1').1];rename_i h2;rw[if_neg h2] at hx;obtain⟨o1,o2,o3⟩:=S.opn h1';have hsl:=S.len;obtain⟨g1,g2,g3⟩:=gG S.fine (scan r a w).2.2.1 (show (scan r a w).2.1<(scan r a w).1.af.length by omega) (by omega);have k:=S.keep.trans g3;rw[LM m g1 (by rw[k.1];exact hw) (by omega) (by rw[k.2.2.2.1];omega) (by rw[k.2.2.2.1];exact hm) hx i (by omega)];show ((scan r a w).1.ah++[((scan r a w).1.ah.length:Int)]).getD i 0=_;have:(scan r a w).1.ah.length=(scan r a w).1.af.length:=S.fine.len;rw[Ge (by omega),o1]
def Pre(a c:Nat)(r:Rn):Prop:=∀ i,i<c->0<=aZ r.af a i
theorem Iv{a:Nat}{r:Rn}{q:Nat}:∀(k c f:Nat),Pre a (c+k) r->bG a (f+k) c r q=bG a f (c+k) r q
 | 0,_,_,_=>rfl
 | k+1,c,f,h=>by
   rw[show f+(k+1)=(f+k)+1 by omega,bG,if_pos (h c (by omega)),Iv k (c+1) f (by rw[show c+1+k=c+(k+1) by omega];exact h),show c+1+k=c+(k+1) by omega]
theorem Dn{r:Rn}(T:br r){a c:Nat}(ha:a<r.af.length)(hc:c<(2*r.g).toNat)(h:Pre a c r):Pre a (c+1) (grow r a c):=by
 intro i hi;have hrow:∀ l∈r.af,Row (2*r.g).toNat r.af.length l:=T.row;have e:(add r).af.getD a []=r.af.getD a []:=by
  show (r.af++[_]).getD a []=_;rw[ab0,ace ha,<-ab0]
 have hl:=qM r;show 0<=((eJ (eJ (add r).af a c r.af.length) r.af.length (bQ c) a).getD a []).getD i 0;unfold eJ;rw[xZ,if_neg (by omega),xZ,if_pos ⟨rfl,by omega⟩,e,gE];split;omega;rename_i hne;have hlen:=(hrow _ (dZ ha)).1;exact h i (by omega)
theorem Dp{a:Nat}(n:Nat):∀(f c m:Nat){r:Rn},br r->c+f=(2*r.g).toNat->a<r.af.length->r.af.length<=r.aq->r.aq<=900000->Pre a c r->
 bG a f c r (m+n)=if(bG a f c r m).2.2=true then((bG a f c r m).1,(bG a f c r m).2.1+n,true) else if r.aq<=(bG a f c r m).1.af.length then((bG a f c r m).1,(bG a f c r m).2.1+n,false) else bG a (2*r.g).toNat 0 (bG a f c r m).1 n
 | 0,c,m,r,T,hc,ha,hl,hm,hp=>by
   show (r,m+n,true)=if((r,m,true):Rn×Nat×Bool).2.2=true then _ else _;simp[bG]
 | f + 1, c, m, r, T, hc, ha, hl, hm, hp => by
   by_cases h1:0<=aZ r.af a c;have e:∀ q,bG a (f+1) c r q=bG a f (c+1) r q:=fun q=>by rw[bG,if_pos h1]
   rw[e,e];refine Dp n f (c+1) m T (by omega) ha hl hm fun i hi=>?_;rcases ab9 i c with h|h;exact hp i h;rw[show i=c by omega];exact h1;by_cases h2:r.aq<=r.af.length;have e:∀ q,bG a (f+1) c r q=({ r with ay:=2 },q,false):=fun q=>by rw[bG,if_neg h1,if_pos h2]
   rw[e,e];simp only[ab8,if_false];rw[if_pos h2];by_cases h3:m=0;subst h3;have e:bG a (f+1) c r 0=(r,0,false):=by rw[bG,if_neg h1,if_neg h2,if_pos rfl]
   rw[e,ach];simp only[ab8,if_false];rw[if_neg h2];have:=Iv (a:=a) (r:=r) (q:=n) c 0 (f+1) (by rw[ach];exact hp);rw[ach] at this;rw[<-this,show f+1+c=(2*r.g).toNat by omega];have e:∀ q,q≠0->bG a (f+1) c r q=bG a f (c+1) (grow r a c) (q-1):=fun q hq=>by rw[bG,if_neg h1,if_neg h2,if_neg hq]
   obtain⟨g1,g2,g3⟩:=gG T c ha (by omega);have ih:=Dp (a:=a) n f (c+1) (m-1) g1 (by rw[g3.1];omega) (by omega) (by rw[g3.2.2.2.1];omega) (by rw[g3.2.2.2.1];exact hm) (Dn T ha (by omega) hp);rw[e m h3,e (m+n) (by omega),show m+n-1=m-1+n by omega,ih,g3.2.2.2.1,g3.1]
theorem act_add{r:Rn}(G:cT r)(hs:r.ay=0)(m n:Nat) :
 ((act r m).2.2=false->act r (m+n)=((act r m).1,(act r m).2.1+n,false))/\((act r m).2.2=true->(act r m).1.ay≠0->act r (m+n)=((act r m).1,(act r m).2.1+n,true))/\((act r m).2.2=true->(act r m).1.ay=0->act r (m+n)=act (act r m).1 n):=by
 have hg:=G.ix;have hc:=G.co;have hl:=G.aq;have hl2:=G.x7;have Cz:=G.ph;have hn1:=G.n1;by_cases c1:r.ph=0/\(r.sub.length:Int)<=r.ix;have e:∀ q,act r q=({ r with ph:=1,co:=0,ix:=0 },q,false):=fun q=>by unfold act;rw[if_pos c1]
 rw[e,e];exact⟨fun _=>rfl,fun h=>(by cases h),fun h=>(by cases h)⟩;by_cases c2:r.ph=0
 . have e:∀ q,act r q=if(aV 0 (r.sub.getD r.ix.toNat []) q r).2.2=false then((aV 0 (r.sub.getD r.ix.toNat []) q r).1,(aV 0 (r.sub.getD r.ix.toNat []) q r).2.1,true)
    else({ (aV 0 (r.sub.getD r.ix.toNat []) q r).1 with ix:=r.ix+1 },(aV 0 (r.sub.getD r.ix.toNat []) q r).2.1,false):=fun q=>by unfold act;rw[if_neg c1,if_pos c2]
   have hi:r.ix<r.sub.length:=by omega
   have hw:=G.sub _ (f9 hg.1 hi);have F:=kD (a:=0) (w:=r.sub.getD r.ix.toNat []) m G.fine hw hn1 hl hl2;have A:=Dm (a:=0) (w:=r.sub.getD r.ix.toNat []) n m G.fine hw hn1 hl hl2;rw[e m,e (m+n),A];obtain⟨k1,k2,k3,k4,k5,k6,k7,_⟩:=F.keep;simp only at k1 k2 k3 k4 k5 k6 k7
   have hcc:∀ q,act (aV 0 (r.sub.getD r.ix.toNat []) m r).1 q=if(aV 0 (r.sub.getD r.ix.toNat []) q (aV 0 (r.sub.getD r.ix.toNat []) m r).1).2.2=false then((aV 0 (r.sub.getD r.ix.toNat []) q (aV 0 (r.sub.getD r.ix.toNat []) m r).1).1,(aV 0 (r.sub.getD r.ix.toNat []) q (aV 0 (r.sub.getD r.ix.toNat []) m r).1).2.1,true)
    else({ (aV 0 (r.sub.getD r.ix.toNat []) q (aV 0 (r.sub.getD r.ix.toNat []) m r).1).1 with ix:=r.ix+1 },(aV 0 (r.sub.getD r.ix.toNat []) q (aV 0 (r.sub.getD r.ix.toNat []) m r).1).2.1,false):=fun q=>by
    unfold act;rw[k5,k3,k7,if_neg c1,if_pos c2]
   generalize aV 0 (r.sub.getD r.ix.toNat []) m r=x at *;have Iw:=F.no;cases hx:x.2.2 with
   | true =>
     simp only[acs,if_false,if_true];exact⟨fun _=>(by first|rfl|trivial),fun h=>(by cases h),fun h=>(by cases h)⟩
   | false =>
     simp only[ab8,if_false,if_true];refine⟨fun h=>(by cases h),fun _ h=>?_,fun _ h=>?_⟩;rcases Iw hx with ⟨h1,h2⟩|⟨h1,h2,h3⟩;rw[if_pos h2];simp;omega;rw[hcc];rcases Iw hx with ⟨h1,h2⟩|⟨h1,h2,h3⟩;omega;rw[if_neg (show ¬r.aq<=(x.1.af.length:Int) by omega)]
 by_cases c3:r.ph=2
 . have e:∀ q,act r q=if(bG r.co.toNat (2*r.g).toNat 0 r q).2.2=false then((bG r.co.toNat (2*r.g).toNat 0 r q).1,(bG r.co.toNat (2*r.g).toNat 0 r q).2.1,true)
    else({ (bG r.co.toNat (2*r.g).toNat 0 r q).1 with ph:=1,co:=r.co+1,ix:=0 },(bG r.co.toNat (2*r.g).toNat 0 r q).2.1,false):=fun q=>by unfold act;rw[if_neg c1,if_neg c2,if_pos c3]
   have hco:=G.ER c3;have F:=pH (a:=r.co.toNat) (2*r.g).toNat 0 m G.fine (by omega) (by omega) hl hl2;have A:=Dp (a:=r.co.toNat) n (2*r.g).toNat 0 m G.fine (by omega) (by omega) hl hl2 (fun i hi=>by omega);rw[e m,e (m+n),A];obtain⟨k1,k2,k3,k4,k5,k6,k7,_⟩:=F.keep;simp only at k1 k2 k3 k4 k5 k6 k7
   have hcc:∀ q,act (bG r.co.toNat (2*r.g).toNat 0 r m).1 q=if(bG r.co.toNat (2*r.g).toNat 0 (bG r.co.toNat (2*r.g).toNat 0 r m).1 q).2.2=false then((bG r.co.toNat (2*r.g).toNat 0 (bG r.co.toNat (2*r.g).toNat 0 r m).1 q).1,(bG r.co.toNat (2*r.g).toNat 0 (bG r.co.toNat (2*r.g).toNat 0 r m).1 q).2.1,true)
    else({ (bG r.co.toNat (2*r.g).toNat 0 (bG r.co.toNat (2*r.g).toNat 0 r m).1 q).1 with ph:=1,co:=r.co+1,ix:=0 },(bG r.co.toNat (2*r.g).toNat 0 (bG r.co.toNat (2*r.g).toNat 0 r m).1 q).2.1,false):=fun q=>by
    unfold act;rw[k5,k3,k7,if_neg c1,if_neg c2,if_pos c3,k6,k1]
   generalize bG r.co.toNat (2*r.g).toNat 0 r m=x at *;have Iw:=F.no;cases hx:x.2.2 with
   | true =>
     simp only[acs,if_false,if_true];exact⟨fun _=>(by first|rfl|trivial),fun h=>(by cases h),fun h=>(by cases h)⟩
   | false =>
     simp only[ab8,if_false,if_true];refine⟨fun h=>(by cases h),fun _ h=>?_,fun _ h=>?_⟩;rcases Iw hx with ⟨h1,h2⟩|⟨h1,h2,h3⟩;rw[if_pos h2];simp;omega;rw[hcc];rcases Iw hx with ⟨h1,h2⟩|⟨h1,h2,h3⟩;omega;rw[if_neg (show ¬r.aq<=(x.1.af.length:Int) by omega)]
 by_cases c4:r.co=r.af.length;have e:∀ q,act r q=({ r with ph:=3,co:=0,ix:=0,ay:=1 },q,true):=fun q=>by unfold act;rw[if_neg c1,if_neg c2,if_neg c3,if_pos c4]
 rw[e,e];exact⟨fun h=>(by cases h),fun _ _=>rfl,fun _ h=>by simp at h⟩;by_cases c5:¬(r.ah.getD r.co.toNat 0=r.co);have e:∀ q,act r q=({ r with ph:=1,co:=r.co+1,ix:=0 },q,false):=fun q=>by unfold act;rw[if_neg c1,if_neg c2,if_neg c3,if_neg c4,if_pos c5]
 rw[e,e];exact⟨fun _=>rfl,fun h=>(by cases h),fun h=>(by cases h)⟩;by_cases c6:(r.ax.length:Int)<=r.ix;have e:∀ q,act r q=({ r with ph:=2,co:=r.co,ix:=0 },q,false):=fun q=>by unfold act;rw[if_neg c1,if_neg c2,if_neg c3,if_neg c4,if_neg c5,if_pos c6]
 rw[e,e];exact⟨fun _=>rfl,fun h=>(by cases h),fun h=>(by cases h)⟩
 have e:∀ q,act r q=if(aV r.co.toNat (r.ax.getD r.ix.toNat []) q r).2.2=false then((aV r.co.toNat (r.ax.getD r.ix.toNat []) q r).1,(aV r.co.toNat (r.ax.getD r.ix.toNat []) q r).2.1,true)
  else({ (aV r.co.toNat (r.ax.getD r.ix.toNat []) q r).1 with ix:=r.ix+1 },(aV r.co.toNat (r.ax.getD r.ix.toNat []) q r).2.1,false):=fun q=>by unfold act;rw[if_neg c1,if_neg c2,if_neg c3,if_neg c4,if_neg c5,if_neg c6]
 have hi:r.ix<r.ax.length:=by omega
 have hw:=G.ax _ (f9 hg.1 hi);have F:=kD (a:=r.co.toNat) (w:=r.ax.getD r.ix.toNat []) m G.fine hw (by omega) hl hl2;have A:=Dm (a:=r.co.toNat) (w:=r.ax.getD r.ix.toNat []) n m G.fine hw (by omega) hl hl2;have B:=LM (a:=r.co.toNat) (w:=r.ax.getD r.ix.toNat []) m G.fine hw (by omega) hl hl2;rw[e m,e (m+n),A];obtain⟨k1,k2,k3,k4,k5,k6,k7,_⟩:=F.keep;simp only at k1 k2 k3 k4 k5 k6 k7;have f3:=F.grown
 have hcc:(aV r.co.toNat (r.ax.getD r.ix.toNat []) m r).2.2=false->∀ q,act (aV r.co.toNat (r.ax.getD r.ix.toNat []) m r).1 q=if(aV r.co.toNat (r.ax.getD r.ix.toNat []) q (aV r.co.toNat (r.ax.getD r.ix.toNat []) m r).1).2.2=false then((aV r.co.toNat (r.ax.getD r.ix.toNat []) q (aV r.co.toNat (r.ax.getD r.ix.toNat []) m r).1).1,(aV r.co.toNat (r.ax.getD r.ix.toNat []) q (aV r.co.toNat (r.ax.getD r.ix.toNat []) m r).1).2.1,true)
  else({ (aV r.co.toNat (r.ax.getD r.ix.toNat []) q (aV r.co.toNat (r.ax.getD r.ix.toNat []) m r).1).1 with ix:=r.ix+1 },(aV r.co.toNat (r.ax.getD r.ix.toNat []) q (aV r.co.toNat (r.ax.getD r.ix.toNat []) m r).1).2.1,false):=fun hx q=>by
  have b:=B hx r.co.toNat (by omega);unfold act;rw[k5,k3,k7,if_neg c1,if_neg c2,if_neg c3,k6,if_neg (show ¬r.co=((aV r.co.toNat (r.ax.getD r.ix.toNat []) m r).1.af.length:Int) by omega),b,if_neg c5,k2,if_neg c6]
 generalize aV r.co.toNat (r.ax.getD r.ix.toNat []) m r=x at *;have Iw:=F.no;cases hx:x.2.2 with
 | true =>
   simp only[acs,if_false,if_true];exact⟨fun _=>(by first|rfl|trivial),fun h=>(by cases h),fun h=>(by cases h)⟩
 | false =>
   simp only[ab8,if_false,if_true];refine⟨fun h=>(by cases h),fun _ h=>?_,fun _ h=>?_⟩;rcases Iw hx with ⟨h1,h2⟩|⟨h1,h2,h3⟩;rw[if_pos h2];simp;omega;rw[hcc hx];rcases Iw hx with ⟨h1,h2⟩|⟨h1,h2,h3⟩;omega;rw[if_neg (show ¬r.aq<=(x.1.af.length:Int) by omega)]
theorem LN(n:Nat):∀(f m:Nat){r:Rn}{y},cT r->r.ay=0->fD f r m=some y->
 (y.1.ay≠0->∃ f',fD f' r (m+n)=some (y.1,y.2+n))/\(y.1.ay=0->∀ f2 z,fD f2 y.1 n=some z->∃ f',fD f' r (m+n)=some z)
 | 0,_,_,_,_,_,h=>by cases h
 | f + 1, m, r, y, G, hs, h => by
   obtain⟨a1,a2,a3⟩:=act_add G hs m n;have A:=qf G m;rw[fD] at h;split at h;rename_i hx;cases h;refine⟨fun h=>⟨1,?_⟩,fun h f2 z hz=>?_⟩;rw[fD,a2 hx h];rfl
   . cases f2 with
     | zero=>cases hz
     | succ f2 =>
       refine⟨f2+1,?_⟩;rw[fD,a3 hx h];rw[fD] at hz;exact hz
   rename_i hx;have hx:(act r m).2.2=false:=by simpa using hx
   obtain⟨g1,g2,g3⟩:=A.go hx;obtain⟨i1,i2⟩:=LN n f (act r m).2.1 g1 (g3.trans hs) h;have e:=a1 hx;refine⟨fun h=>?_,fun h f2 z hz=>?_⟩;obtain⟨f',h'⟩:=i1 h;refine⟨f'+1,?_⟩;rw[fD,e];exact h';obtain⟨f',h'⟩:=i2 h f2 z hz;refine⟨f'+1,?_⟩;rw[fD,e];exact h'
theorem PE{r:Rn}(G:cT r)(hs:r.ay=0)(m n:Nat) :
 ((run r m).1.ay≠0->run r (m+n)=((run r m).1,(run r m).2+n))/\((run r m).1.ay=0->run r (m+n)=run (run r m).1 n):=by
 obtain⟨z,hz⟩:=jm (meas r+1) m G (by omega);have R:=Gc _ G hz;rw[mw G hz];obtain⟨i1,i2⟩:=LN n _ m G hs hz;refine⟨fun h=>?_,fun h=>?_⟩;obtain⟨f',h'⟩:=i1 h;exact mw G h';have G':cT z.1:=by
  rcases R.stop with h1|h1|⟨_,_,h1⟩;omega;omega;exact h1
 obtain⟨z2,hz2⟩:=jm (meas z.1+1) n G' (by omega);obtain⟨f',h'⟩:=i2 h _ _ hz2;rw[mw G h',mw G' hz2]
end Go.bh
namespace Go.Proofs.YtlbmkeimafgemaaGreatDoor
open Go.aT Go.Words Go.bh
set_option maxRecDepth 100000
def gAc:bN:=[(63,Sj),(64,Sk),(45,Ly)]
theorem gAc_ok:bp Tryz.prog gAc:=av ZT (av ZW (av Ir aE))
theorem act_sem(r:Rn)(N q:Nat)(G:cT r)(h:q<=N/\N<=1000000):bn Tryz.prog 30 4 [pR,Pz] (jR r N q) (bB (act r q).2.2) (jR (act r q).1 N (act r q).2.1):=by
 refine bJ (aj:=[]) (bZ:=[]) (fz:=[]) gAc_ok Tryz.func30 (by kernel_rfl) 4 (by kernel_rfl) 100 ?_;apply of_eq (q:=let q0:=IntKind.i64.wrap;let q4:=decide (r.ph=0)=true;let q5:=(bh.act r q);let q6:=r.ah.length=r.ah.length/\((2:Int)*r.g).toNat=((2:Int)*r.g).toNat;let q7:=Ob.mk 37 [Fd.c (W.ptr 0 0)];let aU:=aD [vB false]=bB q5.snd.snd;let bF:=(r.af.length:Int)<=r.aq/\r.aq<=900000;let cA:=aD [vB true]=bB q5.snd.snd;let cK:=r.af.length=r.af.length;let cU:=(N:Int);let eC:=decide (r.ah.getD r.co.toNat (0:Int)=(r.co.toNat:Int));let q8:=(0:Int)<=cU-(q:Int)/\cU-(q:Int)<=cU/\cU<=1000000;let q9:=Ob.mk 3 [fI cU];let bC:=(cU-(q:Int));let q1:=(bG r.co.toNat ((2:Int)*r.g).toNat (0:Nat) r (cU-bC).toNat);let q2:=(aV r.co.toNat (r.ax.getD r.ix.toNat []) (cU-bC).toNat r);let q3:=(aV (0:Nat) (r.sub.getD r.ix.toNat []) (cU-bC).toNat r);let eW:=Ob.mk 22 [Fd.c (W.th ((2:Int)*q1.fst.g).toNat q1.fst.af)];(q4->q4)/\(q4->q4)/\(q4->q4)/\(q4->q4)/\(q4->q4)/\(q4->q4)/\(q4->q4)/\(q4->q4)/\(q4->q4)/\(q4->q4)/\((bif decide (r.ph=0) then decide ((r.sub.length:Int)<=r.ix) else false)=true->aU/\[Ob.mk 73 [fI r.g,fL r.ax,fL r.sub,fI r.aq,fI r.aF,fI r.aj,fI r.ay,fI (1),fI (0),fI (0),fS 4 0 r.af.length,fS 5 0 r.ah.length,fS 6 0 r.dn],q7,Ob.mk 3 [fI bC],q9,aO r,aB r.ah,aB r.dl]=jR q5.fst N q5.snd.fst)/\((bif decide (r.ph=0) then decide ((r.sub.length:Int)<=r.ix) else false)=false->(q4->((0:Int)<=r.ix/\r.ix<(r.sub.length:Int))/\r.ix.toNat<r.sub.length/\(((cK/\q6)/\q8)/\(0:Int)<=0/\br r/\Wd r.g (r.sub.getD r.ix.toNat [])/\(0:Nat)<r.af.length/\bF)/\((!q3.snd.snd)=true->cA/\[bL (q3.fst) (4:Nat) (5:Nat) (6:Nat),q7,Ob.mk 3 [fI (cU-(↑q3.snd.fst:Int))],q9,aO (q3.fst),aB (q3.fst.ah),aB (q3.fst.dl)]=jR q5.fst N q5.snd.fst)/\((!q3.snd.snd)=false->aU/\[Ob.mk 73 [fI q3.fst.g,fL q3.fst.ax,fL q3.fst.sub,fI q3.fst.aq,fI q3.fst.aF,fI q3.fst.aj,fI q3.fst.ay,fI q3.fst.ph,fI q3.fst.co,fI (q0 (q3.fst.ix+1)),fS 4 0 q3.fst.af.length,fS 5 0 q3.fst.ah.length,fS 6 0 q3.fst.dn],q7,Ob.mk 3 [fI (cU-(↑q3.snd.fst:Int))],q9,aO (q3.fst),aB (q3.fst.ah),aB (q3.fst.dl)]=jR q5.fst N q5.snd.fst))/\(decide (r.ph=0)=false->(decide (r.ph=2)=true->(((cK/\q6)/\q8)/\(0:Int)<=r.co/\br r/\r.co.toNat<r.af.length/\bF)/\((!q1.snd.snd)=true->cA/\[Ob.mk 73 [fI q1.fst.g,fL q1.fst.ax,fL q1.fst.sub,fI q1.fst.aq,fI q1.fst.aF,fI q1.fst.aj,fI q1.fst.ay,fI q1.fst.ph,fI q1.fst.co,fI q1.fst.ix,fS 4 0 q1.fst.af.length,fS 5 0 q1.fst.ah.length,fS 6 0 q1.fst.dn],q7,Ob.mk 3 [fI (cU-(↑q1.snd.fst:Int))],q9,eW,aB (q1.fst.ah),aB (q1.fst.dl)]=jR q5.fst N q5.snd.fst)/\((!q1.snd.snd)=false->aU/\[Ob.mk 73 [fI q1.fst.g,fL q1.fst.ax,fL q1.fst.sub,fI q1.fst.aq,fI q1.fst.aF,fI q1.fst.aj,fI q1.fst.ay,fI (1),fI (q0 (q1.fst.co+1)),fI (0),fS 4 0 q1.fst.af.length,fS 5 0 q1.fst.ah.length,fS 6 0 q1.fst.dn],q7,Ob.mk 3 [fI (cU-(↑q1.snd.fst:Int))],q9,eW,aB (q1.fst.ah),aB (q1.fst.dl)]=jR q5.fst N q5.snd.fst))/\(decide (r.ph=2)=false->(decide (r.co=(r.af.length:Int))=true->cA/\[Ob.mk 73 [fI r.g,fL r.ax,fL r.sub,fI r.aq,fI r.aF,fI r.aj,fI (1),fI (3),fI (0),fI (0),fS 4 0 r.af.length,fS 5 0 r.ah.length,fS 6 0 r.dn],q7,Ob.mk 3 [fI bC],q9,aO r,aB r.ah,aB r.dl]=jR q5.fst N q5.snd.fst)/\(decide (r.co=(r.af.length:Int))=false->((cK/\q6)/\(0:Int)<=r.co/\r.co.toNat<r.ah.length)/\((!eC)=true->aU/\[Ob.mk 73 [fI r.g,fL r.ax,fL r.sub,fI r.aq,fI r.aF,fI r.aj,fI r.ay,fI (1),fI (q0 (r.co+1)),fI (0),fS 4 0 r.af.length,fS 5 0 r.ah.length,fS 6 0 r.dn],q7,Ob.mk 3 [fI bC],q9,aO r,aB r.ah,aB r.dl]=jR q5.fst N q5.snd.fst)/\((!eC)=false->(decide ((r.ax.length:Int)<=r.ix)=true->aU/\[Ob.mk 73 [fI r.g,fL r.ax,fL r.sub,fI r.aq,fI r.aF,fI r.aj,fI r.ay,fI (2),fI r.co,fI (0),fS 4 0 r.af.length,fS 5 0 r.ah.length,fS 6 0 r.dn],q7,Ob.mk 3 [fI bC],q9,aO r,aB r.ah,aB r.dl]=jR q5.fst N q5.snd.fst)/\(decide ((r.ax.length:Int)<=r.ix)=false->((0:Int)<=r.ix/\r.ix<(r.ax.length:Int))/\r.ix.toNat<r.ax.length/\(((cK/\q6)/\q8)/\(0:Int)<=r.co/\br r/\Wd r.g (r.ax.getD r.ix.toNat [])/\r.co.toNat<r.af.length/\bF)/\((!q2.snd.snd)=true->cA/\[Ob.mk 73 [fI q2.fst.g,fL q2.fst.ax,fL q2.fst.sub,fI q2.fst.aq,fI q2.fst.aF,fI q2.fst.aj,fI q2.fst.ay,fI q2.fst.ph,fI q2.fst.co,fI q2.fst.ix,fS 4 0 q2.fst.af.length,fS 5 0 q2.fst.ah.length,fS 6 0 q2.fst.dn],q7,Ob.mk 3 [fI (cU-(↑q2.snd.fst:Int))],q9,aO (q2.fst),aB (q2.fst.ah),aB (q2.fst.dl)]=jR q5.fst N q5.snd.fst)/\((!q2.snd.snd)=false->aU/\[Ob.mk 73 [fI q2.fst.g,fL q2.fst.ax,fL q2.fst.sub,fI q2.fst.aq,fI q2.fst.aF,fI q2.fst.aj,fI q2.fst.ay,fI q2.fst.ph,fI q2.fst.co,fI (q0 (q2.fst.ix+1)),fS 4 0 q2.fst.af.length,fS 5 0 q2.fst.ah.length,fS 6 0 q2.fst.dn],q7,Ob.mk 3 [fI (cU-(↑q2.snd.fst:Int))],q9,aO (q2.fst),aB (q2.fst.ah),aB (q2.fst.dl)]=jR q5.fst N q5.snd.fst)))))))) (by kernel_rfl)
 try simp only[sL,Nat.reduceAdd]
 have hg:=G.ix;have hc:=G.co;have hl:=G.aq;have hl2:=G.x7;have Cz:=G.ph;have hn1:=G.n1;have hns:=G.ns;have uO:=G.nr;have hpl:r.ah.length=r.af.length:=G.fine.len;rw[show ((N:Int)-((N:Int)-(q:Int))).toNat=q by omega];have hq:0<=(N:Int)-q/\(N:Int)-q<=N/\(N:Int)<=1000000:=by omega
 rw[wrap64 (n:=r.co+1) (by omega) (by omega)];refine⟨fun h1=>?_,fun h1=>⟨fun h2=>?_,fun h2=>⟨fun h3=>?_,fun h3=>⟨fun h4=>?_,fun h4=>?_⟩⟩⟩⟩;rw[bh.act,if_pos h1];exact⟨rfl,rfl⟩;have hi:r.ix<r.sub.length:=h1 h2;have hw:=G.sub _ (f9 hg.1 hi);have F:=kD (a:=0) (w:=r.sub.getD r.ix.toNat []) q G.fine hw hn1 hl hl2;obtain⟨_,_,_,_,_,_,k7,_⟩:=F.keep;simp only at k7;refine⟨by omega,by omega,⟨hq,G.fine,hw,hn1,hl,hl2⟩,fun h=>?_,fun h=>?_⟩;rw[bh.act,if_neg (by omega),if_pos h2,if_pos h];exact⟨rfl,rfl⟩;rw[k7,wrap64 (n:=r.ix+1) (by omega) (by omega),bh.act,if_neg (by omega),if_pos h2,if_neg (by rw[h];simp)];exact⟨rfl,rfl⟩;have hco:=G.ER h3;have F:=pH (a:=r.co.toNat) (2*r.g).toNat 0 q G.fine (by omega) (by omega) hl hl2;obtain⟨_,_,_,_,_,k6,_,_⟩:=F.keep;simp only at k6;refine⟨⟨hq,hc.1,G.fine,by omega,hl,hl2⟩,fun h=>?_,fun h=>?_⟩;rw[bh.act,if_neg (by omega),if_neg h2,if_pos h3,if_pos h];exact⟨rfl,rfl⟩;rw[k6,wrap64 (n:=r.co+1) (by omega) (by omega),bh.act,if_neg (by omega),if_neg h2,if_pos h3,if_neg (by rw[h];simp)];exact⟨rfl,rfl⟩;rw[bh.act,if_neg (by omega),if_neg h2,if_neg h3,if_pos h4];exact⟨rfl,rfl⟩;have hp1:r.ph=1:=by omega
 have cn:r.co.toNat<r.af.length:=by omega
 refine⟨by omega,fun h5=>?_,fun h5=>⟨fun h6=>?_,fun h6=>?_⟩⟩;rw[bh.act,if_neg (by omega),if_neg h2,if_neg h3,if_neg h4,if_pos (by omega)];exact⟨rfl,rfl⟩;rw[bh.act,if_neg (by omega),if_neg h2,if_neg h3,if_neg h4,if_neg (by omega),if_pos h6];exact⟨rfl,rfl⟩;have hw:=G.ax _ (f9 hg.1 h6);have F:=kD (a:=r.co.toNat) (w:=r.ax.getD r.ix.toNat []) q G.fine hw cn hl hl2;obtain⟨_,_,_,_,_,_,k7,_⟩:=F.keep;simp only at k7;refine⟨by omega,by omega,⟨hq,hc.1,G.fine,hw,cn,hl,hl2⟩,fun h=>?_,fun h=>?_⟩;rw[bh.act,if_neg (by omega),if_neg h2,if_neg h3,if_neg h4,if_neg (by omega),if_neg (by omega),if_pos h];exact⟨rfl,rfl⟩;rw[k7,wrap64 (n:=r.ix+1) (by omega) (by omega),bh.act,if_neg (by omega),if_neg h2,if_neg h3,if_neg h4,if_neg (by omega),if_neg (by omega),if_neg (by rw[h];simp)];exact⟨rfl,rfl⟩
def ZY:bI:={ refs:=[true,true],keep:=some 4,f:=fun args ar=>match args with
 | [.p (.c (.ptr 0 0)),.p (.c (.func f [(1,0),(2,0),(3,0)]))]=>bif ab5 f 29 then match Wi ar with
   | some (c,r,N,q)=>some (.p (c/\cT r),bB (bh.act r q).2.2,jR (bh.act r q).1 N (bh.act r q).2.1)
   | _=>none
   else none
 | _=>none }
theorem cAct_ok:aK Tryz.prog 30 ZY:=by
 refine⟨by kernel_rfl,fun args ar c r aY e hc=>?_⟩;simp only[ZY] at e;split at e;rename_i f;obtain⟨hb,e1⟩:=aA.aH e;clear e;cases abZ hb;split at e1;rename_i c1 r1 N q hr;cases e1;obtain⟨h1,h2⟩:=hc;obtain⟨rfl,g1,g2⟩:=LK hr h1;exact act_sem r1 N q h2 ⟨g1,g2⟩;cases e1;cases e
theorem Wk(r:Rn):bn Tryz.prog 28 1 [pR] (obs r) (bB (decide (0<r.af.length))) (obs r):=by
 refine bJ (aj:=[]) (bZ:=[]) (fz:=[]) aE Tryz.func28 (by kernel_rfl) 1 (by kernel_rfl) 100 ?_;apply of_eq (q:=let q1:=true=true;(q1->q1)/\(q1->q1)/\(q1->q1)/\(q1->q1)/\(q1->q1)/\(q1->q1)/\aD [vB (bif true then decide ((0:Int)<(r.af.length:Int)) else false)]=bB (decide ((0:Nat)<r.af.length))/\[bL r (1:Nat) (2:Nat) (3:Nat),aO r,aB r.ah,aB r.dl]=obs r) (by kernel_rfl)
 try simp only[sL,Nat.reduceAdd]
 rw[Bool.true_and];simp only[aD,Int.natCast_pos]
def ES:bI:=x6 fun r=>(True,bB (decide (0<r.af.length)),r)
theorem Ah:aK Tryz.prog 28 ES:=tT (by kernel_rfl) fun r _=>Wk r
def gVa:bN:=[(30,ZY),(28,ES)]
theorem LO:bp Tryz.prog gVa:=av cAct_ok (av Ah aE)
def sStp:Site:=bD Tryz.prog gVa Tryz.f10 1 [([0,0,1,1,1,1],[2,6,7])] [] []
theorem LP(N:Nat)(hN:N<=1000000)(y:Rn×Nat):∀(f:Nat)(r:Rn)(q:Nat),cT r->q<=N->fD f r q=some y->
 au sStp (aC (.aJ [.c (.int .i64 ((N:Int)-y.2)),.c (.int .i64 0)]) (obs y.1)) [0,0,1,1,1,1] (fr [(2,.p (.c (.ptr 1 0))),(6,.p (.c (.ptr 2 0))),(7,Pz)]) (.ofList (jR r N q))
 | f,r,q,G,hq,hf=>by
   refine aL LO (by kernel_rfl) 100 ?_;apply of_eq (q:=let q2:=(N:Int);let q1:=(bh.act r (q2-(q2-(q:Int))).toNat);(((r.af.length=r.af.length/\r.ah.length=r.ah.length/\((2:Int)*r.g).toNat=((2:Int)*r.g).toNat)/\(0:Int)<=q2-(q:Int)/\q2-(q:Int)<=q2/\q2<=1000000)/\cT r)/\((!q1.snd.snd)=true->au sStp (aC (A.aJ [vI (q2-(y.snd:Int)),vI (0)]) (obs y.fst)) [0,0,1,1,1,1] (fr [(2,aR 1 0),(6,aR 2 0),(7,aP (W.func 29 [(1,(0:Nat)),(2,(0:Nat)),(3,(0:Nat))]))]) (ak.ofList [bL (q1.fst) 4 5 6,Ob.mk 37 [Fd.c (W.ptr 0 0)],Ob.mk 3 [fI (q2-(↑q1.snd.fst:Int))],Ob.mk 3 [fI q2],aO (q1.fst),aB (q1.fst.ah),aB (q1.fst.dl)]))/\((!q1.snd.snd)=false->aD [vI (q2-(↑q1.snd.fst:Int)),vI (0)]=A.aJ [vI (q2-(y.snd:Int)),vI (0)]/\[Ob.mk 73 [fI q1.fst.g,fL q1.fst.ax,fL q1.fst.sub,fI q1.fst.aq,fI q1.fst.aF,fI q1.fst.aj,fI q1.fst.ay,fI q1.fst.ph,fI q1.fst.co,fI q1.fst.ix,fS 1 0 q1.fst.af.length,fS 2 0 q1.fst.ah.length,fS 3 0 q1.fst.dn],aO (q1.fst),aB (q1.fst.ah),aB (q1.fst.dl)]=obs y.fst)) (by kernel_rfl)
   try simp only[sL,Nat.reduceAdd]
   have A:=qf G q;have al:=A.len;have ag:=A.grown;rw[show ((N:Int)-((N:Int)-(q:Int))).toNat=q by omega];refine⟨⟨⟨by omega,by omega,by omega⟩,G⟩,fun h=>?_,fun h=>?_⟩
   . obtain⟨g1,_,_⟩:=A.go h;cases f with
     | zero=>cases hf
     | succ f =>
       rw[fD,if_neg (by rw[h];simp)] at hf;exact LP N hN y f (bh.act r q).1 (bh.act r q).2.1 g1 (by omega) hf
   cases f with
   | zero=>cases hf
   | succ f =>
     rw[fD,if_pos h] at hf;cases hf;exact⟨rfl,rfl⟩
def jd(r:Rn)(n:Int):Rn×Int×Int:=if n<1 then(r,0,2) else if ¬r.ay=0 then(r,0,13) else((bh.run r n.toNat).1,n-(bh.run r n.toNat).2,0)
theorem Z4(r:Rn)(n:Int)(h:0<r.af.length/\n<=1000000/\(1<=n->r.ay=0->cT r)):bn Tryz.prog 10 1 [pR,nI n] (obs r) (.aJ [.c (.int .i64 (jd r n).2.1),.c (.int .i64 (jd r n).2.2)]) (obs (jd r n).1):=by
 refine bJ (aj:=[([0,0,1,1,1,1],[2,6,7])]) (bZ:=[]) (fz:=[]) LO Tryz.func10 (by kernel_rfl) 1 (by kernel_rfl) 100 ?_;apply of_eq (q:=let q2:=(jd r n);let q1:=[bL r (1:Nat) (2:Nat) (3:Nat),aO r,aB r.ah,aB r.dl]=obs q2.fst;((r.af.length=r.af.length/\r.ah.length=r.ah.length/\((2:Int)*r.g).toNat=((2:Int)*r.g).toNat)/\True)/\((!decide ((0:Nat)<r.af.length))=true->aD [vI (0),vI (1)]=A.aJ [vI q2.snd.fst,vI q2.snd.snd]/\q1)/\((!decide ((0:Nat)<r.af.length))=false->(decide (n<1)=true->aD [vI (0),vI (2)]=A.aJ [vI q2.snd.fst,vI q2.snd.snd]/\[bL r (1:Nat) (2:Nat) (3:Nat),aO r,Ob.mk 3 [Fd.a 0 (D.int .i64) r.ah],aB r.dl]=obs q2.fst)/\(decide (n<1)=false->((!decide (r.ay=0))=true->aD [vI (0),vI (13)]=A.aJ [vI q2.snd.fst,vI q2.snd.snd]/\q1)/\((!decide (r.ay=0))=false->au (bD Tryz.prog gVa Tryz.f10 (1:Nat) [([0,0,1,1,1,1],[2,6,7])] [] []) (aC (A.aJ [vI q2.snd.fst,vI q2.snd.snd]) (obs q2.fst)) [0,0,1,1,1,1] (fr [(2,aR 1 0),(6,aR 2 0),(7,aP (W.func 29 [(1,(0:Nat)),(2,(0:Nat)),(3,(0:Nat))]))]) (ak.ofList [bL r 4 5 6,Ob.mk 37 [Fd.c (W.ptr 0 0)],Ob.mk 3 [fI (0)],Ob.mk 3 [fI n],aO r,aB r.ah,aB r.dl]))))) (by kernel_rfl)
 try simp only[sL,Nat.reduceAdd]
 obtain⟨h1,h2,h3⟩:=h;refine⟨fun g=>absurd h1 g,fun _=>⟨fun g=>?_,fun g=>⟨fun g2=>?_,fun g2=>?_⟩⟩⟩;rw[jd,if_pos g];exact⟨rfl,rfl⟩;rw[jd,if_neg (by omega),if_pos g2];exact⟨rfl,rfl⟩;have G:=h3 g g2;rw[jd,if_neg (by omega),if_neg (by rw[g2];simp)];obtain⟨y,hy⟩:=jm (meas r+1) n.toNat G (by omega);rw[mw G hy];have:=LP n.toNat (by omega) y (meas r+1) r n.toNat G (ab2 _) hy;simp only[jR,j6,Int.sub_self] at this;rw[<-fR (show 0<=n by omega)] at this;exact this
def Sl:bI:={ refs:=[true,false],keep:=some 1,f:=fun args ar=>match args with
 | [.p (.c (.ptr 0 0)),.p (.c (.int .i64 n))]=>match EO ar with
   | some (c,r)=>some (.p (c/\0<r.af.length/\n<=1000000/\(1<=n->r.ay=0->cT r)),.aJ [.c (.int .i64 (jd r n).2.1),.c (.int .i64 (jd r n).2.2)],obs (jd r n).1)
   | none=>none
 | _=>none }
theorem Z5:aK Tryz.prog 10 Sl:=by
 refine⟨by kernel_rfl,fun args ar c r aY e hc=>?_⟩;simp only[Sl] at e;split at e;rename_i n;split at e;rename_i c1 r1 hr;cases e;obtain⟨h1,h2⟩:=hc;rw[rT hr h1];exact Z4 _ _ h2;cases e;cases e
theorem Z6(r:Rn):bn Tryz.prog 9 1 [pR] (obs r) (nI (if 0<r.af.length then r.ay else 0)) (obs r):=by
 refine bJ (aj:=[]) (bZ:=[]) (fz:=[]) LO Tryz.func9 (by kernel_rfl) 1 (by kernel_rfl) 100 ?_;apply of_eq (q:=let q1:=[bL r (1:Nat) (2:Nat) (3:Nat),aO r,aB r.ah,aB r.dl]=obs r;((r.af.length=r.af.length/\r.ah.length=r.ah.length/\((2:Int)*r.g).toNat=((2:Int)*r.g).toNat)/\True)/\((!decide ((0:Nat)<r.af.length))=true->aD [vI (0)]=nI (if(0:Nat)<r.af.length then r.ay else(0:Int))/\q1)/\((!decide ((0:Nat)<r.af.length))=false->aD [vI r.ay]=nI (if(0:Nat)<r.af.length then r.ay else(0:Int))/\q1)) (by kernel_rfl)
 try simp only[sL,Nat.reduceAdd]
 refine⟨fun h=>?_,fun h=>?_⟩;rw[if_neg h];rfl;rw[if_pos h];rfl
def cStat:bI:=x6 fun r=>(True,nI (if 0<r.af.length then r.ay else 0),r)
theorem Z7:aK Tryz.prog 9 cStat:=tT (by kernel_rfl) fun r _=>Z6 r
abbrev fnG:A:=.p (.c (.func 60 [(0,0)]))
theorem Wl(x g:Int)(r:List (List Int)):bA Tryz.prog 60 [nI x,.p (.c (.ptr 0 0))] [fA g r] (bB (dG g x)) [fA g r]:=by
 refine bO (aj:=[]) aE Tryz.func60 (by kernel_rfl) (keep:=1) rfl (by kernel_rfl) 100 ?_;apply of_eq (q:=let q1:=(bif decide (x=0) then true else decide (x<IntKind.i64.wrap ((0:Int)-g)))=false;let q2:=decide (x=0)=false;(q2->q2)/\(q2->q2)/\(q2->q2)/\(q2->q2)/\(q2->q2)/\(q1->q1)/\(q1->q1)/\(q1->q1)/\(q1->q1)/\aD [vB (bif bif decide (x=0) then true else decide (x<IntKind.i64.wrap ((0:Int)-g)) then true else decide (g<x))]=bB (dG g x)/\[Ob.mk 25 [fI g,fL r]]=[fA g r]) (by kernel_rfl)
 try simp only[sL]
 rfl
def LQ:bI:={ refs:=[false,true],f:=fun args ar=>match args,ar with | [.p (.c (.int .i64 x)),.p (.c (.ptr 0 0))],[⟨t,[.c (.int .i64 g),.c (.rd (.sl (.int .i64)) r)]⟩]=>(bif ab5 t 25 then some (.t,bB (dG g x),[fA g r]) else none)|_,_=>none }
theorem Wm:aK Tryz.prog 60 LQ:=by
 refine⟨by kernel_rfl,fun args ar c r aY e hc=>?_⟩;simp only[LQ] at e;split at e;rename_i x t g r;obtain⟨ht,e⟩:=aA.aH e;have ht:=abZ ht;subst ht;cases e;exact Wl x g r;cases e
def Z8:bN:=[(60,LQ)]
theorem PF:bp Tryz.prog Z8:=av Wm aE
def sIxG:Site:=dJ Tryz.prog Z8 Tryz.f79 1 [([0,1,0,1],[0,1,7,8])]
theorem LR(w:List Int)(g:Int)(r:List (List Int))(hl:w.length<=1000000):∀(k i:Nat),k=w.length-i->i<=w.length->
 au sIxG (aC (nI (mS g (w.drop i) i)) [fA g r]) [0,1,0,1] (fr [(0,bw w),(1,fnG),(7,nI w.length),(8,nI i)]) (.ofList [fA g r])
 | k,i,hk,hi=>by
   refine aL PF (by kernel_rfl) 100 ?_;apply of_eq (q:=(decide ((i:Int)<(w.length:Int))=true->((0:Int)<=(i:Int)/\(i:Int)<(w.length:Int))/\i<w.length/\(dG g (w.getD i (0:Int))=true->aD [vI (i:Int)]=nI (mS g (acd i w) i)/\[Ob.mk 25 [fI g,fL r]]=[fA g r])/\(dG g (w.getD i (0:Int))=false->au sIxG (aC (nI (mS g (acd i w) i)) [fA g r]) [0,1,0,1] (fr [(0,bw w),(1,aP (W.func 60 [(0,(0:Nat))])),(7,nI (w.length:Int)),(8,nI (IntKind.i64.wrap ((i:Int)+1)))]) (ak.ofList [Ob.mk 25 [fI g,fL r]])))/\(decide ((i:Int)<(w.length:Int))=false->aD [vI (-1)]=nI (mS g (acd i w) i)/\[Ob.mk 25 [fI g,fL r]]=[fA g r])) (by kernel_rfl)
   try simp only[sL]
   rw[wrap64 (n:=(i:Int)+1) (by omega) (by omega)];refine⟨fun h=>⟨by omega,by omega,fun g=>?_,fun g=>?_⟩,fun h=>?_⟩;rw[iJ (by omega),mS,if_pos g];rfl
   . rw[iJ (by omega),mS,g,if_neg (by simp)];cases k with
     | zero=>omega
     | succ k=>exact LR w _ r hl k (i+1) (by omega) (by omega)
   rw[List.drop_eq_nil_of_le (by omega)];rfl
theorem ix_semG(w:List Int)(g:Int)(r:List (List Int))(hl:w.length<=1000000):bA Tryz.prog 79 [bw w,fnG] [fA g r] (nI (mS g w 0)) [fA g r]:=by
 refine bO (aj:=[([0,1,0,1],[0,1,7,8])]) PF Tryz.func79 (by kernel_rfl) (keep:=1) rfl (by kernel_rfl) 100 ?_;apply of_eq (q:=au (dJ Tryz.prog Z8 Tryz.f79 (1:Nat) [([0,1,0,1],[0,1,7,8])]) (aC (nI (mS g w (0:Nat))) [fA g r]) [0,1,0,1] (fr [(0,bw w),(1,aP (W.func 60 [(0,(0:Nat))])),(7,nI (w.length:Int)),(8,nI (0))]) (ak.ofList [Ob.mk 25 [fI g,fL r]])) (by kernel_rfl)
 try simp only[sL,Int.reduceEq,Int.reduceNe,Nat.reduceAdd]
 exact LR w g r hl w.length 0 (by omega) (by omega)
def Z9:bI:={ refs:=[false,true],f:=fun args ar=>match args,ar with | [x,.p (.c (.func f [(0,0)]))],[⟨t,[.c (.int .i64 g),.c (.rd (.sl (.int .i64)) r)]⟩]=>(bif ab5 f 60&&ab5 t 25 then(match fP dI x with|some w=>some (.p (acn (α:=Int) w<=1000000),nI (mS g w 0),[fA g r])|none=>none) else none)|_,_=>none }
theorem cIx_okG:aK Tryz.prog 79 Z9:=by
 refine⟨by kernel_rfl,fun args ar c r aY e hc=>?_⟩;simp only[Z9] at e;split at e;rename_i x f t g r;obtain⟨ht,e⟩:=aA.aH e;simp only[aci] at ht;have h1:=abZ ht.1;have h2:=abZ ht.2;subst h1 h2;split at e;rename_i w hw;cases e;exact(ix_semG w g r hc).args fun η Z vs h=>by
  cases vs with
  | nil=>exact h.elim
  | cons v vs=>exact⟨cg hw h.1,h.2⟩
 cases e;cases e
def gCo2G:bN:=[(79,Z9)]
theorem aac:bp Tryz.prog gCo2G:=av cIx_okG aE
theorem co_semG(w:List Int)(g:Int)(r:List (List Int))(hl:w.length<=1000000):bA Tryz.prog 50 [bw w,fnG] [fA g r] (bB (w.any (dG g))) [fA g r]:=by
 refine bO (aj:=[]) aac Tryz.func50 (by kernel_rfl) (keep:=1) rfl (by kernel_rfl) 100 ?_;apply of_eq (q:=w.length<=1000000/\aD [vB (decide ((0:Int)<=mS g w (0:Nat)))]=bB (w.any (dG g))/\[Ob.mk 25 [fI g,fL r]]=[fA g r]) (by kernel_rfl)
 try simp only[and_true]
 refine⟨hl,?_⟩;rw[F7];rfl
def aad:bI:={ refs:=[false,true],f:=fun args ar=>match args,ar with | [x,.p (.c (.func f [(0,0)]))],[⟨t,[.c (.int .i64 g),.c (.rd (.sl (.int .i64)) r)]⟩]=>(bif ab5 f 60&&ab5 t 25 then(match fP dI x with|some w=>some (.p (acn (α:=Int) w<=1000000),bB (List.any w (dG g)),[fA g r])|none=>none) else none)|_,_=>none }
theorem cCo_okG:aK Tryz.prog 50 aad:=by
 refine⟨by kernel_rfl,fun args ar c r aY e hc=>?_⟩;simp only[aad] at e;split at e;rename_i x f t g r;obtain⟨ht,e⟩:=aA.aH e;simp only[aci] at ht;have h1:=abZ ht.1;have h2:=abZ ht.2;subst h1 h2;split at e;rename_i w hw;cases e;exact(co_semG w g r hc).args fun η Z vs h=>by
  cases vs with
  | nil=>exact h.elim
  | cons v vs=>exact⟨cg hw h.1,h.2⟩
 cases e;cases e
abbrev obL1(l:List (List Int)):Ob:=⟨54,[.a 1 (.sl (.int .i64)) l]⟩
def gOw:bN:=[(61,VW)]
theorem Wn:bp Tryz.prog gOw:=av VX aE
def sOw:Site:=bD Tryz.prog gOw Tryz.f26 0 [([0,1,0,1,1],[3,9,10,11])] [] [some dL]
theorem LS(r:List (List Int))(hr:Sh r)(hl:r.length<=1000000):∀(n i:Nat)(l:List (List Int)),n=r.length-i->i<=r.length->l.length=r.length->l.take i=r.take i->
 au sOw (aC (bH r) []) [0,1,0,1,1] (fr [(3,eY 0 r.length),(9,bH r),(10,nI r.length),(11,nI i)]) (.ofList [obL1 l])
 | n,i,l,hn,hi,h1,h2=>by
   refine aL Wn (by kernel_rfl) 100 ?_;apply of_eq (q:=(decide ((i:Int)<(r.length:Int))=true->((0:Int)<=(i:Int)/\(i:Int)<(r.length:Int))/\i<r.length/\(r.getD i []).length<=1000000/\((0:Int)<=(i:Int)/\(i:Int)<(r.length:Int))/\(0:Nat)+i<l.length/\au sOw (aC (bH r) []) [0,1,0,1,1] (fr [(3,aS 0 0 r.length),(9,bH r),(10,nI (r.length:Int)),(11,nI (IntKind.i64.wrap ((i:Int)+1)))]) (ak.ofList [Ob.mk 54 [Fd.a 1 (D.int .i64).sl (l.set ((0:Nat)+i) (r.getD i []))]]))/\(decide ((i:Int)<(r.length:Int))=false->(0:Nat)+r.length<=l.length/\aD [V.c (wL (ab6 r.length (acd (0:Nat) l)))]=bH r/\([]:List Ob)=[])) (by kernel_rfl)
   try simp only[sL]
   rw[wrap64 (n:=(i:Int)+1) (by omega) (by omega)];refine⟨fun h=>⟨by omega,by omega,hr.get i,by omega,by omega,?_⟩,fun h=>⟨by omega,?_⟩⟩
   . cases n with
     | zero=>omega
     | succ n =>
       refine LS r hr hl n (i+1) _ (by omega) (by omega) (by rw[ab4];exact h1) ?_;rw[xV (by omega:i<r.length),xV (by rw[ab4];omega),List.take_set_of_le (ab2 _),h2,xZ,if_pos ⟨rfl,by omega⟩]
   have:i=r.length:=by omega
   subst this;rw[h2,List.take_length];rfl
theorem own_sem(r:List (List Int))(hr:Sh r)(hl:r.length<=1000000):bA Tryz.prog 26 [bH r] [] (bH r) []:=by
 refine dh (aj:=[([0,1,0,1,1],[3,9,10,11])]) (bZ:=[]) (fz:=[some dL]) Wn Tryz.func26 (by kernel_rfl) (keep:=0) rfl (by kernel_rfl) 100 ?_;apply of_eq (q:=((0:Int)<=(r.length:Int)/\(r.length:Int)<=(r.length:Int)/\(↑(24:Nat):Int)*(r.length:Int)<=140737488355328)/\au (bD Tryz.prog gOw Tryz.f26 (0:Nat) [([0,1,0,1,1],[3,9,10,11])] [] [some dL]) (aC (bH r) []) [0,1,0,1,1] (fr [(3,aS 0 0 r.length),(9,bH r),(10,nI (r.length:Int)),(11,nI (0))]) (ak.ofList [Ob.mk 54 [Fd.a 1 (D.int .i64).sl (ab1 r.length ([]:List Int))]])) (by kernel_rfl)
 try simp only[sL]
 refine⟨by omega,?_⟩;exact LS r hr hl r.length 0 _ (by omega) (by omega) (by simp) (by simp)
def cOwnL:bI:=jJ dL fun r=>(.p (Sh r/\acn (α:=List Int) r<=1000000),bH r,[])
theorem aae:aK Tryz.prog 26 cOwnL:=fE (by kernel_rfl) fun r h=>own_sem r h.1 h.2
def gGv:bN:=[(50,aad),(17,K3)]
theorem Wo:bp Tryz.prog gGv:=av cCo_okG (av H8 aE)
abbrev LU:List (List Nat×List Nat):=[([0,1,0,1,1,1],[1,2,3,9,20,21,22])]
def sGv:Site:=bD Tryz.prog gGv Tryz.f25 0 LU [] []
theorem PG(g aq:Int)(r sub:List (List Int))(hl:1<=aq/\aq<=20000)(hs:sub.length<=100/\sub.flatten.length<=4000)(hb:∀ w∈sub,w.any (dG g)=false):∀(n i:Nat),n=sub.length-i->i<=sub.length->
 au sGv (aC (nI 0) []) [0,1,0,1,1,1] (fr [(1,bH sub),(2,nI aq),(3,.p (.c (.ptr 0 0))),(9,nI (sub.take i).flatten.length),(20,bH sub),(21,nI sub.length),(22,nI i)]) (.ofList [fA g r])
 | n,i,hn,hi=>by
   refine aL Wo (by kernel_rfl) 100 ?_;apply of_eq (q:=let q1:=decide ((4000:Int)<(↑(ab6 i sub).flatten.length:Int));let q5:=(sub.length:Int);let q2:=decide ((100:Int)<q5);let q3:=(bif bif q2 then true else q1 then true else decide (aq<1))=false;let q4:=(bif q2 then true else q1)=false;(decide ((i:Int)<q5)=true->((0:Int)<=(i:Int)/\(i:Int)<q5)/\i<sub.length/\(sub.getD i []).length<=1000000/\((sub.getD i []).any (dG g)=true->aD [vI (2)]=nI (0:Int)/\([]:List Ob)=[])/\((sub.getD i []).any (dG g)=false->au sGv (aC (nI (0:Int)) []) [0,1,0,1,1,1] (fr [(1,bH sub),(2,nI aq),(3,aR 0 0),(9,nI (IntKind.i64.wrap ((↑(ab6 i sub).flatten.length:Int)+(↑(sub.getD i []).length:Int)))),(20,bH sub),(21,nI q5),(22,nI (IntKind.i64.wrap ((i:Int)+1)))]) (ak.ofList [Ob.mk 25 [fI g,fL r]])))/\(decide ((i:Int)<q5)=false->(q2=false->q2=false)/\(q2=false->q2=false)/\(q4->q4)/\(q4->q4)/\(q3->q3)/\(q3->q3)/\((bif bif bif q2 then true else q1 then true else decide (aq<1) then true else decide ((20000:Int)<aq))=true->aD [vI (2)]=nI (0:Int)/\([]:List Ob)=[])/\((bif bif bif q2 then true else q1 then true else decide (aq<1) then true else decide ((20000:Int)<aq))=false->aD [vI (0)]=nI (0:Int)/\([]:List Ob)=[]))) (by kernel_rfl)
   try simp only[sL]
   have hle:=o9 sub (i+1);have hle0:=o9 sub i;rw[wrap64 (n:=(i:Int)+1) (by omega) (by omega)];refine⟨fun h=>?_,fun h=>⟨fun h1=>by omega,fun h1=>rfl⟩⟩;have fZ:i<sub.length:=by omega
   have e:=rQ fZ;rw[e,ab3] at hle;rw[wrap64 (n:=((sub.take i).flatten.length:Int)+(sub.getD i []).length) (by omega) (by omega)];have hbi:=hb _ (dZ fZ);refine⟨by omega,fZ,by omega,fun h1=>(by rw[hbi] at h1;cases h1),fun _=>?_⟩;cases n with
   | zero=>omega
   | succ n =>
     have:=PG g aq r sub hl hs hb n (i+1) (by omega) (by omega);rw[e,ab3,Int.natCast_add] at this;exact this
theorem Wp(g aq:Int)(r sub:List (List Int))(hr:Sh r)(hc:(gK g r).1=0)(hl:1<=aq/\aq<=20000)(hs:sub.length<=100/\sub.flatten.length<=4000)(hb:∀ w∈sub,w.any (dG g)=false):bA Tryz.prog 25 [H7 g r,bH sub,nI aq] [] (nI 0) []:=by
 refine bO (aj:=LU) Wo Tryz.func25 (by kernel_rfl) (keep:=0) rfl (by kernel_rfl) 100 ?_;apply of_eq (q:=Sh r/\((!decide ((gK g r).fst=0))=true->aD [vI (gK g r).fst]=nI (0:Int)/\([]:List Ob)=[])/\((!decide ((gK g r).fst=0))=false->au (dJ Tryz.prog gGv Tryz.f25 (0:Nat) LU) (aC (nI (0:Int)) []) [0,1,0,1,1,1] (fr [(1,bH sub),(2,nI aq),(3,aR 0 0),(9,nI (0)),(20,bH sub),(21,nI (sub.length:Int)),(22,nI (0))]) (ak.ofList [Ob.mk 25 [fI g,fL r]]))) (by kernel_rfl)
 try simp only[sL]
 exact⟨hr,fun h=>absurd hc h,fun _=>PG g aq r sub hl hs hb sub.length 0 (by omega) (by omega)⟩
structure Begins(g aq:Int)(r sub:List (List Int)):Prop where
 sh:Sh r
 gK:(gK g r).1=0
 aq:1<=aq/\aq<=20000
 subs:sub.length<=100/\sub.flatten.length<=4000
 bad:∀ w∈sub,w.any (dG g)=false
def Ai(f:Int->List (List Int)->List (List Int)->Int->Cd×A×List Ob):bI:={ refs:=[],f:=fun args ar=>match args,ar with
 | [x,s,.p (.c (.int .i64 n))],[]=>(match asP x,fP dL s with|some (g,r),some s=>some (f g r s n)|_,_=>none)
 | _,_=>none }
theorem Aj{P:Program}{f:FuncId}{c:Int->List (List Int)->List (List Int)->Int->Cd×A×List Ob}(he:enters P f=true)(h:∀ g r s n,(c g r s n).1->bA P f [H7 g r,bH s,nI n] [] (c g r s n).2.1 (c g r s n).2.2):aK P f (Ai c):=by
 refine⟨he,fun args ar cd r aY e hc=>?_⟩;simp only[Ai] at e;split at e;rename_i x s n;split at e;rename_i g r' s' hx hs;have e:=Option.some.inj e;have:=h g r' s' n (by rw[e];exact hc);rw[e] at this;exact this.args fun η Z vs hv=>by
  match vs,hv with
  | [u,v,t],⟨a1,a2,a3,_⟩=>exact⟨Ph hx a1,cg hs a2,a3,trivial⟩
 cases e;cases e
def LV:bI:=Ai fun g r s n=>(.p (Begins g n r s),nI 0,[])
theorem Iy:aK Tryz.prog 25 LV:=Aj (by kernel_rfl) fun g r s n h=>Wp g n r s h.sh h.gK h.aq h.subs h.bad
def cX(g aq:Int)(ax sub:List (List Int)):Rn:={ g:=g,ax:=ax,sub:=sub,aq:=aq,aF:=1,aj:=1,ay:=0,ph:=0,co:=0,ix:=0,af:=[ab1 (2*g).toNat (-1)],ah:=[0],dl:=[],dn:=0 }
abbrev zeroO(g aq:Int)(ax sub:List (List Int)):Ob:=⟨73,[.c (.int .i64 g),.c (.rd (.sl (.int .i64)) ax),.c (.rd (.sl (.int .i64)) sub),.c (.int .i64 aq),.c (.int .i64 0),.c (.int .i64 0),.c (.int .i64 0),.c (.int .i64 0),.c (.int .i64 0),.c (.int .i64 0),.c .nil,.c .nil,.c .nil]⟩
abbrev qg(r:Rn):List Ob:=[⟨73,[.c (.int .i64 r.g),.c (.rd (.sl (.int .i64)) r.ax),.c (.rd (.sl (.int .i64)) r.sub),.c (.int .i64 r.aq),.c (.int .i64 r.aF),.c (.int .i64 r.aj),.c (.int .i64 r.ay),.c (.int .i64 r.ph),.c (.int .i64 r.co),.c (.int .i64 r.ix),.c (.sl 1 0 r.af.length 1),.c (.sl 2 0 r.ah.length 1),.c .nil]⟩,aO r,aB r.ah]
theorem aaf(g aq:Int)(ax sub:List (List Int))(hg:1<=g/\g<=16):bn Tryz.prog 27 1 [pR] [zeroO g aq ax sub] (nI 0) (qg (cX g aq ax sub)):=by
 refine bJ (aj:=[]) (bZ:=[]) (fz:=[]) EQ Tryz.func27 (by kernel_rfl) 1 (by kernel_rfl) 100 ?_;apply of_eq (q:=let q0:=IntKind.i64.wrap;let q1:=(R1.pure (Cd.t.and Cd.t) (aP W.nil)).v=(R1.pure (Cd.t.and Cd.t) (aP W.nil)).v;let q2:=(q0 ((2:Int)*g));let q3:=(R1.pure (Cd.t.and Cd.t) (nI g));let q4:=(ab6 (1:Nat) (acd (0:Nat) [(-1:Int)]));(0:Nat)+1<=1/\((0:Int)<=q0 ((2:Int)*g)/\q0 ((2:Int)*g)<=100000/\(1:Nat)<=100000/\q2.toNat*1<=1000000)/\((pw q4 q2.toNat).length=q2.toNat*1/\(0:Nat)<q2.toNat*1/\(24:Nat)<=140737488355328)/\q1/\q1/\q1/\q1/\q3.v=q3.v/\q3.v=q3.v/\(0:Nat)+1<=1/\(1:Nat)*8<=140737488355328/\q1/\q1/\aD [vI (q0 ((↑(1:Nat):Int)-1))]=nI (0:Int)/\[Ob.mk 73 [fI g,fL ax,fL sub,fI aq,fI (max (0:Int) (q0 ((0:Int)+1))),fI (q0 ((0:Int)+1)),fI (0),fI (0),fI (0),fI (0),fS 1 0 1,fS 2 0 1,Fd.c W.nil],Ob.mk 22 [Fd.c (W.th (q2.toNat*1) [pw q4 q2.toNat])],aB (ab6 (1:Nat) (acd (0:Nat) [(0:Int)]))]=qg (cX g aq ax sub)) (by kernel_rfl)
 try simp only[sL,Nat.reduceAdd]
 rw[wrap64 (n:=2*g) (by omega) (by omega),wrap64 (n:=0+1) (by omega) (by omega),wrap64 (n:=((1:Nat):Int)-1) (by omega) (by omega),Af];refine⟨⟨by omega,by omega,by omega,by omega⟩,⟨by rw[acg],by omega,by omega⟩,by omega,rfl,rfl⟩
def Sn:bI:={ refs:=[true],keep:=some 1,f:=fun args ar=>match args,ar with
 | [.p (.c (.ptr 0 0))],[⟨t,[.c (.int .i64 g),.c (.rd (.sl (.int .i64)) ax),.c (.rd (.sl (.int .i64)) sub),.c (.int .i64 aq),.c (.int .i64 0),.c (.int .i64 0),.c (.int .i64 0),.c (.int .i64 0),.c (.int .i64 0),.c (.int .i64 0),.c .nil,.c .nil,.c .nil]⟩] =>
   bif ab5 t 73 then some (.p (1<=g/\g<=16),nI 0,qg (cX g aq ax sub)) else none
 | _,_=>none }
theorem aag:aK Tryz.prog 27 Sn:=by
 refine⟨by kernel_rfl,fun args ar c r aY e hc=>?_⟩;simp only[Sn] at e;split at e;obtain⟨hb,e1⟩:=aA.aH e;clear e;cases abZ hb;cases e1;exact aaf _ _ _ _ hc;cases e
def gNw:bN:=[(25,LV),(26,cOwnL),(27,Sn)]
theorem gNw_ok:bp Tryz.prog gNw:=av Iy (av aae (av aag aE))
theorem Wq{g x:Int}(hg:1<=g/\g<=16)(h:dG g x=false):x≠0/\-g<=x/\x<=g:=by
 unfold dG at h;rw[wrap64 (n:=0-g) (by omega) (by omega)] at h;simp only[Bool.or_eq_false_iff,decide_eq_false_iff_not] at h;omega
theorem LW{g:Int}(hg:1<=g/\g<=16){w:List Int}(h:w.any (dG g)=false)(hl:w.length<=1000000):Wd g w:=by
 refine⟨hl,fun x hx=>Wq hg ?_⟩;rw[List.any_eq_false] at h;simpa using h x hx
theorem LX{g:Int}:∀{r:List (List Int)}{left i:Int},(oA g r left i).1=0->left<=4000->∀ w∈r,w.any (dG g)=false/\w.length<=4000
 | [],_,_,_,_,w,hw=>by cases hw
 | x :: r, left, i, h, hl, w, hw => by
   rw[oA] at h;split at h;cases h;rename_i h1;split at h;cases h;rename_i h2;rcases List.mem_cons.1 hw with rfl|hw;exact⟨by simpa using h2,by omega⟩;exact LX h (by omega) w hw
theorem LY{g:Int}{r:List (List Int)}(h:(gK g r).1=0):(1<=g/\g<=16)/\r.length<=100/\∀ w∈r,w.any (dG g)=false/\w.length<=4000:=by
 unfold gK at h;split at h;cases h;rename_i h1;split at h;cases h;rename_i h2;exact⟨by omega,by omega,LX h (by omega)⟩
theorem Dq{w:List Int}:∀{l:List (List Int)},w∈l->w.length<=l.flatten.length
 | x::l,h=>by
   rw[List.flatten_cons,ab3];rcases List.mem_cons.1 h with rfl|h;omega;have:=Dq h;omega
theorem Begins.good{g aq:Int}{ax sub:List (List Int)}(B:Begins g aq ax sub):cT (cX g aq ax sub):=by
 obtain⟨hg,hn,hw⟩:=LY B.gK;have hl:=B.aq;have hs:=B.subs;refine⟨⟨hg.1,hg.2,rfl,⟨(by show (1:Nat)<=1000000;omega),fun a ha=>?_⟩,fun l hl=>?_,ab2 _,fun x hx=>(by cases hx),rfl,ab2 _⟩,Nat.one_pos,hl.1,by show aq<=900000;omega,fun w hw'=>LW hg (hw w hw').1 (by have:=(hw w hw').2;omega),fun w hw'=>LW hg (B.bad w hw') (by have:w.length<=sub.flatten.length:=Dq hw';omega),by show ax.length<=1000;omega,by show sub.length<=1000;omega,.inl rfl,⟨acq _,by show (0:Int)<=1;omega⟩,⟨acq _,by show (0:Int)<=1000;omega⟩,fun h=>by cases h⟩;have:a=0:=by
  have:a<1:=ha;omega
 subst this;exact⟨acq _,acq _⟩;have hl:l=ab1 (2*g).toNat (-1):=List.mem_singleton.1 hl;subst hl;refine⟨acg,fun x hx=>?_⟩;rw[acy hx];exact⟨acq _,by show (-1:Int)<1;omega⟩
theorem Wr{base : Nat}{η : Eta}{Z : Zeta}{r : Rn}{w : World}(h0 : r.dn = 0)(h1 : r.dl = [])(R : St base η Z (.ofList (qg r)) w) : St base η Z (.ofList (obs r)) w := by
 have hf:∀ n,3<=n->η n=none:=R.fresh;have h3:η 3=none:=hf 3 (ab2 _);have back:∀ n o p,(ak.ofList (obs r)).get n=some o->η n=some p->n<3/\∃ o1,(ak.ofList (qg r)).get n=some o1:=by
  intro n o p h hp;have hn:n<3:=by
   rcases ab9 n 3 with h|h;exact h;rw[hf n h] at hp;cases hp
  refine⟨hn,?_⟩
  match n,hn with
  | 0,_=>exact⟨_,by rw[ak.aM];rfl⟩
  | 1,_=>exact⟨_,by rw[ak.aM];rfl⟩
  | 2,_=>exact⟨_,by rw[ak.aM];rfl⟩
 refine⟨fun n o p h hp=>?_,fun n o h hp=>?_,fun n o h=>?_,fun n n' o o' p p' b h h' hne hp hp'=>?_,R.zs,fun n hn=>hf n (by have:(ak.ofList (obs r)).next=4:=rfl;omega),R.fN,fun n o p h hp=>?_⟩
 . obtain⟨hn,o1,jQ⟩:=back n o p h hp;rw[ak.aM] at h
   match n,hn with
   | 0, _ =>
     cases h;obtain⟨a,b,L⟩:=R.ar 0 _ p (by rw[ak.aM];rfl) hp;refine⟨a,b,?_⟩;obtain⟨c,fz,l1,l2,l3,l4⟩:=L.there (by simp[Ob.eU,Ob.isMap,Ob.iB,Ob.cells,Fd.cells]);refine dN.plain (by simp[Ob.eU,Ob.isMap,Ob.iB,Ob.cells,Fd.cells]) ⟨c,fz,l1,l2,fun i x hx=>?_,l4.plain fun hB=>by obtain⟨q,e⟩:=hB (.int .i64 r.g) (by simp[Ob.cells,Fd.cells]);cases e⟩ (L.size (by simp[Ob.eU,Ob.isMap,Ob.iB,Ob.cells,Fd.cells]));rcases ab9 i 12 with hi|hi
     . refine l3 i x ?_;rw[<-hx]
       match i,hi with
       | 0,_|1,_|2,_|3,_|4,_|5,_|6,_|7,_|8,_|9,_|10,_|11,_=>rfl
     have hi2:i=12:=by
      have:=(List.getElem?_eq_some_iff.1 hx).1;have:i<13:=this;omega
     subst hi2;have hx:some (W.sl 3 0 r.dn 1)=some x:=hx;cases hx;obtain⟨v,v1,v2,v3⟩:=l3 12 .nil rfl;exact⟨v,v1,.inl ⟨h0,v2⟩,v3⟩
   | 1,_=>exact R.ar 1 o p (by rw[ak.aM];exact h) hp
   | 2,_=>exact R.ar 2 o p (by rw[ak.aM];exact h) hp
 . rw[ak.aM] at h
   match n,h with
   | 0,_=>exact absurd (R.cj 0 _ (by rw[ak.aM];rfl) hp) (by simp[Ob.cells,Fd.cells])
   | 1,h=>exact R.cj 1 o (by rw[ak.aM];exact h) hp
   | 2,h=>exact R.cj 2 o (by rw[ak.aM];exact h) hp
   | 3,h =>
     have h:some (aB r.dl)=some o:=h;cases h;simp[Ob.cells,Fd.cells,h1]
 rw[ak.aM] at h;exact(List.getElem?_eq_some_iff.1 h).1;obtain⟨_,o1,g1⟩:=back n o p h hp;obtain⟨_,o2,g2⟩:=back n' o' p' h' hp';exact R.jh n n' o1 o2 p p' b g1 g2 hne hp hp';obtain⟨_,o1,g1⟩:=back n o p h hp;exact R.sat n o1 p g1 hp
theorem bn.cj{P:Program}{f:FuncId}{keep:Nat}{args:List A}{ar:List Ob}{x:A}{r:Rn}(h0:r.dn=0)(h1:r.dl=[])(h:bn P f keep args ar x (qg r)):bn P f keep args ar x (obs r):=by
 intro base η Z w vs R hvs hK;refine(h base η Z w vs R hvs hK).mono ?_;rintro e w' ⟨u,aG,Z',rfl,mv,hx⟩;refine⟨u,aG,Z',rfl,⟨mv.le,Wr h0 h1 mv.st,⟨mv.step.os,mv.step.tape,mv.step.output,mv.step.size,mv.step.block,fun b ⟨n,o,p,hn,hp,hb⟩=>mv.step.own b ?_,mv.step.cG,mv.step.ga,rfl⟩⟩,hx⟩;have hn3:n<3:=by
  rcases ab9 n 3 with h|h;exact h;have:aG n=none:=mv.st.fresh n h;rw[this] at hp;cases hp
 match n,hn3 with
 | 0,_=>exact⟨0,_,p,by rw[ak.aM];rfl,hp,hb⟩
 | 1,_=>exact⟨1,_,p,by rw[ak.aM];rfl,hp,hb⟩
 | 2,_=>exact⟨2,_,p,by rw[ak.aM];rfl,hp,hb⟩
theorem aah(g aq:Int)(ax sub:List (List Int))(B:Begins g aq ax sub):bA Tryz.prog 8 [H7 g ax,bH sub,nI aq] [] (.aJ [.c (.ptr 0 0),.c (.int .i64 0)]) (qg (cX g aq ax sub)):=by
 refine bJ (aj:=[]) (bZ:=[]) (fz:=[]) gNw_ok Tryz.func8 (by kernel_rfl) 0 (by kernel_rfl) 100 ?_;apply of_eq (q:=let q1:=(cX g aq ax sub);let q2:=(R1.pure (Cd.t.and Cd.t) (nI g));Begins g aq ax sub/\((!decide ((0:Int)=0))=true->aD [V.c W.cZ,vI (0)]=A.aJ [V.c (W.ptr 0 0),vI (0)]/\[]=qg q1)/\((!decide ((0:Int)=0))=false->(Sh ax/\ax.length<=1000000)/\(Sh sub/\sub.length<=1000000)/\q2.v=q2.v/\q2.v=q2.v/\q2.v=q2.v/\((1:Int)<=g/\g<=16)/\aD [V.c (W.ptr 0 0),vI (0)]=A.aJ [V.c (W.ptr 0 0),vI (0)]/\[Ob.mk 73 [fI q1.g,fL q1.ax,fL q1.sub,fI q1.aq,fI q1.aF,fI q1.aj,fI q1.ay,fI q1.ph,fI q1.co,fI q1.ix,fS 1 0 1,fS 2 0 1,Fd.c W.nil],aO q1,aB (q1.ah)]=qg q1)) (by kernel_rfl)
 try simp only[sL,Nat.reduceAdd]
 obtain⟨hg,hn,hw⟩:=LY B.gK;have hs:=B.subs;refine⟨B,fun h=>absurd trivial h,fun _=>⟨⟨B.sh,by omega⟩,⟨fun w hw'=>by have:=Dq hw';omega,by omega⟩,hg,rfl,rfl⟩⟩
theorem new_sem(g aq:Int)(ax sub:List (List Int))(B:Begins g aq ax sub):bA Tryz.prog 8 [H7 g ax,bH sub,nI aq] [] (.aJ [.c (.ptr 0 0),.c (.int .i64 0)]) (obs (cX g aq ax sub)) :=
 bn.cj rfl rfl (aah g aq ax sub B)
def cNew:bI:=Ai fun g r s n=>(.p (Begins g n r s),.aJ [.c (.ptr 0 0),.c (.int .i64 0)],obs (cX g n r s))
theorem cNew_ok:aK Tryz.prog 8 cNew:=Aj (by kernel_rfl) fun g r s n h=>new_sem g n r s h
end Go.Proofs.YtlbmkeimafgemaaGreatDoor
