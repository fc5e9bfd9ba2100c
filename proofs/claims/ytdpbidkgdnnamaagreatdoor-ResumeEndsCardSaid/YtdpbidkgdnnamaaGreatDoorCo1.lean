/- The table of a run that is done has a standard form. -/
import Derived.Test.YtdpbidkgdnnamaaGreatDoorBack1
import Derived.Test.YtdpbidkgdnnamaaGreatDoorEng1
import Derived.Test.YtdpbidkgdnnamaaGreatDoorLoad1
open Nat renaming eq_of_beq_eq_true->acP,beq->acQ,zero_le->ac1,le_refl->ac8,lt_or_ge->ada,zero_add->ade,sub_zero->adf,sub_self->adg
open List renaming getD_eq_getElem?_getD->acR,length_singleton->acT,length_append->acU,getElem?_eq_getElem->acV,take->acX,drop->acY,replicate->acZ,length_set->ac0,length_replicate->ac2,mem_append_left->ac3,length_map->ac4,append_assoc->ac5,drop_eq_getElem_cons->ac6,append_nil->ac7,mem_singleton->ac9,length->adb
open Int renaming toNat_natCast->acS
open Bool renaming and_eq_true->acW
noncomputable section
namespace Go.Proofs.YtdpbidkgdnnamaaGreatDoor
open Go.aW Go.Words Go.br
set_option maxRecDepth 100000
theorem JF(k v s:Int)(m:Mp):n9 (qE k v m) s=true↔s=k∨n9 m s=true:=by
 obtain⟨h1,h2⟩:=zT (kd:=.int .i64) (vd:=.int .i64) rfl k v s m;unfold n9 qE uc;by_cases h:s=k;rw[h1 h];simp[h];rw[h2 h];simp[h]
theorem X6(k v s:Int)(m:Mp):iR (qE k v m) s=if s=k then v else iR m s:=by
 obtain⟨h1,h2⟩:=zT (kd:=.int .i64) (vd:=.int .i64) rfl k v s m;unfold iR qE qm;by_cases h:s=k;rw[h1 h,if_pos h];rw[h2 h,if_neg h]
theorem JG(k v:Int):∀(m:Mp),n9 m k≠true->(qE k v m).length=m.length+1
 | [],_=>rfl
 | (k',v')::l,h=>by
   have hb:(D.int .i64).j6 k k'=false:=by
    cases hb:(D.int .i64).j6 k k' with
    | false=>rfl
    | true=>exact absurd (show n9 ((k',v')::l) k=true by unfold n9 uc lP;rw[hb];rfl) h
   have e:qE k v ((k',v')::l)=(k',v')::qE k v l:=by unfold qE;rw[jT,hb];rfl
   rw[e,List.length_cons,JG k v l fun h2=>h (by unfold n9 uc;rw[lP,hb];exact h2)];rfl
structure BF(n:Nat)(x:Mp×List Int):Prop where
 nd:x.2.Nodup
 rg:∀ y∈x.2,0<=y/\y<n
 ks:∀ s,n9 x.1 s=true↔s∈x.2
theorem X7{n:Nat}{x:Mp×List Int}(B:BF n x){s:Int}(hs:0<=s/\s<n):BF n (jc s x)/\s∈(jc s x).2/\∃ l,(jc s x).2=x.2++l:=by
 unfold jc;split;rename_i h;exact⟨B,(B.ks s).1 h,[],by simp⟩;rename_i h;have hn:s ∉ x.2:=fun hm=>h ((B.ks s).2 hm);refine⟨⟨?_,fun y hy=>?_,fun s'=>?_⟩,by simp,[s],rfl⟩;simp only;rw[List.nodup_append];exact⟨B.nd,by simp,fun a ha b hb=>by simp at hb;subst hb;exact fun e=>hn (e▸ha)⟩;rcases List.mem_append.1 hy with hy|hy;exact B.rg y hy;simp at hy;subst hy;exact hs;simp only[JF,B.ks,List.mem_append,ac9];exact⟨fun h=>h.symm,fun h=>h.symm⟩
theorem Nx{n:Nat}:∀(l:List Int){x:Mp×List Int}(out:List Int),BF n x->(∀ y∈l,0<=y/\y<n)->BF n (lF l x out).1/\(∀ y∈l,y∈(lF l x out).1.2)/\∃ l',(lF l x out).1.2=x.2++l'
 | [],x,out,B,_=>⟨B,(fun y hy=>by cases hy),[],(ac7 _).symm⟩
 | s::r,x,out,B,hl=>by
   obtain⟨b1,b2,l1,e1⟩:=X7 B (hl s (by simp));obtain⟨c1,c2,l2,e2⟩:=Nx r (out++[iR (jc s x).1 s]) b1 fun y hy=>hl y (by simp[hy]);rw[lF];refine⟨c1,fun y hy=>?_,l1++l2,by rw[e2,e1,ac5]⟩;rcases List.mem_cons.1 hy with h|h;subst h;rw[e2];exact ac3 _ b2;exact c2 y h
theorem QO{t : List (List Int)}(hr : ∀ l ∈ t, ∀ y ∈ l, 0 ≤ y ∧ y < t.length)(hc : ∀ a, a < t.length → C9 t a) : ∀(f k : Nat)(x : Mp × List Int)(out : List (List Int)), f + k = t.length + 1 → BF t.length x → 0 ∈ x.2 → k ≤ x.2.length → out.length = k → (∀ i, i < k → ∀ y ∈ t.getD (x.2.getD i 0).toNat [], y ∈ x.2) →
 ∃ u,AU t f k x out=some u/\u.length=t.length
 | 0,k,x,out,hf,B,_,hk,_,_=>by
   have:=FQ _ _ B.nd B.rg;omega
 | f + 1, k, x, out, hf, B, h0, hk, ho, hd => by
   have hle:=FQ _ _ B.nd B.rg;rw[AU];split;rename_i h;have hm:=B.rg _ (fW (l:=x.2) (a:=k) h);have hrow:t.getD (x.2.getD k 0).toNat []∈t:=eI (by omega);obtain⟨b1,b2,l,e⟩:=Nx (t.getD (x.2.getD k 0).toNat []) (x:=x) [] B (hr _ hrow);have eg:∀ i,i<x.2.length->(lF (t.getD (x.2.getD k 0).toNat []) x []).1.2.getD i 0=x.2.getD i 0:=fun i hi=>by
    rw[e,acR,List.getElem?_append_left hi,<-acR]
   refine QO hr hc f (k+1) _ _ (by omega) b1 (by rw[e];exact ac3 _ h0) (by rw[e,acU];omega) (by simp;omega) fun i hi y hy=>?_;rw[eg i (by omega)] at hy;rcases ada i k with h1|h1;rw[e];exact ac3 _ (hd i h1 y hy);rw[show i=k by omega] at hy;exact b2 y hy;rename_i h;have hall:∀ a,C9 t a->(a:Int)∈x.2:=by
    intro a ha
    induction ha with
    | z=>exact h0
    | @go a c _ h2 ih =>
      obtain⟨i,hi,ei⟩:=List.mem_iff_getElem.1 ih;have hg:x.2.getD i 0=(a:Int):=by rw[acR,acV hi,ei];rfl
      have hy:=hd i (by omega) (bh t a c) (by rw[hg,acS];exact fW h2);have:=B.rg _ hy;rw[show ((bh t a c).toNat:Int)=bh t a c by omega];exact hy
   have hge:=X4 t.length x.2 fun a ha=>hall a (hc a ha);exact⟨out,rfl,by omega⟩
theorem tS(ah:List Int)(m:Mp):∀(ls:List (List Int))(i:Nat),tK ah m i ls=iT ah (iR m) i ls
 | [],_=>rfl
 | l::ls,i=>by rw[tK,iT,tS ah m ls (i+1)]
theorem Cg(ah:List Int):∀(n i:Nat)(m:Mp),(∀ b:Nat,b<i->ah.getD b 0=(b:Int)->iR m b=rk ah b)->(∀ s,n9 m s=true->s<i)->m.length=rk ah i->∀ b:Nat,b<i+n->ah.getD b 0=(b:Int)->iR (lJ ah n i m) b=rk ah b
 | 0,i,m,h1,_,_,b,hb,hl=>h1 b hb hl
 | n + 1, i, m, h1, h2, h3, b, hb, hl => by
   have s:=ng ah i;rw[lJ];by_cases hi:ah.getD i 0=(i:Int);rw[if_pos hi] at s ⊢;refine Cg ah n (i+1) _ (fun b' hb' hl'=>?_) (fun s' hs'=>?_) ?_ b (by omega) hl;rw[X6];split;rename_i e;have:b'=i:=by omega
   subst this;rw[h3];exact h1 b' (by omega) hl';rcases (JF _ _ _ _).1 hs' with h|h;omega;have:=h2 s' h;omega;rw[JG _ _ _ fun h=>by have:=h2 _ h;omega];omega;rw[if_neg hi] at s ⊢;exact Cg ah n (i+1) m (fun b' hb' hl'=>h1 b' (Nat.lt_of_le_of_ne (by omega) fun e=>hi (e▸hl')) hl') (fun s' hs'=>by have:=h2 s' hs';omega) (by omega) b (by omega) hl
theorem Ny{r:Rn}(T:bF r)(H:br.Rest r r.af.length)(N:kq r)(hn:0<r.af.length)(hn2:r.af.length<=20000):vE r.g (eA r) ((ke (eA r)).getD []):=by
 have hp:eS r.ah:=T.ah;have hpl:=gV T;have kP:1<=r.g:=T.g1;have lK:r.g<=16:=T.g2;have hfl:∀{c},c<(2*r.g).toNat->bZ c<(2*r.g).toNat:=fun h=>dh.flip (r:={ r with dn:=0 }) T h;have hm:∀ b:Nat,b<r.af.length->Live r b->iR (lJ r.ah r.af.length 0 []) b=rk r.ah b:=fun b hb hl =>
  Cg r.ah r.af.length 0 [] (fun b hb=>by omega) (fun s h=>by cases h) rfl b (by omega) hl
 have et:eA r=iT r.ah (iR (lJ r.ah r.af.length 0 [])) 0 r.af:=tS _ _ _ _;generalize iR (lJ r.ah r.af.length 0 [])=f at hm et;have hL:(eA r).length=rk r.ah r.af.length:=by
  have:=Bb r.ah f r.af 0;rw[et];rw[ade] at this;have e0:rk r.ah 0=0:=rfl;omega
 have hal:rk r.ah r.af.length=al r.ah:=by rw[<-hpl];rfl
 have hpos:=AK hp (by omega);have hle:=rT r.ah;have cell:∀ a c,a<r.af.length->c<(2*r.g).toNat->Live r a->0<=bh r.af a c/\(bh r.af a c).toNat<r.af.length/\Live r (bh r.af a c).toNat/\f (bh r.af a c)=rk r.ah (bh r.af a c).toNat/\rk r.ah (bh r.af a c).toNat<rk r.ah r.af.length:=by
  intro a c ha hc hl;have h0:=H.cp a c ha ha hc hl;have hr:=T.at ha hc;have hd:(bh r.af a c).toNat<r.af.length:=by omega
  have hlv:=H.aj T ha hc h0;have:=hm _ hd hlv;rw[show (((bh r.af a c).toNat:Nat):Int)=bh r.af a c by omega] at this;exact⟨h0,hd,hlv,this,TR hlv hd⟩
 have hrow:∀ a,a<r.af.length->(r.af.getD a []).length=(2*r.g).toNat:=fun a ha=>(T.row _ (eI ha)).1;have hat:∀ a c,a<r.af.length->c<(2*r.g).toNat->Live r a->bh (eA r) (rk r.ah a) c=rk r.ah (bh r.af a c).toNat:=by
  intro a c ha hc hl;have h1:=JD r.ah f r.af 0 a (ac1 _) (by omega) hl;rw[show rk r.ah a-rk r.ah 0=rk r.ah a from rfl,adf,<-et] at h1;have h2:=(cell a c ha hc hl).2.2.2.1;rw[<-h2];show ((eA r).getD (rk r.ah a) []).getD c 0=_;rw[h1];have:=hrow a ha;rw[acR,List.getElem?_map];unfold bh;rw[acR (l:=r.af.getD a []),acV (by omega)];rfl
 have hel:∀ l∈eA r,l.length=(2*r.g).toNat/\∀ x∈l,0<=x/\x<(eA r).length:=by
  intro l hl;rw[et] at hl;obtain⟨a,_,ha,hlv,rfl⟩:=JE r.ah f r.af 0 l hl;rw[ade] at ha;rw[adf];refine⟨by rw[ac4];exact hrow a ha,fun x hx=>?_⟩;obtain⟨z,hz,rfl⟩:=List.mem_map.1 hx;obtain⟨c,hc,e⟩:=List.mem_iff_getElem.1 hz;have ez:z=bh r.af a c:=by
   unfold bh;rw[acR (l:=r.af.getD a []),acV hc,e];rfl
  have:=cell a c ha (by rw[<-hrow a ha];exact hc) hlv;rw[ez,hL,this.2.2.2.1];omega
 have sur:∀ a,a<(eA r).length->∃ a',a'<r.af.length/\Live r a'/\rk r.ah a'=a:=fun a ha=>by
  rw[hL] at ha;exact Nw r.ah _ a ha
 have hstep:∀ a c,a<r.af.length->c<(2*r.g).toNat->Live r a->C9 (eA r) (rk r.ah a)->C9 (eA r) (rk r.ah (bh r.af a c).toNat):=by
  intro a c ha hc hl h;have hlt:rk r.ah a<(eA r).length:=by rw[hL];exact TR hl ha
  have:=C9.go (c:=c) h (by rw[(hel _ (eI hlt)).1];exact hc);rw[hat a c ha hc hl,acS] at this;exact this
 have hreach:∀ a,a<(eA r).length->C9 (eA r) a:=by
  intro a ha;obtain⟨a',h1,h2,h3⟩:=sur a ha;rw[<-h3];refine abL T H N (Q:=fun b=>C9 (eA r) (rk r.ah b)) .z (fun b c hb hc hl h0=>⟨hstep b c hb hc hl,fun h=>?_⟩) h1 h2;obtain⟨c0,c1,c2,_⟩:=cell b c hb hc hl;have:=hstep _ (bZ c) c1 (hfl hc) c2 h;rw[H.nb b c hb hc h0,acS] at this;exact this
 obtain⟨u,hu,hul⟩:=QO (t:=eA r) (fun l hl=>(hel l hl).2) hreach ((eA r).length+1) 0 ([(0,0)],[0]) [] (by omega)
  ⟨by simp,fun y hy=>by simp at hy;subst hy;omega,fun s=>by
   simp only[n9,uc,lP,ac9];cases hb:(D.int .i64).j6 s 0 with
   | true=>exact⟨fun _=>(D.ld rfl).1 hb,fun _=>rfl⟩
   | false=>exact⟨fun h=>(by cases h),fun h=>by rw[(D.ld rfl).2 h] at hb;cases hb⟩⟩ (by simp) (ac1 _) rfl fun i hi=>by omega
 have hs:ke (eA r)=some u:=hu;rw[hs];refine⟨⟨⟨kP,lK⟩,by omega,fun l hl=>by have:=(hel l hl).1;omega,fun l hl x hx=>?_,fun a c ha hc h0=>?_⟩,fun l hl x hx=>((hel l hl).2 x hx).1,hs,hul⟩;have:=(hel l hl).2 x hx;unfold qD;rw[Bool.or_eq_false_iff,decide_eq_false_iff_not,decide_eq_false_iff_not];omega;obtain⟨a',h1,h2,h3⟩:=sur a ha;subst h3;obtain⟨c0,c1,c2,_⟩:=cell a' c h1 hc h2;rw[hat a' c h1 hc h2,acS,hat _ _ c1 (hfl hc) c2,H.nb a' c h1 hc c0,acS]
theorem TS{r:Rn}(T:bF r)(H:br.Rest r r.af.length)(N:kq r)(hn:0<r.af.length)(hn2:r.af.length<=20000):ol r :=
 ⟨⟨T.g1,T.g2⟩,⟨hn,by omega⟩,gV T,fun l hl=>(T.row l hl).1,Ny T H N hn hn2⟩
abbrev eG(s:Rn)(a b c:Nat):Ob:=⟨106,[.c (.int .i64 (2*s.g)),.c (.int .i64 s.aq),.c (.sl a 0 s.af.length 1),.c (.sl b 0 s.ah.length 1),.c (.sl c 0 s.dn 1),.c (.int .i64 s.aj),.c (.int .i64 s.aH)]⟩
abbrev aZ(s:Rn):List Ob:=[eG s 1 2 3,aQ s,aB s.ah,aB s.dl]
def NE(au:List Ob):Option (Prop×Rn):=match au with
 | [⟨t,[.c (.int .i64 w),.c (.int .i64 aq),.c (.sl a 0 nr 1),.c (.sl b 0 np 1),.c (.sl c 0 dn 1),.c (.int .i64 aj),.c (.int .i64 aH)]⟩,⟨t1,[.c (.th k af)]⟩,⟨t2,[.a 0 (.int .i64) ah]⟩,⟨t3,[.a 0 (.int .i64) dl]⟩] =>
   bif acQ t 106&&(acQ t1 22&&(acQ t2 3&&(acQ t3 3&&(acQ a 1&&(acQ b 2&&acQ c 3))))) then some (nr=af.length/\np=ah.length/\k=w.toNat/\2*(w/2)=w,⟨w/2,[],[],aq,aH,aj,0,0,0,0,af,ah,dl,dn⟩) else none
 | _=>none
def Br(s:Rn):Prop:=s.ax=[]/\s.sub=[]/\s.aA=0/\s.ph=0/\s.co=0/\s.ix=0
theorem oL{au:List Ob}{c:Prop}{r:Rn}(e:NE au=some (c,r))(hc:c):au=aZ r/\Br r:=by
 unfold NE at e;split at e;obtain⟨hb,e1⟩:=aC.aK e;clear e;simp only[acW] at hb;obtain⟨h1,h2,h3,h4,h5,h6,h7⟩:=hb;cases acP h1;cases acP h2;cases acP h3;cases acP h4;cases acP h5;cases acP h6;cases acP h7;cases e1;obtain⟨rfl,rfl,rfl,hw⟩:=hc;refine⟨?_,rfl,rfl,rfl,rfl,rfl,rfl⟩;simp only[aZ,eG,aQ,hw];cases e
def TY(f:Rn->Nat->Prop×A×Rn):bQ:={ cI:=[true,false],ay:=some 1,f:=fun args au=>match args with
 | [.p (.c (.ptr 0 0)),.p (.c (.int .i64 x))]=>match NE au with
   | some (c,r)=>some (.p (c/\0<=x/\(f r x.toNat).1),(f r x.toNat).2.1,aZ (f r x.toNat).2.2)
   | none=>none
 | _=>none }
theorem abN{P:Program}{fn:FuncId}{f:Rn->Nat->Prop×A×Rn}(he:enters P fn=true)(h:∀ r a,Br r->(f r a).1->bq P fn 1 [pR,nI a] (aZ r) (f r a).2.1 (aZ (f r a).2.2)):aM P fn (TY f):=by
 refine⟨he,fun args au c r bg e hc=>?_⟩;simp only[TY] at e;split at e;rename_i x;split at e;rename_i c1 r1 hr;cases e;obtain⟨h1,h2,h3⟩:=hc;have:=h _ _ (oL hr h1).2 h3;rw[<-gA h2] at this;rw[(oL hr h1).1];exact this;cases e;cases e
def T9(f:Rn->Nat->Nat->Prop×A×Rn):bQ:={ cI:=[true,false,false],ay:=some 1,f:=fun args au=>match args with
 | [.p (.c (.ptr 0 0)),.p (.c (.int .i64 x)),.p (.c (.int .i64 y))]=>match NE au with
   | some (c,r)=>some (.p (c/\0<=x/\0<=y/\(f r x.toNat y.toNat).1),(f r x.toNat y.toNat).2.1,aZ (f r x.toNat y.toNat).2.2)
   | none=>none
 | _=>none }
theorem abO{P:Program}{fn:FuncId}{f:Rn->Nat->Nat->Prop×A×Rn}(he:enters P fn=true)(h:∀ r a b,Br r->(f r a b).1->bq P fn 1 [pR,nI a,nI b] (aZ r) (f r a b).2.1 (aZ (f r a b).2.2)):aM P fn (T9 f):=by
 refine⟨he,fun args au c r bg e hc=>?_⟩;simp only[T9] at e;split at e;rename_i x y;split at e;rename_i c1 r1 hr;cases e;obtain⟨h1,h2,h3,h4⟩:=hc;have:=h _ _ _ (oL hr h1).2 h4;rw[<-gA h2,<-gA h3] at this;rw[(oL hr h1).1];exact this;cases e;cases e
theorem abP(x:Int)(h:x≠0/\-1000<=x/\x<=1000):bA Tryz.prog 117 [nI x] [] (nI (cr x)) []:=by
 refine bU (aj:=[]) aG Tryz.func117 (by kernel_rfl) (ay:=0) rfl (by kernel_rfl) 100 ?_;apply of_eq (q:=let q0:=IntKind.i64.wrap;(decide (x<0)=true->aE [vI (q0 (q0 ((2:Int)*q0 (q0 ((0:Int)-x)-1))+1))]=nI (cr x)/\([]:List Ob)=[])/\(decide (x<0)=false->aE [vI (q0 ((2:Int)*q0 (x-1)))]=nI (cr x)/\([]:List Ob)=[])) (by kernel_rfl)
 try simp only[sL]
 refine⟨fun h=>?_,fun h=>?_⟩;rw[wrap64 (n:=0-x) (by omega) (by omega),wrap64 (n:=0-x-1) (by omega) (by omega),wrap64 (n:=2*(0-x-1)) (by omega) (by omega),wrap64 (n:=2*(0-x-1)+1) (by omega) (by omega)];exact congrArg nI (by unfold cr;omega);rw[wrap64 (n:=x-1) (by omega) (by omega),wrap64 (n:=2*(x-1)) (by omega) (by omega)];exact congrArg nI (by unfold cr;omega)
def cColT:bQ:=kI (.int .i64) fun x=>(.p ((show Int from x)≠0/\-1000<=(show Int from x)/\(show Int from x)<=1000),nI (cr x),[])
theorem abQ:aM Tryz.prog 117 cColT:=gE (by kernel_rfl) fun x h=>abP x h
theorem Ua(r:Rn)(a:Nat)(h:a<r.ah.length):bq Tryz.prog 77 1 [pR,nI a] (aZ r) (bB (decide (r.ah.getD a 0=a))) (aZ r):=by
 refine bR (aj:=[]) (cx:=[]) (fz:=[]) aG Tryz.func77 (by kernel_rfl) 1 (by kernel_rfl) 100 ?_;apply of_eq (q:=((0:Int)<=(a:Int)/\(a:Int)<(r.ah.length:Int))/\(0:Nat)+a<r.ah.length/\aE [vB (decide (r.ah.getD ((0:Nat)+a) (0:Int)=(a:Int)))]=bB (decide (r.ah.getD a (0:Int)=(a:Int)))/\[eG r (1:Nat) (2:Nat) (3:Nat),aQ r,aB r.ah,aB r.dl]=aZ r) (by kernel_rfl)
 try simp only[sL]
 exact⟨by omega,h,rfl⟩
def QW:bQ:=TY fun r a=>(a<r.ah.length,bB (decide (r.ah.getD a 0=a)),r)
theorem Ub:aM Tryz.prog 77 QW:=abN (by kernel_rfl) fun r a _ h=>Ua r a h
theorem Yb(r:Rn)(a c b:Nat)(h:a<r.af.length/\b<r.af.length/\c<(2*r.g).toNat/\r.g<=16):bq Tryz.prog 98 1 [pR,nI a,nI c,nI b] (aZ r) (.aL []) (aZ (join r a c b)):=by
 refine bR (aj:=[]) (cx:=[]) (fz:=[]) aG Tryz.func98 (by kernel_rfl) 1 (by kernel_rfl) 100 ?_;apply of_eq (q:=let q0:=IntKind.i64.wrap;let q1:=(↑(BitVec.ofInt (64:Nat) (c:Int) ^^^ BitVec.ofInt (64:Nat) (1:Int)).toNat:Int);let q2:=(r.af.set ((0:Nat)+a) ((r.af.getD ((0:Nat)+a) []).set c (b:Int)));let q3:=((2:Int)*r.g);((0:Int)<=(a:Int)/\(a:Int)<(r.af.length:Int))/\(0:Nat)+a<r.af.length/\((0:Int)<=(c:Int)/\(c:Int)<(↑q3.toNat:Int))/\((0:Nat)+a<r.af.length/\c<q3.toNat)/\((0:Int)<=(b:Int)/\(b:Int)<(r.af.length:Int))/\(0:Nat)+b<q2.length/\((0:Int)<=q0 q1/\q0 q1<(↑q3.toNat:Int))/\((0:Nat)+b<q2.length/\(q0 q1).toNat<q3.toNat)/\aE []=A.aL []/\[eG r (1:Nat) (2:Nat) (3:Nat),Ob.mk 22 [Fd.c (W.th q3.toNat (q2.set ((0:Nat)+b) ((q2.getD ((0:Nat)+b) []).set (q0 q1).toNat (a:Int))))],aB r.ah,aB r.dl]=aZ (join r a c b)) (by kernel_rfl)
 try simp only[sL]
 have hf:=@rC c r.g.toNat (by omega);rw[rE c (by omega)];simp only[ac0,acS];refine⟨by omega,by omega,by omega,by omega,by omega,by omega,by omega,by omega,rfl,?_⟩;simp only[aZ,eG,aQ,join,fA,ac0]
def nM(w aq aj aH:Int)(af:List (List Int))(ah dl:List Int)(dn:Nat):Rn:=⟨w/2,[],[],aq,aH,aj,0,0,0,0,af,ah,dl,dn⟩
def Bd : bQ := { cI := [true, false, false, false], ay := some 1, f := fun args au => match args, au with
 | [.p (.c (.ptr 0 0)),.p (.c (.int .i64 x)),.p (.c (.int .i64 y)),.p (.c (.int .i64 z))],[⟨t,[.c (.int .i64 w),.c (.int .i64 aq),.c (.sl a 0 nr 1),.c (.sl b 0 np 1),.c (.sl c 0 dn 1),.c (.int .i64 aj),.c (.int .i64 aH)]⟩,⟨t1,[.c (.th k af)]⟩,⟨t2,[.a 0 (.int .i64) ah]⟩,⟨t3,[.a 0 (.int .i64) dl]⟩] =>
   bif acQ t 106&&(acQ t1 22&&(acQ t2 3&&(acQ t3 3&&(acQ a 1&&(acQ b 2&&acQ c 3))))) then some (.p ((nr=af.length/\np=ah.length/\k=w.toNat/\2*(w/2)=w)/\0<=x/\0<=y/\0<=z/\x.toNat<af.length/\z.toNat<af.length/\y.toNat<w.toNat/\w<=32),.aL [],
    [⟨t,[.c (.int .i64 w),.c (.int .i64 aq),.c (.sl a 0 nr 1),.c (.sl b 0 np 1),.c (.sl c 0 dn 1),.c (.int .i64 aj),.c (.int .i64 aH)]⟩,⟨t1,[.c (.th k (fA (fA af x.toNat y.toNat (z.toNat:Nat)) z.toNat (bZ y.toNat) (x.toNat:Nat)))]⟩,⟨t2,[.a 0 (.int .i64) ah]⟩,⟨t3,[.a 0 (.int .i64) dl]⟩]) else none
 | _,_=>none }
theorem Be:aM Tryz.prog 98 Bd:=by
 refine⟨by kernel_rfl,fun args au c r bg e hc=>?_⟩;simp only[Bd] at e;split at e;rename_i x y z t w aq a nr b np c' dn aj aH t1 k af t2 ah t3 dl;obtain⟨hb,e1⟩:=aC.aK e;clear e;simp only[acW] at hb;obtain⟨h1,h2,h3,h4,h5,h6,h7⟩:=hb;cases acP h1;cases acP h2;cases acP h3;cases acP h4;cases acP h5;cases acP h6;cases acP h7;cases e1;obtain⟨⟨rfl,rfl,rfl,hw⟩,hx,hy,hz,q1,q2,q3,q4⟩:=hc;have:=Yb (nM w aq aj aH af ah dl dn) x.toNat y.toNat z.toNat ⟨q1,q2,by show y.toNat<(2*(w/2)).toNat;omega,by show w/2<=16;omega⟩;rw[<-gA hx,<-gA hy] at this;rw[show ((z.toNat:Nat):Int)=z by omega] at this;simp only[aZ,eG,aQ,join,nM,hw,dF] at this;exact this;cases e
theorem Br.ay{s s':Rn}(h:Br s)(k:Keep s s'):Br s':=by
 obtain⟨k1,k2,k3,k4,k5,k6,k7,k8⟩:=k;obtain⟨h1,h2,h3,h4,h5,h6⟩:=h;exact⟨k2.trans h1,k3.trans h2,k8.trans h3,k5.trans h4,k6.trans h5,k7.trans h6⟩
theorem un{s:Rn}(h:Br s):Rn.mk (2*s.g/2) [] [] s.aq s.aH s.aj 0 0 0 0 s.af s.ah s.dl s.dn=s:=by
 have e:2*s.g/2=s.g:=by omega
 obtain⟨h1,h2,h3,h4,h5,h6⟩:=h;rw[e];cases s;simp only at h1 h2 h3 h4 h5 h6;subst h1;subst h2;subst h3;subst h4;subst h5;subst h6;rfl
theorem Sd.ay{r s:Rn}(S:Sd r s):Keep r s:=by obtain⟨p,d,rfl,_,_⟩:=S;exact Keep.refl _
theorem So.ay{r s:Rn}(S:So r s):Keep r s:=by obtain⟨p,d,n,rfl,_⟩:=S;exact Keep.refl _
def Yc:bJ:=nY Tryz.prog [] [] Tryz.f143 1 [([0,0,1,1,0,1],[0,1,5]),([0,0,1,1,1,0,1],[0,1,5])] [] [] false (.int .i64 0)
theorem Yd(s:Rn)(bO:Nat)(q:List Int):∀(f c:Nat)(p:List Int),eS p->c<p.length->top p c=bO->c<f->q=y4 bO f c p->
 av Yc (iz false (nI bO) (aZ { s with ah:=q })) [0,0,1,1,1,0,1] (fr [(0,pR),(1,nI c),(5,nI bO)]) (.ofList (aZ { s with ah:=p }))
 | f,c,p,hp,hc,ht,hf,hq=>by
   refine aN aG (by kernel_rfl) 100 ?_;apply of_eq (q:=let q1:=Ob.mk 106 [fI ((2:Int)*s.g),fI s.aq,fS 1 0 s.af.length,fS 2 0 p.length,fS 3 0 s.dn,fI s.aj,fI s.aH];let q2:=(Rn.mk s.g s.ax s.sub s.aq s.aH s.aj s.aA s.ph s.co s.ix s.af q s.dl s.dn);let q3:=decide (p.getD ((0:Nat)+c) (0:Int)=(bO:Int));((0:Int)<=(c:Int)/\(c:Int)<(p.length:Int))/\(0:Nat)+c<p.length/\((!q3)=true->((0:Int)<=(c:Int)/\(c:Int)<(p.length:Int))/\(0:Nat)+c<p.length/\((0:Int)<=(c:Int)/\(c:Int)<(p.length:Int))/\(0:Nat)+c<p.length/\av Yc (iz false (nI (bO:Int)) (aZ q2)) [0,0,1,1,1,0,1] (fr [(0,aR 0 0),(1,nI (p.getD ((0:Nat)+c) (0:Int))),(5,nI (bO:Int))]) (ak.ofList [q1,aQ s,aB (p.set ((0:Nat)+c) (bO:Int)),aB s.dl]))/\((!q3)=false->false=false/\aE [vI (bO:Int)]=nI (bO:Int)/\[q1,aQ s,aB p,aB s.dl]=aZ q2)) (by kernel_rfl)
   try simp only[sL]
   refine⟨by omega,hc,fun h=>⟨by omega,hc,by omega,hc,?_⟩,fun h=>⟨rfl,?_⟩⟩
   . cases f with
     | zero=>omega
     | succ f =>
       rw[y4,if_neg h] at hq;have hpc:=hp.2 c hc;have hal:=gW hp hc;rw[ht] at hal;have hn:c≠top p c:=fun e=>h (by rw[ht] at e;rw[e];exact hal);obtain⟨h1,h2⟩:=Nz hp hc hn;rw[ht] at h1 h2;have hns:p.getD c 0≠(c:Int):=fun e=>hn (dY e).symm;have hts:=ja hp hc hns;have:=Yd s bO q f (p.getD c 0).toNat (p.set c (bO:Int)) h1 (by rw[ac0];omega) (by rw[h2 _ (by omega),<-hts];exact ht) (by omega) hq;rw[<-gA hpc.1] at this;simp only[aZ,eG,ac0] at this;exact this
   cases f with
   | zero=>omega
   | succ f =>
     rw[y4,if_pos h] at hq;subst hq;rfl
theorem Ye(s:Rn)(hp:eS s.ah)(c:Nat)(hc:c<s.ah.length):∀(n a:Nat),a<n->a<s.ah.length->top s.ah a=top s.ah c->
 av Yc (iz false (nI (top s.ah c)) (aZ (zip true s c))) [0,0,1,1,0,1] (fr [(0,pR),(1,nI c),(5,nI a)]) (.ofList (aZ s))
 | n,a,hn,ha,ht=>by
   refine aN aG (by kernel_rfl) 100 ?_;apply of_eq (q:=let q1:=(iz false (nI (↑(top s.ah c):Int)) (aZ (zip true s c)));let q2:=decide (s.ah.getD ((0:Nat)+a) (0:Int)=(a:Int));let q3:=(ak.ofList [eG s 1 2 3,aQ s,aB s.ah,aB s.dl]);((0:Int)<=(a:Int)/\(a:Int)<(s.ah.length:Int))/\(0:Nat)+a<s.ah.length/\(q2=true->av Yc q1 [0,0,1,1,1,0,1] (fr [(0,aR 0 0),(1,nI (c:Int)),(5,nI (a:Int))]) q3)/\(q2=false->((0:Int)<=(a:Int)/\(a:Int)<(s.ah.length:Int))/\(0:Nat)+a<s.ah.length/\av Yc q1 [0,0,1,1,0,1] (fr [(0,aR 0 0),(1,nI (c:Int)),(5,nI (s.ah.getD ((0:Nat)+a) (0:Int)))]) q3)) (by kernel_rfl)
   try simp only[sL]
   have h2:=hp.2 a ha;refine⟨by omega,ha,fun h=>?_,fun h=>⟨by omega,ha,?_⟩⟩;have e:a=top s.ah c:=by rw[<-ht,dY h]
   rw[e];exact Yd s (top s.ah c) (cmp s.ah c) (c+1) c s.ah hp hc rfl (by omega) rfl;cases n with
   | zero=>omega
   | succ n =>
     have:=Ye s hp c hc n (s.ah.getD a 0).toNat (by omega) (by omega) (by rw[<-ja hp ha h];exact ht);rw[<-gA h2.1] at this;exact this
theorem abR(s:Rn)(hp:eS s.ah)(c:Nat)(hc:c<s.ah.length):bq Tryz.prog 143 1 [pR,nI c] (aZ s) (nI (top s.ah c)) (aZ (zip true s c)):=by
 refine(qY (dies:=[]) (aj:=[([0,0,1,1,0,1],[0,1,5]),([0,0,1,1,1,0,1],[0,1,5])]) (cx:=[]) (fz:=[]) aG Tryz.func143 (by kernel_rfl) 1 (by kernel_rfl) (b:=false) (v:=.int .i64 0) 100 ?_).1 rfl;apply of_eq (q:=av (nY Tryz.prog [] [] Tryz.f143 (1:Nat) [([0,0,1,1,0,1],[0,1,5]),([0,0,1,1,1,0,1],[0,1,5])] [] [] false (Value.int .i64 (0:Int))) (iz false (nI (↑(top s.ah c):Int)) (aZ (zip true s c))) [0,0,1,1,0,1] (fr [(0,aR 0 0),(1,nI (c:Int)),(5,nI (c:Int))]) (ak.ofList [eG s 1 2 3,aQ s,aB s.ah,aB s.dl])) (by kernel_rfl)
 try simp only[sL,Int.reduceEq,Int.reduceNe,Nat.reduceAdd]
 exact Ye s hp c hc (c+1) c (by omega) hc rfl
def Kq : bQ := { cI := [true, false], ay := some 1, f := fun args au => match args, au with
 | [.p (.c (.ptr 0 0)),.p (.c (.int .i64 x))],[⟨t,[.c (.int .i64 w),.c (.int .i64 aq),.c (.sl a 0 nr 1),.c (.sl b 0 np 1),.c (.sl c 0 dn 1),.c (.int .i64 aj),.c (.int .i64 aH)]⟩,⟨t1,[.c (.th k af)]⟩,⟨t2,[.a 0 (.int .i64) ah]⟩,⟨t3,[.a 0 (.int .i64) dl]⟩] =>
   bif acQ t 106&&(acQ t1 22&&(acQ t2 3&&(acQ t3 3&&(acQ a 1&&(acQ b 2&&acQ c 3))))) then some (.p ((nr=af.length/\np=ah.length/\k=w.toNat/\2*(w/2)=w)/\0<=x/\eS ah/\x.toNat<ah.length),nI (top ah x.toNat),
    [⟨t,[.c (.int .i64 w),.c (.int .i64 aq),.c (.sl a 0 nr 1),.c (.sl b 0 np 1),.c (.sl c 0 dn 1),.c (.int .i64 aj),.c (.int .i64 aH)]⟩,⟨t1,[.c (.th k af)]⟩,⟨t2,[.a 0 (.int .i64) (cmp ah x.toNat)]⟩,⟨t3,[.a 0 (.int .i64) dl]⟩]) else none
 | _,_=>none }
theorem NG:aM Tryz.prog 143 Kq:=by
 refine⟨by kernel_rfl,fun args au c r bg e hc=>?_⟩;simp only[Kq] at e;split at e;rename_i x t w aq a nr b np c' dn aj aH t1 k af t2 ah t3 dl;obtain⟨hb,e1⟩:=aC.aK e;clear e;simp only[acW] at hb;obtain⟨h1,h2,h3,h4,h5,h6,h7⟩:=hb;cases acP h1;cases acP h2;cases acP h3;cases acP h4;cases acP h5;cases acP h6;cases acP h7;cases e1;obtain⟨⟨rfl,rfl,rfl,hw⟩,hx,hp,hl⟩:=hc;have:=abR (nM w aq aj aH af ah dl dn) hp x.toNat hl;rw[<-gA hx] at this;simp only[aZ,eG,aQ,nM,zip,hw,cond_true,(oK hp hl).1] at this;exact this;cases e
def gMt:bW:=[(143,Kq)]
theorem gMt_ok:bt Tryz.prog gMt:=ar NG aG
theorem Uc(s:Rn)(_:Br s)(hp:eS s.ah)(a b:Nat)(ha:a<s.ah.length/\b<s.ah.length/\s.dn<=s.dl.length/\s.dn<=1000000/\0<=s.aj/\s.aj<=1000000):bq Tryz.prog 142 1 [pR,nI a,nI b] (aZ s) (.aL []) (aZ (cO true s a b)):=by
 refine bR (aj:=[]) (cx:=[]) (fz:=[]) gMt_ok Tryz.func142 (by kernel_rfl) 1 (by kernel_rfl) 100 ?_;apply of_eq (q:=let q2:=(↑(top s.ah a):Int);let q3:=((2:Int)*s.g).toNat=((2:Int)*s.g).toNat/\(2:Int)*((2:Int)*s.g/2)=2*s.g;let q4:=(cmp s.ah a);let q1:=(↑(top q4 b):Int);((s.af.length=s.af.length/\s.ah.length=s.ah.length/\q3)/\(0:Int)<=(a:Int)/\eS s.ah/\a<s.ah.length)/\((s.af.length=s.af.length/\s.ah.length=q4.length/\q3)/\(0:Int)<=(b:Int)/\eS q4/\b<q4.length)/\(decide (q2=q1)=true->aE []=A.aL []/\[eG s (1:Nat) (2:Nat) (3:Nat),aQ s,aB (cmp q4 b),aB s.dl]=aZ (cO true s a b))/\(decide (q2=q1)=false->((0:Int)<=max q2 q1/\max q2 q1<(s.ah.length:Int))/\(0:Nat)+(max q2 q1).toNat<(cmp q4 b).length/\(0:Nat)+1<=1/\((0:Nat)+s.dn<=s.dl.length/\(s.dn+1)*8<=140737488355328)/\aE []=A.aL []/\[Ob.mk 106 [fI ((2:Int)*s.g),fI s.aq,fS 1 0 s.af.length,fS 2 0 s.ah.length,fS 3 0 (s.dn+1),fI (IntKind.i64.wrap (s.aj-1)),fI s.aH],aQ s,aB ((cmp q4 b).set ((0:Nat)+(max q2 q1).toNat) (min q2 q1)),aB (acX s.dn (acY (0:Nat) s.dl)++acX (1:Nat) (acY (0:Nat) [max q2 q1]))]=aZ (cO true s a b))) (by kernel_rfl)
 try simp only[sL]
 obtain⟨ha,hb,h1,h2,h3,h4⟩:=ha;obtain⟨z1,z2,z3⟩:=oK hp ha;obtain⟨y1,y2,y3⟩:=oK z2 (a:=b) (by omega);have e0:cO true s a b=ct { s with ah:=cmp (cmp s.ah a) b } a b:=rfl;have tu:top (cmp (cmp s.ah a) b) a=top s.ah a:=(y3 a (by omega)).trans (z3 a ha);have tv:top (cmp (cmp s.ah a) b) b=top (cmp s.ah a) b:=y3 b (by omega);have lu:=gu hp ha;have lv:=gu z2 (a:=b) (by omega);have hbz:b<(cmp s.ah a).length:=by omega
 rw[e0];have m1:ct { s with ah:=cmp (cmp s.ah a) b } a b=if top (cmp (cmp s.ah a) b) a=top (cmp (cmp s.ah a) b) b then { s with ah:=cmp (cmp s.ah a) b } else { s with ah:=(cmp (cmp s.ah a) b).set (max (top (cmp (cmp s.ah a) b) a) (top (cmp (cmp s.ah a) b) b)) (min (top (cmp (cmp s.ah a) b) a) (top (cmp (cmp s.ah a) b) b):Nat),dl:=s.dl.take s.dn++[((max (top (cmp (cmp s.ah a) b) a) (top (cmp (cmp s.ah a) b) b):Nat):Int)],dn:=s.dn+1,aj:=s.aj-1 }:=rfl;rw[m1,tu,tv];clear e0 m1;generalize cmp (cmp s.ah a) b=z at *;generalize top s.ah a=u at *;generalize top (cmp s.ah a) b=v at *;have e1:(max (u:Int) (v:Int))=((max u v:Nat):Int):=by omega
 have e2:(min (u:Int) (v:Int))=((min u v:Nat):Int):=by omega
 rw[wrap64 (n:=s.aj-1) (by omega) (by omega),e1,e2,acS];refine⟨⟨by omega,by omega,hp,ha⟩,⟨by omega,by omega,z2,hbz⟩,fun h=>⟨rfl,?_⟩,fun h=>⟨by omega,by omega,by omega,rfl,?_⟩⟩;rw[if_pos (by omega)];simp only[aZ,eG,aQ,y1,z1];rw[if_neg (by omega)];simp only[aZ,eG,aQ,ac0,y1,z1]
abbrev mL(aj:Int)(ah dl:List Int)(dn:Nat):Rn:=⟨0,[],[],0,0,aj,0,0,0,0,[],ah,dl,dn⟩
theorem QX(s:Rn)(a b:Nat):(cO true s a b).g=s.g/\(cO true s a b).aq=s.aq/\(cO true s a b).af=s.af/\(cO true s a b).aH=s.aH/\(cO true s a b).ah.length=(zip true (zip true s a) b).ah.length:=by
 unfold cO ct;split;exact⟨rfl,rfl,rfl,rfl,rfl⟩;exact⟨rfl,rfl,rfl,rfl,by simp only[ac0]⟩
theorem QY(s:Rn)(a b:Nat):(cO true s a b).ah=(cO true (mL s.aj s.ah s.dl s.dn) a b).ah/\(cO true s a b).dl=(cO true (mL s.aj s.ah s.dl s.dn) a b).dl/\(cO true s a b).dn=(cO true (mL s.aj s.ah s.dl s.dn) a b).dn/\(cO true s a b).aj=(cO true (mL s.aj s.ah s.dl s.dn) a b).aj:=by
 unfold cO ct;by_cases h:top (zip true (zip true s a) b).ah a=top (zip true (zip true s a) b).ah b;rw[if_pos h,if_pos (show top (zip true (zip true (mL s.aj s.ah s.dl s.dn) a) b).ah a=top (zip true (zip true (mL s.aj s.ah s.dl s.dn) a) b).ah b from h)];exact⟨rfl,rfl,rfl,rfl⟩;rw[if_neg h,if_neg (show ¬top (zip true (zip true (mL s.aj s.ah s.dl s.dn) a) b).ah a=top (zip true (zip true (mL s.aj s.ah s.dl s.dn) a) b).ah b from h)];exact⟨rfl,rfl,rfl,rfl⟩
theorem Ho(Z:Rn){x y:Nat}(hp:eS Z.ah)(hx:x<Z.ah.length)(hy:y<Z.ah.length):aZ (cO true Z x y)=[⟨106,[.c (.int .i64 (2*Z.g)),.c (.int .i64 Z.aq),.c (.sl 1 0 Z.af.length 1),.c (.sl 2 0 Z.ah.length 1),.c (.sl 3 0 (cO true (mL Z.aj Z.ah Z.dl Z.dn) x y).dn 1),.c (.int .i64 (cO true (mL Z.aj Z.ah Z.dl Z.dn) x y).aj),.c (.int .i64 Z.aH)]⟩,aQ Z,aB (cO true (mL Z.aj Z.ah Z.dl Z.dn) x y).ah,aB (cO true (mL Z.aj Z.ah Z.dl Z.dn) x y).dl]:=by
 obtain⟨q1,q2,q3,q4,q5⟩:=QX Z x y;obtain⟨p1,p2,p3,p4⟩:=QY Z x y;have bN:(zip true (zip true Z x) y).ah.length=Z.ah.length:=by
  obtain⟨z1,z2,z3⟩:=oK hp hx;exact(oK z2 (a:=y) (by omega)).1.trans z1
 rw[bN] at q5;simp only[aZ,eG,aQ,q1,q2,q3,q4,q5,p2,p3,p4];rw[p1]
def Hq : bQ := { cI := [true, false, false], ay := some 1, f := fun args au => match args, au with
 | [.p (.c (.ptr 0 0)),.p (.c (.int .i64 x)),.p (.c (.int .i64 y))],[⟨t,[.c (.int .i64 w),.c (.int .i64 aq),.c (.sl a 0 nr 1),.c (.sl b 0 np 1),.c (.sl c 0 dn 1),.c (.int .i64 aj),.c (.int .i64 aH)]⟩,⟨t1,[.c (.th k af)]⟩,⟨t2,[.a 0 (.int .i64) ah]⟩,⟨t3,[.a 0 (.int .i64) dl]⟩] =>
   bif acQ t 106&&(acQ t1 22&&(acQ t2 3&&(acQ t3 3&&(acQ a 1&&(acQ b 2&&acQ c 3))))) then some (.p ((nr=af.length/\np=ah.length/\k=w.toNat/\2*(w/2)=w)/\0<=x/\0<=y/\eS ah/\x.toNat<ah.length/\y.toNat<ah.length/\dn<=dl.length/\dn<=1000000/\0<=aj/\aj<=1000000),.aL [],
    [⟨t,[.c (.int .i64 w),.c (.int .i64 aq),.c (.sl a 0 nr 1),.c (.sl b 0 np 1),.c (.sl c 0 (cO true (mL aj ah dl dn) x.toNat y.toNat).dn 1),.c (.int .i64 (cO true (mL aj ah dl dn) x.toNat y.toNat).aj),.c (.int .i64 aH)]⟩,⟨t1,[.c (.th k af)]⟩,⟨t2,[.a 0 (.int .i64) (cO true (mL aj ah dl dn) x.toNat y.toNat).ah]⟩,⟨t3,[.a 0 (.int .i64) (cO true (mL aj ah dl dn) x.toNat y.toNat).dl]⟩]) else none
 | _,_=>none }
theorem Ud:aM Tryz.prog 142 Hq:=by
 refine⟨by kernel_rfl,fun args au c r bg e hc=>?_⟩;simp only[Hq] at e;split at e;rename_i x y t w aq a nr b np c' dn aj aH t1 k af t2 ah t3 dl;obtain⟨hb,e1⟩:=aC.aK e;clear e;simp only[acW] at hb;obtain⟨h1,h2,h3,h4,h5,h6,h7⟩:=hb;cases acP h1;cases acP h2;cases acP h3;cases acP h4;cases acP h5;cases acP h6;cases acP h7;cases e1;obtain⟨⟨rfl,rfl,rfl,hw⟩,hx,hy,hp,hl,hl2,g1,g2,g3,g4⟩:=hc;have:=Uc (nM w aq aj aH af ah dl dn) ⟨rfl,rfl,rfl,rfl,rfl,rfl⟩ hp x.toNat y.toNat ⟨hl,hl2,g1,g2,g3,g4⟩;rw[<-gA hx,<-gA hy] at this;obtain⟨q1,q2,q3,q4,q5⟩:=QX (nM w aq aj aH af ah dl dn) x.toNat y.toNat;obtain⟨p1,p2,p3,p4⟩:=QY (nM w aq aj aH af ah dl dn) x.toNat y.toNat;have bN:(zip true (zip true (nM w aq aj aH af ah dl dn) x.toNat) y.toNat).ah.length=ah.length:=by
  obtain⟨z1,z2,z3⟩:=oK hp hl;exact(oK z2 (a:=y.toNat) (by omega)).1.trans z1
 rw[bN] at q5;simp only[aZ,eG,aQ,q1,q2,q3,q4,q5,p2,p3,p4] at this;rw[p1] at this;simp only[nM,hw] at this;exact this;cases e
theorem Yf{s:Rn}(T:dh s){e c:Nat}(he:e<s.af.length)(hc:c<(2*s.g).toNat):dh (kO true s e c)/\(kO true s e c).af.length=s.af.length/\(kO true s e c).g=s.g/\Keep s (kO true s e c):=by
 obtain⟨T1,h1,h2⟩:=T.cell he hc;have S:=(Sd.refl T).cell true T he hc;obtain⟨p,d,e1,S1,e2⟩:=S;have S:Sd (cell s e c) (kO true s e c):=⟨p,d,e1,S1,e2⟩;exact⟨S.tab T1,by rw[S.af];exact h1,by rw[S.g];exact h2,(Jg s e c).trans (Sd.ay S)⟩
def gCt:bW:=[(143,Kq),(142,Hq),(98,Bd)]
theorem NH:bt Tryz.prog gCt:=ar NG (ar Ud (ar Be aG))
abbrev NI:List (List Nat×List Nat):=[([0,1,1,1],[0,6]),([0,1,1,0,0,1,0,0,1,1,1],[0,6,7,43,44])]
def FY:bJ:=bG Tryz.prog gCt Tryz.f118 1 NI [] []
theorem NJ(s0:Rn)(k e G:Nat):∀(n c:Nat)(s:Rn),dh s->Br s->(2*s.g).toNat=G->e<s.af.length->c+n=G->k<1000000->
 av FY (aD (.aL []) (aZ s0)) [0,1,1,1] (fr [(0,pR),(6,nI (k+1:Nat))]) (.ofList (aZ (l5 true e n c s)))->
 av FY (aD (.aL []) (aZ s0)) [0,1,1,0,0,1,0,0,1,1,1] (fr [(0,pR),(6,nI k),(7,nI e),(43,nI G),(44,nI c)]) (.ofList (aZ s))
 | n,c,s,T,hb,hG,he,hn,hk,hout=>by
   refine aN NH (by kernel_rfl) 100 ?_;apply of_eq (q:=let q0:=IntKind.i64.wrap;let q6:=((2:Int)*s.g);let q8:=(cmp s.ah e);let q9:=q6.toNat=q6.toNat/\(2:Int)*((2:Int)*s.g/2)=2*s.g;let bL:=(0:Int);let dU:=(↑(top s.ah e):Int);let cP:=(0:Nat);let fX:=(s.af.length:Int);let lN:=Ob.mk 106 [fI q6,fI s.aq,fS 1 0 s.af.length,fS 2 0 s.ah.length,fS 3 0 s.dn,fI s.aj,fI s.aH];let gB:=(↑q6.toNat:Int);let jl:=[0,1,1,0,0,1,0,0,1,1,1];let jO:=s.dn<=s.dl.length/\s.dn<=1000000/\bL<=s.aj/\s.aj<=1000000;let jQ:=(c:Int);let lO:=cP+e<s.af.length;let q3:=(↑(BitVec.ofInt (64:Nat) jQ ^^^ BitVec.ofInt (64:Nat) (1:Int)).toNat:Int);let q7:=(fr [(0,aR 0 0),(6,nI (k:Int)),(7,nI (e:Int)),(43,nI (G:Int)),(44,nI (q0 (jQ+1)))]);let aX:=(ak.ofList [lN,Ob.mk 22 [Fd.c (W.th q6.toNat s.af)],Ob.mk 3 [Fd.a 0 (D.int .i64) s.ah],Ob.mk 3 [Fd.a 0 (D.int .i64) s.dl]]);let bH:=(s.af.getD (cP+e) []);let eO:=(q0 q3);let p8:=(s.af.set (cP+e) (bH.set c (-1:Int)));let q2:=(bH.getD c bL);let dr:=(↑(top q8 q2.toNat):Int);let dA:=(cmp q8 q2.toNat);let Db:=s.ah.length=dA.length/\q9;let q1:=(p8.set (cP+q2.toNat) ((p8.getD (cP+q2.toNat) []).set eO.toNat (-1:Int)));let cM:=(q1.getD (cP+top q8 q2.toNat) []);let eD:=(q1.getD (cP+top s.ah e) []);let iA:=cP+top q8 q2.toNat<q1.length;let jb:=s.af.length=q1.length;let je:=cP+top s.ah e<q1.length;let q4:=(cO true (mL s.aj dA s.dl s.dn) (cM.getD eO.toNat bL).toNat (top s.ah e));let q5:=(cO true (mL s.aj dA s.dl s.dn) (eD.getD c bL).toNat (top q8 q2.toNat));(decide (jQ<(G:Int))=true->(bL<=(e:Int)/\(e:Int)<fX)/\lO/\(bL<=jQ/\jQ<gB)/\(lO/\c<q6.toNat)/\(decide (bH.getD c bL<0)=true->av FY (aD (A.aL []) (aZ s0)) jl q7 aX)/\(decide (bH.getD c bL<0)=false->(bL<=(e:Int)/\(e:Int)<fX)/\lO/\(bL<=bH.getD c bL/\bH.getD c bL<fX)/\cP+q2.toNat<s.af.length/\(bL<=jQ/\jQ<gB)/\(lO/\c<q6.toNat)/\(bL<=q0 q3/\q0 q3<gB)/\(cP+q2.toNat<p8.length/\eO.toNat<q6.toNat)/\((jb/\s.ah.length=s.ah.length/\q9)/\bL<=(e:Int)/\eS s.ah/\e<s.ah.length)/\((jb/\s.ah.length=q8.length/\q9)/\bL<=bH.getD c bL/\eS q8/\q2.toNat<q8.length)/\(bL<=dU/\dU<fX)/\je/\(bL<=jQ/\jQ<gB)/\(je/\c<q6.toNat)/\(decide (bL<=eD.getD c bL)=true->(bL<=dU/\dU<fX)/\je/\(bL<=jQ/\jQ<gB)/\(je/\c<q6.toNat)/\((jb/\Db)/\bL<=eD.getD c bL/\bL<=dr/\eS dA/\(eD.getD c bL).toNat<dA.length/\top q8 q2.toNat<dA.length/\jO)/\av FY (aD (A.aL []) (aZ s0)) jl q7 (ak.ofList [Ob.mk 106 [fI q6,fI s.aq,fS 1 0 s.af.length,fS 2 0 s.ah.length,fS 3 0 q5.dn,fI q5.aj,fI s.aH],Ob.mk 22 [Fd.c (W.th q6.toNat q1)],Ob.mk 3 [Fd.a 0 (D.int .i64) q5.ah],Ob.mk 3 [Fd.a 0 (D.int .i64) q5.dl]]))/\(decide (bL<=eD.getD c bL)=false->(bL<=dr/\dr<fX)/\iA/\(bL<=q0 q3/\q0 q3<gB)/\(iA/\eO.toNat<q6.toNat)/\(decide (bL<=cM.getD eO.toNat bL)=true->(bL<=dr/\dr<fX)/\iA/\(bL<=q0 q3/\q0 q3<gB)/\(iA/\eO.toNat<q6.toNat)/\((jb/\Db)/\bL<=cM.getD eO.toNat bL/\bL<=dU/\eS dA/\(cM.getD eO.toNat bL).toNat<dA.length/\top s.ah e<dA.length/\jO)/\av FY (aD (A.aL []) (aZ s0)) jl q7 (ak.ofList [Ob.mk 106 [fI q6,fI s.aq,fS 1 0 s.af.length,fS 2 0 s.ah.length,fS 3 0 q4.dn,fI q4.aj,fI s.aH],Ob.mk 22 [Fd.c (W.th q6.toNat q1)],Ob.mk 3 [Fd.a 0 (D.int .i64) q4.ah],Ob.mk 3 [Fd.a 0 (D.int .i64) q4.dl]]))/\(decide (bL<=cM.getD eO.toNat bL)=false->((jb/\Db)/\bL<=dU/\bL<=jQ/\bL<=dr/\top s.ah e<q1.length/\top q8 q2.toNat<q1.length/\c<q6.toNat/\(2:Int)*s.g<=32)/\av FY (aD (A.aL []) (aZ s0)) jl q7 (ak.ofList [lN,Ob.mk 22 [Fd.c (W.th q6.toNat (fA (fA q1 (top s.ah e) c dr) (top q8 q2.toNat) (bZ c) dU))],Ob.mk 3 [Fd.a 0 (D.int .i64) dA],Ob.mk 3 [Fd.a 0 (D.int .i64) s.dl]])))))/\(decide (jQ<(G:Int))=false->av FY (aD (A.aL []) (aZ s0)) [0,1,1,1] (fr [(0,aR 0 0),(6,nI (q0 ((k:Int)+1)))]) aX)) (by kernel_rfl)
   try simp only[sL]
   have hg:=T.g2;have kP:=T.g1;have hl:=T.len;have hp:=T.ah.1;have hal:=rT s.ah;have hlv:=T.aj;have hsum:=T.sum;have WU:=T.dy;have hpar:=T.ah;rw[wrap64 (n:=(c:Int)+1) (by omega) (by omega),wrap64 (n:=(k:Int)+1) (by omega) (by omega)];refine⟨fun h=>?_,fun h=>?_⟩
   . have hc:c<G:=by omega
     obtain⟨T1,l1,g1,k1⟩:=Yf T he (by omega:c<(2*s.g).toNat);cases n with
     | zero=>omega
     | succ n =>
     have ih:=NJ s0 k e G n (c+1) (kO true s e c) T1 (hb.ay k1) (by rw[g1];exact hG) (by omega) (by omega) hk hout;have hr:=eE T.row he (by omega:c<(2*s.g).toNat);have hfl:=T.flip (by omega:c<(2*s.g).toNat);rw[rE c (by omega)];simp only[acS,kW,Mc];refine⟨by omega,by omega,by omega,by omega,fun hd=>?_,fun hd=>?_⟩;rw[kO,if_pos hd] at ih;exact ih;have hdr:(bh s.af e c).toNat<s.af.length:=by omega
     have T2:dh (cH s e c):=T.cL (c:=c) he hdr;have bN:(cH s e c).af.length=s.af.length:=by unfold cH;simp only[dF]
     have pu:=gu hpar (show e<s.ah.length by omega);have pv:=gu hpar (show (bh s.af e c).toNat<s.ah.length by omega);have r1:=eE T2.row (a:=top s.ah e) (c:=c) (by omega) (by show c<(2*s.g).toNat;omega);have r2:=eE T2.row (a:=top s.ah (bh s.af e c).toNat) (c:=bZ c) (by omega) hfl;rw[bN] at r1 r2;obtain⟨z1,z2,z3⟩:=oK hpar (show e<s.ah.length by omega);obtain⟨y1,y2,y3⟩:=oK z2 (a:=(bh s.af e c).toNat) (by omega);rw[z3 _ (by omega)];rw[kO,if_neg (by omega),lZ] at ih;have hT:(cH s e c).af=fA (fA s.af e c (-1)) (bh s.af e c).toNat (bZ c) (-1):=rfl;have hZ:(zip true (zip true (cH s e c) e) (bh s.af e c).toNat).af=fA (fA s.af e c (-1)) (bh s.af e c).toNat (bZ c) (-1):=rfl;have hZp:(zip true (zip true (cH s e c) e) (bh s.af e c).toNat).ah=cmp (cmp s.ah e) (bh s.af e c).toNat:=rfl;have CP:(zip true (zip true (cH s e c) e) (bh s.af e c).toNat).ah.length=s.ah.length:=y1.trans z1;rw[hZ] at ih;rw[hT] at r1 r2;simp only[dF];rw[y1,z1,hl];have hw2:2*(2*s.g/2)=2*s.g:=by omega
     refine⟨by omega,by omega,by omega,by omega,by omega,by omega,by omega,by omega,⟨⟨trivial,hw2⟩,by omega,hpar,by omega⟩,⟨⟨trivial,rfl,hw2⟩,by omega,z2,by omega⟩,by omega,by omega,by omega,by omega,fun h1=>⟨by omega,by omega,by omega,by omega,⟨⟨trivial,rfl,hw2⟩,by omega,by omega,y2,by omega⟩,?_⟩,fun h1=>⟨by omega,by omega,by omega,by omega,fun h2=>⟨by omega,by omega,by omega,by omega,⟨⟨trivial,rfl,hw2⟩,by omega,by omega,y2,by omega⟩,?_⟩,fun h2=>⟨⟨⟨trivial,rfl,hw2⟩,by omega⟩,?_⟩⟩⟩;rw[if_pos h1,Ho _ y2 (by rw[CP];omega) (by rw[CP];omega),CP,hl,hZ] at ih;simp only[dF] at ih;exact ih;rw[if_neg (by omega),if_pos h2,Ho _ y2 (by rw[CP];omega) (by rw[CP];omega),CP,hl,hZ] at ih;simp only[dF] at ih;exact ih;rw[if_neg (by omega),if_neg (by omega)] at ih;simp only[aZ,eG,aQ,join,hZ,hZp,y1,z1,hl,dF] at ih;exact ih
   rw[show n=0 by omega,l5] at hout;exact hout
theorem NK(s0:Rn)(G:Nat):∀(f k:Nat)(s:Rn),dh s->Br s->(2*s.g).toNat=G->s0=mK true G f k s->f+k=s.af.length+1->0<s.af.length->
 av FY (aD (.aL []) (aZ s0)) [0,1,1,1] (fr [(0,pR),(6,nI k)]) (.ofList (aZ s))
 | f, k, s, T, hb, hG, h0, hf, hn => by
   have hout:=fun(h0:0<f) h1 h2 h3=>NK s0 G (f-1) (k+1) (l5 true (s.dl.getD k 0).toNat G 0 s) h1 h2 h3;refine aN NH (by kernel_rfl) 100 ?_;apply of_eq (q:=let q1:=Ob.mk 106 [fI ((2:Int)*s.g),fI s.aq,fS 1 0 s.af.length,fS 2 0 s.ah.length,fS 3 0 s.dn,fI s.aj,fI s.aH];let q2:=Ob.mk 22 [Fd.c (W.th ((2:Int)*s.g).toNat s.af)];(decide ((k:Int)<(s.dn:Int))=true->((0:Int)<=(k:Int)/\(k:Int)<(s.dn:Int))/\(0:Nat)+k<s.dl.length/\av FY (aD (A.aL []) (aZ s0)) [0,1,1,0,0,1,0,0,1,1,1] (fr [(0,aR 0 0),(6,nI (k:Int)),(7,nI (s.dl.getD ((0:Nat)+k) (0:Int))),(43,nI ((2:Int)*s.g)),(44,nI (0))]) (ak.ofList [q1,q2,Ob.mk 3 [Fd.a 0 (D.int .i64) s.ah],Ob.mk 3 [Fd.a 0 (D.int .i64) s.dl]]))/\(decide ((k:Int)<(s.dn:Int))=false->aE []=A.aL []/\[q1,q2,Ob.mk 3 [Fd.a 0 (D.int .i64) s.ah],Ob.mk 3 [Fd.a 0 (D.int .i64) s.dl]]=aZ s0)) (by kernel_rfl)
   try simp only[sL]
   have hl:=T.len;have hp:=T.ah.1;have hal:=AK T.ah (by omega);have hsum:=T.sum;have WU:=T.dy;refine⟨fun h=>?_,fun h=>?_⟩
   . have hd:=T.dx _ (fW (l:=s.dl) (a:=k) (by omega));have S:=(Sd.refl T).cells true (e:=(s.dl.getD k 0).toNat) G 0 T (by omega) (by omega);obtain⟨T1,h1,h2⟩:=dh.cells G 0 T (show (s.dl.getD k 0).toNat<s.af.length by omega) (by omega);refine⟨by omega,by omega,?_⟩;cases f with
     | zero=>omega
     | succ f =>
     rw[mK,if_pos (by omega)] at h0;have:=NJ s0 k (s.dl.getD k 0).toNat G G 0 s T hb hG (by omega) (by omega) (by omega) (hout (by omega) (S.tab T1) (hb.ay ((yN _ _ _ _).trans (Sd.ay S))) (by rw[S.g,h2];exact hG) h0 (by rw[S.af,h1];omega) (by rw[S.af];omega));rw[<-gA hd.1,<-hG] at this;rw[show ((2*s.g).toNat:Int)=2*s.g by have:=T.g1;omega] at this;exact this
   have:mK true G f k s=s:=by
    cases f with
    | zero=>rfl
    | succ f=>rw[mK,if_neg (by omega)]
   rw[this] at h0;rw[h0];exact⟨rfl,rfl⟩
 termination_by f=>f
 decreasing_by omega
theorem Yg(s:Rn)(a b:Nat)(hb:Br s)(T:dh { s with dn:=0 })(ha:a<s.af.length)(wE:b<s.af.length):bq Tryz.prog 118 1 [pR,nI a,nI b] (aZ s) (.aL []) (aZ (fN true s a b)):=by
 refine bR (aj:=NI) (cx:=[]) (fz:=[]) NH Tryz.func118 (by kernel_rfl) 1 (by kernel_rfl) 100 ?_;apply of_eq (q:=let q1:=(cO true (mL s.aj s.ah s.dl (0:Nat)) a b);((0:Int)<=0/\(0:Int)<=0/\(0:Int)<=(s.dn:Int))/\((s.af.length=s.af.length/\s.ah.length=s.ah.length/\((2:Int)*s.g).toNat=((2:Int)*s.g).toNat/\(2:Int)*((2:Int)*s.g/2)=2*s.g)/\(0:Int)<=(a:Int)/\(0:Int)<=(b:Int)/\eS s.ah/\a<s.ah.length/\b<s.ah.length/\(0:Nat)<=s.dl.length/\(0:Nat)<=1000000/\(0:Int)<=s.aj/\s.aj<=1000000)/\av (bG Tryz.prog gCt Tryz.f118 (1:Nat) NI [] []) (aD (A.aL []) (aZ (fN true s a b))) [0,1,1,1] (fr [(0,aR 0 0),(6,nI (0))]) (ak.ofList [Ob.mk 106 [fI ((2:Int)*s.g),fI s.aq,fS 1 0 s.af.length,fS 2 0 s.ah.length,fS 3 0 q1.dn,fI q1.aj,fI s.aH],Ob.mk 22 [Fd.c (W.th ((2:Int)*s.g).toNat s.af)],Ob.mk 3 [Fd.a 0 (D.int .i64) q1.ah],Ob.mk 3 [Fd.a 0 (D.int .i64) q1.dl]])) (by kernel_rfl)
 try simp only[sL]
 have hl:=T.len;have hp:=T.ah;have hal:=rT s.ah;have hlv:s.aj=(al s.ah:Nat):=T.aj;have bN:=hp.1;have hl:s.ah.length=s.af.length:=hl;have hpp:eS s.ah:=hp;have hll:s.ah.length<=1000000:=bN;have hm:=mr { s with dn:=0 } a b;have S:=Sd.cO true T (Sd.refl T) ha wE;have T1:=S.tab (T.ct ha wE);have hbr:Br (cO true { s with dn:=0 } a b):=Br.ay (s:={ s with dn:=0 }) hb ((tD _ _ _).trans (Sd.ay S));have:=NK (fN true s a b) (2*s.g).toNat (s.af.length+1) 0 _ T1 hbr (by rw[S.g,hm.2]) (by unfold fN;rfl) (by rw[S.af,hm.1]) (by rw[S.af,hm.1];exact Nat.lt_of_le_of_lt (ac1 a) ha);rw[Ho { s with dn:=0 } hpp (show a<s.ah.length by omega) (show b<s.ah.length by omega)] at this;exact⟨by omega,⟨by omega,by omega,by omega,hpp,by omega,by omega,ac1 _,ac1 _,by omega,by omega⟩,this⟩
def Yh:bQ:=T9 fun r a b=>(bF r/\a<r.af.length/\b<r.af.length,.aL [],fN true r a b)
theorem Yi:aM Tryz.prog 118 Yh:=abO (by kernel_rfl) fun r a b hb h=>Yg r a b hb h.1 h.2.1 h.2.2
def gSt:bW:=[(117,cColT),(118,Yh),(98,Bd)]
theorem NM:bt Tryz.prog gSt:=ar abQ (ar Yi (ar Be aG))
abbrev NN:List (List Nat×List Nat):=[([0,0,1,1],[0,1,2,6,9]),([0,0,1,1,1,1,1],[0,2,6,9,10,11])]
def Yj:bJ:=bG Tryz.prog gSt Tryz.f97 1 NN [] []
theorem Yk(s : Rn)(a : Nat)(w : List Int)(x : Rn × Nat × Nat × Bool)(T : bF s)(hbr : Br s)(hw : Wd s.g w)(f i : Nat)(hf : f < s.af.length)(hi : i < w.length) : ∀(n b j : Nat), j ≤ i + n → i ≤ j → j ≤ w.length → b < s.af.length → x = oJ true s a w f i (gL s.af w i n b j).1 (gL s.af w i n b j).2 →
 av Yj (aD (mw x) (aZ x.1)) [0,0,1,1,1,1,1] (fr [(0,pR),(2,bI w),(6,nI f),(9,nI i),(10,nI b),(11,nI ((j:Int)-1))]) (.ofList (aZ s))
 | n, b, j, hn, hij, hj, hb, hx => by
   refine aN NM (by kernel_rfl) 100 ?_;apply of_eq (q:=let q0:=IntKind.i64.wrap;let q5:=(0:Nat)+b<s.af.length;let q6:=(0:Int);let q7:=((2:Int)*s.g);let q9:=(R1.pure (Cd.t.and Cd.t) (aS 1 0 s.af.length));let bH:=s.ah.length=s.ah.length/\q7.toNat=q7.toNat/\(2:Int)*((2:Int)*s.g/2)=2*s.g;let cM:=(Rn.mk ((2:Int)*s.g/2) [] [] s.aq s.aH s.aj q6 q6 q6 q6 s.af s.ah s.dl s.dn);let dr:=(j:Int);let eD:=(i:Int);let dU:=(-1000:Int)<=w.getD i q6/\w.getD i q6<=1000;let q1:=decide (eD<=dr-1)=true;let q2:=(fN true cM f b);let q3:=(q6-w.getD (dr-1).toNat q6);let q4:=(W.row (1:Nat) ((0:Nat)+b) q7.toNat);let q8:=(q0 q3);let aX:=(R1.pure (Cd.t.and (Cd.p (q5))) (aP q4));let bL:=A.cond (q1) (V.c (W.sl 1 0 s.af.length 1))=A.cond (q1) (V.c (W.sl 1 0 s.af.length 1));let dA:=decide (q6<=(s.af.getD ((0:Nat)+b) []).getD (cr q8).toNat q6);let eO:=(-1000:Int)<=q0 q3/\q0 q3<=1000;(q1->q1)/\(q1->q1)/\(q1->q1)/\(q1->q1)/\(q1->q1)/\(q1->q6<=(b:Int)/\(b:Int)<(s.af.length:Int))/\(q1->q1)/\(q1->q5)/\(q1->q1)/\(q1->q1)/\(q1->q6<=dr-1/\dr-1<(w.length:Int))/\(q1->q1)/\(q1->(dr-1).toNat<w.length)/\(q1->q1)/\(q1->q1)/\(q1->q0 q3≠q6/\eO)/\(q1->q1)/\(q1->q1)/\(q1->q6<=cr q8/\cr q8<(↑q7.toNat:Int))/\(q1->q1)/\(q1->q5/\(cr q8).toNat<q7.toNat)/\(q1->q1)/\(q1->q1)/\(q1->q1)/\bL/\(q1->q1)/\bL/\(q1->q1)/\(q1->q5)/\A.cond (q1) (V.c q4)=A.cond (q1) (V.c q4)/\(q1->q1)/\(q1->q5)/\A.cond (q1) (V.c q4)=A.cond (q1) (V.c q4)/\((bif decide (eD<=dr-1) then dA else false)=true->(q6<=(b:Int)/\(b:Int)<(s.af.length:Int))/\q5/\(q6<=dr-1/\dr-1<(w.length:Int))/\(dr-1).toNat<w.length/\(q0 q3≠q6/\eO)/\(q6<=cr q8/\cr q8<(↑q7.toNat:Int))/\(q5/\(cr q8).toNat<q7.toNat)/\q9.v=q9.v/\q9.v=q9.v/\q5/\aX.v=aX.v/\q5/\aX.v=aX.v/\av Yj (aD (mw x) (aZ x.fst)) [0,0,1,1,1,1,1] (fr [(0,aR 0 0),(2,bI w),(6,nI (f:Int)),(9,nI eD),(10,nI ((s.af.getD ((0:Nat)+b) []).getD (cr q8).toNat q6)),(11,nI (q0 (dr-1-1)))]) (ak.ofList [eG s 1 2 3,aQ s,aB s.ah,aB s.dl]))/\((bif decide (eD<=dr-1) then dA else false)=false->(decide (dr-1<eD)=true->((s.af.length=s.af.length/\bH)/\q6<=(f:Int)/\q6<=(b:Int)/\bF cM/\f<s.af.length/\b<s.af.length)/\aE [vI (0),vI (0),vB false]=mw x/\[Ob.mk 106 [fI ((2:Int)*q2.g),fI q2.aq,fS 1 0 q2.af.length,fS 2 0 q2.ah.length,fS 3 0 q2.dn,fI q2.aj,fI q2.aH],aQ q2,aB (q2.ah),aB (q2.dl)]=aZ x.fst)/\(decide (dr-1<eD)=false->(decide (dr-1=eD)=true->(q6<=eD/\eD<(w.length:Int))/\i<w.length/\(w.getD i q6≠q6/\dU)/\((s.af.length=s.af.length/\bH)/\q6<=(f:Int)/\q6<=cr (w.getD i q6)/\q6<=(b:Int)/\f<s.af.length/\b<s.af.length/\(cr (w.getD i q6)).toNat<q7.toNat/\(2:Int)*s.g<=32)/\aE [vI (0),vI (0),vB false]=mw x/\[eG s (1:Nat) (2:Nat) (3:Nat),Ob.mk 22 [Fd.c (W.th q7.toNat (fA (fA s.af f (cr (w.getD i q6)).toNat (b:Int)) b (bZ (cr (w.getD i q6)).toNat) (f:Int)))],aB s.ah,aB s.dl]=aZ x.fst)/\(decide (dr-1=eD)=false->(q6<=eD/\eD<(w.length:Int))/\i<w.length/\(w.getD i q6≠q6/\dU)/\aE [vI (f:Int),vI (cr (w.getD i q6)),vB true]=mw x/\[Ob.mk 106 [fI q7,fI s.aq,fS 1 0 s.af.length,fS 2 0 s.ah.length,fS 3 0 s.dn,fI s.aj,fI s.aH],aQ s,aB s.ah,aB s.dl]=aZ x.fst)))) (by kernel_rfl)
   try simp only[sL]
   have kP:1<=s.g:=T.g1;have lK:s.g<=16:=T.g2;have Cz:=hw.1;simp only[un hbr];have hwj:=hw.any (by omega) (j-1);rw[show ((j:Int)-1).toNat=j-1 by omega,wrap64 (n:=0-w.getD (j-1) 0) (by omega) (by omega),wrap64 (n:=(j:Int)-1-1) (by omega) (by omega),Int.zero_sub];simp only[kW];have hc:(i:Int)<=(j:Int)-1->w.getD (j-1) 0≠0/\0<=cr (- w.getD (j-1) 0)/\cr (- w.getD (j-1) 0)<2*s.g:=fun h=>by
    have hg:=hw.get (show j-1<w.length by omega);exact⟨hg.1,iP (by omega)⟩
   have hat:(i:Int)<=(j:Int)-1->-1<=bh s.af b (cr (- w.getD (j-1) 0)).toNat/\bh s.af b (cr (- w.getD (j-1) 0)).toNat<s.af.length:=fun h=>by
    have:=hc h;exact T.at hb (by omega)
   have hci:=iP (hw.get hi);have PE:=hw.get hi;refine⟨fun h=>by omega,fun h=>by omega,fun h=>by omega,fun h=>by omega,fun h=>by have:=hc h;omega,fun h=>by have:=hc h;omega,fun h=>by have:=hc h;omega,fun h=>by omega,fun h=>by omega,fun h=>?_,fun h=>?_⟩
   . have hcc:=hc h.1;have haa:=hat h.1;refine⟨by omega,by omega,by omega,by omega,by omega,by omega,by omega,by omega,by omega,?_⟩;cases n with
     | zero=>omega
     | succ n =>
       rw[gL,if_pos ⟨by omega,h.2⟩] at hx;have:=Yk s a w x T hbr hw f i hf hi n _ (j-1) (by omega) (by omega) (by omega) (by omega) hx;rw[<-gA h.2,show ((j-1:Nat):Int)-1=(j:Int)-1-1 by omega] at this;exact this
   have hb0:gL s.af w i n b j=(b,j):=by
    cases n with
    | zero=>rfl
    | succ n =>
      rw[gL,if_neg];rintro⟨h1,h2⟩;have:=h (by omega);omega
   rw[hb0] at hx;have lM:x=oJ true s a w f i b j:=hx;clear hx;unfold oJ at lM;rw[if_neg (by omega)] at lM;refine⟨fun h1=>⟨⟨by omega,by omega,by omega,T,hf,hb⟩,?_⟩,fun h1=>⟨fun h2=>⟨by omega,by omega,by omega,by omega,?_⟩,fun h2=>⟨by omega,by omega,by omega,?_⟩⟩⟩;rw[if_pos (by omega)] at lM;subst lM;exact⟨rfl,rfl⟩;rw[if_neg (by omega),if_pos (by omega)] at lM;subst lM;simp only[aZ,eG,aQ,join,dF];exact⟨rfl,trivial⟩;rw[if_neg (by omega),if_neg (by omega)] at lM;subst lM;simp only[mw];rw[<-gA hci.1];exact⟨rfl,trivial⟩
theorem Yl(s : Rn)(w : List Int)(x : Rn × Nat × Nat × Bool)(T : bF s)(hbr : Br s)(hw : Wd s.g w)(b : Nat)(hb : b < s.af.length) : ∀(n f i : Nat), w.length ≤ i + n → i ≤ w.length → f < s.af.length → x = FT true s b w (eX s.af w n f i).1 (eX s.af w n f i).2 →
 av Yj (aD (mw x) (aZ x.1)) [0,0,1,1] (fr [(0,pR),(1,nI b),(2,bI w),(6,nI f),(9,nI i)]) (.ofList (aZ s))
 | n, f, i, hn, hi, hf, hx => by
   refine aN NM (by kernel_rfl) 100 ?_;apply of_eq (q:=let q4:=(0:Nat)+f<s.af.length;let q5:=(0:Int);let q6:=(R1.pure (Cd.t.and Cd.t) (aS 1 0 s.af.length));let q8:=((2:Int)*s.g);let aX:=(Rn.mk ((2:Int)*s.g/2) [] [] s.aq s.aH s.aj q5 q5 q5 q5 s.af s.ah s.dl s.dn);let bH:=(w.length:Int);let cM:=(w.getD i q5);let dr:=(i:Int);let dA:=(-1000:Int)<=w.getD i q5/\w.getD i q5<=1000;let q1:=decide (dr<bH)=true;let q2:=(fN true aX f b);let q3:=(W.row (1:Nat) ((0:Nat)+f) q8.toNat);let q7:=(R1.pure (Cd.t.and (Cd.p (q4))) (aP q3));let q9:=A.cond (q1) (V.c (W.sl 1 0 s.af.length 1))=A.cond (q1) (V.c (W.sl 1 0 s.af.length 1));let bL:=decide (q5<=(s.af.getD ((0:Nat)+f) []).getD (cr cM).toNat q5);(q1->q1)/\(q1->q1)/\(q1->q1)/\(q1->q1)/\(q1->q1)/\(q1->q5<=(f:Int)/\(f:Int)<(s.af.length:Int))/\(q1->q1)/\(q1->q4)/\(q1->q1)/\(q1->q1)/\(q1->q5<=dr/\dr<bH)/\(q1->q1)/\(q1->i<w.length)/\(q1->q1)/\(q1->w.getD i q5≠q5/\dA)/\(q1->q1)/\(q1->q1)/\(q1->q5<=cr cM/\cr cM<(↑q8.toNat:Int))/\(q1->q1)/\(q1->q4/\(cr cM).toNat<q8.toNat)/\(q1->q1)/\(q1->q1)/\(q1->q1)/\q9/\(q1->q1)/\q9/\(q1->q1)/\(q1->q4)/\A.cond (q1) (V.c q3)=A.cond (q1) (V.c q3)/\(q1->q1)/\(q1->q4)/\A.cond (q1) (V.c q3)=A.cond (q1) (V.c q3)/\((bif decide (dr<bH) then bL else false)=true->(q5<=(f:Int)/\(f:Int)<(s.af.length:Int))/\q4/\(q5<=dr/\dr<bH)/\i<w.length/\(w.getD i q5≠q5/\dA)/\(q5<=cr cM/\cr cM<(↑q8.toNat:Int))/\(q4/\(cr cM).toNat<q8.toNat)/\q6.v=q6.v/\q6.v=q6.v/\q4/\q7.v=q7.v/\q4/\q7.v=q7.v/\av Yj (aD (mw x) (aZ x.fst)) [0,0,1,1] (fr [(0,aR 0 0),(1,nI (b:Int)),(2,bI w),(6,nI ((s.af.getD ((0:Nat)+f) []).getD (cr cM).toNat q5)),(9,nI (IntKind.i64.wrap (dr+1)))]) (ak.ofList [eG s 1 2 3,aQ s,aB s.ah,aB s.dl]))/\((bif decide (dr<bH) then bL else false)=false->(decide (dr=bH)=true->((!decide ((f:Int)=(b:Int)))=true->((s.af.length=s.af.length/\s.ah.length=s.ah.length/\q8.toNat=q8.toNat/\(2:Int)*((2:Int)*s.g/2)=2*s.g)/\q5<=(f:Int)/\q5<=(b:Int)/\bF aX/\f<s.af.length/\b<s.af.length)/\aE [vI (0),vI (0),vB false]=mw x/\[Ob.mk 106 [fI ((2:Int)*q2.g),fI q2.aq,fS 1 0 q2.af.length,fS 2 0 q2.ah.length,fS 3 0 q2.dn,fI q2.aj,fI q2.aH],aQ q2,aB (q2.ah),aB (q2.dl)]=aZ x.fst)/\((!decide ((f:Int)=(b:Int)))=false->aE [vI (0),vI (0),vB false]=mw x/\[eG s (1:Nat) (2:Nat) (3:Nat),aQ s,aB s.ah,aB s.dl]=aZ x.fst))/\(decide (dr=bH)=false->av Yj (aD (mw x) (aZ x.fst)) [0,0,1,1,1,1,1] (fr [(0,aR 0 0),(2,bI w),(6,nI (f:Int)),(9,nI dr),(10,nI (b:Int)),(11,nI (IntKind.i64.wrap (bH-1)))]) (ak.ofList [eG s 1 2 3,Ob.mk 22 [Fd.c (W.th q8.toNat s.af)],aB s.ah,aB s.dl])))) (by kernel_rfl)
   try simp only[sL]
   have kP:1<=s.g:=T.g1;have lK:s.g<=16:=T.g2;have Cz:=hw.1;simp only[un hbr];have hwj:=hw.any (by omega) i;rw[wrap64 (n:=(i:Int)+1) (by omega) (by omega),wrap64 (n:=(w.length:Int)-1) (by omega) (by omega)];simp only[kW];have hc:(i:Int)<w.length->w.getD i 0≠0/\0<=cr (w.getD i 0)/\cr (w.getD i 0)<2*s.g:=fun h=>⟨(hw.get (by omega)).1,iP (hw.get (by omega))⟩;have hat:(i:Int)<w.length->-1<=bh s.af f (cr (w.getD i 0)).toNat/\bh s.af f (cr (w.getD i 0)).toNat<s.af.length:=fun h=>by
    have:=hc h;exact T.at hf (by omega)
   refine⟨fun h=>by omega,fun h=>by omega,fun h=>by omega,fun h=>by omega,fun h=>by have:=hc h;omega,fun h=>by have:=hc h;omega,fun h=>by have:=hc h;omega,fun h=>by omega,fun h=>by omega,fun h=>?_,fun h=>?_⟩
   . have hcc:=hc h.1;have haa:=hat h.1;refine⟨by omega,by omega,by omega,by omega,by omega,by omega,by omega,by omega,by omega,?_⟩;cases n with
     | zero=>omega
     | succ n =>
       rw[eX,if_pos ⟨by omega,h.2⟩] at hx;have:=Yl s w x T hbr hw b hb n _ (i+1) (by omega) (by omega) (by omega) hx;rw[<-gA h.2] at this;exact this
   have hb0:eX s.af w n f i=(f,i):=by
    cases n with
    | zero=>rfl
    | succ n =>
      rw[eX,if_neg];rintro⟨h1,h2⟩;have:=h (by omega);omega
   rw[hb0] at hx;refine⟨fun h1=>?_,fun h1=>Yk s b w x T hbr hw f i hf (by omega) w.length b w.length (by omega) hi (ac8 _) hb hx⟩;have lM:x=(if f=b then s else fN true s f b,0,0,false):=by
    rw[hx];unfold FT oJ;rw[if_pos (show i=w.length by omega)]
   refine⟨fun h2=>⟨⟨by omega,by omega,by omega,T,hf,hb⟩,?_⟩,fun h2=>?_⟩;rw[if_neg (by omega)] at lM;subst lM;exact⟨rfl,rfl⟩;rw[if_pos (by omega)] at lM;subst lM;exact⟨rfl,rfl⟩
theorem Ym(s:Rn)(a:Nat)(w:List Int)(T:bF s)(hbr:Br s)(hw:Wd s.g w)(ha:a<s.af.length):bq Tryz.prog 97 1 [pR,nI a,bI w] (aZ s) (mw (cB true s a w)) (aZ (cB true s a w).1):=by
 refine bR (aj:=NN) (cx:=[]) (fz:=[]) NM Tryz.func97 (by kernel_rfl) 1 (by kernel_rfl) 100 ?_;apply of_eq (q:=av (bG Tryz.prog gSt Tryz.f97 (1:Nat) NN [] []) (aD (mw (cB true s a w)) (aZ (cB true s a w).fst)) [0,0,1,1] (fr [(0,aR 0 0),(1,nI (a:Int)),(2,bI w),(6,nI (a:Int)),(9,nI (0))]) (ak.ofList [eG s 1 2 3,aQ s,aB s.ah,aB s.dl])) (by kernel_rfl)
 try simp only[sL,Int.reduceEq,Int.reduceNe,Nat.reduceAdd]
 exact Yl s w (cB true s a w) T hbr hw a ha w.length a 0 (by omega) (by omega) ha rfl
def Kr(f:Rn->Nat->List Int->Prop×A×Rn):bQ:={ cI:=[true,false,false],ay:=some 1,f:=fun args au=>match args with
 | [.p (.c (.ptr 0 0)),.p (.c (.int .i64 x)),w]=>match gq dI w,NE au with
   | some w,some (c,r)=>some (.p (c/\0<=x/\(f r x.toNat w).1),(f r x.toNat w).2.1,aZ (f r x.toNat w).2.2)
   | _,_=>none
 | _=>none }
theorem NP{P:Program}{fn:FuncId}{f:Rn->Nat->List Int->Prop×A×Rn}(he:enters P fn=true)(h:∀ r a w,Br r->(f r a w).1->bq P fn 1 [pR,nI a,bI w] (aZ r) (f r a w).2.1 (aZ (f r a w).2.2)):aM P fn (Kr f):=by
 refine⟨he,fun args au c r bg e hc=>?_⟩;simp only[Kr] at e;split at e;rename_i x w0;split at e
 . rename_i w c1 r1 hw hr;cases e;obtain⟨h1,h2,h3⟩:=hc;have:=h _ _ _ (oL hr h1).2 h3;rw[<-gA h2] at this;rw[(oL hr h1).1];intro base η Z W vs R hvs hK
   match vs,hvs with
   | [u,v,t],⟨a1,a2,a3,_⟩=>exact this base η Z W _ R ⟨a1,a2,cF hw a3,trivial⟩ hK
 cases e;cases e
def Yn:bQ:=Kr fun r a w=>(bF r/\Wd r.g w/\a<r.af.length,mw (cB true r a w),(cB true r a w).1)
theorem Yo:aM Tryz.prog 97 Yn:=NP (by kernel_rfl) fun r a w hb h=>Ym r a w h.1 hb h.2.1 h.2.2
abbrev fQ:Value:=.iface 102 (.agg #[])
theorem JI(s:Rn)(T:bF s)(hl:(s.af.length:Int)<=s.aq/\s.aq<=900000):(decide ((s.af.length:Int)=s.aq)=false->bq Tryz.prog 76 1 [pR] (aZ s) (nI s.af.length) (aZ (add s)))/\(decide ((s.af.length:Int)=s.aq)=true->yA Tryz.prog 76 [pR] (aZ s) fQ):=by
 refine qY (dies:=[]) (aj:=[]) (cx:=[]) (fz:=[]) Fk Tryz.func76 (by kernel_rfl) 1 (by kernel_rfl) 100 ?_;apply of_eq (q:=let q1:=(R1.pure (Cd.t.and Cd.t) (aS 1 0 s.af.length));let q2:=((2:Int)*s.g);let q3:=(R1.pure (Cd.t.and Cd.t) (aS 2 0 s.ah.length));let q4:=decide ((s.af.length:Int)=s.aq);let q5:=(R1.pure (Cd.t.and Cd.t) (nI q2));let q6:=(acX (1:Nat) (acY (0:Nat) [(-1:Int)]));(q4=true->q4=true/\Value.iface (102:Nat) (Value.agg #[])=fQ)/\(q4=false->(0:Nat)+1<=1/\((0:Int)<=2*s.g/\(2:Int)*s.g<=100000/\(1:Nat)<=100000/\q2.toNat*1<=1000000)/\((0:Nat)=0/\s.af.length=s.af.length/\q2.toNat=q2.toNat*1/\(pw q6 q2.toNat).length=q2.toNat*1/\(0:Nat)<q2.toNat*1/\(s.af.length+1)*24<=140737488355328)/\q1.v=q1.v/\q1.v=q1.v/\q1.v=q1.v/\q1.v=q1.v/\q5.v=q5.v/\q5.v=q5.v/\(0:Nat)+1<=1/\((0:Nat)+s.ah.length<=s.ah.length/\(s.ah.length+1)*8<=140737488355328)/\q3.v=q3.v/\q3.v=q3.v/\q4=false/\aE [vI (IntKind.i64.wrap ((↑(s.ah.length+1):Int)-1))]=nI (s.af.length:Int)/\[Ob.mk 106 [fI q2,fI s.aq,fS 1 0 (s.af.length+1),fS 2 0 (s.ah.length+1),fS 3 0 s.dn,fI (IntKind.i64.wrap (s.aj+1)),fI (max s.aH (IntKind.i64.wrap (s.aj+1)))],Ob.mk 22 [Fd.c (W.th (q2.toNat*1) (s.af++[pw q6 q2.toNat]))],aB (acX s.ah.length (acY (0:Nat) s.ah)++acX (1:Nat) (acY (0:Nat) [(s.ah.length:Int)])),aB s.dl]=aZ (add s))) (by kernel_rfl)
 try simp only[sL]
 have kP:1<=s.g:=T.g1;have lK:s.g<=16:=T.g2;have hpl:s.ah.length=s.af.length:=T.len;have hlv:s.aj=(al s.ah:Nat):=T.aj;have hal:=rT s.ah;have e1:((s.ah.length+1:Nat):Int)-1=s.af.length:=by omega
 rw[wrap64 (n:=s.aj+1) (by omega) (by omega),wrap64 (n:=((s.ah.length+1:Nat):Int)-1) (by omega) (by omega),e1,AO];refine fun h=>⟨by omega,⟨by rw[ac2],by omega,by omega⟩,by omega,h,rfl,?_⟩;simp only[aZ,eG,aQ,add,acU,acT]
def Hr(w aq:Int)(nr np k:Nat)(af:List (List Int))(ah dl:List Int)(dn:Nat)(aj aH:Int):Prop:=(nr=af.length/\np=ah.length/\k=w.toNat/\2*(w/2)=w)/\bF (nM w aq aj aH af ah dl dn)/\(af.length:Int)<=aq/\aq<=900000
def Ue : bQ := { cI := [true], ay := some 1, f := fun args au => match args, au with
 | [.p (.c (.ptr 0 0))],[⟨t,[.c (.int .i64 w),.c (.int .i64 aq),.c (.sl a 0 nr 1),.c (.sl b 0 np 1),.c (.sl c 0 dn 1),.c (.int .i64 aj),.c (.int .i64 aH)]⟩,⟨t1,[.c (.th k af)]⟩,⟨t2,[.a 0 (.int .i64) ah]⟩,⟨t3,[.a 0 (.int .i64) dl]⟩] =>
   bif acQ t 106&&(acQ t1 22&&(acQ t2 3&&(acQ t3 3&&(acQ a 1&&(acQ b 2&&acQ c 3))))) then some (.p (Hr w aq nr np k af ah dl dn aj aH/\decide ((nr:Int)=aq)=false),nI nr,
    [⟨t,[.c (.int .i64 w),.c (.int .i64 aq),.c (.sl a 0 (nr+1) 1),.c (.sl b 0 (np+1) 1),.c (.sl c 0 dn 1),.c (.int .i64 (aj+1)),.c (.int .i64 (max aH (aj+1)))]⟩,⟨t1,[.c (.th k (af++[acZ k (-1)]))]⟩,⟨t2,[.a 0 (.int .i64) (ah++[(np:Int)])]⟩,⟨t3,[.a 0 (.int .i64) dl]⟩]) else none
 | _,_=>none }
theorem abS:aM Tryz.prog 76 Ue:=by
 refine⟨by kernel_rfl,fun args au c r bg e hc=>?_⟩;simp only[Ue] at e;split at e;rename_i t w aq a nr b np c' dn aj aH t1 k af t2 ah t3 dl;obtain⟨hb,e1⟩:=aC.aK e;clear e;simp only[acW] at hb;obtain⟨h1,h2,h3,h4,h5,h6,h7⟩:=hb;cases acP h1;cases acP h2;cases acP h3;cases acP h4;cases acP h5;cases acP h6;cases acP h7;cases e1;obtain⟨⟨⟨rfl,rfl,rfl,hw⟩,hF,hl⟩,hd⟩:=hc;have:=(JI (nM w aq aj aH af ah dl dn) hF hl).1 hd;simp only[aZ,eG,aQ,add,nM,hw,acU,acT] at this;exact this;cases e
def Uf:kH:={ cI:=[true],f:=fun args au=>match args,au with
 | [.p (.c (.ptr 0 0))],[⟨t,[.c (.int .i64 w),.c (.int .i64 aq),.c (.sl a 0 nr 1),.c (.sl b 0 np 1),.c (.sl c 0 dn 1),.c (.int .i64 aj),.c (.int .i64 aH)]⟩,⟨t1,[.c (.th k af)]⟩,⟨t2,[.a 0 (.int .i64) ah]⟩,⟨t3,[.a 0 (.int .i64) dl]⟩] =>
   bif acQ t 106&&(acQ t1 22&&(acQ t2 3&&(acQ t3 3&&(acQ a 1&&(acQ b 2&&acQ c 3))))) then some (.p (Hr w aq nr np k af ah dl dn aj aH),some (decide ((nr:Int)=aq)),fQ) else none
 | _,_=>none }
theorem abT:j9 Tryz.prog 76 Uf:=by
 refine⟨by kernel_rfl,fun args au c b' u e hc hb'=>?_⟩;simp only[Uf] at e;split at e;rename_i t w aq a nr b np c' dn aj aH t1 k af t2 ah t3 dl;obtain⟨hb,e1⟩:=aC.aK e;clear e;simp only[acW] at hb;obtain⟨h1,h2,h3,h4,h5,h6,h7⟩:=hb;cases acP h1;cases acP h2;cases acP h3;cases acP h4;cases acP h5;cases acP h6;cases acP h7;cases e1;obtain⟨⟨rfl,rfl,rfl,hw⟩,hF,hl⟩:=hc;have:=(JI (nM w aq aj aH af ah dl dn) hF hl).2 (by
  cases hd:decide ((af.length:Int)=aq) with
  | true=>exact hd
  | false=>rw[hd] at hb';exact absurd rfl hb')
 simp only[aZ,eG,aQ,nM,hw] at this;exact this;cases e
def diAdd:List { x:FuncId×kH // j9 Tryz.prog x.1 x.2 }:=[⟨(76,Uf),abT⟩]
def gDf:bW:=[(76,Ue),(98,Bd)]
theorem gDf_ok:bt Tryz.prog gDf:=ar abS (ar Be aG)
theorem abU{s:Rn}(T:bF s)(hbr:Br s)(hl:(s.af.length:Int)<=s.aq/\s.aq<=900000):Hr (2*s.g) s.aq s.af.length s.ah.length (2*s.g).toNat s.af s.ah s.dl s.dn s.aj s.aH:=by
 have e:nM (2*s.g) s.aq s.aj s.aH s.af s.ah s.dl s.dn=s:=un hbr;exact⟨⟨rfl,rfl,rfl,by omega⟩,by rw[e];exact T,hl⟩
theorem JJ(s:Rn)(T:bF s)(hbr:Br s)(f c:Nat)(hl:(s.af.length:Int)<=s.aq/\s.aq<=900000)(hf:f<s.af.length)(hc:c<(2*s.g).toNat):(decide ((s.af.length:Int)=s.aq)=false->bq Tryz.prog 78 1 [pR,nI f,nI c] (aZ s) (.aL []) (aZ (grow s f c)))/\(decide ((s.af.length:Int)=s.aq)=true->yA Tryz.prog 78 [pR,nI f,nI c] (aZ s) fQ):=by
 refine qY (dies:=diAdd) (aj:=[]) (cx:=[]) (fz:=[]) gDf_ok Tryz.func78 (by kernel_rfl) 1 (by kernel_rfl) 100 ?_;apply of_eq (q:=let q2:=decide ((s.af.length:Int)=s.aq);let q3:=((2:Int)*s.g);let q1:=(s.af++[acZ q3.toNat (-1:Int)]);Hr q3 s.aq s.af.length s.ah.length q3.toNat s.af s.ah s.dl s.dn s.aj s.aH/\(q2=true->q2=true/\fQ=fQ)/\(q2=false->(Hr q3 s.aq s.af.length s.ah.length q3.toNat s.af s.ah s.dl s.dn s.aj s.aH/\q2=false)/\((s.af.length+1=q1.length/\s.ah.length+1=(s.ah++[(s.ah.length:Int)]).length/\q3.toNat=q3.toNat/\(2:Int)*((2:Int)*s.g/2)=2*s.g)/\(0:Int)<=(f:Int)/\(0:Int)<=(c:Int)/\(0:Int)<=(s.af.length:Int)/\f<q1.length/\s.af.length<q1.length/\c<q3.toNat/\(2:Int)*s.g<=32)/\q2=false/\aE []=A.aL []/\[Ob.mk 106 [fI q3,fI s.aq,fS 1 0 (s.af.length+1),fS 2 0 (s.ah.length+1),fS 3 0 s.dn,fI (s.aj+1),fI (max s.aH (s.aj+1))],Ob.mk 22 [Fd.c (W.th q3.toNat (fA (fA q1 f c (s.af.length:Int)) s.af.length (bZ c) (f:Int)))],aB (s.ah++[(s.ah.length:Int)]),aB s.dl]=aZ (grow s f c))) (by kernel_rfl)
 try simp only[sL]
 have kP:1<=s.g:=T.g1;have lK:s.g<=16:=T.g2;have hpl:s.ah.length=s.af.length:=T.len;simp only[acU,acT];refine⟨abU T hbr hl,fun h=>⟨⟨abU T hbr hl,h⟩,⟨⟨trivial,trivial,by omega⟩,by omega,by omega,by omega,by omega,by omega,hc,by omega⟩,h,rfl,?_⟩⟩;simp only[aZ,eG,aQ,grow,join,add,dF,acU,acT]
def wz(w aq:Int)(nr np k:Nat)(af:List (List Int))(ah dl:List Int)(dn:Nat)(aj aH x y:Int):Prop:=Hr w aq nr np k af ah dl dn aj aH/\0<=x/\0<=y/\x.toNat<af.length/\y.toNat<w.toNat
def Ks : bQ := { cI := [true, false, false], ay := some 1, f := fun args au => match args, au with
 | [.p (.c (.ptr 0 0)),.p (.c (.int .i64 x)),.p (.c (.int .i64 y))],[⟨t,[.c (.int .i64 w),.c (.int .i64 aq),.c (.sl a 0 nr 1),.c (.sl b 0 np 1),.c (.sl c 0 dn 1),.c (.int .i64 aj),.c (.int .i64 aH)]⟩,⟨t1,[.c (.th k af)]⟩,⟨t2,[.a 0 (.int .i64) ah]⟩,⟨t3,[.a 0 (.int .i64) dl]⟩] =>
   bif acQ t 106&&(acQ t1 22&&(acQ t2 3&&(acQ t3 3&&(acQ a 1&&(acQ b 2&&acQ c 3))))) then some (.p (wz w aq nr np k af ah dl dn aj aH x y/\decide ((nr:Int)=aq)=false),.aL [],
    [⟨t,[.c (.int .i64 w),.c (.int .i64 aq),.c (.sl a 0 (nr+1) 1),.c (.sl b 0 (np+1) 1),.c (.sl c 0 dn 1),.c (.int .i64 (aj+1)),.c (.int .i64 (max aH (aj+1)))]⟩,⟨t1,[.c (.th k (fA (fA (af++[acZ k (-1)]) x.toNat y.toNat (nr:Nat)) nr (bZ y.toNat) (x.toNat:Nat)))]⟩,⟨t2,[.a 0 (.int .i64) (ah++[(np:Int)])]⟩,⟨t3,[.a 0 (.int .i64) dl]⟩]) else none
 | _,_=>none }
theorem NQ:aM Tryz.prog 78 Ks:=by
 refine⟨by kernel_rfl,fun args au c r bg e hc=>?_⟩;simp only[Ks] at e;split at e;rename_i x y t w aq a nr b np c' dn aj aH t1 k af t2 ah t3 dl;obtain⟨hb,e1⟩:=aC.aK e;clear e;simp only[acW] at hb;obtain⟨h1,h2,h3,h4,h5,h6,h7⟩:=hb;cases acP h1;cases acP h2;cases acP h3;cases acP h4;cases acP h5;cases acP h6;cases acP h7;cases e1;obtain⟨⟨⟨⟨rfl,rfl,rfl,hw⟩,hF,hl⟩,hx,hy,q1,q2⟩,hd⟩:=hc;have:=(JJ (nM w aq aj aH af ah dl dn) hF ⟨rfl,rfl,rfl,rfl,rfl,rfl⟩ x.toNat y.toNat hl q1 (by show y.toNat<(2*(w/2)).toNat;rw[hw];exact q2)).1 hd;rw[<-gA hx,<-gA hy] at this;simp only[aZ,eG,aQ,grow,join,add,nM,hw,dF,acU,acT] at this;exact this;cases e
def Kt:kH:={ cI:=[true,false,false],f:=fun args au=>match args,au with
 | [.p (.c (.ptr 0 0)),.p (.c (.int .i64 x)),.p (.c (.int .i64 y))],[⟨t,[.c (.int .i64 w),.c (.int .i64 aq),.c (.sl a 0 nr 1),.c (.sl b 0 np 1),.c (.sl c 0 dn 1),.c (.int .i64 aj),.c (.int .i64 aH)]⟩,⟨t1,[.c (.th k af)]⟩,⟨t2,[.a 0 (.int .i64) ah]⟩,⟨t3,[.a 0 (.int .i64) dl]⟩] =>
   bif acQ t 106&&(acQ t1 22&&(acQ t2 3&&(acQ t3 3&&(acQ a 1&&(acQ b 2&&acQ c 3))))) then some (.p (wz w aq nr np k af ah dl dn aj aH x y),some (decide ((nr:Int)=aq)),fQ) else none
 | _,_=>none }
theorem NR:j9 Tryz.prog 78 Kt:=by
 refine⟨by kernel_rfl,fun args au c b' u e hc hb'=>?_⟩;simp only[Kt] at e;split at e;rename_i x y t w aq a nr b np c' dn aj aH t1 k af t2 ah t3 dl;obtain⟨hb,e1⟩:=aC.aK e;clear e;simp only[acW] at hb;obtain⟨h1,h2,h3,h4,h5,h6,h7⟩:=hb;cases acP h1;cases acP h2;cases acP h3;cases acP h4;cases acP h5;cases acP h6;cases acP h7;cases e1;obtain⟨⟨⟨rfl,rfl,rfl,hw⟩,hF,hl⟩,hx,hy,q1,q2⟩:=hc;have:=(JJ (nM w aq aj aH af ah dl dn) hF ⟨rfl,rfl,rfl,rfl,rfl,rfl⟩ x.toNat y.toNat hl q1 (by show y.toNat<(2*(w/2)).toNat;rw[hw];exact q2)).2 (by
  cases hd:decide ((af.length:Int)=aq) with
  | true=>exact hd
  | false=>rw[hd] at hb';exact absurd rfl hb')
 rw[<-gA hx,<-gA hy] at this;simp only[aZ,eG,aQ,nM,hw] at this;exact this;cases e
def Ug:List { x:FuncId×kH // j9 Tryz.prog x.1 x.2 }:=[⟨(78,Kt),NR⟩]
def gFt:bW:=[(97,Yn),(78,Ks)]
theorem Yp:bt Tryz.prog gFt:=ar Yo (ar NQ aG)
def sFt(b:Bool):bJ:=nY Tryz.prog gFt Ug Tryz.f75 1 [([0],[0,1,2])] [] [] b fQ
theorem abV{s:Rn}(T:bF s)(hbr:Br s){w:List Int}(hw:Wd s.g w){a:Nat}(ha:a<s.af.length):bF (cB true s a w).1/\Br (cB true s a w).1/\(cB true s a w).1.af.length=s.af.length/\(cB true s a w).1.aq=s.aq/\(cB true s a w).1.g=s.g/\((cB true s a w).2.2.2=true->(cB true s a w).2.1<s.af.length/\(cB true s a w).2.2.1<(2*s.g).toNat):=by
 have C:=jd T hw ha;obtain⟨S,e⟩:=(So.refl T).bC true T hw ha;refine⟨S.bw C.bw,hbr.ay (C.ay.trans (So.ay S)),by rw[S.af];exact C.len,by rw[S.aq];exact C.ay.2.2.2.1,by rw[S.g];exact C.ay.1,fun h=>?_⟩;rw[e] at h ⊢;exact⟨(C.opn h).2.1,(C.opn h).2.2⟩
theorem JK(a:Nat)(w:List Int)(x:Rn×Nat×Bool):∀(q:Nat)(s:Rn),bF s->Br s->Wd s.g w->a<s.af.length->(s.af.length:Int)<=s.aq->s.aq<=900000->s.aq<=s.af.length+q->x=cn true a w q s->
 av (sFt (!x.2.2)) (iz (!x.2.2) (.aL []) (aZ x.1)) [0] (fr [(0,pR),(1,nI a),(2,bI w)]) (.ofList (aZ s))
 | q, s, T, hbr, hw, ha, hl, hm, hq, hx => by
   refine aN Yp (by kernel_rfl) 100 ?_;apply of_eq (q:=let q3:=(Rn.mk ((2:Int)*s.g/2) [] [] s.aq s.aH s.aj (0:Int) (0:Int) (0:Int) (0:Int) s.af s.ah s.dl s.dn);let q1:=(cB true q3 a w);let q2:=((2:Int)*q1.fst.g);let q4:=decide ((↑q1.fst.af.length:Int)=q1.fst.aq);((s.af.length=s.af.length/\s.ah.length=s.ah.length/\((2:Int)*s.g).toNat=((2:Int)*s.g).toNat/\(2:Int)*((2:Int)*s.g/2)=2*s.g)/\(0:Int)<=(a:Int)/\bF q3/\Wd ((2:Int)*s.g/2) w/\a<s.af.length)/\((!q1.snd.snd.snd)=true->(!x.snd.snd)=false/\aE []=A.aL []/\[Ob.mk 106 [fI q2,fI q1.fst.aq,fS 1 0 q1.fst.af.length,fS 2 0 q1.fst.ah.length,fS 3 0 q1.fst.dn,fI q1.fst.aj,fI q1.fst.aH],aQ (q1.fst),aB (q1.fst.ah),aB (q1.fst.dl)]=aZ x.fst)/\((!q1.snd.snd.snd)=false->wz q2 q1.fst.aq q1.fst.af.length q1.fst.ah.length q2.toNat q1.fst.af q1.fst.ah q1.fst.dl q1.fst.dn q1.fst.aj q1.fst.aH (↑q1.snd.fst:Int) (↑q1.snd.snd.fst:Int)/\(q4=true->(!x.snd.snd)=true/\fQ=fQ)/\(q4=false->(wz q2 q1.fst.aq q1.fst.af.length q1.fst.ah.length q2.toNat q1.fst.af q1.fst.ah q1.fst.dl q1.fst.dn q1.fst.aj q1.fst.aH (↑q1.snd.fst:Int) (↑q1.snd.snd.fst:Int)/\q4=false)/\av (sFt !x.snd.snd) (iz (!x.snd.snd) (A.aL []) (aZ x.fst)) [0] (fr [(0,aR 0 0),(1,nI (a:Int)),(2,bI w)]) (ak.ofList [Ob.mk 106 [fI q2,fI q1.fst.aq,fS 1 0 (q1.fst.af.length+1),fS 2 0 (q1.fst.ah.length+1),fS 3 0 q1.fst.dn,fI (q1.fst.aj+1),fI (max q1.fst.aH (q1.fst.aj+1))],Ob.mk 22 [Fd.c (W.th q2.toNat (fA (fA (q1.fst.af++[acZ q2.toNat (-1:Int)]) q1.snd.fst q1.snd.snd.fst (↑q1.fst.af.length:Int)) q1.fst.af.length (bZ q1.snd.snd.fst) (↑q1.snd.fst:Int)))],aB (q1.fst.ah++[(↑q1.fst.ah.length:Int)]),aB (q1.fst.dl)])))) (by kernel_rfl)
   try simp only[sL]
   simp only[un hbr];obtain⟨F1,B1,l1,m1,g1,o1⟩:=abV T hbr hw ha;have hx':x=if(cB true s a w).2.2.2=false then((cB true s a w).1,q,true) else if s.aq<=(cB true s a w).1.af.length then({ (cB true s a w).1 with aA:=2 },q,false) else cn true a w (q-1) (grow (cB true s a w).1 (cB true s a w).2.1 (cB true s a w).2.2.1):=by
    rw[hx];cases q with
    | zero =>
      rw[cn];split;rfl;rw[if_pos (by omega),if_pos (by omega)]
    | succ q=>rw[cn];rfl
   generalize cB true s a w=y at *;refine⟨⟨by omega,by omega,T,by rw[show 2*s.g/2=s.g by omega];exact hw,ha⟩,fun h=>?_,fun h=>?_⟩;rw[if_pos h] at hx';subst hx';exact⟨rfl,rfl,rfl⟩;obtain⟨o2,o3⟩:=o1 h;rw[if_neg (by rw[h];simp)] at hx';have hD:wz (2*y.1.g) y.1.aq y.1.af.length y.1.ah.length (2*y.1.g).toNat y.1.af y.1.ah y.1.dl y.1.dn y.1.aj y.1.aH y.2.1 y.2.2.1:=⟨abU F1 B1 ⟨by omega,by omega⟩,by omega,by omega,by omega,by rw[g1];simpa using o3⟩;refine⟨hD,fun h2=>?_,fun h2=>⟨⟨hD,h2⟩,?_⟩⟩;rw[if_pos (by omega)] at hx';subst hx';rfl;rw[if_neg (by omega)] at hx';obtain⟨G1,G2,G3⟩:=hO F1 y.2.2.1 (show y.2.1<y.1.af.length by omega) (by omega);cases q with
   | zero=>omega
   | succ q =>
     have:=JK a w x q (grow y.1 y.2.1 y.2.2.1) G1 (B1.ay G3) (by rw[G3.1,g1];exact hw) (by omega) (by rw[G3.2.2.2.1];omega) (by rw[G3.2.2.2.1,m1];exact hm) (by rw[G3.2.2.2.1];omega) hx';simp only[aZ,eG,aQ,grow,join,add,dF,acU,acT] at this;exact this
theorem JL(s:Rn)(a q:Nat)(w:List Int)(T:bF s)(hbr:Br s)(hw:Wd s.g w)(h:a<s.af.length/\(s.af.length:Int)<=s.aq/\s.aq<=900000/\s.aq<=s.af.length+q):((!(cn true a w q s).2.2)=false->bq Tryz.prog 75 1 [pR,nI a,bI w] (aZ s) (.aL []) (aZ (cn true a w q s).1))/\((!(cn true a w q s).2.2)=true->yA Tryz.prog 75 [pR,nI a,bI w] (aZ s) fQ):=by
 refine qY (dies:=Ug) (aj:=[([0],[0,1,2])]) (cx:=[]) (fz:=[]) Yp Tryz.func75 (by kernel_rfl) 1 (by kernel_rfl) 100 ?_;apply of_eq (q:=av (nY Tryz.prog gFt Ug Tryz.f75 (1:Nat) [([0],[0,1,2])] [] [] (!(cn true a w q s).snd.snd) fQ) (iz (!(cn true a w q s).snd.snd) (A.aL []) (aZ (cn true a w q s).fst)) [0] (fr [(0,aR 0 0),(1,nI (a:Int)),(2,bI w)]) (ak.ofList [eG s 1 2 3,aQ s,aB s.ah,aB s.dl])) (by kernel_rfl)
 try simp only[sL,Int.reduceEq,Int.reduceNe,Nat.reduceAdd]
 exact JK a w _ q s T hbr hw h.1 h.2.1 h.2.2.1 h.2.2.2 rfl
abbrev Bf(s:Rn):List Ob:=[⟨106,[.c (.int .i64 (2*s.g)),.c (.int .i64 s.aq),.c (.sl 1 0 s.af.length 1),.c (.sl 2 0 s.ah.length 1),.c .nil,.c (.int .i64 s.aj),.c (.int .i64 s.aH)]⟩,aQ s,aB s.ah]
abbrev Ku(g aq:Int):Ob:=⟨106,[.c (.int .i64 (2*g)),.c (.int .i64 aq),.c .nil,.c .nil,.c .nil,.c (.int .i64 0),.c (.int .i64 0)]⟩
theorem Uh{base:Nat}{η:Eta}{Z:aF}{r:Rn}{w:World}(h0:r.dn=0)(h1:r.dl=[])(R:St base η Z (.ofList (Bf r)) w):St base η Z (.ofList (aZ r)) w:=by
 have hf:∀ n,3<=n->η n=none:=R.fresh;have h3:η 3=none:=hf 3 (ac8 _);have eF:∀ n o p,(ak.ofList (aZ r)).get n=some o->η n=some p->n<3/\∃ o1,(ak.ofList (Bf r)).get n=some o1:=by
  intro n o p h hp;have hn:n<3:=by
   rcases ada n 3 with h|h;exact h;rw[hf n h] at hp;cases hp
  refine⟨hn,?_⟩
  match n,hn with
  | 0,_=>exact⟨_,by rw[ak.aT];rfl⟩
  | 1,_=>exact⟨_,by rw[ak.aT];rfl⟩
  | 2,_=>exact⟨_,by rw[ak.aT];rfl⟩
 refine⟨fun n o p h hp=>?_,fun n o h hp=>?_,fun n o h=>?_,fun n n' o o' p p' b h h' hne hp hp'=>?_,R.zs,fun n hn=>hf n (by have:(ak.ofList (aZ r)).next=4:=rfl;omega),R.gO,fun n o p h hp=>?_⟩
 . obtain⟨hn,o1,kr⟩:=eF n o p h hp;rw[ak.aT] at h
   match n,hn with
   | 0,_ =>
     cases h;obtain⟨a,b,L⟩:=R.au 0 _ p (by rw[ak.aT];rfl) hp;refine⟨a,b,?_⟩;obtain⟨c,fz,l1,l2,l3,l4⟩:=L.there (by simp[Ob.fG,Ob.isMap,Ob.iV,Ob.cells,Fd.cells]);refine eM.plain (by simp[Ob.fG,Ob.isMap,Ob.iV,Ob.cells,Fd.cells]) ⟨c,fz,l1,l2,fun i x hx=>?_,l4.plain fun hB=>by obtain⟨q,e⟩:=hB (.int .i64 (2*r.g)) (by simp[Ob.cells,Fd.cells]);cases e⟩ (L.size (by simp[Ob.fG,Ob.isMap,Ob.iV,Ob.cells,Fd.cells]));by_cases hi:i=4;subst hi;have hx:some (W.sl 3 0 r.dn 1)=some x:=hx;cases hx;obtain⟨v,v1,v2,v3⟩:=l3 4 .nil rfl;exact⟨v,v1,.inl ⟨h0,v2⟩,v3⟩;refine l3 i x ?_;rw[<-hx];have h7:i<7:=(List.getElem?_eq_some_iff.1 hx).1
     match i,h7 with
     | 0,_|1,_|2,_|3,_|5,_|6,_=>rfl
     | 4,_=>exact absurd rfl hi
   | 1,_=>exact R.au 1 o p (by rw[ak.aT];exact h) hp
   | 2,_=>exact R.au 2 o p (by rw[ak.aT];exact h) hp
 . rw[ak.aT] at h
   match n,h with
   | 0,_=>exact absurd (R.cJ 0 _ (by rw[ak.aT];rfl) hp) (by simp[Ob.cells,Fd.cells])
   | 1,h=>exact R.cJ 1 o (by rw[ak.aT];exact h) hp
   | 2,h=>exact R.cJ 2 o (by rw[ak.aT];exact h) hp
   | 3,h =>
     have h:some (aB r.dl)=some o:=h;cases h;simp[Ob.cells,Fd.cells,h1]
 rw[ak.aT] at h;exact(List.getElem?_eq_some_iff.1 h).1;obtain⟨_,o1,g1⟩:=eF n o p h hp;obtain⟨_,o2,g2⟩:=eF n' o' p' h' hp';exact R.jB n n' o1 o2 p p' b g1 g2 hne hp hp';obtain⟨_,o1,g1⟩:=eF n o p h hp;exact R.sat n o1 p g1 hp
theorem bq.ghostT{P:Program}{f:FuncId}{ay:Nat}{args:List A}{au:List Ob}{x:A}{r:Rn}(h0:r.dn=0)(h1:r.dl=[])(h:bq P f ay args au x (Bf r)):bq P f ay args au x (aZ r):=by
 intro base η Z w vs R hvs hK;refine(h base η Z w vs R hvs hK).mono ?_;rintro e w' ⟨u,aI,Z',rfl,mv,hx⟩;refine⟨u,aI,Z',rfl,⟨mv.le,Uh h0 h1 mv.st,⟨mv.step.os,mv.step.tape,mv.step.output,mv.step.size,mv.step.block,fun b ⟨n,o,p,hn,hp,hb⟩=>mv.step.own b ?_,mv.step.cZ,mv.step.gT,rfl⟩⟩,hx⟩;have hn3:n<3:=by
  rcases ada n 3 with h|h;exact h;have:aI n=none:=mv.st.fresh n h;rw[this] at hp;cases hp
 match n,hn3 with
 | 0,_=>exact⟨0,_,p,by rw[ak.aT];rfl,hp,hb⟩
 | 1,_=>exact⟨1,_,p,by rw[ak.aT];rfl,hp,hb⟩
 | 2,_=>exact⟨2,_,p,by rw[ak.aT];rfl,hp,hb⟩
theorem Yq(g aq:Int)(ax sub:List (List Int))(hg:1<=g/\g<=16)(hl:1<=aq):bq Tryz.prog 76 1 [pR] [Ku g aq] (nI 0) (Bf (cT g aq ax sub)):=by
 refine(qY (dies:=[]) (aj:=[]) (cx:=[]) (fz:=[]) Fk Tryz.func76 (by kernel_rfl) 1 (by kernel_rfl) (b:=false) (v:=fQ) 100 ?_).1 rfl;apply of_eq (q:=let q1:=(R1.pure (Cd.t.and Cd.t) (aP W.nil)).v=(R1.pure (Cd.t.and Cd.t) (aP W.nil)).v;let q3:=((2:Int)*g);let q4:=(acX (1:Nat) (acY (0:Nat) [(-1:Int)]));let q2:=(R1.pure (Cd.t.and Cd.t) (nI q3));(decide ((0:Int)=aq)=true->false=true/\Value.iface (102:Nat) (Value.agg #[])=fQ)/\(decide ((0:Int)=aq)=false->(0:Nat)+1<=1/\((0:Int)<=2*g/\(2:Int)*g<=100000/\(1:Nat)<=100000/\q3.toNat*1<=1000000)/\((pw q4 q3.toNat).length=q3.toNat*1/\(0:Nat)<q3.toNat*1/\(24:Nat)<=140737488355328)/\q1/\q1/\q1/\q1/\q2.v=q2.v/\q2.v=q2.v/\(0:Nat)+1<=1/\(1:Nat)*8<=140737488355328/\q1/\q1/\false=false/\aE [vI (IntKind.i64.wrap ((↑(1:Nat):Int)-1))]=nI (0:Int)/\[Ob.mk 106 [fI q3,fI aq,fS 1 0 1,fS 2 0 1,Fd.c W.nil,fI (IntKind.i64.wrap ((0:Int)+1)),fI (max (0:Int) (IntKind.i64.wrap ((0:Int)+1)))],Ob.mk 22 [Fd.c (W.th (q3.toNat*1) [pw q4 q3.toNat])],aB (acX (1:Nat) (acY (0:Nat) [(0:Int)]))]=Bf (cT g aq ax sub))) (by kernel_rfl)
 try simp only[sL]
 rw[wrap64 (n:=0+1) (by omega) (by omega),wrap64 (n:=((1:Nat):Int)-1) (by omega) (by omega),AO];refine⟨fun h=>by omega,fun _=>⟨by omega,⟨by rw[ac2],by omega,by omega⟩,by omega,rfl,rfl⟩⟩
theorem Ui(g aq:Int)(ax sub:List (List Int))(hg:1<=g/\g<=16)(hl:1<=aq):bq Tryz.prog 76 1 [pR] [Ku g aq] (nI 0) (aZ (cT g aq ax sub)) :=
 bq.ghostT rfl rfl (Yq g aq ax sub hg hl)
def NS(g:Int):bQ:={ cI:=[true],ay:=some 1,f:=fun args au=>match args,au with
 | [.p (.c (.ptr 0 0))],[⟨t,[.c (.int .i64 w),.c (.int .i64 aq),.c .nil,.c .nil,.c .nil,.c (.int .i64 0),.c (.int .i64 0)]⟩] =>
   bif acQ t 106 then some (.p (w=2*g/\(1<=g/\g<=16)/\1<=aq),nI 0,aZ (cT g aq [] [])) else none
 | _,_=>none }
theorem Yr(g:Int):aM Tryz.prog 76 (NS g):=by
 refine⟨by kernel_rfl,fun args au c r bg e hc=>?_⟩;simp only[NS] at e;split at e;obtain⟨hb,e1⟩:=aC.aK e;clear e;cases acP hb;cases e1;obtain⟨rfl,h1,h2⟩:=hc;exact Ui g _ [] [] h1 h2;cases e
def Ee(r:Rn)(a:Nat)(w:List Int):Prop:=bF r/\Wd r.g w/\a<r.af.length/\(r.af.length:Int)<=r.aq/\r.aq<=900000
def cFilT:bQ:=Kr fun r a w=>(Ee r a w/\(!(cn true a w r.aq.toNat r).2.2)=false,.aL [],(cn true a w r.aq.toNat r).1)
theorem abW:aM Tryz.prog 75 cFilT:=NP (by kernel_rfl) fun r a w hb h=>(JL r a r.aq.toNat w h.1.1 hb h.1.2.1 ⟨h.1.2.2.1,h.1.2.2.2.1,h.1.2.2.2.2,by have:=h.1.2.2.2.1;omega⟩).1 h.2
def Uj:kH:={ cI:=[true,false,false],f:=fun args au=>match args with
 | [.p (.c (.ptr 0 0)),.p (.c (.int .i64 x)),w]=>match gq dI w,NE au with
   | some w,some (c,r)=>some (.p (c/\0<=x/\Ee r x.toNat w),some (!(cn true x.toNat w r.aq.toNat r).2.2),fQ)
   | _,_=>none
 | _=>none }
theorem abX:j9 Tryz.prog 75 Uj:=by
 refine⟨by kernel_rfl,fun args au c b u e hc hb'=>?_⟩;simp only[Uj] at e;split at e;rename_i x w0;split at e
 . rename_i w c1 r1 hw hr;cases e;obtain⟨h1,h2,h3⟩:=hc;have:=(JL r1 x.toNat r1.aq.toNat w h3.1 (oL hr h1).2 h3.2.1 ⟨h3.2.2.1,h3.2.2.2.1,h3.2.2.2.2,by have:=h3.2.2.2.1;omega⟩).2 (by
    cases hd:(!(cn true x.toNat w r1.aq.toNat r1).2.2) with
    | true=>rfl
    | false=>rw[hd] at hb';exact absurd rfl hb')
   rw[<-gA h2] at this;rw[(oL hr h1).1];intro base η Z W vs R hvs hK
   match vs,hvs with
   | [u,v,t],⟨a1,a2,a3,_⟩=>exact this base η Z W _ R ⟨a1,a2,cF hw a3,trivial⟩ hK
 cases e;cases e
def Uk:List { x:FuncId×kH // j9 Tryz.prog x.1 x.2 }:=[⟨(78,Kt),NR⟩,⟨(75,Uj),abX⟩]
def gRt(gg:Int):bW:=[(76,NS gg),(75,cFilT),(78,Ks),(77,QW)]
theorem xJ(gg:Int):bt Tryz.prog (gRt gg):=ar (Yr gg) (ar abW (ar NQ (ar Ub aG)))
abbrev pRta:List Nat:=[0,1,0,1,1]
abbrev Ul:List Nat:=[0,1,1,1,1]
abbrev abY:List Nat:=[0,1,0,0,0,1,0,0,1,1,1,1]
abbrev NT:List Nat:=[0,1,1,0,0,1,0,0,1,1,1,1]
abbrev NU:List (List Nat×List Nat):=[(pRta,[0,1,6,17,18,19]),(Ul,[0,1,6,9]),(abY,[0,1,6,9,36,37,38]),(NT,[0,1,6,9,12])]
def nu(gg:Int)(b:Bool):bJ:=nY Tryz.prog (gRt gg) Uk Tryz.f47 1 NU [] [] b fQ
abbrev wA:A:=.p (.c (.fj 75 0 0))
theorem QZ(s:Rn):Rn.mk s.g [] [] s.aq s.aH s.aj 0 0 0 0 s.af s.ah s.dl s.dn=dQ s:=rfl
theorem Bg{s:Rn}(T:bF s):bF (dQ s):=⟨T.g1,T.g2,T.len,T.ah,T.row,T.dy,T.dx,T.aj,T.sum⟩
theorem half(g:Int):2*g/2=g:=by omega
theorem Ys{s:Rn}(T:bF s){r:Nat}(hr:r<s.af.length)(c:Nat):(grow s r c).ah.getD r 0=s.ah.getD r 0:=by
 have:=gV T;show (s.ah++[(s.ah.length:Int)]).getD r 0=_;exact GU (by omega)
theorem abZ{gg:Int}(b:Bool)(y:Rn)(R:List (List Int))(r:Nat)(x:Rn×Nat×Bool)(hb:x.2.2=false->b=true)(hN:x.2.2=true->av (nu gg b) (iz b (.aL []) (aZ y)) Ul (fr [(0,pR),(1,bK R),(6,wA),(9,nI (r+1:Nat))]) (.ofList (aZ x.1))):∀(f c q:Nat)(s:Rn),x=bP r f c s q->bF s->c+f=(2*s.g).toNat->r<s.af.length->s.ah.getD r 0=(r:Int)->(s.af.length:Int)<=s.aq->s.aq<=900000->s.aq<=s.af.length+q->
 av (nu gg b) (iz b (.aL []) (aZ y)) NT (fr [(0,pR),(1,bK R),(6,wA),(9,nI r),(12,nI c)]) (.ofList (aZ s))
 | f, c, q, s, hx, T, hc, hr, hal, hl, hm, hq => by
   refine aN (xJ gg) (by kernel_rfl) 100 ?_;apply of_eq (q:=let q1:=((2:Int)*((2:Int)*s.g/2));let q2:=(ak.ofList [Ob.mk 106 [fI q1,fI s.aq,fS 1 0 s.af.length,fS 2 0 s.ah.length,fS 3 0 s.dn,fI s.aj,fI s.aH],Ob.mk 22 [Fd.c (W.th q1.toNat s.af)],aB s.ah,aB s.dl]);let q3:=(fr [(0,aR 0 0),(1,bK R),(6,aP (W.fj (75:Nat) (0:Nat) (0:Nat))),(9,nI (r:Int)),(12,nI (IntKind.i64.wrap ((c:Int)+1)))]);let q4:=(fr [(0,aR 0 0),(1,bK R),(6,aP (W.fj (75:Nat) (0:Nat) (0:Nat))),(9,nI (IntKind.i64.wrap ((r:Int)+1)))]);let q5:=(iz b (A.aL []) (aZ y));let q6:=decide ((c:Int)<2*s.g);let q7:=(s.af.length:Int);let q8:=decide ((s.af.getD ((0:Nat)+r) []).getD c (0:Int)<0);(q6=true->q6=true/\q6=true/\((s.af.length=s.af.length/\s.ah.length=s.ah.length/\((2:Int)*s.g).toNat=((2:Int)*s.g).toNat/\(2:Int)*((2:Int)*s.g/2)=2*s.g)/\(0:Int)<=(r:Int)/\r<s.ah.length)/\(decide (s.ah.getD r (0:Int)=(r:Int))=true->((0:Int)<=(r:Int)/\(r:Int)<q7)/\(0:Nat)+r<s.af.length/\((0:Int)<=(c:Int)/\(c:Int)<(↑q1.toNat:Int))/\((0:Nat)+r<s.af.length/\c<q1.toNat)/\(q8=true->wz q1 s.aq s.af.length s.ah.length q1.toNat s.af s.ah s.dl s.dn s.aj s.aH (r:Int) (c:Int)/\(decide (q7=s.aq)=true->b=true/\fQ=fQ)/\(decide (q7=s.aq)=false->(wz q1 s.aq s.af.length s.ah.length q1.toNat s.af s.ah s.dl s.dn s.aj s.aH (r:Int) (c:Int)/\decide (q7=s.aq)=false)/\av (nu gg b) q5 [0,1,1,0,0,1,0,0,1,1,1,1] q3 (ak.ofList [Ob.mk 106 [fI q1,fI s.aq,fS 1 0 (s.af.length+1),fS 2 0 (s.ah.length+1),fS 3 0 s.dn,fI (s.aj+1),fI (max s.aH (s.aj+1))],Ob.mk 22 [Fd.c (W.th q1.toNat (fA (fA (s.af++[acZ q1.toNat (-1:Int)]) r c q7) s.af.length (bZ c) (r:Int)))],aB (s.ah++[(s.ah.length:Int)]),aB s.dl])))/\(q8=false->av (nu gg b) q5 [0,1,1,0,0,1,0,0,1,1,1,1] q3 q2))/\(decide (s.ah.getD r (0:Int)=(r:Int))=false->av (nu gg b) q5 [0,1,1,1,1] q4 q2))/\(q6=!true->av (nu gg b) q5 [0,1,1,1,1] q4 (ak.ofList [eG s 1 2 3,aQ s,aB s.ah,aB s.dl]))) (by kernel_rfl)
   try simp only[sL]
   have kP:1<=s.g:=T.g1;have lK:s.g<=16:=T.g2;have hpl:=gV T;simp only[half];rw[wrap64 (n:=(c:Int)+1) (by omega) (by omega),wrap64 (n:=(r:Int)+1) (by omega) (by omega)];refine⟨fun h=>⟨by omega,by omega,⟨trivial,by omega,by omega⟩,fun _=>⟨by omega,by omega,by omega,by omega,fun h1=>?_,fun h1=>?_⟩,fun h1=>absurd hal h1⟩,fun h=>?_⟩
   . cases f with
     | zero=>omega
     | succ f =>
     have h1':¬0<=bh s.af r c:=by have:bh s.af r c<0:=h1;omega
     rw[bP,if_neg h1'] at hx;have hD:wz (2*s.g) s.aq s.af.length s.ah.length (2*s.g).toNat s.af s.ah s.dl s.dn s.aj s.aH r c:=by
      have e:nM (2*s.g) s.aq s.aj s.aH s.af s.ah s.dl s.dn=dQ s:=by unfold nM;rw[half];rfl
      refine⟨⟨⟨rfl,rfl,rfl,by omega⟩,?_,by omega,hm⟩,by omega,by omega,by omega,by omega⟩;rw[e];exact Bg T
     refine⟨hD,fun h2=>?_,fun h2=>⟨⟨hD,h2⟩,?_⟩⟩;rw[if_pos (by omega)] at hx;exact hb (by rw[hx]);rw[if_neg (by omega),if_neg (by omega)] at hx;obtain⟨G1,G2,G3⟩:=hO T c hr (by omega);have:=abZ (gg:=gg) b y R r x hb hN f (c+1) (q-1) (grow s r c) hx G1 (by rw[G3.1];omega) (by omega) (by rw[Ys T hr];exact hal) (by rw[G3.2.2.2.1];omega) (by rw[G3.2.2.2.1];exact hm) (by rw[G3.2.2.2.1];omega);simp only[aZ,eG,aQ,grow,join,add,dF,acU,acT] at this;exact this
   . cases f with
     | zero=>omega
     | succ f =>
     rw[bP,if_pos (show 0<=bh s.af r c from h1)] at hx;exact abZ b y R r x hb hN f (c+1) q s hx T (by omega) hr hal hl hm hq
   have h:¬(c:Int)<2*s.g:=by simpa using h
   have:f=0:=by omega
   subst this;have hx:x=(s,q,true):=hx;subst hx;exact hN rfl
theorem Yt{s:Rn}{q a:Nat}{w:List Int}(T:bF s)(hw:Wd s.g w)(ha:a<s.af.length)(hl:(s.af.length:Int)<=s.aq)(hm:s.aq<=900000)(hq:s.aq<=s.af.length+q) :
 Ee (dQ s) a w/\(cn true a w s.aq.toNat (dQ s)).2.2=(cn true a w q s).2.2/\((cn true a w q s).2.2=true->aZ (cn true a w s.aq.toNat (dQ s)).1=aZ (cn true a w q s).1):=by
 obtain⟨e1,e2⟩:=QV true q s.aq.toNat T hw ha hl hm hq (by omega);obtain⟨e3,e4⟩:=FX true a w s.aq.toNat s;refine⟨⟨Bg T,hw,ha,hl,hm⟩,by rw[e3,e2],fun h=>?_⟩;rw[e4 (by rw[<-e2];exact h),e1];rfl
theorem actG_ok{s:Rn}(G:cX s)(q:Nat):(jg (cn true) s q).2=(act s q).2/\So (act s q).1 (jg (cn true) s q).1:=by
 obtain⟨a,b⟩:=(So.refl G.bw).act (flC true) G q;exact⟨b,a⟩
structure ni(s:Rn)(q:Nat):Prop where
 good:cX s
 q:s.aq<=s.af.length+q
theorem ni.next{s:Rn}{q:Nat}(H:ni s q)(h:(jg (cn true) s q).2.2=false):ni (jg (cn true) s q).1 (jg (cn true) s q).2.1:=by
 obtain⟨e,S⟩:=actG_ok H.good q;have A:=qB H.good q;rw[e] at h;obtain⟨g1,_,_⟩:=A.go h;have l1:=A.len;have l2:=A.same.2.2.2;have:=H.q;exact⟨S.good g1,by rw[S.aq,S.af,e,l2];omega⟩
theorem NV{s:Rn}{q a:Nat}{w:List Int}(T:bF s)(hw:Wd s.g w)(ha:a<s.af.length)(hl:(s.af.length:Int)<=s.aq)(hm:s.aq<=900000)(hq:s.aq<=s.af.length+q)(h:(cn true a w q s).2.2=false):(cn true a w q s).1.aA=2:=by
 have F:=kX (a:=a) (w:=w) q T hw ha hl hm;obtain⟨S,e⟩:=So.fill true (a:=a) (w:=w) q T (So.refl T) hw ha hl hm;rw[e] at h;rw[S.p9.1];have h1:=F.len;rcases F.no h with ⟨h2,_⟩|⟨_,h2,h3⟩;exact h2;omega
theorem ab0{s:Rn}{q a:Nat}(T:bF s)(ha:a<s.af.length)(hl:(s.af.length:Int)<=s.aq)(hm:s.aq<=900000)(hq:s.aq<=s.af.length+q)(h:(bP a (2*s.g).toNat 0 s q).2.2=false):(bP a (2*s.g).toNat 0 s q).1.aA=2:=by
 have F:=p7 (a:=a) (2*s.g).toNat 0 q T (by omega) ha hl hm;have h1:=F.len;rcases F.no h with ⟨h2,_⟩|⟨_,h2,h3⟩;exact h2;omega
theorem ru_dead{gg:Int}(b:Bool)(y:Rn)(R:List (List Int))(r:Nat)(s:Rn)(T:bF s)(hr:r<s.af.length)(hd:¬s.ah.getD r 0=(r:Int))(hN:av (nu gg b) (iz b (.aL []) (aZ y)) Ul (fr [(0,pR),(1,bK R),(6,wA),(9,nI (r+1:Nat))]) (.ofList (aZ s))) :
 av (nu gg b) (iz b (.aL []) (aZ y)) NT (fr [(0,pR),(1,bK R),(6,wA),(9,nI r),(12,nI (0:Nat))]) (.ofList (aZ s)):=by
 refine aN (xJ gg) (by kernel_rfl) 100 ?_;apply of_eq (q:=let q1:=((2:Int)*((2:Int)*s.g/2));let q2:=(ak.ofList [Ob.mk 106 [fI q1,fI s.aq,fS 1 0 s.af.length,fS 2 0 s.ah.length,fS 3 0 s.dn,fI s.aj,fI s.aH],Ob.mk 22 [Fd.c (W.th q1.toNat s.af)],aB s.ah,aB s.dl]);let q6:=(iz b (A.aL []) (aZ y));let q7:=(s.af.length:Int);let aX:=(0:Nat);let q4:=(↑aX:Int);let q5:=(fr [(0,aR 0 0),(1,bK R),(6,aP (W.fj (75:Nat) aX aX)),(9,nI (IntKind.i64.wrap ((r:Int)+1)))]);let q8:=decide ((s.af.getD (aX+r) []).getD aX (0:Int)<0);let q9:=decide (q4<2*s.g);let q3:=(fr [(0,aR 0 0),(1,bK R),(6,aP (W.fj (75:Nat) aX aX)),(9,nI (r:Int)),(12,nI (IntKind.i64.wrap (q4+1)))]);(q9=true->q9=true/\q9=true/\((s.af.length=s.af.length/\s.ah.length=s.ah.length/\((2:Int)*s.g).toNat=((2:Int)*s.g).toNat/\(2:Int)*((2:Int)*s.g/2)=2*s.g)/\(0:Int)<=(r:Int)/\r<s.ah.length)/\(decide (s.ah.getD r (0:Int)=(r:Int))=true->((0:Int)<=(r:Int)/\(r:Int)<q7)/\aX+r<s.af.length/\((0:Int)<=q4/\q4<(↑q1.toNat:Int))/\(aX+r<s.af.length/\aX<q1.toNat)/\(q8=true->wz q1 s.aq s.af.length s.ah.length q1.toNat s.af s.ah s.dl s.dn s.aj s.aH (r:Int) q4/\(decide (q7=s.aq)=true->b=true/\fQ=fQ)/\(decide (q7=s.aq)=false->(wz q1 s.aq s.af.length s.ah.length q1.toNat s.af s.ah s.dl s.dn s.aj s.aH (r:Int) q4/\decide (q7=s.aq)=false)/\av (nu gg b) q6 [0,1,1,0,0,1,0,0,1,1,1,1] q3 (ak.ofList [Ob.mk 106 [fI q1,fI s.aq,fS 1 0 (s.af.length+1),fS 2 0 (s.ah.length+1),fS 3 0 s.dn,fI (s.aj+1),fI (max s.aH (s.aj+1))],Ob.mk 22 [Fd.c (W.th q1.toNat (fA (fA (s.af++[acZ q1.toNat (-1:Int)]) r aX q7) s.af.length (1:Nat) (r:Int)))],aB (s.ah++[(s.ah.length:Int)]),aB s.dl])))/\(q8=false->av (nu gg b) q6 [0,1,1,0,0,1,0,0,1,1,1,1] q3 q2))/\(decide (s.ah.getD r (0:Int)=(r:Int))=false->av (nu gg b) q6 [0,1,1,1,1] q5 q2))/\(q9=!true->av (nu gg b) q6 [0,1,1,1,1] q5 (ak.ofList [eG s 1 2 3,aQ s,aB s.ah,aB s.dl]))) (by kernel_rfl)
 try simp only[sL]
 have kP:1<=s.g:=T.g1;have lK:s.g<=16:=T.g2;have hpl:=gV T;have hp:=T.ah.1;have hp:s.ah.length<=1000000:=hp;simp only[half];rw[wrap64 (n:=(r:Int)+1) (by omega) (by omega)];refine⟨fun h=>⟨by omega,by omega,⟨trivial,by omega,by omega⟩,fun h=>absurd h hd,fun _=>hN⟩,fun _=>hN⟩
theorem uH{gg:Int}(b:Bool)(y:Rn)(R U:List (List Int))(q':Nat)(hb:b=decide (y.aA=2)):∀(F:Nat)(s:Rn)(q:Nat),ni s q->s.ax=R->s.sub=U->wq (cn true) F s q=some (y,q')->
 (s.ph=0->av (nu gg b) (iz b (.aL []) (aZ y)) pRta (fr [(0,pR),(1,bK R),(6,wA),(17,bK U),(18,nI U.length),(19,nI s.ix)]) (.ofList (aZ s)))/\
 (s.ph=1->s.ix=0->av (nu gg b) (iz b (.aL []) (aZ y)) Ul (fr [(0,pR),(1,bK R),(6,wA),(9,nI s.co)]) (.ofList (aZ s)))/\
 (s.ph=1->s.co<s.af.length->av (nu gg b) (iz b (.aL []) (aZ y)) abY (fr [(0,pR),(1,bK R),(6,wA),(9,nI s.co),(36,bK R),(37,nI R.length),(38,nI s.ix)]) (.ofList (aZ s)))/\
 (s.ph=2->s.ah.getD s.co.toNat 0=s.co->av (nu gg b) (iz b (.aL []) (aZ y)) NT (fr [(0,pR),(1,bK R),(6,wA),(9,nI s.co),(12,nI (0:Nat))]) (.ofList (aZ s)))
 | 0,_,_,_,_,_,h=>by cases h
 | F + 1, s, q, H, hR, hU, h => by
   have G:=H.good;have hq:=H.q;have hg:=G.ix;have hc:=G.co;have hl:=G.aq;have hl2:=G.yO;have C3:=G.ph;have hn1:=G.n1;have kP:1<=s.g:=G.bw.g1;have lK:s.g<=16:=G.bw.g2;have hpl:=gV G.bw;rw[wq] at h;have hC : s.ph = 1 → s.co < s.af.length → av (nu gg b) (iz b (.aL []) (aZ y)) abY (fr [(0, pR), (1, bK R), (6, wA), (9, nI s.co), (36, bK R), (37, nI R.length), (38, nI s.ix)]) (.ofList (aZ s)) := by
    intro h1 hco;obtain⟨i,hi⟩:∃ i:Nat,s.ix=i:=⟨s.ix.toNat,by omega⟩;obtain⟨r,hr⟩:∃ r:Nat,s.co=r:=⟨s.co.toNat,by omega⟩;have hrl:r<s.af.length:=by omega
    have JM:s.co.toNat=r:=by omega
    have FP:¬s.ah.getD r 0=(r:Int)->av (nu gg b) (iz b (.aL []) (aZ y)) NT (fr [(0,pR),(1,bK R),(6,wA),(9,nI r),(12,nI (0:Nat))]) (.ofList (aZ s)):=fun hd=>by
     have ha:jg (cn true) s q=({ s with ph:=1,co:=s.co+1,ix:=0 },q,false):=by
      unfold jg;rw[if_neg (by omega),if_neg (by omega),if_neg (by omega),if_neg (by omega),if_pos (by rw[JM,hr];exact hd)]
     have Hn:=H.next (by rw[ha])
     rw[ha,if_neg (by simp)] at h;rw[ha] at Hn;have:=(uH (gg:=gg) b y R U q' hb F _ _ Hn hR hU h).2.1 rfl rfl;simp only at this;rw[hr] at this;exact ru_dead (gg:=gg) b y R r s G.bw hrl hd this
    rw[hi,hr];refine aN (xJ gg) (by kernel_rfl) 100 ?_;apply of_eq (q:=let q5:=(fr [(0,aR 0 0),(1,bK R),(6,aP (W.fj (75:Nat) (0:Nat) (0:Nat))),(9,nI (r:Int)),(12,nI (0))]);let q6:=(2:Int);let q7:=(iz b (A.aL []) (aZ y));let q8:=s.af.length=s.af.length;let q4:=(q6*s.g/2);let q2:=(Rn.mk (q6*q4/2) [] [] s.aq s.aH s.aj (0:Int) (0:Int) (0:Int) (0:Int) s.af s.ah s.dl s.dn);let q3:=s.ah.length=s.ah.length/\(q6*q4).toNat=(q6*q4).toNat/\q6*(q6*q4/2)=2*q4;let q1:=(cn true r (R.getD i []) s.aq.toNat q2);(decide ((i:Int)<(R.length:Int))=true->((0:Int)<=(i:Int)/\(i:Int)<(R.length:Int))/\i<R.length/\((q8/\s.ah.length=s.ah.length/\(q6*s.g).toNat=(q6*s.g).toNat/\q6*q4=2*s.g)/\(0:Int)<=(r:Int)/\r<s.ah.length)/\((!decide (s.ah.getD r (0:Int)=(r:Int)))=true->av (nu gg b) q7 [0,1,1,0,0,1,0,0,1,1,1,1] q5 (ak.ofList [Ob.mk 106 [fI (q6*q4),fI s.aq,fS 1 0 s.af.length,fS 2 0 s.ah.length,fS 3 0 s.dn,fI s.aj,fI s.aH],Ob.mk 22 [Fd.c (W.th (q6*q4).toNat s.af)],aB s.ah,aB s.dl]))/\((!decide (s.ah.getD r (0:Int)=(r:Int)))=false->((q8/\q3)/\(0:Int)<=(r:Int)/\Ee q2 r (R.getD i []))/\((!q1.snd.snd)=true->b=true/\fQ=fQ)/\((!q1.snd.snd)=false->((q8/\q3)/\(0:Int)<=(r:Int)/\Ee q2 r (R.getD i [])/\(!q1.snd.snd)=false)/\av (nu gg b) q7 [0,1,0,0,0,1,0,0,1,1,1,1] (fr [(0,aR 0 0),(1,bK R),(6,aP (W.fj (75:Nat) (0:Nat) (0:Nat))),(9,nI (r:Int)),(36,bK R),(37,nI (R.length:Int)),(38,nI (IntKind.i64.wrap ((i:Int)+1)))]) (ak.ofList [Ob.mk 106 [fI (q6*q1.fst.g),fI q1.fst.aq,fS 1 0 q1.fst.af.length,fS 2 0 q1.fst.ah.length,fS 3 0 q1.fst.dn,fI q1.fst.aj,fI q1.fst.aH],aQ (q1.fst),aB (q1.fst.ah),aB (q1.fst.dl)]))))/\(decide ((i:Int)<(R.length:Int))=false->av (nu gg b) q7 [0,1,1,0,0,1,0,0,1,1,1,1] q5 (ak.ofList [Ob.mk 106 [fI (q6*s.g),fI s.aq,fS 1 0 s.af.length,fS 2 0 s.ah.length,fS 3 0 s.dn,fI s.aj,fI s.aH],aQ s,aB s.ah,aB s.dl]))) (by kernel_rfl)
    try simp only[sL]
    simp only[half,QZ];rw[wrap64 (n:=(i:Int)+1) (by omega) (by omega)];refine⟨fun g1=>⟨by omega,by omega,⟨trivial,by omega,by omega⟩,FP,fun hal=>?_⟩,fun g1=>?_⟩;have hsi:s.ix<s.ax.length:=by rw[hR];omega
    have hw:=G.ax _ (gJ hg.1 hsi);have ew:s.ax.getD s.ix.toNat []=R.getD i []:=by rw[hR,hi,acS]
    rw[ew] at hw;obtain⟨c1,c2,c3⟩:=Yt (q:=q) (a:=r) (w:=R.getD i []) G.bw hw hrl hl hl2 hq;have ha:jg (cn true) s q=if(cn true r (R.getD i []) q s).2.2=false then((cn true r (R.getD i []) q s).1,(cn true r (R.getD i []) q s).2.1,true) else({ (cn true r (R.getD i []) q s).1 with ix:=s.ix+1 },(cn true r (R.getD i []) q s).2.1,false):=by
     unfold jg;rw[if_neg (by omega),if_neg (by omega),if_neg (by omega),if_neg (by omega),if_neg (by rw[JM,hr];exact not_not_intro hal),if_neg (by rw[hR];omega),JM,ew]
    refine⟨⟨trivial,by omega,c1⟩,fun hf=>?_,fun ht=>⟨⟨trivial,by omega,c1,ht⟩,?_⟩⟩;rw[c2] at hf;rw[if_pos hf] at ha;rw[ha,if_pos rfl] at h;cases h;rw[hb,NV G.bw hw hrl hl hl2 hq hf];rfl
    . rw[c2] at ht;rw[if_neg (by rw[ht];simp)] at ha;have Hn:=H.next (by rw[ha])
      rw[ha,if_neg (by simp)] at h;rw[ha] at Hn;obtain⟨S,_⟩:=So.fill true (a:=r) (w:=R.getD i []) q G.bw (So.refl G.bw) hw hrl hl hl2;have FF:=kX (a:=r) (w:=R.getD i []) q G.bw hw hrl hl hl2;have K:=FF.ay;have FG:=FF.grown;obtain⟨s1,s2,s3,s4,s5,s6,s7,s8⟩:=S.p9;have eco:(cn true r (R.getD i []) q s).1.co=s.co:=s3.trans K.2.2.2.2.2.1;have:=(uH (gg:=gg) b y R U q' hb F _ _ Hn (s5.trans (K.2.1.trans hR)) (s6.trans (K.2.2.1.trans hU)) h).2.2.1 (s2.trans (K.2.2.2.2.1.trans h1)) (by simp only;rw[eco,S.af];omega);simp only at this;rw[eco,hi,hr] at this;have e3:=c3 ht;simp only[aZ] at e3;rw[e3];exact this
    by_cases hal:s.ah.getD r 0=(r:Int)
    . have ha:jg (cn true) s q=({ s with ph:=2,co:=s.co,ix:=0 },q,false):=by
       unfold jg;rw[if_neg (by omega),if_neg (by omega),if_neg (by omega),if_neg (by omega),if_neg (by rw[JM,hr];exact not_not_intro hal),if_pos (by rw[hR];omega)]
      have Hn:=H.next (by rw[ha])
      rw[ha,if_neg (by simp)] at h;rw[ha] at Hn;have:=(uH (gg:=gg) b y R U q' hb F _ _ Hn hR hU h).2.2.2 rfl (by simp only;rw[JM,hr];exact hal);simp only at this;rw[hr] at this;exact this
    exact FP hal
   refine⟨fun h0=>?_,fun h1 hi=>?_,hC,fun h2 hal=>?_⟩;obtain⟨i,hi⟩:∃ i:Nat,s.ix=i:=⟨s.ix.toNat,by omega⟩;rw[hi];refine aN (xJ gg) (by kernel_rfl) 100 ?_;apply of_eq (q:=let q2:=(Rn.mk ((2:Int)*s.g/2) [] [] s.aq s.aH s.aj (0:Int) (0:Int) (0:Int) (0:Int) s.af s.ah s.dl s.dn);let q3:=s.ah.length=s.ah.length/\((2:Int)*s.g).toNat=((2:Int)*s.g).toNat/\(2:Int)*((2:Int)*s.g/2)=2*s.g;let q1:=(cn true (0:Nat) (U.getD i []) s.aq.toNat q2);(decide ((i:Int)<(U.length:Int))=true->((0:Int)<=(i:Int)/\(i:Int)<(U.length:Int))/\i<U.length/\((s.af.length=s.af.length/\q3)/\(0:Int)<=0/\Ee q2 (0:Nat) (U.getD i []))/\((!q1.snd.snd)=true->b=true/\fQ=fQ)/\((!q1.snd.snd)=false->((s.af.length=s.af.length/\q3)/\(0:Int)<=0/\Ee q2 (0:Nat) (U.getD i [])/\(!q1.snd.snd)=false)/\av (nu gg b) (iz b (A.aL []) (aZ y)) [0,1,0,1,1] (fr [(0,aR 0 0),(1,bK R),(6,aP (W.fj (75:Nat) (0:Nat) (0:Nat))),(17,bK U),(18,nI (U.length:Int)),(19,nI (IntKind.i64.wrap ((i:Int)+1)))]) (ak.ofList [Ob.mk 106 [fI ((2:Int)*q1.fst.g),fI q1.fst.aq,fS 1 0 q1.fst.af.length,fS 2 0 q1.fst.ah.length,fS 3 0 q1.fst.dn,fI q1.fst.aj,fI q1.fst.aH],aQ (q1.fst),aB (q1.fst.ah),aB (q1.fst.dl)])))/\(decide ((i:Int)<(U.length:Int))=false->av (nu gg b) (iz b (A.aL []) (aZ y)) [0,1,1,1,1] (fr [(0,aR 0 0),(1,bK R),(6,aP (W.fj (75:Nat) (0:Nat) (0:Nat))),(9,nI (0))]) (ak.ofList [eG s 1 2 3,aQ s,aB s.ah,aB s.dl]))) (by kernel_rfl)
   try simp only[sL]
   simp only[half,QZ];rw[wrap64 (n:=(i:Int)+1) (by omega) (by omega)];refine⟨fun h1=>?_,fun h1=>?_⟩;have hsi:s.ix<s.sub.length:=by rw[hU];omega
   have hw:=G.sub _ (gJ hg.1 hsi);have ew:s.sub.getD s.ix.toNat []=U.getD i []:=by rw[hU,hi,acS]
   rw[ew] at hw;obtain⟨c1,c2,c3⟩:=Yt (q:=q) (a:=0) (w:=U.getD i []) G.bw hw hn1 hl hl2 hq;have ha:jg (cn true) s q=if(cn true 0 (U.getD i []) q s).2.2=false then((cn true 0 (U.getD i []) q s).1,(cn true 0 (U.getD i []) q s).2.1,true) else({ (cn true 0 (U.getD i []) q s).1 with ix:=s.ix+1 },(cn true 0 (U.getD i []) q s).2.1,false):=by
    unfold jg;rw[if_neg (by omega),if_pos h0,ew]
   refine⟨by omega,by omega,⟨trivial,c1⟩,fun hf=>?_,fun ht=>⟨⟨trivial,c1,ht⟩,?_⟩⟩;rw[c2] at hf;rw[if_pos hf] at ha;rw[ha,if_pos rfl] at h;cases h;rw[hb,NV G.bw hw hn1 hl hl2 hq hf];rfl
   . rw[c2] at ht;rw[if_neg (by rw[ht];simp)] at ha;have Hn:=H.next (by rw[ha])
     rw[ha,if_neg (by simp)] at h;rw[ha] at Hn;obtain⟨S,_⟩:=So.fill true (a:=0) (w:=U.getD i []) q G.bw (So.refl G.bw) hw hn1 hl hl2;have K:=(kX (a:=0) (w:=U.getD i []) q G.bw hw hn1 hl hl2).ay;obtain⟨s1,s2,s3,s4,s5,s6,s7,s8⟩:=S.p9;have:=(uH (gg:=gg) b y R U q' hb F _ _ Hn (s5.trans (K.2.1.trans hR)) (s6.trans (K.2.2.1.trans hU)) h).1 (s2.trans (K.2.2.2.2.1.trans h0));rw[hi] at this;have e3:=c3 ht;simp only[aZ] at e3;rw[e3];exact this
   . have ha:jg (cn true) s q=({ s with ph:=1,co:=0,ix:=0 },q,false):=by
      unfold jg;rw[if_pos ⟨h0,by rw[hU];omega⟩]
     have Hn:=H.next (by rw[ha])
     rw[ha,if_neg (by simp)] at h;rw[ha] at Hn;exact(uH (gg:=gg) b y R U q' hb F _ _ Hn hR hU h).2.1 rfl rfl
   obtain⟨r,hr⟩:∃ r:Nat,s.co=r:=⟨s.co.toNat,by omega⟩;rw[hr];refine aN (xJ gg) (by kernel_rfl) 100 ?_;apply of_eq (q:=(decide ((r:Int)<(s.af.length:Int))=true->av (nu gg b) (iz b (A.aL []) (aZ y)) [0,1,0,0,0,1,0,0,1,1,1,1] (fr [(0,aR 0 0),(1,bK R),(6,aP (W.fj (75:Nat) (0:Nat) (0:Nat))),(9,nI (r:Int)),(36,bK R),(37,nI (R.length:Int)),(38,nI (0))]) (ak.ofList [eG s 1 2 3,aQ s,aB s.ah,aB s.dl]))/\(decide ((r:Int)<(s.af.length:Int))=false->b=false/\aE []=A.aL []/\[eG s (1:Nat) (2:Nat) (3:Nat),aQ s,aB s.ah,aB s.dl]=aZ y)) (by kernel_rfl)
   try simp only[sL]
   refine⟨fun g1=>?_,fun g1=>?_⟩;have:=hC h1 (by omega);rw[hr,hi] at this;exact this;have ha:jg (cn true) s q=({ s with ph:=3,co:=0,ix:=0,aA:=1 },q,true):=by
    unfold jg;rw[if_neg (by omega),if_neg (by omega),if_neg (by omega),if_pos (by omega)]
   rw[ha,if_pos rfl] at h;cases h;exact⟨hb,rfl,rfl⟩;obtain⟨r,hr⟩:∃ r:Nat,s.co=r:=⟨s.co.toNat,by omega⟩;have JM:s.co.toNat=r:=by omega
   have hrl:r<s.af.length:=by have:=G.Fm h2;omega
   have ha:jg (cn true) s q=if(bP r (2*s.g).toNat 0 s q).2.2=false then((bP r (2*s.g).toNat 0 s q).1,(bP r (2*s.g).toNat 0 s q).2.1,true) else({ (bP r (2*s.g).toNat 0 s q).1 with ph:=1,co:=s.co+1,ix:=0 },(bP r (2*s.g).toNat 0 s q).2.1,false):=by
    unfold jg;rw[if_neg (by omega),if_neg (by omega),if_pos h2,JM]
   rw[hr];have K:=(p7 (a:=r) (2*s.g).toNat 0 q G.bw (by omega) hrl hl hl2).ay;refine abZ b y R r (bP r (2*s.g).toNat 0 s q) (fun hf=>?_) (fun ht=>?_) (2*s.g).toNat 0 q s rfl G.bw (by omega) hrl (by rw[JM,hr] at hal;exact hal) hl hl2 hq;rw[if_pos hf] at ha;rw[ha,if_pos rfl] at h;cases h;rw[hb,ab0 G.bw hrl hl hl2 hq hf];rfl
   . rw[if_neg (by rw[ht];simp)] at ha;have Hn:=H.next (by rw[ha])
     rw[ha,if_neg (by simp)] at h;rw[ha] at Hn;have:=(uH (gg:=gg) b y R U q' hb F _ _ Hn (K.2.1.trans hR) (K.2.2.1.trans hU) h).2.1 rfl rfl;simp only at this;rw[hr] at this;exact this
theorem NW(g aq:Int)(ax sub:List (List Int))(G:cX (cT g aq ax sub))(hl:aq<=1000){F q':Nat}{y:Rn}(h:wq (cn true) F (cT g aq ax sub) 2000=some (y,q')):(decide (y.aA=2)=false->bq Tryz.prog 47 1 [pR,bK ax,bK sub] [Ku g aq] (.aL []) (aZ y))/\(decide (y.aA=2)=true->yA Tryz.prog 47 [pR,bK ax,bK sub] [Ku g aq] fQ):=by
 refine qY (dies:=Uk) (aj:=NU) (cx:=[]) (fz:=[]) (xJ g) Tryz.func47 (by kernel_rfl) 1 (by kernel_rfl) 100 ?_;apply of_eq (q:=let q1:=(cT g aq [] []);((2:Int)*g=2*g/\((1:Int)<=g/\g<=16)/\(1:Int)<=aq)/\av (nY Tryz.prog (gRt g) Uk Tryz.f47 (1:Nat) NU [] [] (decide (y.aA=2)) fQ) (iz (decide (y.aA=2)) (A.aL []) (aZ y)) [0,1,0,1,1] (fr [(0,aR 0 0),(1,bK ax),(6,aP (W.fj (75:Nat) (0:Nat) (0:Nat))),(17,bK sub),(18,nI (sub.length:Int)),(19,nI (0))]) (ak.ofList [Ob.mk 106 [fI ((2:Int)*q1.g),fI q1.aq,fS 1 0 1,fS 2 0 1,fS 3 0 0,fI q1.aj,fI q1.aH],Ob.mk 22 [Fd.c (W.th ((2:Int)*q1.g).toNat [acZ ((2:Int)*g).toNat (-1:Int)])],aB (q1.ah),aB (q1.dl)])) (by kernel_rfl)
 try simp only[sL]
 have H:ni (cT g aq ax sub) 2000:=⟨G,by have:(cT g aq ax sub).aq=aq:=rfl;have:(cT g aq ax sub).af.length=1:=rfl;omega⟩;have kP:1<=g:=G.bw.g1;have lK:g<=16:=G.bw.g2;have h1:((1:Nat):Int)<=aq:=G.aq;exact⟨⟨⟨kP,lK⟩,by omega⟩,(uH (gg:=g) (decide (y.aA=2)) y ax sub q' rfl F _ _ H rfl rfl h).1 rfl⟩
theorem Um(w:List Int)(h:0<w.length/\w.length<=1000000):bA Tryz.prog 79 [bI w] [] (fK 0 w.length) [aB w]:=by
 refine dJ (aj:=[]) (cx:=[]) (fz:=[]) aG Tryz.func79 (by kernel_rfl) (ay:=0) rfl (by kernel_rfl) 100 ?_;apply of_eq (q:=∀(b:Bool),(b=!false->w=[])->(b=true->aE [V.c (W.sl 0 0 0 1)]=fK (0:Nat) w.length/\[aB ([])]=[aB w])/\(b=false->((0:Nat)+0<=0/\((0:Nat)+w.length)*8<=140737488355328)/\aE [V.c (W.sl 0 0 ((0:Nat)+w.length) 1)]=fK (0:Nat) w.length/\[aB (acX (0:Nat) (acY (0:Nat) [])++w)]=[aB w])) (by kernel_rfl)
 try simp only[sL]
 intro b hb;refine⟨fun g=>?_,fun g=>?_⟩;have:=hb g;rw[this] at h;exact absurd h.1 (by simp);exact⟨by omega,rfl,by rw[List.nil_append]⟩
def Q0:bQ:=kI dI fun w=>(.p (0<adb (α:=Int) w/\adb (α:=Int) w<=1000000),fK 0 (adb (α:=Int) w),[aB w])
theorem Un:aM Tryz.prog 79 Q0:=gE (by kernel_rfl) fun w h=>Um w h
theorem Pa(r:Rn)(a:Nat)(h:a<r.ah.length):bq Tryz.prog 77 4 [pR,nI a] (aZ r) (bB (decide (r.ah.getD a 0=a))) (aZ r):=by
 refine bR (aj:=[]) (cx:=[]) (fz:=[]) aG Tryz.func77 (by kernel_rfl) 4 (by kernel_rfl) 100 ?_;apply of_eq (q:=((0:Int)<=(a:Int)/\(a:Int)<(r.ah.length:Int))/\(0:Nat)+a<r.ah.length/\aE [vB (decide (r.ah.getD ((0:Nat)+a) (0:Int)=(a:Int)))]=bB (decide (r.ah.getD a (0:Int)=(a:Int)))/\[eG r (1:Nat) (2:Nat) (3:Nat),aQ r,aB r.ah,aB r.dl]=aZ r) (by kernel_rfl)
 try simp only[sL]
 exact⟨by omega,h,rfl⟩
def Ef : bQ := { cI := [true, false], f := fun args au => match args, au with
 | [.p (.c (.ptr 0 0)),.p (.c (.int .i64 x))],[⟨t,[.c (.int .i64 w),.c (.int .i64 aq),.c (.sl a 0 nr 1),.c (.sl b 0 np 1),.c (.sl c 0 dn 1),.c (.int .i64 aj),.c (.int .i64 aH)]⟩,⟨t1,[.c (.th k af)]⟩,⟨t2,[.a 0 (.int .i64) ah]⟩,⟨t3,[.a 0 (.int .i64) dl]⟩] =>
   bif acQ t 106&&(acQ t1 22&&(acQ t2 3&&(acQ t3 3&&(acQ a 1&&(acQ b 2&&acQ c 3))))) then some (.p ((nr=af.length/\np=ah.length/\k=w.toNat/\2*(w/2)=w)/\0<=x/\x.toNat<ah.length),bB (decide (ah.getD x.toNat 0=x.toNat)),
    [⟨t,[.c (.int .i64 w),.c (.int .i64 aq),.c (.sl a 0 nr 1),.c (.sl b 0 np 1),.c (.sl c 0 dn 1),.c (.int .i64 aj),.c (.int .i64 aH)]⟩,⟨t1,[.c (.th k af)]⟩,⟨t2,[.a 0 (.int .i64) ah]⟩,⟨t3,[.a 0 (.int .i64) dl]⟩]) else none
 | _,_=>none }
theorem Pb:aM Tryz.prog 77 Ef:=by
 refine⟨by kernel_rfl,fun args au c r bg e hc=>?_⟩;simp only[Ef] at e;split at e;rename_i x t w aq a nr b np c' dn aj aH t1 k af t2 ah t3 dl;obtain⟨hb,e1⟩:=aC.aK e;clear e;simp only[acW] at hb;obtain⟨h1,h2,h3,h4,h5,h6,h7⟩:=hb;cases acP h1;cases acP h2;cases acP h3;cases acP h4;cases acP h5;cases acP h6;cases acP h7;cases e1;obtain⟨⟨rfl,rfl,rfl,hw⟩,hx,hl⟩:=hc;have:=Pa (nM w aq aj aH af ah dl dn) x.toNat hl;rw[<-gA hx] at this;simp only[aZ,eG,aQ,nM,hw] at this;rw[show ((x.toNat:Nat):Int)=x by omega];exact this;cases e
def gTt:bW:=[(77,Ef),(79,Q0)]
theorem FZ:bt Tryz.prog gTt:=ar Pb (ar Un aG)
abbrev pTta:List Nat:=[0,1,0,1,1,1]
abbrev ab1:List Nat:=[0,1,0,1,1,1,1,1]
abbrev pTtc:List Nat:=[0,1,0,1,1,1,0,0,1,1,0,0,1,0,1,1,1,1,1]
abbrev NX:List (List Nat×List Nat):=[(pTta,[0,3,4,21,22]),(ab1,[0,3,6,38,39,40]),(pTtc,[0,3,6,9,38,39,40,52,53])]
def Bh:bJ:=bG Tryz.prog gTt Tryz.f48 1 NX [] [some dL]
abbrev obTn(s:Rn)(l:List Int):List Ob:=[eG s 2 3 4,aB l,aQ s,aB s.ah,aB s.dl]
def Uo(f:Rn->Prop×A×Rn):bQ:={ cI:=[true],ay:=some 1,f:=fun args au=>match args with
 | [.p (.c (.ptr 0 0))]=>match NE au with
   | some (c,r)=>some (.p (c/\(f r).1),(f r).2.1,aZ (f r).2.2)
   | none=>none
 | _=>none }
theorem ab2{P:Program}{fn:FuncId}{f:Rn->Prop×A×Rn}(he:enters P fn=true)(h:∀ r,Br r->(f r).1->bq P fn 1 [pR] (aZ r) (f r).2.1 (aZ (f r).2.2)):aM P fn (Uo f):=by
 refine⟨he,fun args au c r bg e hc=>?_⟩;simp only[Uo] at e;split at e;split at e;rename_i c1 r1 hr;cases e;obtain⟨h1,h2⟩:=hc;rw[(oL hr h1).1];exact h _ (oL hr h1).2 h2;cases e;cases e
def y6(s:Rn):Prop:=∀ a,a<s.af.length->s.ah.getD a 0=(a:Int)->∀ x∈s.af.getD a [],0<=x/\x.toNat<s.af.length
abbrev obTt2(s:Rn)(t:List (List Int)):List Ob:=[eG s 3 4 5,aB (mJ s),kL t,aQ s,aB s.ah,aB s.dl]
abbrev fT(s:Rn)(x:Int):Int:=(mJ s).getD x.toNat 0
theorem Yu{L:List Int}{f:Int->Int}{c:Nat}(h:c<L.length):((L.take c).map f++L.drop c).getD c 0=L.getD c 0/\((L.take c).map f++L.drop c).set c (f (L.getD c 0))=(L.take (c+1)).map f++L.drop (c+1):=by
 have hl:((L.take c).map f).length=c:=by rw[ac4,List.length_take];omega
 have hd:L.drop c=L.getD c 0::L.drop (c+1):=by
  rw[ac6 h,acR,acV h];rfl
 have ht:L.take (c+1)=L.take c++[L.getD c 0]:=by
  rw[List.take_succ_eq_append_getElem h,acR,acV h];rfl
 refine⟨?_,?_⟩;rw[hd,acR,List.getElem?_append_right (by omega),hl,adg];rfl;rw[hd,List.set_append_right _ _ (by omega),hl,adg,List.set_cons_zero,ht,List.map_append,ac5];rfl
theorem tt_c(s:Rn)(T:bF s)(i:Nat)(hi:i<s.af.length)(L:List Int)(hLx:∀ x∈L,0<=x/\x.toNat<s.af.length)(hLl:L.length<=100)(t:List (List Int))(ht:t.length<=i)
 (hN:av Bh (aD (bK (jX s)) (aZ s)) ab1 (fr [(0,pR),(3,fK 1 s.af.length),(6,fK 2 (t.length+1)),(38,fK 3 s.af.length),(39,nI s.af.length),(40,nI (i+1:Nat))]) (.ofList (obTt2 s (t++[L.map (fT s)])))):∀(n c:Nat),n=L.length-c->c<=L.length->
 av Bh (aD (bK (jX s)) (aZ s)) pTtc (fr [(0,pR),(3,fK 1 s.af.length),(6,fK 2 t.length),(9,fK 3 L.length),(38,fK 4 s.af.length),(39,nI s.af.length),(40,nI i),(52,nI L.length),(53,nI c)]) (.ofList [eG s 4 5 6,aB (mJ s),kL t,aB ((L.take c).map (fT s)++L.drop c),aQ s,aB s.ah,aB s.dl])
 | n,c,hn,hc=>by
   refine aN FZ (by kernel_rfl) 100 ?_;apply of_eq (q:=let q1:=(List.map (fT s) (acX c L)++acY c L);let q2:=(0:Nat);(decide ((c:Int)<(L.length:Int))=true->((0:Int)<=(c:Int)/\(c:Int)<(L.length:Int))/\q2+c<q1.length/\((0:Int)<=q1.getD (q2+c) (0:Int)/\q1.getD (q2+c) (0:Int)<(s.af.length:Int))/\q2+(q1.getD (q2+c) (0:Int)).toNat<(mJ s).length/\((0:Int)<=(c:Int)/\(c:Int)<(L.length:Int))/\q2+c<q1.length/\av Bh (aD (bK (jX s)) (aZ s)) [0,1,0,1,1,1,0,0,1,1,0,0,1,0,1,1,1,1,1] (fr [(0,aR 0 0),(3,aS 1 0 s.af.length),(6,aS 2 0 t.length),(9,aS 3 0 L.length),(38,aS 4 0 s.af.length),(39,nI (s.af.length:Int)),(40,nI (i:Int)),(52,nI (L.length:Int)),(53,nI (IntKind.i64.wrap ((c:Int)+1)))]) (ak.ofList [eG s 4 5 6,aB (mJ s),kL t,aB (q1.set (q2+c) ((mJ s).getD (q2+(q1.getD (q2+c) (0:Int)).toNat) (0:Int))),aQ s,aB s.ah,aB s.dl]))/\(decide ((c:Int)<(L.length:Int))=false->q2+L.length<=q1.length/\q2+1<=1/\(q2+t.length<=t.length/\(t.length+1)*24<=140737488355328)/\av Bh (aD (bK (jX s)) (aZ s)) [0,1,0,1,1,1,1,1] (fr [(0,aR 0 0),(3,aS 1 0 s.af.length),(6,aS 2 0 (t.length+1)),(38,aS 3 0 s.af.length),(39,nI (s.af.length:Int)),(40,nI (IntKind.i64.wrap ((i:Int)+1)))]) (ak.ofList [eG s 3 4 5,aB (mJ s),kL (acX t.length (acY q2 t)++acX (1:Nat) (acY q2 ([]++[acX L.length (acY q2 q1)]))),aQ s,aB s.ah,aB s.dl]))) (by kernel_rfl)
   try simp only[sL]
   have kP:1<=s.g:=T.g1;have lK:s.g<=16:=T.g2;have hnl:=(QU s).1;have hpl:=gV T;have hp:s.ah.length<=1000000:=T.ah.1;have hll:((L.take c).map (fT s)++L.drop c).length=L.length:=by simp;omega
   rw[wrap64 (n:=(c:Int)+1) (by omega) (by omega),wrap64 (n:=(i:Int)+1) (by omega) (by omega)];refine⟨fun h=>?_,fun h=>?_⟩
   . obtain⟨a1,a2⟩:=Yu (f:=fT s) (show c<L.length by omega);have hx:=hLx _ (fW (l:=L) (a:=c) (by omega));cases n with
     | zero=>omega
     | succ n =>
       have:=tt_c s T i hi L hLx hLl t ht hN n (c+1) (by omega) (by omega);rw[<-a2] at this;rw[a1];exact⟨by omega,by omega,by omega,by omega,by omega,by omega,this⟩
   have cK:c=L.length:=by omega
   subst cK;rw[List.take_length,List.drop_length,ac7] at *;have e1:acX L.length (L.map (fT s))=L.map (fT s):=List.take_of_length_le (by rw[ac4];exact ac8 _);rw[e1];exact⟨by rw[ac4];exact ac8 _,by omega,hN⟩
theorem ab3(s:Rn)(T:bF s)(hfull:y6 s):∀(n i:Nat)(t:List (List Int)),n=s.af.length-i->i<=s.af.length->t.length<=i->t++iT s.ah (fun x=>(mJ s).getD x.toNat 0) i (s.af.drop i)=jX s->
 av Bh (aD (bK (jX s)) (aZ s)) ab1 (fr [(0,pR),(3,fK 1 s.af.length),(6,fK 2 t.length),(38,fK 3 s.af.length),(39,nI s.af.length),(40,nI i)]) (.ofList (obTt2 s t))
 | n, i, t, hn, hi, ht, e => by
   refine aN FZ (by kernel_rfl) 100 ?_;apply of_eq (q:=let q1:=(s.af.getD ((0:Nat)+i) []);let q2:=(s.af.length:Int);let q3:=((2:Int)*s.g);(decide ((i:Int)<q2)=true->((0:Int)<=(i:Int)/\(i:Int)<q2)/\(0:Nat)+i<s.af.length/\((s.af.length=s.af.length/\s.ah.length=s.ah.length/\q3.toNat=q3.toNat/\(2:Int)*((2:Int)*s.g/2)=2*s.g)/\(0:Int)<=(i:Int)/\i<s.ah.length)/\((!decide (s.ah.getD i (0:Int)=(i:Int)))=true->av Bh (aD (bK (jX s)) (aZ s)) [0,1,0,1,1,1,1,1] (fr [(0,aR 0 0),(3,aS 1 0 s.af.length),(6,aS 2 0 t.length),(38,aS 3 0 s.af.length),(39,nI q2),(40,nI (IntKind.i64.wrap ((i:Int)+1)))]) (ak.ofList [eG s 3 4 5,aB (mJ s),kL t,aQ s,aB s.ah,aB s.dl]))/\((!decide (s.ah.getD i (0:Int)=(i:Int)))=false->((0:Nat)+i<s.af.length/\q3.toNat=q3.toNat)/\((0:Nat)<q1.length/\q1.length<=1000000)/\av Bh (aD (bK (jX s)) (aZ s)) [0,1,0,1,1,1,0,0,1,1,0,0,1,0,1,1,1,1,1] (fr [(0,aR 0 0),(3,aS 1 0 s.af.length),(6,aS 2 0 t.length),(9,aS 3 0 q1.length),(38,aS 4 0 s.af.length),(39,nI q2),(40,nI (i:Int)),(52,nI (↑q1.length:Int)),(53,nI (0))]) (ak.ofList [Ob.mk 106 [fI q3,fI s.aq,fS 4 0 s.af.length,fS 5 0 s.ah.length,fS 6 0 s.dn,fI s.aj,fI s.aH],aB (mJ s),kL t,aB q1,aQ s,aB s.ah,aB s.dl])))/\(decide ((i:Int)<q2)=false->(0:Nat)+t.length<=t.length/\aE [V.c (wL (acX t.length (acY (0:Nat) t)))]=bK (jX s)/\[eG s (1:Nat) (2:Nat) (3:Nat),aQ s,aB s.ah,aB s.dl]=aZ s)) (by kernel_rfl)
   try simp only[sL]
   simp only[half];have hpl:=gV T;have hp:s.ah.length<=1000000:=T.ah.1;have kP:1<=s.g:=T.g1;have lK:s.g<=16:=T.g2;rw[wrap64 (n:=(i:Int)+1) (by omega) (by omega)];refine⟨fun h=>?_,fun h=>?_⟩
   . have gI:i<s.af.length:=by omega
     have bN:(s.af.getD i []).length=(2*s.g).toNat:=(T.row _ (eI gI)).1;have hd:s.af.drop i=s.af.getD i []::s.af.drop (i+1):=by
      rw[ac6 gI,acR,acV gI];rfl
     rw[hd,iT] at e;cases n with
     | zero=>omega
     | succ n =>
       refine⟨by omega,gI,⟨trivial,by omega,by omega⟩,fun h1=>?_,fun h1=>⟨gI,by omega,?_⟩⟩;rw[if_neg h1] at e;exact ab3 s T hfull n (i+1) t (by omega) (by omega) (by omega) e;rw[if_pos h1] at e;have:=ab3 s T hfull n (i+1) (t++[(s.af.getD i []).map (fT s)]) (by omega) (by omega) (by simp;omega) (by rw[ac5];exact e);rw[acU,acT] at this;exact tt_c s T i gI (s.af.getD i []) (hfull i gI h1) (by omega) t ht this _ 0 rfl (ac1 _)
   rw[List.drop_eq_nil_of_le (by omega),iT,ac7] at e;rw[e];rfl
theorem ab4(s:Rn)(T:bF s)(hfull:y6 s):∀(n i:Nat)(l:List Int),n=s.af.length-i->i<=s.af.length->l.length=s.af.length->y5 s.ah n i (rk s.ah i) l=mJ s->
 av Bh (aD (bK (jX s)) (aZ s)) pTta (fr [(0,pR),(3,fK 1 s.af.length),(4,nI (rk s.ah i)),(21,nI s.af.length),(22,nI i)]) (.ofList (obTn s l))
 | n,i,l,hn,hi,hl,e=>by
   refine aN FZ (by kernel_rfl) 100 ?_;apply of_eq (q:=let q1:=(s.af.length:Int);(decide ((i:Int)<q1)=true->((s.af.length=s.af.length/\s.ah.length=s.ah.length/\((2:Int)*s.g).toNat=((2:Int)*s.g).toNat/\(2:Int)*((2:Int)*s.g/2)=2*s.g)/\(0:Int)<=(i:Int)/\i<s.ah.length)/\(decide (s.ah.getD i (0:Int)=(i:Int))=true->((0:Int)<=(i:Int)/\(i:Int)<q1)/\(0:Nat)+i<l.length/\av Bh (aD (bK (jX s)) (aZ s)) [0,1,0,1,1,1] (fr [(0,aR 0 0),(3,aS 1 0 s.af.length),(4,nI (IntKind.i64.wrap ((↑(rk s.ah i):Int)+1))),(21,nI q1),(22,nI (IntKind.i64.wrap ((i:Int)+1)))]) (ak.ofList [eG s 2 3 4,aB (l.set ((0:Nat)+i) (↑(rk s.ah i):Int)),aQ s,aB s.ah,aB s.dl]))/\(decide (s.ah.getD i (0:Int)=(i:Int))=false->av Bh (aD (bK (jX s)) (aZ s)) [0,1,0,1,1,1] (fr [(0,aR 0 0),(3,aS 1 0 s.af.length),(4,nI (↑(rk s.ah i):Int)),(21,nI q1),(22,nI (IntKind.i64.wrap ((i:Int)+1)))]) (ak.ofList [eG s 2 3 4,aB l,aQ s,aB s.ah,aB s.dl])))/\(decide ((i:Int)<q1)=false->av Bh (aD (bK (jX s)) (aZ s)) [0,1,0,1,1,1,1,1] (fr [(0,aR 0 0),(3,aS 1 0 s.af.length),(6,aS 2 0 0),(38,aS 3 0 s.af.length),(39,nI q1),(40,nI (0))]) (ak.ofList [eG s 3 4 5,aB l,kL ([]),aQ s,aB s.ah,aB s.dl]))) (by kernel_rfl)
   try simp only[sL]
   have hpl:=gV T;have hp:s.ah.length<=1000000:=T.ah.1;have VB:=rT s.ah;have hmono:=Hj s.ah i (s.ah.length-i);rw[show i+(s.ah.length-i)=s.ah.length by omega,rk_al] at hmono;have uN:=ng s.ah i;simp only[half];rw[wrap64 (n:=(i:Int)+1) (by omega) (by omega),wrap64 (n:=(rk s.ah i:Int)+1) (by omega) (by omega)];refine⟨fun h=>⟨⟨trivial,by omega,by omega⟩,fun h1=>⟨by omega,by omega,?_⟩,fun h1=>?_⟩,fun h=>?_⟩
   . cases n with
     | zero=>omega
     | succ n =>
       rw[y5,if_pos h1] at e;rw[if_pos h1] at uN;have:=ab4 s T hfull n (i+1) (l.set i (rk s.ah i:Nat)) (by omega) (by omega) (by rw[ac0];exact hl) (by rw[uN];exact e);rw[uN] at this;exact this
   . cases n with
     | zero=>omega
     | succ n =>
       rw[y5,if_neg h1] at e;rw[if_neg h1] at uN;have:=ab4 s T hfull n (i+1) l (by omega) (by omega) hl (by rw[uN];exact e);rw[uN] at this;exact this
   have:n=0:=by omega
   subst this;rw[show l=mJ s from e];exact ab3 s T hfull _ 0 [] rfl (ac1 _) (ac1 _) rfl
theorem Uq(s:Rn)(T:bF s)(hfull:y6 s):bq Tryz.prog 48 1 [pR] (aZ s) (bK (jX s)) (aZ s):=by
 refine bR (aj:=NX) (cx:=[]) (fz:=[some dL]) FZ Tryz.func48 (by kernel_rfl) 1 (by kernel_rfl) 100 ?_;apply of_eq (q:=let q1:=(s.af.length:Int);((0:Int)<=q1/\q1<=q1/\(↑(8:Nat):Int)*q1<=140737488355328)/\av (bG Tryz.prog gTt Tryz.f48 (1:Nat) NX [] [some dL]) (aD (bK (jX s)) (aZ s)) [0,1,0,1,1,1] (fr [(0,aR 0 0),(3,aS 1 0 s.af.length),(4,nI (0)),(21,nI q1),(22,nI (0))]) (ak.ofList [eG s 2 3 4,aB (acZ s.af.length (0:Int)),aQ s,aB s.ah,aB s.dl])) (by kernel_rfl)
 try simp only[sL]
 have hpl:=gV T;have hp:s.ah.length<=1000000:=T.ah.1;exact⟨⟨by omega,by omega⟩,ab4 s T hfull s.af.length 0 _ rfl (ac1 _) (ac2 ..) rfl⟩
def Q5:bQ:=Uo fun r=>(bF r/\y6 r,bK (jX r),r)
theorem Ur:aM Tryz.prog 48 Q5:=ab2 (by kernel_rfl) fun r _ h=>Uq r h.1 h.2
end Go.Proofs.YtdpbidkgdnnamaaGreatDoor
