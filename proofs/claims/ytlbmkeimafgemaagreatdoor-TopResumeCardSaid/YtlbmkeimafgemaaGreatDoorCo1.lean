/- The table of a run that is done has a standard form. -/
import Derived.Test.YtlbmkeimafgemaaGreatDoorBack1
import Derived.Test.YtlbmkeimafgemaaGreatDoorEng1
import Derived.Test.YtlbmkeimafgemaaGreatDoorLoad1
open Nat renaming eq_of_beq_eq_true->abZ,beq->ab0,zero_le->ace,le_refl->acn,lt_or_ge->acp,zero_add->acq,sub_zero->acs,sub_self->acu
open List renaming getD_eq_getElem?_getD->ab1,length_singleton->ab3,length_append->ab4,getElem?_eq_getElem->ab5,take->ab7,drop->ab8,replicate->ab9,length_set->acd,length_replicate->acf,mem_append_left->acg,length_map->ach,append_assoc->aci,drop_eq_getElem_cons->acj,append_nil->ack,mem_singleton->aco,length->acr
open Int renaming toNat_natCast->ab2
open Bool renaming and_eq_true->ab6
noncomputable section
namespace Go.Proofs.YtlbmkeimafgemaaGreatDoor
open Go.aT Go.Words Go.bh
set_option maxRecDepth 100000
theorem Jd(k v s:Int)(m:Mp):nK (qi k v m) s=true↔s=k∨nK m s=true:=by
 obtain⟨h1,h2⟩:=zn (kd:=.int .i64) (vd:=.int .i64) rfl k v s m;unfold nK qi tF;by_cases h:s=k;rw[h1 h];simp[h];rw[h2 h];simp[h]
theorem XG(k v s:Int)(m:Mp):iy (qi k v m) s=if s=k then v else iy m s:=by
 obtain⟨h1,h2⟩:=zn (kd:=.int .i64) (vd:=.int .i64) rfl k v s m;unfold iy qi pV;by_cases h:s=k;rw[h1 h,if_pos h];rw[h2 h,if_neg h]
theorem Je(k v:Int):∀(m:Mp),nK m k≠true->(qi k v m).length=m.length+1
 | [],_=>rfl
 | (k',v')::l,h=>by
   have hb:(D.int .i64).jG k k'=false:=by
    cases hb:(D.int .i64).jG k k' with
    | false=>rfl
    | true=>exact absurd (show nK ((k',v')::l) k=true by unfold nK tF kW;rw[hb];rfl) h
   have e:qi k v ((k',v')::l)=(k',v')::qi k v l:=by unfold qi;rw[ju,hb];rfl
   rw[e,List.length_cons,Je k v l fun h2=>h (by unfold nK tF;rw[kW,hb];exact h2)];rfl
structure BF(n:Nat)(x:Mp×List Int):Prop where
 nd:x.2.Nodup
 rg:∀ y∈x.2,0<=y/\y<n
 ks:∀ s,nK x.1 s=true↔s∈x.2
theorem XH{n:Nat}{x:Mp×List Int}(B:BF n x){s:Int}(hs:0<=s/\s<n):BF n (iI s x)/\s∈(iI s x).2/\∃ l,(iI s x).2=x.2++l:=by
 unfold iI;split;rename_i h;exact⟨B,(B.ks s).1 h,[],by simp⟩;rename_i h;have hn:s ∉ x.2:=fun hm=>h ((B.ks s).2 hm);refine⟨⟨?_,fun y hy=>?_,fun s'=>?_⟩,by simp,[s],rfl⟩;simp only;rw[List.nodup_append];exact⟨B.nd,by simp,fun a ha b hb=>by simp at hb;subst hb;exact fun e=>hn (e▸ha)⟩;rcases List.mem_append.1 hy with hy|hy;exact B.rg y hy;simp at hy;subst hy;exact hs;simp only[Jd,B.ks,List.mem_append,aco];exact⟨fun h=>h.symm,fun h=>h.symm⟩
theorem Nd{n:Nat}:∀(l:List Int){x:Mp×List Int}(out:List Int),BF n x->(∀ y∈l,0<=y/\y<n)->BF n (kN l x out).1/\(∀ y∈l,y∈(kN l x out).1.2)/\∃ l',(kN l x out).1.2=x.2++l'
 | [],x,out,B,_=>⟨B,(fun y hy=>by cases hy),[],(ack _).symm⟩
 | s::r,x,out,B,hl=>by
   obtain⟨b1,b2,l1,e1⟩:=XH B (hl s (by simp));obtain⟨c1,c2,l2,e2⟩:=Nd r (out++[iy (iI s x).1 s]) b1 fun y hy=>hl y (by simp[hy]);rw[kN];refine⟨c1,fun y hy=>?_,l1++l2,by rw[e2,e1,aci]⟩;rcases List.mem_cons.1 hy with h|h;subst h;rw[e2];exact acg _ b2;exact c2 y h
theorem Qn{t : List (List Int)}(hr : ∀ l ∈ t, ∀ y ∈ l, 0 ≤ y ∧ y < t.length)(hc : ∀ a, a < t.length → CJ t a) : ∀(f k : Nat)(x : Mp × List Int)(out : List (List Int)), f + k = t.length + 1 → BF t.length x → 0 ∈ x.2 → k ≤ x.2.length → out.length = k → (∀ i, i < k → ∀ y ∈ t.getD (x.2.getD i 0).toNat [], y ∈ x.2) →
 ∃ u,Al t f k x out=some u/\u.length=t.length
 | 0,k,x,out,hf,B,_,hk,_,_=>by
   have:=Fo _ _ B.nd B.rg;omega
 | f + 1, k, x, out, hf, B, h0, hk, ho, hd => by
   have hle:=Fo _ _ B.nd B.rg;rw[Al];split;rename_i h;have hm:=B.rg _ (fB (l:=x.2) (a:=k) h);have hrow:t.getD (x.2.getD k 0).toNat []∈t:=dZ (by omega);obtain⟨b1,b2,l,e⟩:=Nd (t.getD (x.2.getD k 0).toNat []) (x:=x) [] B (hr _ hrow);have eg:∀ i,i<x.2.length->(kN (t.getD (x.2.getD k 0).toNat []) x []).1.2.getD i 0=x.2.getD i 0:=fun i hi=>by
    rw[e,ab1,List.getElem?_append_left hi,<-ab1]
   refine Qn hr hc f (k+1) _ _ (by omega) b1 (by rw[e];exact acg _ h0) (by rw[e,ab4];omega) (by simp;omega) fun i hi y hy=>?_;rw[eg i (by omega)] at hy;rcases acp i k with h1|h1;rw[e];exact acg _ (hd i h1 y hy);rw[show i=k by omega] at hy;exact b2 y hy;rename_i h;have hall:∀ a,CJ t a->(a:Int)∈x.2:=by
    intro a ha
    induction ha with
    | z=>exact h0
    | @go a c _ h2 ih =>
      obtain⟨i,hi,ei⟩:=List.mem_iff_getElem.1 ih;have hg:x.2.getD i 0=(a:Int):=by rw[ab1,ab5 hi,ei];rfl
      have hy:=hd i (by omega) (aZ t a c) (by rw[hg,ab2];exact fB h2);have:=B.rg _ hy;rw[show ((aZ t a c).toNat:Int)=aZ t a c by omega];exact hy
   have hge:=XE t.length x.2 fun a ha=>hall a (hc a ha);exact⟨out,rfl,by omega⟩
theorem tg(ah:List Int)(m:Mp):∀(ls:List (List Int))(i:Nat),sV ah m i ls=iA ah (iy m) i ls
 | [],_=>rfl
 | l::ls,i=>by rw[sV,iA,tg ah m ls (i+1)]
theorem BD(ah:List Int):∀(n i:Nat)(m:Mp),(∀ b:Nat,b<i->ah.getD b 0=(b:Int)->iy m b=rk ah b)->(∀ s,nK m s=true->s<i)->m.length=rk ah i->∀ b:Nat,b<i+n->ah.getD b 0=(b:Int)->iy (kS ah n i m) b=rk ah b
 | 0,i,m,h1,_,_,b,hb,hl=>h1 b hb hl
 | n + 1, i, m, h1, h2, h3, b, hb, hl => by
   have s:=mJ ah i;rw[kS];by_cases hi:ah.getD i 0=(i:Int);rw[if_pos hi] at s ⊢;refine BD ah n (i+1) _ (fun b' hb' hl'=>?_) (fun s' hs'=>?_) ?_ b (by omega) hl;rw[XG];split;rename_i e;have:b'=i:=by omega
   subst this;rw[h3];exact h1 b' (by omega) hl';rcases (Jd _ _ _ _).1 hs' with h|h;omega;have:=h2 s' h;omega;rw[Je _ _ _ fun h=>by have:=h2 _ h;omega];omega;rw[if_neg hi] at s ⊢;exact BD ah n (i+1) m (fun b' hb' hl'=>h1 b' (Nat.lt_of_le_of_ne (by omega) fun e=>hi (e▸hl')) hl') (fun s' hs'=>by have:=h2 s' hs';omega) (by omega) b (by omega) hl
theorem Nf{r:Rn}(T:br r)(H:bh.Rest r r.af.length)(N:jP r)(hn:0<r.af.length)(hn2:r.af.length<=20000):uP r.g (dX r) ((jL (dX r)).getD []):=by
 have hp:dY r.ah:=T.ah;have hpl:=gB T;have ko:1<=r.g:=T.g1;have kT:r.g<=16:=T.g2;have hfl:∀{c},c<(2*r.g).toNat->bQ c<(2*r.g).toNat:=fun h=>cH.flip (r:={ r with dn:=0 }) T h;have hm:∀ b:Nat,b<r.af.length->Live r b->iy (kS r.ah r.af.length 0 []) b=rk r.ah b:=fun b hb hl =>
  BD r.ah r.af.length 0 [] (fun b hb=>by omega) (fun s h=>by cases h) rfl b (by omega) hl
 have et:dX r=iA r.ah (iy (kS r.ah r.af.length 0 [])) 0 r.af:=tg _ _ _ _;generalize iy (kS r.ah r.af.length 0 [])=f at hm et;have hL:(dX r).length=rk r.ah r.af.length:=by
  have:=AR r.ah f r.af 0;rw[et];rw[acq] at this;have e0:rk r.ah 0=0:=rfl;omega
 have hal:rk r.ah r.af.length=al r.ah:=by rw[<-hpl];rfl
 have hpos:=Ad hp (by omega);have hle:=rz r.ah;have cell:∀ a c,a<r.af.length->c<(2*r.g).toNat->Live r a->0<=aZ r.af a c/\(aZ r.af a c).toNat<r.af.length/\Live r (aZ r.af a c).toNat/\f (aZ r.af a c)=rk r.ah (aZ r.af a c).toNat/\rk r.ah (aZ r.af a c).toNat<rk r.ah r.af.length:=by
  intro a c ha hc hl;have h0:=H.cp a c ha ha hc hl;have hr:=T.at ha hc;have hd:(aZ r.af a c).toNat<r.af.length:=by omega
  have hlv:=H.aj T ha hc h0;have:=hm _ hd hlv;rw[show (((aZ r.af a c).toNat:Nat):Int)=aZ r.af a c by omega] at this;exact⟨h0,hd,hlv,this,Tx hlv hd⟩
 have hrow:∀ a,a<r.af.length->(r.af.getD a []).length=(2*r.g).toNat:=fun a ha=>(T.row _ (dZ ha)).1;have hat:∀ a c,a<r.af.length->c<(2*r.g).toNat->Live r a->aZ (dX r) (rk r.ah a) c=rk r.ah (aZ r.af a c).toNat:=by
  intro a c ha hc hl;have h1:=Jb r.ah f r.af 0 a (ace _) (by omega) hl;rw[show rk r.ah a-rk r.ah 0=rk r.ah a from rfl,acs,<-et] at h1;have h2:=(cell a c ha hc hl).2.2.2.1;rw[<-h2];show ((dX r).getD (rk r.ah a) []).getD c 0=_;rw[h1];have:=hrow a ha;rw[ab1,List.getElem?_map];unfold aZ;rw[ab1 (l:=r.af.getD a []),ab5 (by omega)];rfl
 have hel:∀ l∈dX r,l.length=(2*r.g).toNat/\∀ x∈l,0<=x/\x<(dX r).length:=by
  intro l hl;rw[et] at hl;obtain⟨a,_,ha,hlv,rfl⟩:=Jc r.ah f r.af 0 l hl;rw[acq] at ha;rw[acs];refine⟨by rw[ach];exact hrow a ha,fun x hx=>?_⟩;obtain⟨z,hz,rfl⟩:=List.mem_map.1 hx;obtain⟨c,hc,e⟩:=List.mem_iff_getElem.1 hz;have ez:z=aZ r.af a c:=by
   unfold aZ;rw[ab1 (l:=r.af.getD a []),ab5 hc,e];rfl
  have:=cell a c ha (by rw[<-hrow a ha];exact hc) hlv;rw[ez,hL,this.2.2.2.1];omega
 have sur:∀ a,a<(dX r).length->∃ a',a'<r.af.length/\Live r a'/\rk r.ah a'=a:=fun a ha=>by
  rw[hL] at ha;exact Nc r.ah _ a ha
 have hstep:∀ a c,a<r.af.length->c<(2*r.g).toNat->Live r a->CJ (dX r) (rk r.ah a)->CJ (dX r) (rk r.ah (aZ r.af a c).toNat):=by
  intro a c ha hc hl h;have hlt:rk r.ah a<(dX r).length:=by rw[hL];exact Tx hl ha
  have:=CJ.go (c:=c) h (by rw[(hel _ (dZ hlt)).1];exact hc);rw[hat a c ha hc hl,ab2] at this;exact this
 have hreach:∀ a,a<(dX r).length->CJ (dX r) a:=by
  intro a ha;obtain⟨a',h1,h2,h3⟩:=sur a ha;rw[<-h3];refine abj T H N (Q:=fun b=>CJ (dX r) (rk r.ah b)) .z (fun b c hb hc hl h0=>⟨hstep b c hb hc hl,fun h=>?_⟩) h1 h2;obtain⟨c0,c1,c2,_⟩:=cell b c hb hc hl;have:=hstep _ (bQ c) c1 (hfl hc) c2 h;rw[H.nb b c hb hc h0,ab2] at this;exact this
 obtain⟨u,hu,hul⟩:=Qn (t:=dX r) (fun l hl=>(hel l hl).2) hreach ((dX r).length+1) 0 ([(0,0)],[0]) [] (by omega)
  ⟨by simp,fun y hy=>by simp at hy;subst hy;omega,fun s=>by
   simp only[nK,tF,kW,aco];cases hb:(D.int .i64).jG s 0 with
   | true=>exact⟨fun _=>(D.kG rfl).1 hb,fun _=>rfl⟩
   | false=>exact⟨fun h=>(by cases h),fun h=>by rw[(D.kG rfl).2 h] at hb;cases hb⟩⟩ (by simp) (ace _) rfl fun i hi=>by omega
 have hs:jL (dX r)=some u:=hu;rw[hs];refine⟨⟨⟨ko,kT⟩,by omega,fun l hl=>by have:=(hel l hl).1;omega,fun l hl x hx=>?_,fun a c ha hc h0=>?_⟩,fun l hl x hx=>((hel l hl).2 x hx).1,hs,hul⟩;have:=(hel l hl).2 x hx;unfold qh;rw[Bool.or_eq_false_iff,decide_eq_false_iff_not,decide_eq_false_iff_not];omega;obtain⟨a',h1,h2,h3⟩:=sur a ha;subst h3;obtain⟨c0,c1,c2,_⟩:=cell a' c h1 hc h2;rw[hat a' c h1 hc h2,ab2,hat _ _ c1 (hfl hc) c2,H.nb a' c h1 hc c0,ab2]
theorem Ty{r:Rn}(T:br r)(H:bh.Rest r r.af.length)(N:jP r)(hn:0<r.af.length)(hn2:r.af.length<=20000):rC r :=
 ⟨⟨T.g1,T.g2⟩,⟨hn,by omega⟩,gB T,fun l hl=>(T.row l hl).1,Nf T H N hn hn2⟩
abbrev dO(s:Rn)(a b c:Nat):Ob:=⟨63,[.c (.int .i64 (2*s.g)),.c (.int .i64 s.aq),.c (.sl a 0 s.af.length 1),.c (.sl b 0 s.ah.length 1),.c (.sl c 0 s.dn 1),.c (.int .i64 s.aj),.c (.int .i64 s.aF)]⟩
abbrev aX(s:Rn):List Ob:=[dO s 1 2 3,aO s,aB s.ah,aB s.dl]
def Nk(ar:List Ob):Option (Prop×Rn):=match ar with
 | [⟨t,[.c (.int .i64 w),.c (.int .i64 aq),.c (.sl a 0 nr 1),.c (.sl b 0 np 1),.c (.sl c 0 dn 1),.c (.int .i64 aj),.c (.int .i64 aF)]⟩,⟨t1,[.c (.th k af)]⟩,⟨t2,[.a 0 (.int .i64) ah]⟩,⟨t3,[.a 0 (.int .i64) dl]⟩] =>
   bif ab0 t 63&&(ab0 t1 22&&(ab0 t2 3&&(ab0 t3 3&&(ab0 a 1&&(ab0 b 2&&ab0 c 3))))) then some (nr=af.length/\np=ah.length/\k=w.toNat/\2*(w/2)=w,⟨w/2,[],[],aq,aF,aj,0,0,0,0,af,ah,dl,dn⟩) else none
 | _=>none
def Br(s:Rn):Prop:=s.ax=[]/\s.sub=[]/\s.ay=0/\s.ph=0/\s.co=0/\s.ix=0
theorem oz{ar:List Ob}{c:Prop}{r:Rn}(e:Nk ar=some (c,r))(hc:c):ar=aX r/\Br r:=by
 unfold Nk at e;split at e;obtain⟨hb,e1⟩:=aA.aH e;clear e;simp only[ab6] at hb;obtain⟨h1,h2,h3,h4,h5,h6,h7⟩:=hb;cases abZ h1;cases abZ h2;cases abZ h3;cases abZ h4;cases abZ h5;cases abZ h6;cases abZ h7;cases e1;obtain⟨rfl,rfl,rfl,hw⟩:=hc;refine⟨?_,rfl,rfl,rfl,rfl,rfl,rfl⟩;simp only[aX,dO,aO,hw];cases e
def TH(f:Rn->Nat->Prop×A×Rn):bI:={ refs:=[true,false],keep:=some 1,f:=fun args ar=>match args with
 | [.p (.c (.ptr 0 0)),.p (.c (.int .i64 x))]=>match Nk ar with
   | some (c,r)=>some (.p (c/\0<=x/\(f r x.toNat).1),(f r x.toNat).2.1,aX (f r x.toNat).2.2)
   | none=>none
 | _=>none }
theorem abl{P:Program}{fn:FuncId}{f:Rn->Nat->Prop×A×Rn}(he:enters P fn=true)(h:∀ r a,Br r->(f r a).1->bn P fn 1 [pR,nI a] (aX r) (f r a).2.1 (aX (f r a).2.2)):aK P fn (TH f):=by
 refine⟨he,fun args ar c r aY e hc=>?_⟩;simp only[TH] at e;split at e;rename_i x;split at e;rename_i c1 r1 hr;cases e;obtain⟨h1,h2,h3⟩:=hc;have:=h _ _ (oz hr h1).2 h3;rw[<-fR h2] at this;rw[(oz hr h1).1];exact this;cases e;cases e
def TI(f:Rn->Nat->Nat->Prop×A×Rn):bI:={ refs:=[true,false,false],keep:=some 1,f:=fun args ar=>match args with
 | [.p (.c (.ptr 0 0)),.p (.c (.int .i64 x)),.p (.c (.int .i64 y))]=>match Nk ar with
   | some (c,r)=>some (.p (c/\0<=x/\0<=y/\(f r x.toNat y.toNat).1),(f r x.toNat y.toNat).2.1,aX (f r x.toNat y.toNat).2.2)
   | none=>none
 | _=>none }
theorem abm{P:Program}{fn:FuncId}{f:Rn->Nat->Nat->Prop×A×Rn}(he:enters P fn=true)(h:∀ r a b,Br r->(f r a b).1->bn P fn 1 [pR,nI a,nI b] (aX r) (f r a b).2.1 (aX (f r a b).2.2)):aK P fn (TI f):=by
 refine⟨he,fun args ar c r aY e hc=>?_⟩;simp only[TI] at e;split at e;rename_i x y;split at e;rename_i c1 r1 hr;cases e;obtain⟨h1,h2,h3,h4⟩:=hc;have:=h _ _ _ (oz hr h1).2 h4;rw[<-fR h2,<-fR h3] at this;rw[(oz hr h1).1];exact this;cases e;cases e
theorem abn(x:Int)(h:x≠0/\-1000<=x/\x<=1000):bA Tryz.prog 97 [nI x] [] (nI (bT x)) []:=by
 refine bO (aj:=[]) aE Tryz.func97 (by kernel_rfl) (keep:=0) rfl (by kernel_rfl) 100 ?_;apply of_eq (q:=let q0:=IntKind.i64.wrap;(decide (x<0)=true->aD [vI (q0 (q0 ((2:Int)*q0 (q0 ((0:Int)-x)-1))+1))]=nI (bT x)/\([]:List Ob)=[])/\(decide (x<0)=false->aD [vI (q0 ((2:Int)*q0 (x-1)))]=nI (bT x)/\([]:List Ob)=[])) (by kernel_rfl)
 try simp only[sL]
 refine⟨fun h=>?_,fun h=>?_⟩;rw[wrap64 (n:=0-x) (by omega) (by omega),wrap64 (n:=0-x-1) (by omega) (by omega),wrap64 (n:=2*(0-x-1)) (by omega) (by omega),wrap64 (n:=2*(0-x-1)+1) (by omega) (by omega)];exact congrArg nI (by unfold bT;omega);rw[wrap64 (n:=x-1) (by omega) (by omega),wrap64 (n:=2*(x-1)) (by omega) (by omega)];exact congrArg nI (by unfold bT;omega)
def cColT:bI:=jJ (.int .i64) fun x=>(.p ((show Int from x)≠0/\-1000<=(show Int from x)/\(show Int from x)<=1000),nI (bT x),[])
theorem abo:aK Tryz.prog 97 cColT:=fE (by kernel_rfl) fun x h=>abn x h
theorem TJ(r:Rn)(a:Nat)(h:a<r.ah.length):bn Tryz.prog 56 1 [pR,nI a] (aX r) (bB (decide (r.ah.getD a 0=a))) (aX r):=by
 refine bJ (aj:=[]) (bZ:=[]) (fz:=[]) aE Tryz.func56 (by kernel_rfl) 1 (by kernel_rfl) 100 ?_;apply of_eq (q:=((0:Int)<=(a:Int)/\(a:Int)<(r.ah.length:Int))/\(0:Nat)+a<r.ah.length/\aD [vB (decide (r.ah.getD ((0:Nat)+a) (0:Int)=(a:Int)))]=bB (decide (r.ah.getD a (0:Int)=(a:Int)))/\[dO r (1:Nat) (2:Nat) (3:Nat),aO r,aB r.ah,aB r.dl]=aX r) (by kernel_rfl)
 try simp only[sL,Nat.reduceAdd]
 exact⟨by omega,h,rfl⟩
def Qs:bI:=TH fun r a=>(a<r.ah.length,bB (decide (r.ah.getD a 0=a)),r)
theorem TK:aK Tryz.prog 56 Qs:=abl (by kernel_rfl) fun r a _ h=>TJ r a h
theorem XL(r:Rn)(a c b:Nat)(h:a<r.af.length/\b<r.af.length/\c<(2*r.g).toNat/\r.g<=16):bn Tryz.prog 81 1 [pR,nI a,nI c,nI b] (aX r) (.aJ []) (aX (join r a c b)):=by
 refine bJ (aj:=[]) (bZ:=[]) (fz:=[]) aE Tryz.func81 (by kernel_rfl) 1 (by kernel_rfl) 100 ?_;apply of_eq (q:=let q0:=IntKind.i64.wrap;let q1:=(↑(BitVec.ofInt (64:Nat) (c:Int) ^^^ BitVec.ofInt (64:Nat) (1:Int)).toNat:Int);let q2:=(r.af.set ((0:Nat)+a) ((r.af.getD ((0:Nat)+a) []).set c (b:Int)));let q3:=((2:Int)*r.g);((0:Int)<=(a:Int)/\(a:Int)<(r.af.length:Int))/\(0:Nat)+a<r.af.length/\((0:Int)<=(c:Int)/\(c:Int)<(↑q3.toNat:Int))/\((0:Nat)+a<r.af.length/\c<q3.toNat)/\((0:Int)<=(b:Int)/\(b:Int)<(r.af.length:Int))/\(0:Nat)+b<q2.length/\((0:Int)<=q0 q1/\q0 q1<(↑q3.toNat:Int))/\((0:Nat)+b<q2.length/\(q0 q1).toNat<q3.toNat)/\aD []=A.aJ []/\[dO r (1:Nat) (2:Nat) (3:Nat),Ob.mk 22 [Fd.c (W.th q3.toNat (q2.set ((0:Nat)+b) ((q2.getD ((0:Nat)+b) []).set (q0 q1).toNat (a:Int))))],aB r.ah,aB r.dl]=aX (join r a c b)) (by kernel_rfl)
 try simp only[acq,Nat.reduceAdd]
 have hf:=@qL c r.g.toNat (by omega);rw[qN c (by omega)];simp only[acd,ab2];refine⟨by omega,by omega,by omega,by omega,by omega,by omega,by omega,by omega,rfl,?_⟩;simp only[aX,dO,aO,join,eJ,acd]
def nk(w aq aj aF:Int)(af:List (List Int))(ah dl:List Int)(dn:Nat):Rn:=⟨w/2,[],[],aq,aF,aj,0,0,0,0,af,ah,dl,dn⟩
def AV : bI := { refs := [true, false, false, false], keep := some 1, f := fun args ar => match args, ar with
 | [.p (.c (.ptr 0 0)),.p (.c (.int .i64 x)),.p (.c (.int .i64 y)),.p (.c (.int .i64 z))],[⟨t,[.c (.int .i64 w),.c (.int .i64 aq),.c (.sl a 0 nr 1),.c (.sl b 0 np 1),.c (.sl c 0 dn 1),.c (.int .i64 aj),.c (.int .i64 aF)]⟩,⟨t1,[.c (.th k af)]⟩,⟨t2,[.a 0 (.int .i64) ah]⟩,⟨t3,[.a 0 (.int .i64) dl]⟩] =>
   bif ab0 t 63&&(ab0 t1 22&&(ab0 t2 3&&(ab0 t3 3&&(ab0 a 1&&(ab0 b 2&&ab0 c 3))))) then some (.p ((nr=af.length/\np=ah.length/\k=w.toNat/\2*(w/2)=w)/\0<=x/\0<=y/\0<=z/\x.toNat<af.length/\z.toNat<af.length/\y.toNat<w.toNat/\w<=32),.aJ [],
    [⟨t,[.c (.int .i64 w),.c (.int .i64 aq),.c (.sl a 0 nr 1),.c (.sl b 0 np 1),.c (.sl c 0 dn 1),.c (.int .i64 aj),.c (.int .i64 aF)]⟩,⟨t1,[.c (.th k (eJ (eJ af x.toNat y.toNat (z.toNat:Nat)) z.toNat (bQ y.toNat) (x.toNat:Nat)))]⟩,⟨t2,[.a 0 (.int .i64) ah]⟩,⟨t3,[.a 0 (.int .i64) dl]⟩]) else none
 | _,_=>none }
theorem AW:aK Tryz.prog 81 AV:=by
 refine⟨by kernel_rfl,fun args ar c r aY e hc=>?_⟩;simp only[AV] at e;split at e;rename_i x y z t w aq a nr b np c' dn aj aF t1 k af t2 ah t3 dl;obtain⟨hb,e1⟩:=aA.aH e;clear e;simp only[ab6] at hb;obtain⟨h1,h2,h3,h4,h5,h6,h7⟩:=hb;cases abZ h1;cases abZ h2;cases abZ h3;cases abZ h4;cases abZ h5;cases abZ h6;cases abZ h7;cases e1;obtain⟨⟨rfl,rfl,rfl,hw⟩,hx,hy,hz,q1,q2,q3,q4⟩:=hc;have:=XL (nk w aq aj aF af ah dl dn) x.toNat y.toNat z.toNat ⟨q1,q2,by show y.toNat<(2*(w/2)).toNat;omega,by show w/2<=16;omega⟩;rw[<-fR hx,<-fR hy] at this;rw[show ((z.toNat:Nat):Int)=z by omega] at this;simp only[aX,dO,aO,join,nk,hw,cM] at this;exact this;cases e
theorem Br.keep{s s':Rn}(h:Br s)(k:Keep s s'):Br s':=by
 obtain⟨k1,k2,k3,k4,k5,k6,k7,k8⟩:=k;obtain⟨h1,h2,h3,h4,h5,h6⟩:=h;exact⟨k2.trans h1,k3.trans h2,k8.trans h3,k5.trans h4,k6.trans h5,k7.trans h6⟩
theorem un{s:Rn}(h:Br s):Rn.mk (2*s.g/2) [] [] s.aq s.aF s.aj 0 0 0 0 s.af s.ah s.dl s.dn=s:=by
 have e:2*s.g/2=s.g:=by omega
 obtain⟨h1,h2,h3,h4,h5,h6⟩:=h;rw[e];cases s;simp only at h1 h2 h3 h4 h5 h6;subst h1;subst h2;subst h3;subst h4;subst h5;subst h6;rfl
theorem Sd.keep{r s:Rn}(S:Sd r s):Keep r s:=by obtain⟨p,d,rfl,_,_⟩:=S;exact Keep.refl _
theorem So.keep{r s:Rn}(S:So r s):Keep r s:=by obtain⟨p,d,n,rfl,_⟩:=S;exact Keep.refl _
def XM:Site:=jW Tryz.prog [] [] Tryz.f118 1 [([0,0,1,1,0,1],[0,1,5]),([0,0,1,1,1,0,1],[0,1,5])] [] [] false (.int .i64 0)
theorem XO(s:Rn)(root:Nat)(q:List Int):∀(f c:Nat)(p:List Int),dY p->c<p.length->top p c=root->c<f->q=yI root f c p->
 au XM (eT false (nI root) (aX { s with ah:=q })) [0,0,1,1,1,0,1] (fr [(0,pR),(1,nI c),(5,nI root)]) (.ofList (aX { s with ah:=p }))
 | f,c,p,hp,hc,ht,hf,hq=>by
   refine aL aE (by kernel_rfl) 100 ?_;apply of_eq (q:=let q1:=Ob.mk 63 [fI ((2:Int)*s.g),fI s.aq,fS 1 0 s.af.length,fS 2 0 p.length,fS 3 0 s.dn,fI s.aj,fI s.aF];let q2:=(Rn.mk s.g s.ax s.sub s.aq s.aF s.aj s.ay s.ph s.co s.ix s.af q s.dl s.dn);let q3:=decide (p.getD ((0:Nat)+c) (0:Int)=(root:Int));((0:Int)<=(c:Int)/\(c:Int)<(p.length:Int))/\(0:Nat)+c<p.length/\((!q3)=true->((0:Int)<=(c:Int)/\(c:Int)<(p.length:Int))/\(0:Nat)+c<p.length/\((0:Int)<=(c:Int)/\(c:Int)<(p.length:Int))/\(0:Nat)+c<p.length/\au XM (eT false (nI (root:Int)) (aX q2)) [0,0,1,1,1,0,1] (fr [(0,aR 0 0),(1,nI (p.getD ((0:Nat)+c) (0:Int))),(5,nI (root:Int))]) (ak.ofList [q1,aO s,aB (p.set ((0:Nat)+c) (root:Int)),aB s.dl]))/\((!q3)=false->false=false/\aD [vI (root:Int)]=nI (root:Int)/\[q1,aO s,aB p,aB s.dl]=aX q2)) (by kernel_rfl)
   try simp only[sL,Nat.reduceAdd]
   refine⟨by omega,hc,fun h=>⟨by omega,hc,by omega,hc,?_⟩,fun h=>⟨rfl,?_⟩⟩
   . cases f with
     | zero=>omega
     | succ f =>
       rw[yI,if_neg h] at hq;have hpc:=hp.2 c hc;have hal:=gD hp hc;rw[ht] at hal;have hn:c≠top p c:=fun e=>h (by rw[ht] at e;rw[e];exact hal);obtain⟨h1,h2⟩:=Ng hp hc hn;rw[ht] at h1 h2;have hns:p.getD c 0≠(c:Int):=fun e=>hn (dz e).symm;have hts:=iH hp hc hns;have:=XO s root q f (p.getD c 0).toNat (p.set c (root:Int)) h1 (by rw[acd];omega) (by rw[h2 _ (by omega),<-hts];exact ht) (by omega) hq;rw[<-fR hpc.1] at this;simp only[aX,dO,acd] at this;exact this
   cases f with
   | zero=>omega
   | succ f =>
     rw[yI,if_pos h] at hq;subst hq;rfl
theorem XP(s:Rn)(hp:dY s.ah)(c:Nat)(hc:c<s.ah.length):∀(n a:Nat),a<n->a<s.ah.length->top s.ah a=top s.ah c->
 au XM (eT false (nI (top s.ah c)) (aX (zip true s c))) [0,0,1,1,0,1] (fr [(0,pR),(1,nI c),(5,nI a)]) (.ofList (aX s))
 | n,a,hn,ha,ht=>by
   refine aL aE (by kernel_rfl) 100 ?_;apply of_eq (q:=let q1:=(eT false (nI (↑(top s.ah c):Int)) (aX (zip true s c)));let q2:=decide (s.ah.getD ((0:Nat)+a) (0:Int)=(a:Int));let q3:=(ak.ofList [dO s 1 2 3,aO s,aB s.ah,aB s.dl]);((0:Int)<=(a:Int)/\(a:Int)<(s.ah.length:Int))/\(0:Nat)+a<s.ah.length/\(q2=true->au XM q1 [0,0,1,1,1,0,1] (fr [(0,aR 0 0),(1,nI (c:Int)),(5,nI (a:Int))]) q3)/\(q2=false->((0:Int)<=(a:Int)/\(a:Int)<(s.ah.length:Int))/\(0:Nat)+a<s.ah.length/\au XM q1 [0,0,1,1,0,1] (fr [(0,aR 0 0),(1,nI (c:Int)),(5,nI (s.ah.getD ((0:Nat)+a) (0:Int)))]) q3)) (by kernel_rfl)
   try simp only[sL]
   have h2:=hp.2 a ha;refine⟨by omega,ha,fun h=>?_,fun h=>⟨by omega,ha,?_⟩⟩;have e:a=top s.ah c:=by rw[<-ht,dz h]
   rw[e];exact XO s (top s.ah c) (cmp s.ah c) (c+1) c s.ah hp hc rfl (by omega) rfl;cases n with
   | zero=>omega
   | succ n =>
     have:=XP s hp c hc n (s.ah.getD a 0).toNat (by omega) (by omega) (by rw[<-iH hp ha h];exact ht);rw[<-fR h2.1] at this;exact this
theorem abp(s:Rn)(hp:dY s.ah)(c:Nat)(hc:c<s.ah.length):bn Tryz.prog 118 1 [pR,nI c] (aX s) (nI (top s.ah c)) (aX (zip true s c)):=by
 refine(lW (dies:=[]) (aj:=[([0,0,1,1,0,1],[0,1,5]),([0,0,1,1,1,0,1],[0,1,5])]) (bZ:=[]) (fz:=[]) aE Tryz.func118 (by kernel_rfl) 1 (by kernel_rfl) (b:=false) (v:=.int .i64 0) 100 ?_).1 rfl;apply of_eq (q:=au (jW Tryz.prog [] [] Tryz.f118 (1:Nat) [([0,0,1,1,0,1],[0,1,5]),([0,0,1,1,1,0,1],[0,1,5])] [] [] false (Value.int .i64 (0:Int))) (eT false (nI (↑(top s.ah c):Int)) (aX (zip true s c))) [0,0,1,1,0,1] (fr [(0,aR 0 0),(1,nI (c:Int)),(5,nI (c:Int))]) (ak.ofList [dO s 1 2 3,aO s,aB s.ah,aB s.dl])) (by kernel_rfl)
 try simp only[sL,Int.reduceEq,Int.reduceNe,Nat.reduceAdd]
 exact XP s hp c hc (c+1) c (by omega) hc rfl
def JM : bI := { refs := [true, false], keep := some 1, f := fun args ar => match args, ar with
 | [.p (.c (.ptr 0 0)),.p (.c (.int .i64 x))],[⟨t,[.c (.int .i64 w),.c (.int .i64 aq),.c (.sl a 0 nr 1),.c (.sl b 0 np 1),.c (.sl c 0 dn 1),.c (.int .i64 aj),.c (.int .i64 aF)]⟩,⟨t1,[.c (.th k af)]⟩,⟨t2,[.a 0 (.int .i64) ah]⟩,⟨t3,[.a 0 (.int .i64) dl]⟩] =>
   bif ab0 t 63&&(ab0 t1 22&&(ab0 t2 3&&(ab0 t3 3&&(ab0 a 1&&(ab0 b 2&&ab0 c 3))))) then some (.p ((nr=af.length/\np=ah.length/\k=w.toNat/\2*(w/2)=w)/\0<=x/\dY ah/\x.toNat<ah.length),nI (top ah x.toNat),
    [⟨t,[.c (.int .i64 w),.c (.int .i64 aq),.c (.sl a 0 nr 1),.c (.sl b 0 np 1),.c (.sl c 0 dn 1),.c (.int .i64 aj),.c (.int .i64 aF)]⟩,⟨t1,[.c (.th k af)]⟩,⟨t2,[.a 0 (.int .i64) (cmp ah x.toNat)]⟩,⟨t3,[.a 0 (.int .i64) dl]⟩]) else none
 | _,_=>none }
theorem Nl:aK Tryz.prog 118 JM:=by
 refine⟨by kernel_rfl,fun args ar c r aY e hc=>?_⟩;simp only[JM] at e;split at e;rename_i x t w aq a nr b np c' dn aj aF t1 k af t2 ah t3 dl;obtain⟨hb,e1⟩:=aA.aH e;clear e;simp only[ab6] at hb;obtain⟨h1,h2,h3,h4,h5,h6,h7⟩:=hb;cases abZ h1;cases abZ h2;cases abZ h3;cases abZ h4;cases abZ h5;cases abZ h6;cases abZ h7;cases e1;obtain⟨⟨rfl,rfl,rfl,hw⟩,hx,hp,hl⟩:=hc;have:=abp (nk w aq aj aF af ah dl dn) hp x.toNat hl;rw[<-fR hx] at this;simp only[aX,dO,aO,nk,zip,hw,cond_true,(oy hp hl).1] at this;exact this;cases e
def gMt:bN:=[(118,JM)]
theorem gMt_ok:bp Tryz.prog gMt:=av Nl aE
theorem TL(s:Rn)(hbr:Br s)(hp:dY s.ah)(a b:Nat)(ha:a<s.ah.length/\b<s.ah.length/\s.dn<=s.dl.length/\s.dn<=1000000/\0<=s.aj/\s.aj<=1000000):bn Tryz.prog 117 1 [pR,nI a,nI b] (aX s) (.aJ []) (aX (ct true s a b)):=by
 refine bJ (aj:=[]) (bZ:=[]) (fz:=[]) gMt_ok Tryz.func117 (by kernel_rfl) 1 (by kernel_rfl) 100 ?_;apply of_eq (q:=let q2:=(↑(top s.ah a):Int);let q3:=((2:Int)*s.g).toNat=((2:Int)*s.g).toNat/\(2:Int)*((2:Int)*s.g/2)=2*s.g;let q4:=(cmp s.ah a);let q1:=(↑(top q4 b):Int);((s.af.length=s.af.length/\s.ah.length=s.ah.length/\q3)/\(0:Int)<=(a:Int)/\dY s.ah/\a<s.ah.length)/\((s.af.length=s.af.length/\s.ah.length=q4.length/\q3)/\(0:Int)<=(b:Int)/\dY q4/\b<q4.length)/\(decide (q2=q1)=true->aD []=A.aJ []/\[dO s (1:Nat) (2:Nat) (3:Nat),aO s,aB (cmp q4 b),aB s.dl]=aX (ct true s a b))/\(decide (q2=q1)=false->((0:Int)<=max q2 q1/\max q2 q1<(s.ah.length:Int))/\(0:Nat)+(max q2 q1).toNat<(cmp q4 b).length/\(0:Nat)+1<=1/\((0:Nat)+s.dn<=s.dl.length/\(s.dn+1)*8<=140737488355328)/\aD []=A.aJ []/\[Ob.mk 63 [fI ((2:Int)*s.g),fI s.aq,fS 1 0 s.af.length,fS 2 0 s.ah.length,fS 3 0 (s.dn+1),fI (IntKind.i64.wrap (s.aj-1)),fI s.aF],aO s,aB ((cmp q4 b).set ((0:Nat)+(max q2 q1).toNat) (min q2 q1)),aB (ab7 s.dn (ab8 (0:Nat) s.dl)++ab7 (1:Nat) (ab8 (0:Nat) [max q2 q1]))]=aX (ct true s a b))) (by kernel_rfl)
 try simp only[sL,Nat.reduceAdd]
 obtain⟨ha,hb,h1,h2,h3,h4⟩:=ha;obtain⟨z1,z2,z3⟩:=oy hp ha;obtain⟨y1,y2,y3⟩:=oy z2 (a:=b) (by omega);have e0:ct true s a b=merge { s with ah:=cmp (cmp s.ah a) b } a b:=rfl;have tu:top (cmp (cmp s.ah a) b) a=top s.ah a:=(y3 a (by omega)).trans (z3 a ha);have tv:top (cmp (cmp s.ah a) b) b=top (cmp s.ah a) b:=y3 b (by omega);have lu:=fQ hp ha;have lv:=fQ z2 (a:=b) (by omega);have hbz:b<(cmp s.ah a).length:=by omega
 rw[e0];have m1:merge { s with ah:=cmp (cmp s.ah a) b } a b=if top (cmp (cmp s.ah a) b) a=top (cmp (cmp s.ah a) b) b then { s with ah:=cmp (cmp s.ah a) b } else { s with ah:=(cmp (cmp s.ah a) b).set (max (top (cmp (cmp s.ah a) b) a) (top (cmp (cmp s.ah a) b) b)) (min (top (cmp (cmp s.ah a) b) a) (top (cmp (cmp s.ah a) b) b):Nat),dl:=s.dl.take s.dn++[((max (top (cmp (cmp s.ah a) b) a) (top (cmp (cmp s.ah a) b) b):Nat):Int)],dn:=s.dn+1,aj:=s.aj-1 }:=rfl;rw[m1,tu,tv];clear e0 m1;generalize cmp (cmp s.ah a) b=z at *;generalize top s.ah a=u at *;generalize top (cmp s.ah a) b=v at *;have e1:(max (u:Int) (v:Int))=((max u v:Nat):Int):=by omega
 have e2:(min (u:Int) (v:Int))=((min u v:Nat):Int):=by omega
 rw[wrap64 (n:=s.aj-1) (by omega) (by omega),e1,e2,ab2];refine⟨⟨by omega,by omega,hp,ha⟩,⟨by omega,by omega,z2,hbz⟩,fun h=>⟨rfl,?_⟩,fun h=>⟨by omega,by omega,by omega,rfl,?_⟩⟩;rw[if_pos (by omega)];simp only[aX,dO,aO,y1,z1];rw[if_neg (by omega)];simp only[aX,dO,aO,acd,y1,z1]
abbrev l7(aj:Int)(ah dl:List Int)(dn:Nat):Rn:=⟨0,[],[],0,0,aj,0,0,0,0,[],ah,dl,dn⟩
theorem Qt(s:Rn)(a b:Nat):(ct true s a b).g=s.g/\(ct true s a b).aq=s.aq/\(ct true s a b).af=s.af/\(ct true s a b).aF=s.aF/\(ct true s a b).ah.length=(zip true (zip true s a) b).ah.length:=by
 unfold ct merge;split;exact⟨rfl,rfl,rfl,rfl,rfl⟩;exact⟨rfl,rfl,rfl,rfl,by simp only[acd]⟩
theorem Qu(s:Rn)(a b:Nat):(ct true s a b).ah=(ct true (l7 s.aj s.ah s.dl s.dn) a b).ah/\(ct true s a b).dl=(ct true (l7 s.aj s.ah s.dl s.dn) a b).dl/\(ct true s a b).dn=(ct true (l7 s.aj s.ah s.dl s.dn) a b).dn/\(ct true s a b).aj=(ct true (l7 s.aj s.ah s.dl s.dn) a b).aj:=by
 unfold ct merge;by_cases h:top (zip true (zip true s a) b).ah a=top (zip true (zip true s a) b).ah b;rw[if_pos h,if_pos (show top (zip true (zip true (l7 s.aj s.ah s.dl s.dn) a) b).ah a=top (zip true (zip true (l7 s.aj s.ah s.dl s.dn) a) b).ah b from h)];exact⟨rfl,rfl,rfl,rfl⟩;rw[if_neg h,if_neg (show ¬top (zip true (zip true (l7 s.aj s.ah s.dl s.dn) a) b).ah a=top (zip true (zip true (l7 s.aj s.ah s.dl s.dn) a) b).ah b from h)];exact⟨rfl,rfl,rfl,rfl⟩
theorem GF(Z:Rn){x y:Nat}(hp:dY Z.ah)(hx:x<Z.ah.length)(hy:y<Z.ah.length):aX (ct true Z x y)=[⟨63,[.c (.int .i64 (2*Z.g)),.c (.int .i64 Z.aq),.c (.sl 1 0 Z.af.length 1),.c (.sl 2 0 Z.ah.length 1),.c (.sl 3 0 (ct true (l7 Z.aj Z.ah Z.dl Z.dn) x y).dn 1),.c (.int .i64 (ct true (l7 Z.aj Z.ah Z.dl Z.dn) x y).aj),.c (.int .i64 Z.aF)]⟩,aO Z,aB (ct true (l7 Z.aj Z.ah Z.dl Z.dn) x y).ah,aB (ct true (l7 Z.aj Z.ah Z.dl Z.dn) x y).dl]:=by
 obtain⟨q1,q2,q3,q4,q5⟩:=Qt Z x y;obtain⟨p1,p2,p3,p4⟩:=Qu Z x y;have hlen:(zip true (zip true Z x) y).ah.length=Z.ah.length:=by
  obtain⟨z1,z2,z3⟩:=oy hp hx;exact(oy z2 (a:=y) (by omega)).1.trans z1
 rw[hlen] at q5;simp only[aX,dO,aO,q1,q2,q3,q4,q5,p2,p3,p4];rw[p1]
def GH : bI := { refs := [true, false, false], keep := some 1, f := fun args ar => match args, ar with
 | [.p (.c (.ptr 0 0)),.p (.c (.int .i64 x)),.p (.c (.int .i64 y))],[⟨t,[.c (.int .i64 w),.c (.int .i64 aq),.c (.sl a 0 nr 1),.c (.sl b 0 np 1),.c (.sl c 0 dn 1),.c (.int .i64 aj),.c (.int .i64 aF)]⟩,⟨t1,[.c (.th k af)]⟩,⟨t2,[.a 0 (.int .i64) ah]⟩,⟨t3,[.a 0 (.int .i64) dl]⟩] =>
   bif ab0 t 63&&(ab0 t1 22&&(ab0 t2 3&&(ab0 t3 3&&(ab0 a 1&&(ab0 b 2&&ab0 c 3))))) then some (.p ((nr=af.length/\np=ah.length/\k=w.toNat/\2*(w/2)=w)/\0<=x/\0<=y/\dY ah/\x.toNat<ah.length/\y.toNat<ah.length/\dn<=dl.length/\dn<=1000000/\0<=aj/\aj<=1000000),.aJ [],
    [⟨t,[.c (.int .i64 w),.c (.int .i64 aq),.c (.sl a 0 nr 1),.c (.sl b 0 np 1),.c (.sl c 0 (ct true (l7 aj ah dl dn) x.toNat y.toNat).dn 1),.c (.int .i64 (ct true (l7 aj ah dl dn) x.toNat y.toNat).aj),.c (.int .i64 aF)]⟩,⟨t1,[.c (.th k af)]⟩,⟨t2,[.a 0 (.int .i64) (ct true (l7 aj ah dl dn) x.toNat y.toNat).ah]⟩,⟨t3,[.a 0 (.int .i64) (ct true (l7 aj ah dl dn) x.toNat y.toNat).dl]⟩]) else none
 | _,_=>none }
theorem TM:aK Tryz.prog 117 GH:=by
 refine⟨by kernel_rfl,fun args ar c r aY e hc=>?_⟩;simp only[GH] at e;split at e;rename_i x y t w aq a nr b np c' dn aj aF t1 k af t2 ah t3 dl;obtain⟨hb,e1⟩:=aA.aH e;clear e;simp only[ab6] at hb;obtain⟨h1,h2,h3,h4,h5,h6,h7⟩:=hb;cases abZ h1;cases abZ h2;cases abZ h3;cases abZ h4;cases abZ h5;cases abZ h6;cases abZ h7;cases e1;obtain⟨⟨rfl,rfl,rfl,hw⟩,hx,hy,hp,hl,hl2,g1,g2,g3,g4⟩:=hc;have:=TL (nk w aq aj aF af ah dl dn) ⟨rfl,rfl,rfl,rfl,rfl,rfl⟩ hp x.toNat y.toNat ⟨hl,hl2,g1,g2,g3,g4⟩;rw[<-fR hx,<-fR hy] at this;obtain⟨q1,q2,q3,q4,q5⟩:=Qt (nk w aq aj aF af ah dl dn) x.toNat y.toNat;obtain⟨p1,p2,p3,p4⟩:=Qu (nk w aq aj aF af ah dl dn) x.toNat y.toNat;have hlen:(zip true (zip true (nk w aq aj aF af ah dl dn) x.toNat) y.toNat).ah.length=ah.length:=by
  obtain⟨z1,z2,z3⟩:=oy hp hl;exact(oy z2 (a:=y.toNat) (by omega)).1.trans z1
 rw[hlen] at q5;simp only[aX,dO,aO,q1,q2,q3,q4,q5,p2,p3,p4] at this;rw[p1] at this;simp only[nk,hw] at this;exact this;cases e
theorem XQ{s:Rn}(T:cH s){e c:Nat}(he:e<s.af.length)(hc:c<(2*s.g).toNat):cH (kg true s e c)/\(kg true s e c).af.length=s.af.length/\(kg true s e c).g=s.g/\Keep s (kg true s e c):=by
 obtain⟨T1,h1,h2⟩:=T.cell he hc;have S:=(Sd.refl T).cell true T he hc;obtain⟨p,d,e1,S1,e2⟩:=S;have S:Sd (cell s e c) (kg true s e c):=⟨p,d,e1,S1,e2⟩;exact⟨S.tab T1,by rw[S.af];exact h1,by rw[S.g];exact h2,(Iq s e c).trans (Sd.keep S)⟩
def gCt:bN:=[(118,JM),(117,GH),(81,AV)]
theorem Nn:bp Tryz.prog gCt:=av Nl (av TM (av AW aE))
abbrev Np:List (List Nat×List Nat):=[([0,1,1,1],[0,6]),([0,1,1,0,0,1,0,0,1,1,1],[0,6,7,43,44])]
def Fv:Site:=bD Tryz.prog gCt Tryz.f98 1 Np [] []
theorem Nq(s0:Rn)(k e G:Nat):∀(n c:Nat)(s:Rn),cH s->Br s->(2*s.g).toNat=G->e<s.af.length->c+n=G->k<1000000->
 au Fv (aC (.aJ []) (aX s0)) [0,1,1,1] (fr [(0,pR),(6,nI (k+1:Nat))]) (.ofList (aX (lF true e n c s)))->
 au Fv (aC (.aJ []) (aX s0)) [0,1,1,0,0,1,0,0,1,1,1] (fr [(0,pR),(6,nI k),(7,nI e),(43,nI G),(44,nI c)]) (.ofList (aX s))
 | n,c,s,T,hb,hG,he,hn,hk,hout=>by
   refine aL Nn (by kernel_rfl) 100 ?_;apply of_eq (q:=let q0:=IntKind.i64.wrap;let q6:=((2:Int)*s.g);let q8:=(cmp s.ah e);let q9:=q6.toNat=q6.toNat/\(2:Int)*((2:Int)*s.g/2)=2*s.g;let bF:=(0:Int);let d9:=(↑(top s.ah e):Int);let dP:=(0:Nat);let kV:=(s.af.length:Int);let lM:=Ob.mk 63 [fI q6,fI s.aq,fS 1 0 s.af.length,fS 2 0 s.ah.length,fS 3 0 s.dn,fI s.aj,fI s.aF];let jA:=(↑q6.toNat:Int);let kr:=[0,1,1,0,0,1,0,0,1,1,1];let yX:=s.dn<=s.dl.length/\s.dn<=1000000/\bF<=s.aj/\s.aj<=1000000;let oh:=(c:Int);let E8:=dP+e<s.af.length;let q3:=(↑(BitVec.ofInt (64:Nat) oh ^^^ BitVec.ofInt (64:Nat) (1:Int)).toNat:Int);let q7:=(fr [(0,aR 0 0),(6,nI (k:Int)),(7,nI (e:Int)),(43,nI (G:Int)),(44,nI (q0 (oh+1)))]);let aU:=(ak.ofList [lM,Ob.mk 22 [Fd.c (W.th q6.toNat s.af)],Ob.mk 3 [Fd.a 0 (D.int .i64) s.ah],Ob.mk 3 [Fd.a 0 (D.int .i64) s.dl]]);let bC:=(s.af.getD (dP+e) []);let eW:=(q0 q3);let nP:=(s.af.set (dP+e) (bC.set c (-1:Int)));let q2:=(bC.getD c bF);let cK:=(↑(top q8 q2.toNat):Int);let cU:=(cmp q8 q2.toNat);let q31:=s.ah.length=cU.length/\q9;let q1:=(nP.set (dP+q2.toNat) ((nP.getD (dP+q2.toNat) []).set eW.toNat (-1:Int)));let cA:=(q1.getD (dP+top q8 q2.toNat) []);let eC:=(q1.getD (dP+top s.ah e) []);let jB:=dP+top q8 q2.toNat<q1.length;let gL:=s.af.length=q1.length;let mU:=dP+top s.ah e<q1.length;let q4:=(ct true (l7 s.aj cU s.dl s.dn) (cA.getD eW.toNat bF).toNat (top s.ah e));let q5:=(ct true (l7 s.aj cU s.dl s.dn) (eC.getD c bF).toNat (top q8 q2.toNat));(decide (oh<(G:Int))=true->(bF<=(e:Int)/\(e:Int)<kV)/\E8/\(bF<=oh/\oh<jA)/\(E8/\c<q6.toNat)/\(decide (bC.getD c bF<0)=true->au Fv (aC (A.aJ []) (aX s0)) kr q7 aU)/\(decide (bC.getD c bF<0)=false->(bF<=(e:Int)/\(e:Int)<kV)/\E8/\(bF<=bC.getD c bF/\bC.getD c bF<kV)/\dP+q2.toNat<s.af.length/\(bF<=oh/\oh<jA)/\(E8/\c<q6.toNat)/\(bF<=q0 q3/\q0 q3<jA)/\(dP+q2.toNat<nP.length/\eW.toNat<q6.toNat)/\((gL/\s.ah.length=s.ah.length/\q9)/\bF<=(e:Int)/\dY s.ah/\e<s.ah.length)/\((gL/\s.ah.length=q8.length/\q9)/\bF<=bC.getD c bF/\dY q8/\q2.toNat<q8.length)/\(bF<=d9/\d9<kV)/\mU/\(bF<=oh/\oh<jA)/\(mU/\c<q6.toNat)/\(decide (bF<=eC.getD c bF)=true->(bF<=d9/\d9<kV)/\mU/\(bF<=oh/\oh<jA)/\(mU/\c<q6.toNat)/\((gL/\q31)/\bF<=eC.getD c bF/\bF<=cK/\dY cU/\(eC.getD c bF).toNat<cU.length/\top q8 q2.toNat<cU.length/\yX)/\au Fv (aC (A.aJ []) (aX s0)) kr q7 (ak.ofList [Ob.mk 63 [fI q6,fI s.aq,fS 1 0 s.af.length,fS 2 0 s.ah.length,fS 3 0 q5.dn,fI q5.aj,fI s.aF],Ob.mk 22 [Fd.c (W.th q6.toNat q1)],Ob.mk 3 [Fd.a 0 (D.int .i64) q5.ah],Ob.mk 3 [Fd.a 0 (D.int .i64) q5.dl]]))/\(decide (bF<=eC.getD c bF)=false->(bF<=cK/\cK<kV)/\jB/\(bF<=q0 q3/\q0 q3<jA)/\(jB/\eW.toNat<q6.toNat)/\(decide (bF<=cA.getD eW.toNat bF)=true->(bF<=cK/\cK<kV)/\jB/\(bF<=q0 q3/\q0 q3<jA)/\(jB/\eW.toNat<q6.toNat)/\((gL/\q31)/\bF<=cA.getD eW.toNat bF/\bF<=d9/\dY cU/\(cA.getD eW.toNat bF).toNat<cU.length/\top s.ah e<cU.length/\yX)/\au Fv (aC (A.aJ []) (aX s0)) kr q7 (ak.ofList [Ob.mk 63 [fI q6,fI s.aq,fS 1 0 s.af.length,fS 2 0 s.ah.length,fS 3 0 q4.dn,fI q4.aj,fI s.aF],Ob.mk 22 [Fd.c (W.th q6.toNat q1)],Ob.mk 3 [Fd.a 0 (D.int .i64) q4.ah],Ob.mk 3 [Fd.a 0 (D.int .i64) q4.dl]]))/\(decide (bF<=cA.getD eW.toNat bF)=false->((gL/\q31)/\bF<=d9/\bF<=oh/\bF<=cK/\top s.ah e<q1.length/\top q8 q2.toNat<q1.length/\c<q6.toNat/\(2:Int)*s.g<=32)/\au Fv (aC (A.aJ []) (aX s0)) kr q7 (ak.ofList [lM,Ob.mk 22 [Fd.c (W.th q6.toNat (eJ (eJ q1 (top s.ah e) c cK) (top q8 q2.toNat) (bQ c) d9))],Ob.mk 3 [Fd.a 0 (D.int .i64) cU],Ob.mk 3 [Fd.a 0 (D.int .i64) s.dl]])))))/\(decide (oh<(G:Int))=false->au Fv (aC (A.aJ []) (aX s0)) [0,1,1,1] (fr [(0,aR 0 0),(6,nI (q0 ((k:Int)+1)))]) aU)) (by kernel_rfl)
   try simp only[sL]
   have hg:=T.g2;have ko:=T.g1;have hl:=T.len;have hp:=T.ah.1;have hal:=rz s.ah;have hlv:=T.aj;have hsum:=T.sum;have V9:=T.dy;have hpar:=T.ah;rw[wrap64 (n:=(c:Int)+1) (by omega) (by omega),wrap64 (n:=(k:Int)+1) (by omega) (by omega)];refine⟨fun h=>?_,fun h=>?_⟩
   . have hc:c<G:=by omega
     obtain⟨T1,l1,g1,k1⟩:=XQ T he (by omega:c<(2*s.g).toNat);cases n with
     | zero=>omega
     | succ n =>
     have ih:=Nq s0 k e G n (c+1) (kg true s e c) T1 (hb.keep k1) (by rw[g1];exact hG) (by omega) (by omega) hk hout;have hr:=dM T.row he (by omega:c<(2*s.g).toNat);have hfl:=T.flip (by omega:c<(2*s.g).toNat);rw[qN c (by omega)];simp only[ab2,kC,Lr];refine⟨by omega,by omega,by omega,by omega,fun hd=>?_,fun hd=>?_⟩;rw[kg,if_pos hd] at ih;exact ih;have hdr:(aZ s.af e c).toNat<s.af.length:=by omega
     have T2:cH (ck s e c):=T.dead (c:=c) he hdr;have hlen:(ck s e c).af.length=s.af.length:=by unfold ck;simp only[cM]
     have pu:=fQ hpar (show e<s.ah.length by omega);have pv:=fQ hpar (show (aZ s.af e c).toNat<s.ah.length by omega);have r1:=dM T2.row (a:=top s.ah e) (c:=c) (by omega) (by show c<(2*s.g).toNat;omega);have r2:=dM T2.row (a:=top s.ah (aZ s.af e c).toNat) (c:=bQ c) (by omega) hfl;rw[hlen] at r1 r2;obtain⟨z1,z2,z3⟩:=oy hpar (show e<s.ah.length by omega);obtain⟨y1,y2,y3⟩:=oy z2 (a:=(aZ s.af e c).toNat) (by omega);rw[z3 _ (by omega)];rw[kg,if_neg (by omega),lE] at ih;have hT:(ck s e c).af=eJ (eJ s.af e c (-1)) (aZ s.af e c).toNat (bQ c) (-1):=rfl;have hZ:(zip true (zip true (ck s e c) e) (aZ s.af e c).toNat).af=eJ (eJ s.af e c (-1)) (aZ s.af e c).toNat (bQ c) (-1):=rfl;have hZp:(zip true (zip true (ck s e c) e) (aZ s.af e c).toNat).ah=cmp (cmp s.ah e) (aZ s.af e c).toNat:=rfl;have Cj:(zip true (zip true (ck s e c) e) (aZ s.af e c).toNat).ah.length=s.ah.length:=y1.trans z1;rw[hZ] at ih;rw[hT] at r1 r2;simp only[cM];rw[y1,z1,hl];have hw2:2*(2*s.g/2)=2*s.g:=by omega
     refine⟨by omega,by omega,by omega,by omega,by omega,by omega,by omega,by omega,⟨⟨trivial,hw2⟩,by omega,hpar,by omega⟩,⟨⟨trivial,rfl,hw2⟩,by omega,z2,by omega⟩,by omega,by omega,by omega,by omega,fun h1=>⟨by omega,by omega,by omega,by omega,⟨⟨trivial,rfl,hw2⟩,by omega,by omega,y2,by omega⟩,?_⟩,fun h1=>⟨by omega,by omega,by omega,by omega,fun h2=>⟨by omega,by omega,by omega,by omega,⟨⟨trivial,rfl,hw2⟩,by omega,by omega,y2,by omega⟩,?_⟩,fun h2=>⟨⟨⟨trivial,rfl,hw2⟩,by omega⟩,?_⟩⟩⟩;rw[if_pos h1,GF _ y2 (by rw[Cj];omega) (by rw[Cj];omega),Cj,hl,hZ] at ih;simp only[cM] at ih;exact ih;rw[if_neg (by omega),if_pos h2,GF _ y2 (by rw[Cj];omega) (by rw[Cj];omega),Cj,hl,hZ] at ih;simp only[cM] at ih;exact ih;rw[if_neg (by omega),if_neg (by omega)] at ih;simp only[aX,dO,aO,join,hZ,hZp,y1,z1,hl,cM] at ih;exact ih
   rw[show n=0 by omega,lF] at hout;exact hout
theorem Nr(s0:Rn)(G:Nat):∀(f k:Nat)(s:Rn),cH s->Br s->(2*s.g).toNat=G->s0=l6 true G f k s->f+k=s.af.length+1->0<s.af.length->
 au Fv (aC (.aJ []) (aX s0)) [0,1,1,1] (fr [(0,pR),(6,nI k)]) (.ofList (aX s))
 | f, k, s, T, hb, hG, h0, hf, hn => by
   have hout:=fun(h0:0<f) h1 h2 h3=>Nr s0 G (f-1) (k+1) (lF true (s.dl.getD k 0).toNat G 0 s) h1 h2 h3;refine aL Nn (by kernel_rfl) 100 ?_;apply of_eq (q:=let q1:=Ob.mk 63 [fI ((2:Int)*s.g),fI s.aq,fS 1 0 s.af.length,fS 2 0 s.ah.length,fS 3 0 s.dn,fI s.aj,fI s.aF];let q2:=Ob.mk 22 [Fd.c (W.th ((2:Int)*s.g).toNat s.af)];(decide ((k:Int)<(s.dn:Int))=true->((0:Int)<=(k:Int)/\(k:Int)<(s.dn:Int))/\(0:Nat)+k<s.dl.length/\au Fv (aC (A.aJ []) (aX s0)) [0,1,1,0,0,1,0,0,1,1,1] (fr [(0,aR 0 0),(6,nI (k:Int)),(7,nI (s.dl.getD ((0:Nat)+k) (0:Int))),(43,nI ((2:Int)*s.g)),(44,nI (0))]) (ak.ofList [q1,q2,Ob.mk 3 [Fd.a 0 (D.int .i64) s.ah],Ob.mk 3 [Fd.a 0 (D.int .i64) s.dl]]))/\(decide ((k:Int)<(s.dn:Int))=false->aD []=A.aJ []/\[q1,q2,Ob.mk 3 [Fd.a 0 (D.int .i64) s.ah],Ob.mk 3 [Fd.a 0 (D.int .i64) s.dl]]=aX s0)) (by kernel_rfl)
   try simp only[sL,Nat.reduceAdd]
   have hl:=T.len;have hp:=T.ah.1;have hal:=Ad T.ah (by omega);have hsum:=T.sum;have V9:=T.dy;refine⟨fun h=>?_,fun h=>?_⟩
   . have hd:=T.dx _ (fB (l:=s.dl) (a:=k) (by omega));have S:=(Sd.refl T).cells true (e:=(s.dl.getD k 0).toNat) G 0 T (by omega) (by omega);obtain⟨T1,h1,h2⟩:=cH.cells G 0 T (show (s.dl.getD k 0).toNat<s.af.length by omega) (by omega);refine⟨by omega,by omega,?_⟩;cases f with
     | zero=>omega
     | succ f =>
     rw[l6,if_pos (by omega)] at h0;have:=Nq s0 k (s.dl.getD k 0).toNat G G 0 s T hb hG (by omega) (by omega) (by omega) (hout (by omega) (S.tab T1) (hb.keep ((x5 _ _ _ _).trans (Sd.keep S))) (by rw[S.g,h2];exact hG) h0 (by rw[S.af,h1];omega) (by rw[S.af];omega));rw[<-fR hd.1,<-hG] at this;rw[show ((2*s.g).toNat:Int)=2*s.g by have:=T.g1;omega] at this;exact this
   have:l6 true G f k s=s:=by
    cases f with
    | zero=>rfl
    | succ f=>rw[l6,if_neg (by omega)]
   rw[this] at h0;rw[h0];exact⟨rfl,rfl⟩
 termination_by f=>f
 decreasing_by omega
theorem XR(s:Rn)(a b:Nat)(hb:Br s)(T:cH { s with dn:=0 })(ha:a<s.af.length)(qp:b<s.af.length):bn Tryz.prog 98 1 [pR,nI a,nI b] (aX s) (.aJ []) (aX (eZ true s a b)):=by
 refine bJ (aj:=Np) (bZ:=[]) (fz:=[]) Nn Tryz.func98 (by kernel_rfl) 1 (by kernel_rfl) 100 ?_;apply of_eq (q:=let q1:=(ct true (l7 s.aj s.ah s.dl (0:Nat)) a b);((0:Int)<=0/\(0:Int)<=0/\(0:Int)<=(s.dn:Int))/\((s.af.length=s.af.length/\s.ah.length=s.ah.length/\((2:Int)*s.g).toNat=((2:Int)*s.g).toNat/\(2:Int)*((2:Int)*s.g/2)=2*s.g)/\(0:Int)<=(a:Int)/\(0:Int)<=(b:Int)/\dY s.ah/\a<s.ah.length/\b<s.ah.length/\(0:Nat)<=s.dl.length/\(0:Nat)<=1000000/\(0:Int)<=s.aj/\s.aj<=1000000)/\au (bD Tryz.prog gCt Tryz.f98 (1:Nat) Np [] []) (aC (A.aJ []) (aX (eZ true s a b))) [0,1,1,1] (fr [(0,aR 0 0),(6,nI (0))]) (ak.ofList [Ob.mk 63 [fI ((2:Int)*s.g),fI s.aq,fS 1 0 s.af.length,fS 2 0 s.ah.length,fS 3 0 q1.dn,fI q1.aj,fI s.aF],Ob.mk 22 [Fd.c (W.th ((2:Int)*s.g).toNat s.af)],Ob.mk 3 [Fd.a 0 (D.int .i64) q1.ah],Ob.mk 3 [Fd.a 0 (D.int .i64) q1.dl]])) (by kernel_rfl)
 try simp only[sL]
 have hl:=T.len;have hp:=T.ah;have hal:=rz s.ah;have hlv:s.aj=(al s.ah:Nat):=T.aj;have hlen:=hp.1;have hl:s.ah.length=s.af.length:=hl;have hpp:dY s.ah:=hp;have hll:s.ah.length<=1000000:=hlen;have hm:=lK { s with dn:=0 } a b;have S:=Sd.ct true T (Sd.refl T) ha qp;have T1:=S.tab (T.merge ha qp);have hbr:Br (ct true { s with dn:=0 } a b):=Br.keep (s:={ s with dn:=0 }) hb ((sN _ _ _).trans (Sd.keep S));have:=Nr (eZ true s a b) (2*s.g).toNat (s.af.length+1) 0 _ T1 hbr (by rw[S.g,hm.2]) (by unfold eZ;rfl) (by rw[S.af,hm.1]) (by rw[S.af,hm.1];exact Nat.lt_of_le_of_lt (ace a) ha);rw[GF { s with dn:=0 } hpp (show a<s.ah.length by omega) (show b<s.ah.length by omega)] at this;exact⟨by omega,⟨by omega,by omega,by omega,hpp,by omega,by omega,ace _,ace _,by omega,by omega⟩,this⟩
def XS:bI:=TI fun r a b=>(br r/\a<r.af.length/\b<r.af.length,.aJ [],eZ true r a b)
theorem XT:aK Tryz.prog 98 XS:=abm (by kernel_rfl) fun r a b hb h=>XR r a b hb h.1 h.2.1 h.2.2
def gSt:bN:=[(97,cColT),(98,XS),(81,AV)]
theorem Ns:bp Tryz.prog gSt:=av abo (av XT (av AW aE))
abbrev Nt:List (List Nat×List Nat):=[([0,0,1,1],[0,1,2,6,9]),([0,0,1,1,1,1,1],[0,2,6,9,10,11])]
def XU:Site:=bD Tryz.prog gSt Tryz.f80 1 Nt [] []
theorem XV(s : Rn)(a : Nat)(w : List Int)(x : Rn × Nat × Nat × Bool)(T : br s)(hbr : Br s)(hw : Wd s.g w)(f i : Nat)(hf : f < s.af.length)(hi : i < w.length) : ∀(n b j : Nat), j ≤ i + n → i ≤ j → j ≤ w.length → b < s.af.length → x = ox true s a w f i (gi s.af w i n b j).1 (gi s.af w i n b j).2 →
 au XU (aC (lN x) (aX x.1)) [0,0,1,1,1,1,1] (fr [(0,pR),(2,bw w),(6,nI f),(9,nI i),(10,nI b),(11,nI ((j:Int)-1))]) (.ofList (aX s))
 | n, b, j, hn, hij, hj, hb, hx => by
   refine aL Ns (by kernel_rfl) 100 ?_;apply of_eq (q:=let q0:=IntKind.i64.wrap;let q5:=(0:Nat)+b<s.af.length;let q6:=(0:Int);let q7:=((2:Int)*s.g);let q9:=(R1.pure (Cd.t.and Cd.t) (aS 1 0 s.af.length));let bC:=s.ah.length=s.ah.length/\q7.toNat=q7.toNat/\(2:Int)*((2:Int)*s.g/2)=2*s.g;let cA:=(Rn.mk ((2:Int)*s.g/2) [] [] s.aq s.aF s.aj q6 q6 q6 q6 s.af s.ah s.dl s.dn);let cK:=(j:Int);let eC:=(i:Int);let d9:=(-1000:Int)<=w.getD i q6/\w.getD i q6<=1000;let q1:=decide (eC<=cK-1)=true;let q2:=(eZ true cA f b);let q3:=(q6-w.getD (cK-1).toNat q6);let q4:=(W.row (1:Nat) ((0:Nat)+b) q7.toNat);let q8:=(q0 q3);let aU:=(R1.pure (Cd.t.and (Cd.p (q5))) (aP q4));let bF:=A.cond (q1) (V.c (W.sl 1 0 s.af.length 1))=A.cond (q1) (V.c (W.sl 1 0 s.af.length 1));let cU:=decide (q6<=(s.af.getD ((0:Nat)+b) []).getD (bT q8).toNat q6);let eW:=(-1000:Int)<=q0 q3/\q0 q3<=1000;(q1->q1)/\(q1->q1)/\(q1->q1)/\(q1->q1)/\(q1->q1)/\(q1->q6<=(b:Int)/\(b:Int)<(s.af.length:Int))/\(q1->q1)/\(q1->q5)/\(q1->q1)/\(q1->q1)/\(q1->q6<=cK-1/\cK-1<(w.length:Int))/\(q1->q1)/\(q1->(cK-1).toNat<w.length)/\(q1->q1)/\(q1->q1)/\(q1->q0 q3≠q6/\eW)/\(q1->q1)/\(q1->q1)/\(q1->q6<=bT q8/\bT q8<(↑q7.toNat:Int))/\(q1->q1)/\(q1->q5/\(bT q8).toNat<q7.toNat)/\(q1->q1)/\(q1->q1)/\(q1->q1)/\bF/\(q1->q1)/\bF/\(q1->q1)/\(q1->q5)/\A.cond (q1) (V.c q4)=A.cond (q1) (V.c q4)/\(q1->q1)/\(q1->q5)/\A.cond (q1) (V.c q4)=A.cond (q1) (V.c q4)/\((bif decide (eC<=cK-1) then cU else false)=true->(q6<=(b:Int)/\(b:Int)<(s.af.length:Int))/\q5/\(q6<=cK-1/\cK-1<(w.length:Int))/\(cK-1).toNat<w.length/\(q0 q3≠q6/\eW)/\(q6<=bT q8/\bT q8<(↑q7.toNat:Int))/\(q5/\(bT q8).toNat<q7.toNat)/\q9.v=q9.v/\q9.v=q9.v/\q5/\aU.v=aU.v/\q5/\aU.v=aU.v/\au XU (aC (lN x) (aX x.fst)) [0,0,1,1,1,1,1] (fr [(0,aR 0 0),(2,bw w),(6,nI (f:Int)),(9,nI eC),(10,nI ((s.af.getD ((0:Nat)+b) []).getD (bT q8).toNat q6)),(11,nI (q0 (cK-1-1)))]) (ak.ofList [dO s 1 2 3,aO s,aB s.ah,aB s.dl]))/\((bif decide (eC<=cK-1) then cU else false)=false->(decide (cK-1<eC)=true->((s.af.length=s.af.length/\bC)/\q6<=(f:Int)/\q6<=(b:Int)/\br cA/\f<s.af.length/\b<s.af.length)/\aD [vI (0),vI (0),vB false]=lN x/\[Ob.mk 63 [fI ((2:Int)*q2.g),fI q2.aq,fS 1 0 q2.af.length,fS 2 0 q2.ah.length,fS 3 0 q2.dn,fI q2.aj,fI q2.aF],aO q2,aB (q2.ah),aB (q2.dl)]=aX x.fst)/\(decide (cK-1<eC)=false->(decide (cK-1=eC)=true->(q6<=eC/\eC<(w.length:Int))/\i<w.length/\(w.getD i q6≠q6/\d9)/\((s.af.length=s.af.length/\bC)/\q6<=(f:Int)/\q6<=bT (w.getD i q6)/\q6<=(b:Int)/\f<s.af.length/\b<s.af.length/\(bT (w.getD i q6)).toNat<q7.toNat/\(2:Int)*s.g<=32)/\aD [vI (0),vI (0),vB false]=lN x/\[dO s (1:Nat) (2:Nat) (3:Nat),Ob.mk 22 [Fd.c (W.th q7.toNat (eJ (eJ s.af f (bT (w.getD i q6)).toNat (b:Int)) b (bQ (bT (w.getD i q6)).toNat) (f:Int)))],aB s.ah,aB s.dl]=aX x.fst)/\(decide (cK-1=eC)=false->(q6<=eC/\eC<(w.length:Int))/\i<w.length/\(w.getD i q6≠q6/\d9)/\aD [vI (f:Int),vI (bT (w.getD i q6)),vB true]=lN x/\[Ob.mk 63 [fI q7,fI s.aq,fS 1 0 s.af.length,fS 2 0 s.ah.length,fS 3 0 s.dn,fI s.aj,fI s.aF],aO s,aB s.ah,aB s.dl]=aX x.fst)))) (by kernel_rfl)
   try simp only[sL,Nat.reduceAdd]
   have ko:1<=s.g:=T.g1;have kT:s.g<=16:=T.g2;have BU:=hw.1;simp only[un hbr];have hwj:=hw.any (by omega) (j-1);rw[show ((j:Int)-1).toNat=j-1 by omega,wrap64 (n:=0-w.getD (j-1) 0) (by omega) (by omega),wrap64 (n:=(j:Int)-1-1) (by omega) (by omega),Int.zero_sub];simp only[kC];have hc:(i:Int)<=(j:Int)-1->w.getD (j-1) 0≠0/\0<=bT (- w.getD (j-1) 0)/\bT (- w.getD (j-1) 0)<2*s.g:=fun h=>by
    have hg:=hw.get (show j-1<w.length by omega);exact⟨hg.1,iq (by omega)⟩
   have hat:(i:Int)<=(j:Int)-1->-1<=aZ s.af b (bT (- w.getD (j-1) 0)).toNat/\aZ s.af b (bT (- w.getD (j-1) 0)).toNat<s.af.length:=fun h=>by
    have:=hc h;exact T.at hb (by omega)
   have Wc:=iq (hw.get hi);have OX:=hw.get hi;refine⟨fun h=>by omega,fun h=>by omega,fun h=>by omega,fun h=>by omega,fun h=>by have:=hc h;omega,fun h=>by have:=hc h;omega,fun h=>by have:=hc h;omega,fun h=>by omega,fun h=>by omega,fun h=>?_,fun h=>?_⟩
   . have hcc:=hc h.1;have haa:=hat h.1;refine⟨by omega,by omega,by omega,by omega,by omega,by omega,by omega,by omega,by omega,?_⟩;cases n with
     | zero=>omega
     | succ n =>
       rw[gi,if_pos ⟨by omega,h.2⟩] at hx;have:=XV s a w x T hbr hw f i hf hi n _ (j-1) (by omega) (by omega) (by omega) (by omega) hx;rw[<-fR h.2,show ((j-1:Nat):Int)-1=(j:Int)-1-1 by omega] at this;exact this
   have hb0:gi s.af w i n b j=(b,j):=by
    cases n with
    | zero=>rfl
    | succ n =>
      rw[gi,if_neg];rintro⟨h1,h2⟩;have:=h (by omega);omega
   rw[hb0] at hx;have kU:x=ox true s a w f i b j:=hx;clear hx;unfold ox at kU;rw[if_neg (by omega)] at kU;refine⟨fun h1=>⟨⟨by omega,by omega,by omega,T,hf,hb⟩,?_⟩,fun h1=>⟨fun h2=>⟨by omega,by omega,by omega,by omega,?_⟩,fun h2=>⟨by omega,by omega,by omega,?_⟩⟩⟩;rw[if_pos (by omega)] at kU;subst kU;exact⟨rfl,rfl⟩;rw[if_neg (by omega),if_pos (by omega)] at kU;subst kU;simp only[aX,dO,aO,join,cM];exact⟨rfl,trivial⟩;rw[if_neg (by omega),if_neg (by omega)] at kU;subst kU;simp only[lN];rw[<-fR Wc.1];exact⟨rfl,trivial⟩
theorem XW(s : Rn)(w : List Int)(x : Rn × Nat × Nat × Bool)(T : br s)(hbr : Br s)(hw : Wd s.g w)(b : Nat)(hb : b < s.af.length) : ∀(n f i : Nat), w.length ≤ i + n → i ≤ w.length → f < s.af.length → x = Fp true s b w (eD s.af w n f i).1 (eD s.af w n f i).2 →
 au XU (aC (lN x) (aX x.1)) [0,0,1,1] (fr [(0,pR),(1,nI b),(2,bw w),(6,nI f),(9,nI i)]) (.ofList (aX s))
 | n, f, i, hn, hi, hf, hx => by
   refine aL Ns (by kernel_rfl) 100 ?_;apply of_eq (q:=let q4:=(0:Nat)+f<s.af.length;let q5:=(0:Int);let q6:=(R1.pure (Cd.t.and Cd.t) (aS 1 0 s.af.length));let q8:=((2:Int)*s.g);let aU:=(Rn.mk ((2:Int)*s.g/2) [] [] s.aq s.aF s.aj q5 q5 q5 q5 s.af s.ah s.dl s.dn);let bC:=(w.length:Int);let cA:=(w.getD i q5);let cK:=(i:Int);let cU:=(-1000:Int)<=w.getD i q5/\w.getD i q5<=1000;let q1:=decide (cK<bC)=true;let q2:=(eZ true aU f b);let q3:=(W.row (1:Nat) ((0:Nat)+f) q8.toNat);let q7:=(R1.pure (Cd.t.and (Cd.p (q4))) (aP q3));let q9:=A.cond (q1) (V.c (W.sl 1 0 s.af.length 1))=A.cond (q1) (V.c (W.sl 1 0 s.af.length 1));let bF:=decide (q5<=(s.af.getD ((0:Nat)+f) []).getD (bT cA).toNat q5);(q1->q1)/\(q1->q1)/\(q1->q1)/\(q1->q1)/\(q1->q1)/\(q1->q5<=(f:Int)/\(f:Int)<(s.af.length:Int))/\(q1->q1)/\(q1->q4)/\(q1->q1)/\(q1->q1)/\(q1->q5<=cK/\cK<bC)/\(q1->q1)/\(q1->i<w.length)/\(q1->q1)/\(q1->w.getD i q5≠q5/\cU)/\(q1->q1)/\(q1->q1)/\(q1->q5<=bT cA/\bT cA<(↑q8.toNat:Int))/\(q1->q1)/\(q1->q4/\(bT cA).toNat<q8.toNat)/\(q1->q1)/\(q1->q1)/\(q1->q1)/\q9/\(q1->q1)/\q9/\(q1->q1)/\(q1->q4)/\A.cond (q1) (V.c q3)=A.cond (q1) (V.c q3)/\(q1->q1)/\(q1->q4)/\A.cond (q1) (V.c q3)=A.cond (q1) (V.c q3)/\((bif decide (cK<bC) then bF else false)=true->(q5<=(f:Int)/\(f:Int)<(s.af.length:Int))/\q4/\(q5<=cK/\cK<bC)/\i<w.length/\(w.getD i q5≠q5/\cU)/\(q5<=bT cA/\bT cA<(↑q8.toNat:Int))/\(q4/\(bT cA).toNat<q8.toNat)/\q6.v=q6.v/\q6.v=q6.v/\q4/\q7.v=q7.v/\q4/\q7.v=q7.v/\au XU (aC (lN x) (aX x.fst)) [0,0,1,1] (fr [(0,aR 0 0),(1,nI (b:Int)),(2,bw w),(6,nI ((s.af.getD ((0:Nat)+f) []).getD (bT cA).toNat q5)),(9,nI (IntKind.i64.wrap (cK+1)))]) (ak.ofList [dO s 1 2 3,aO s,aB s.ah,aB s.dl]))/\((bif decide (cK<bC) then bF else false)=false->(decide (cK=bC)=true->((!decide ((f:Int)=(b:Int)))=true->((s.af.length=s.af.length/\s.ah.length=s.ah.length/\q8.toNat=q8.toNat/\(2:Int)*((2:Int)*s.g/2)=2*s.g)/\q5<=(f:Int)/\q5<=(b:Int)/\br aU/\f<s.af.length/\b<s.af.length)/\aD [vI (0),vI (0),vB false]=lN x/\[Ob.mk 63 [fI ((2:Int)*q2.g),fI q2.aq,fS 1 0 q2.af.length,fS 2 0 q2.ah.length,fS 3 0 q2.dn,fI q2.aj,fI q2.aF],aO q2,aB (q2.ah),aB (q2.dl)]=aX x.fst)/\((!decide ((f:Int)=(b:Int)))=false->aD [vI (0),vI (0),vB false]=lN x/\[dO s (1:Nat) (2:Nat) (3:Nat),aO s,aB s.ah,aB s.dl]=aX x.fst))/\(decide (cK=bC)=false->au XU (aC (lN x) (aX x.fst)) [0,0,1,1,1,1,1] (fr [(0,aR 0 0),(2,bw w),(6,nI (f:Int)),(9,nI cK),(10,nI (b:Int)),(11,nI (IntKind.i64.wrap (bC-1)))]) (ak.ofList [dO s 1 2 3,Ob.mk 22 [Fd.c (W.th q8.toNat s.af)],aB s.ah,aB s.dl])))) (by kernel_rfl)
   try simp only[sL,Nat.reduceAdd]
   have ko:1<=s.g:=T.g1;have kT:s.g<=16:=T.g2;have BU:=hw.1;simp only[un hbr];have hwj:=hw.any (by omega) i;rw[wrap64 (n:=(i:Int)+1) (by omega) (by omega),wrap64 (n:=(w.length:Int)-1) (by omega) (by omega)];simp only[kC];have hc:(i:Int)<w.length->w.getD i 0≠0/\0<=bT (w.getD i 0)/\bT (w.getD i 0)<2*s.g:=fun h=>⟨(hw.get (by omega)).1,iq (hw.get (by omega))⟩;have hat:(i:Int)<w.length->-1<=aZ s.af f (bT (w.getD i 0)).toNat/\aZ s.af f (bT (w.getD i 0)).toNat<s.af.length:=fun h=>by
    have:=hc h;exact T.at hf (by omega)
   refine⟨fun h=>by omega,fun h=>by omega,fun h=>by omega,fun h=>by omega,fun h=>by have:=hc h;omega,fun h=>by have:=hc h;omega,fun h=>by have:=hc h;omega,fun h=>by omega,fun h=>by omega,fun h=>?_,fun h=>?_⟩
   . have hcc:=hc h.1;have haa:=hat h.1;refine⟨by omega,by omega,by omega,by omega,by omega,by omega,by omega,by omega,by omega,?_⟩;cases n with
     | zero=>omega
     | succ n =>
       rw[eD,if_pos ⟨by omega,h.2⟩] at hx;have:=XW s w x T hbr hw b hb n _ (i+1) (by omega) (by omega) (by omega) hx;rw[<-fR h.2] at this;exact this
   have hb0:eD s.af w n f i=(f,i):=by
    cases n with
    | zero=>rfl
    | succ n =>
      rw[eD,if_neg];rintro⟨h1,h2⟩;have:=h (by omega);omega
   rw[hb0] at hx;refine⟨fun h1=>?_,fun h1=>XV s b w x T hbr hw f i hf (by omega) w.length b w.length (by omega) hi (acn _) hb hx⟩;have kU:x=(if f=b then s else eZ true s f b,0,0,false):=by
    rw[hx];unfold Fp ox;rw[if_pos (show i=w.length by omega)]
   refine⟨fun h2=>⟨⟨by omega,by omega,by omega,T,hf,hb⟩,?_⟩,fun h2=>?_⟩;rw[if_neg (by omega)] at kU;subst kU;exact⟨rfl,rfl⟩;rw[if_pos (by omega)] at kU;subst kU;exact⟨rfl,rfl⟩
theorem XY(s:Rn)(a:Nat)(w:List Int)(T:br s)(hbr:Br s)(hw:Wd s.g w)(ha:a<s.af.length):bn Tryz.prog 80 1 [pR,nI a,bw w] (aX s) (lN (bW true s a w)) (aX (bW true s a w).1):=by
 refine bJ (aj:=Nt) (bZ:=[]) (fz:=[]) Ns Tryz.func80 (by kernel_rfl) 1 (by kernel_rfl) 100 ?_;apply of_eq (q:=au (bD Tryz.prog gSt Tryz.f80 (1:Nat) Nt [] []) (aC (lN (bW true s a w)) (aX (bW true s a w).fst)) [0,0,1,1] (fr [(0,aR 0 0),(1,nI (a:Int)),(2,bw w),(6,nI (a:Int)),(9,nI (0))]) (ak.ofList [dO s 1 2 3,aO s,aB s.ah,aB s.dl])) (by kernel_rfl)
 try simp only[sL,Int.reduceEq,Int.reduceNe,Nat.reduceAdd]
 exact XW s w (bW true s a w) T hbr hw a ha w.length a 0 (by omega) (by omega) ha rfl
def JN(f:Rn->Nat->List Int->Prop×A×Rn):bI:={ refs:=[true,false,false],keep:=some 1,f:=fun args ar=>match args with
 | [.p (.c (.ptr 0 0)),.p (.c (.int .i64 x)),w]=>match fP dI w,Nk ar with
   | some w,some (c,r)=>some (.p (c/\0<=x/\(f r x.toNat w).1),(f r x.toNat w).2.1,aX (f r x.toNat w).2.2)
   | _,_=>none
 | _=>none }
theorem Nu{P:Program}{fn:FuncId}{f:Rn->Nat->List Int->Prop×A×Rn}(he:enters P fn=true)(h:∀ r a w,Br r->(f r a w).1->bn P fn 1 [pR,nI a,bw w] (aX r) (f r a w).2.1 (aX (f r a w).2.2)):aK P fn (JN f):=by
 refine⟨he,fun args ar c r aY e hc=>?_⟩;simp only[JN] at e;split at e;rename_i x w0;split at e
 . rename_i w c1 r1 hw hr;cases e;obtain⟨h1,h2,h3⟩:=hc;have:=h _ _ _ (oz hr h1).2 h3;rw[<-fR h2] at this;rw[(oz hr h1).1];intro base η Z W vs R hvs hK
   match vs,hvs with
   | [u,v,t],⟨a1,a2,a3,_⟩=>exact this base η Z W _ R ⟨a1,a2,cg hw a3,trivial⟩ hK
 cases e;cases e
def XZ:bI:=JN fun r a w=>(br r/\Wd r.g w/\a<r.af.length,lN (bW true r a w),(bW true r a w).1)
theorem X0:aK Tryz.prog 80 XZ:=Nu (by kernel_rfl) fun r a w hb h=>XY r a w h.1 hb h.2.1 h.2.2
abbrev fk:Value:=.iface 59 (.agg #[])
theorem Jg(s:Rn)(T:br s)(hl:(s.af.length:Int)<=s.aq/\s.aq<=900000):(decide ((s.af.length:Int)=s.aq)=false->bn Tryz.prog 55 1 [pR] (aX s) (nI s.af.length) (aX (add s)))/\(decide ((s.af.length:Int)=s.aq)=true->kX Tryz.prog 55 [pR] (aX s) fk):=by
 refine lW (dies:=[]) (aj:=[]) (bZ:=[]) (fz:=[]) EQ Tryz.func55 (by kernel_rfl) 1 (by kernel_rfl) 100 ?_;apply of_eq (q:=let q1:=(R1.pure (Cd.t.and Cd.t) (aS 1 0 s.af.length));let q2:=((2:Int)*s.g);let q3:=(R1.pure (Cd.t.and Cd.t) (aS 2 0 s.ah.length));let q4:=decide ((s.af.length:Int)=s.aq);let q5:=(R1.pure (Cd.t.and Cd.t) (nI q2));let q6:=(ab7 (1:Nat) (ab8 (0:Nat) [(-1:Int)]));(q4=true->q4=true/\Value.iface (59:Nat) (Value.agg #[])=fk)/\(q4=false->(0:Nat)+1<=1/\((0:Int)<=2*s.g/\(2:Int)*s.g<=100000/\(1:Nat)<=100000/\q2.toNat*1<=1000000)/\((0:Nat)=0/\s.af.length=s.af.length/\q2.toNat=q2.toNat*1/\(pw q6 q2.toNat).length=q2.toNat*1/\(0:Nat)<q2.toNat*1/\(s.af.length+1)*24<=140737488355328)/\q1.v=q1.v/\q1.v=q1.v/\q1.v=q1.v/\q1.v=q1.v/\q5.v=q5.v/\q5.v=q5.v/\(0:Nat)+1<=1/\((0:Nat)+s.ah.length<=s.ah.length/\(s.ah.length+1)*8<=140737488355328)/\q3.v=q3.v/\q3.v=q3.v/\q4=false/\aD [vI (IntKind.i64.wrap ((↑(s.ah.length+1):Int)-1))]=nI (s.af.length:Int)/\[Ob.mk 63 [fI q2,fI s.aq,fS 1 0 (s.af.length+1),fS 2 0 (s.ah.length+1),fS 3 0 s.dn,fI (IntKind.i64.wrap (s.aj+1)),fI (max s.aF (IntKind.i64.wrap (s.aj+1)))],Ob.mk 22 [Fd.c (W.th (q2.toNat*1) (s.af++[pw q6 q2.toNat]))],aB (ab7 s.ah.length (ab8 (0:Nat) s.ah)++ab7 (1:Nat) (ab8 (0:Nat) [(s.ah.length:Int)])),aB s.dl]=aX (add s))) (by kernel_rfl)
 try simp only[sL,Nat.reduceAdd]
 have ko:1<=s.g:=T.g1;have kT:s.g<=16:=T.g2;have hpl:s.ah.length=s.af.length:=T.len;have hlv:s.aj=(al s.ah:Nat):=T.aj;have hal:=rz s.ah;have e1:((s.ah.length+1:Nat):Int)-1=s.af.length:=by omega
 rw[wrap64 (n:=s.aj+1) (by omega) (by omega),wrap64 (n:=((s.ah.length+1:Nat):Int)-1) (by omega) (by omega),e1,Af];refine fun h=>⟨by omega,⟨by rw[acf],by omega,by omega⟩,by omega,h,rfl,?_⟩;simp only[aX,dO,aO,add,ab4,ab3]
def GI(w aq:Int)(nr np k:Nat)(af:List (List Int))(ah dl:List Int)(dn:Nat)(aj aF:Int):Prop:=(nr=af.length/\np=ah.length/\k=w.toNat/\2*(w/2)=w)/\br (nk w aq aj aF af ah dl dn)/\(af.length:Int)<=aq/\aq<=900000
def TN : bI := { refs := [true], keep := some 1, f := fun args ar => match args, ar with
 | [.p (.c (.ptr 0 0))],[⟨t,[.c (.int .i64 w),.c (.int .i64 aq),.c (.sl a 0 nr 1),.c (.sl b 0 np 1),.c (.sl c 0 dn 1),.c (.int .i64 aj),.c (.int .i64 aF)]⟩,⟨t1,[.c (.th k af)]⟩,⟨t2,[.a 0 (.int .i64) ah]⟩,⟨t3,[.a 0 (.int .i64) dl]⟩] =>
   bif ab0 t 63&&(ab0 t1 22&&(ab0 t2 3&&(ab0 t3 3&&(ab0 a 1&&(ab0 b 2&&ab0 c 3))))) then some (.p (GI w aq nr np k af ah dl dn aj aF/\decide ((nr:Int)=aq)=false),nI nr,
    [⟨t,[.c (.int .i64 w),.c (.int .i64 aq),.c (.sl a 0 (nr+1) 1),.c (.sl b 0 (np+1) 1),.c (.sl c 0 dn 1),.c (.int .i64 (aj+1)),.c (.int .i64 (max aF (aj+1)))]⟩,⟨t1,[.c (.th k (af++[ab9 k (-1)]))]⟩,⟨t2,[.a 0 (.int .i64) (ah++[(np:Int)])]⟩,⟨t3,[.a 0 (.int .i64) dl]⟩]) else none
 | _,_=>none }
theorem abq:aK Tryz.prog 55 TN:=by
 refine⟨by kernel_rfl,fun args ar c r aY e hc=>?_⟩;simp only[TN] at e;split at e;rename_i t w aq a nr b np c' dn aj aF t1 k af t2 ah t3 dl;obtain⟨hb,e1⟩:=aA.aH e;clear e;simp only[ab6] at hb;obtain⟨h1,h2,h3,h4,h5,h6,h7⟩:=hb;cases abZ h1;cases abZ h2;cases abZ h3;cases abZ h4;cases abZ h5;cases abZ h6;cases abZ h7;cases e1;obtain⟨⟨⟨rfl,rfl,rfl,hw⟩,hF,hl⟩,hd⟩:=hc;have:=(Jg (nk w aq aj aF af ah dl dn) hF hl).1 hd;simp only[aX,dO,aO,add,nk,hw,ab4,ab3] at this;exact this;cases e
def TP:iT:={ refs:=[true],f:=fun args ar=>match args,ar with
 | [.p (.c (.ptr 0 0))],[⟨t,[.c (.int .i64 w),.c (.int .i64 aq),.c (.sl a 0 nr 1),.c (.sl b 0 np 1),.c (.sl c 0 dn 1),.c (.int .i64 aj),.c (.int .i64 aF)]⟩,⟨t1,[.c (.th k af)]⟩,⟨t2,[.a 0 (.int .i64) ah]⟩,⟨t3,[.a 0 (.int .i64) dl]⟩] =>
   bif ab0 t 63&&(ab0 t1 22&&(ab0 t2 3&&(ab0 t3 3&&(ab0 a 1&&(ab0 b 2&&ab0 c 3))))) then some (.p (GI w aq nr np k af ah dl dn aj aF),some (decide ((nr:Int)=aq)),fk) else none
 | _,_=>none }
theorem abr:gQ Tryz.prog 55 TP:=by
 refine⟨by kernel_rfl,fun args ar c b' u e hc hb'=>?_⟩;simp only[TP] at e;split at e;rename_i t w aq a nr b np c' dn aj aF t1 k af t2 ah t3 dl;obtain⟨hb,e1⟩:=aA.aH e;clear e;simp only[ab6] at hb;obtain⟨h1,h2,h3,h4,h5,h6,h7⟩:=hb;cases abZ h1;cases abZ h2;cases abZ h3;cases abZ h4;cases abZ h5;cases abZ h6;cases abZ h7;cases e1;obtain⟨⟨rfl,rfl,rfl,hw⟩,hF,hl⟩:=hc;have:=(Jg (nk w aq aj aF af ah dl dn) hF hl).2 (by
  cases hd:decide ((af.length:Int)=aq) with
  | true=>exact hd
  | false=>rw[hd] at hb';exact absurd rfl hb')
 simp only[aX,dO,aO,nk,hw] at this;exact this;cases e
def diAdd:List { x:FuncId×iT // gQ Tryz.prog x.1 x.2 }:=[⟨(55,TP),abr⟩]
def gDf:bN:=[(55,TN),(81,AV)]
theorem gDf_ok:bp Tryz.prog gDf:=av abq (av AW aE)
theorem abt{s:Rn}(T:br s)(hbr:Br s)(hl:(s.af.length:Int)<=s.aq/\s.aq<=900000):GI (2*s.g) s.aq s.af.length s.ah.length (2*s.g).toNat s.af s.ah s.dl s.dn s.aj s.aF:=by
 have e:nk (2*s.g) s.aq s.aj s.aF s.af s.ah s.dl s.dn=s:=un hbr;exact⟨⟨rfl,rfl,rfl,by omega⟩,by rw[e];exact T,hl⟩
theorem Jh(s:Rn)(T:br s)(hbr:Br s)(f c:Nat)(hl:(s.af.length:Int)<=s.aq/\s.aq<=900000)(hf:f<s.af.length)(hc:c<(2*s.g).toNat):(decide ((s.af.length:Int)=s.aq)=false->bn Tryz.prog 57 1 [pR,nI f,nI c] (aX s) (.aJ []) (aX (grow s f c)))/\(decide ((s.af.length:Int)=s.aq)=true->kX Tryz.prog 57 [pR,nI f,nI c] (aX s) fk):=by
 refine lW (dies:=diAdd) (aj:=[]) (bZ:=[]) (fz:=[]) gDf_ok Tryz.func57 (by kernel_rfl) 1 (by kernel_rfl) 100 ?_;apply of_eq (q:=let q2:=decide ((s.af.length:Int)=s.aq);let q3:=((2:Int)*s.g);let q1:=(s.af++[ab9 q3.toNat (-1:Int)]);GI q3 s.aq s.af.length s.ah.length q3.toNat s.af s.ah s.dl s.dn s.aj s.aF/\(q2=true->q2=true/\fk=fk)/\(q2=false->(GI q3 s.aq s.af.length s.ah.length q3.toNat s.af s.ah s.dl s.dn s.aj s.aF/\q2=false)/\((s.af.length+1=q1.length/\s.ah.length+1=(s.ah++[(s.ah.length:Int)]).length/\q3.toNat=q3.toNat/\(2:Int)*((2:Int)*s.g/2)=2*s.g)/\(0:Int)<=(f:Int)/\(0:Int)<=(c:Int)/\(0:Int)<=(s.af.length:Int)/\f<q1.length/\s.af.length<q1.length/\c<q3.toNat/\(2:Int)*s.g<=32)/\q2=false/\aD []=A.aJ []/\[Ob.mk 63 [fI q3,fI s.aq,fS 1 0 (s.af.length+1),fS 2 0 (s.ah.length+1),fS 3 0 s.dn,fI (s.aj+1),fI (max s.aF (s.aj+1))],Ob.mk 22 [Fd.c (W.th q3.toNat (eJ (eJ q1 f c (s.af.length:Int)) s.af.length (bQ c) (f:Int)))],aB (s.ah++[(s.ah.length:Int)]),aB s.dl]=aX (grow s f c))) (by kernel_rfl)
 try simp only[sL,Nat.reduceAdd]
 have ko:1<=s.g:=T.g1;have kT:s.g<=16:=T.g2;have hpl:s.ah.length=s.af.length:=T.len;simp only[ab4,ab3];refine⟨abt T hbr hl,fun h=>⟨⟨abt T hbr hl,h⟩,⟨⟨trivial,trivial,by omega⟩,by omega,by omega,by omega,by omega,by omega,hc,by omega⟩,h,rfl,?_⟩⟩;simp only[aX,dO,aO,grow,join,add,cM,ab4,ab3]
def vN(w aq:Int)(nr np k:Nat)(af:List (List Int))(ah dl:List Int)(dn:Nat)(aj aF x y:Int):Prop:=GI w aq nr np k af ah dl dn aj aF/\0<=x/\0<=y/\x.toNat<af.length/\y.toNat<w.toNat
def JO : bI := { refs := [true, false, false], keep := some 1, f := fun args ar => match args, ar with
 | [.p (.c (.ptr 0 0)),.p (.c (.int .i64 x)),.p (.c (.int .i64 y))],[⟨t,[.c (.int .i64 w),.c (.int .i64 aq),.c (.sl a 0 nr 1),.c (.sl b 0 np 1),.c (.sl c 0 dn 1),.c (.int .i64 aj),.c (.int .i64 aF)]⟩,⟨t1,[.c (.th k af)]⟩,⟨t2,[.a 0 (.int .i64) ah]⟩,⟨t3,[.a 0 (.int .i64) dl]⟩] =>
   bif ab0 t 63&&(ab0 t1 22&&(ab0 t2 3&&(ab0 t3 3&&(ab0 a 1&&(ab0 b 2&&ab0 c 3))))) then some (.p (vN w aq nr np k af ah dl dn aj aF x y/\decide ((nr:Int)=aq)=false),.aJ [],
    [⟨t,[.c (.int .i64 w),.c (.int .i64 aq),.c (.sl a 0 (nr+1) 1),.c (.sl b 0 (np+1) 1),.c (.sl c 0 dn 1),.c (.int .i64 (aj+1)),.c (.int .i64 (max aF (aj+1)))]⟩,⟨t1,[.c (.th k (eJ (eJ (af++[ab9 k (-1)]) x.toNat y.toNat (nr:Nat)) nr (bQ y.toNat) (x.toNat:Nat)))]⟩,⟨t2,[.a 0 (.int .i64) (ah++[(np:Int)])]⟩,⟨t3,[.a 0 (.int .i64) dl]⟩]) else none
 | _,_=>none }
theorem Nv:aK Tryz.prog 57 JO:=by
 refine⟨by kernel_rfl,fun args ar c r aY e hc=>?_⟩;simp only[JO] at e;split at e;rename_i x y t w aq a nr b np c' dn aj aF t1 k af t2 ah t3 dl;obtain⟨hb,e1⟩:=aA.aH e;clear e;simp only[ab6] at hb;obtain⟨h1,h2,h3,h4,h5,h6,h7⟩:=hb;cases abZ h1;cases abZ h2;cases abZ h3;cases abZ h4;cases abZ h5;cases abZ h6;cases abZ h7;cases e1;obtain⟨⟨⟨⟨rfl,rfl,rfl,hw⟩,hF,hl⟩,hx,hy,q1,q2⟩,hd⟩:=hc;have:=(Jh (nk w aq aj aF af ah dl dn) hF ⟨rfl,rfl,rfl,rfl,rfl,rfl⟩ x.toNat y.toNat hl q1 (by show y.toNat<(2*(w/2)).toNat;rw[hw];exact q2)).1 hd;rw[<-fR hx,<-fR hy] at this;simp only[aX,dO,aO,grow,join,add,nk,hw,cM,ab4,ab3] at this;exact this;cases e
def JQ:iT:={ refs:=[true,false,false],f:=fun args ar=>match args,ar with
 | [.p (.c (.ptr 0 0)),.p (.c (.int .i64 x)),.p (.c (.int .i64 y))],[⟨t,[.c (.int .i64 w),.c (.int .i64 aq),.c (.sl a 0 nr 1),.c (.sl b 0 np 1),.c (.sl c 0 dn 1),.c (.int .i64 aj),.c (.int .i64 aF)]⟩,⟨t1,[.c (.th k af)]⟩,⟨t2,[.a 0 (.int .i64) ah]⟩,⟨t3,[.a 0 (.int .i64) dl]⟩] =>
   bif ab0 t 63&&(ab0 t1 22&&(ab0 t2 3&&(ab0 t3 3&&(ab0 a 1&&(ab0 b 2&&ab0 c 3))))) then some (.p (vN w aq nr np k af ah dl dn aj aF x y),some (decide ((nr:Int)=aq)),fk) else none
 | _,_=>none }
theorem Nw:gQ Tryz.prog 57 JQ:=by
 refine⟨by kernel_rfl,fun args ar c b' u e hc hb'=>?_⟩;simp only[JQ] at e;split at e;rename_i x y t w aq a nr b np c' dn aj aF t1 k af t2 ah t3 dl;obtain⟨hb,e1⟩:=aA.aH e;clear e;simp only[ab6] at hb;obtain⟨h1,h2,h3,h4,h5,h6,h7⟩:=hb;cases abZ h1;cases abZ h2;cases abZ h3;cases abZ h4;cases abZ h5;cases abZ h6;cases abZ h7;cases e1;obtain⟨⟨⟨rfl,rfl,rfl,hw⟩,hF,hl⟩,hx,hy,q1,q2⟩:=hc;have:=(Jh (nk w aq aj aF af ah dl dn) hF ⟨rfl,rfl,rfl,rfl,rfl,rfl⟩ x.toNat y.toNat hl q1 (by show y.toNat<(2*(w/2)).toNat;rw[hw];exact q2)).2 (by
  cases hd:decide ((af.length:Int)=aq) with
  | true=>exact hd
  | false=>rw[hd] at hb';exact absurd rfl hb')
 rw[<-fR hx,<-fR hy] at this;simp only[aX,dO,aO,nk,hw] at this;exact this;cases e
def TQ:List { x:FuncId×iT // gQ Tryz.prog x.1 x.2 }:=[⟨(57,JQ),Nw⟩]
def gFt:bN:=[(80,XZ),(57,JO)]
theorem X1:bp Tryz.prog gFt:=av X0 (av Nv aE)
def sFt(b:Bool):Site:=jW Tryz.prog gFt TQ Tryz.f54 1 [([0],[0,1,2])] [] [] b fk
theorem abu{s:Rn}(T:br s)(hbr:Br s){w:List Int}(hw:Wd s.g w){a:Nat}(ha:a<s.af.length):br (bW true s a w).1/\Br (bW true s a w).1/\(bW true s a w).1.af.length=s.af.length/\(bW true s a w).1.aq=s.aq/\(bW true s a w).1.g=s.g/\((bW true s a w).2.2.2=true->(bW true s a w).2.1<s.af.length/\(bW true s a w).2.2.1<(2*s.g).toNat):=by
 have C:=iK T hw ha;obtain⟨S,e⟩:=(So.refl T).scan true T hw ha;refine⟨S.fine C.fine,hbr.keep (C.keep.trans (So.keep S)),by rw[S.af];exact C.len,by rw[S.aq];exact C.keep.2.2.2.1,by rw[S.g];exact C.keep.1,fun h=>?_⟩;rw[e] at h ⊢;exact⟨(C.opn h).2.1,(C.opn h).2.2⟩
theorem Ji(a:Nat)(w:List Int)(x:Rn×Nat×Bool):∀(q:Nat)(s:Rn),br s->Br s->Wd s.g w->a<s.af.length->(s.af.length:Int)<=s.aq->s.aq<=900000->s.aq<=s.af.length+q->x=bS true a w q s->
 au (sFt (!x.2.2)) (eT (!x.2.2) (.aJ []) (aX x.1)) [0] (fr [(0,pR),(1,nI a),(2,bw w)]) (.ofList (aX s))
 | q, s, T, hbr, hw, ha, hl, hm, hq, hx => by
   refine aL X1 (by kernel_rfl) 100 ?_;apply of_eq (q:=let q3:=(Rn.mk ((2:Int)*s.g/2) [] [] s.aq s.aF s.aj (0:Int) (0:Int) (0:Int) (0:Int) s.af s.ah s.dl s.dn);let q1:=(bW true q3 a w);let q2:=((2:Int)*q1.fst.g);let q4:=decide ((↑q1.fst.af.length:Int)=q1.fst.aq);((s.af.length=s.af.length/\s.ah.length=s.ah.length/\((2:Int)*s.g).toNat=((2:Int)*s.g).toNat/\(2:Int)*((2:Int)*s.g/2)=2*s.g)/\(0:Int)<=(a:Int)/\br q3/\Wd ((2:Int)*s.g/2) w/\a<s.af.length)/\((!q1.snd.snd.snd)=true->(!x.snd.snd)=false/\aD []=A.aJ []/\[Ob.mk 63 [fI q2,fI q1.fst.aq,fS 1 0 q1.fst.af.length,fS 2 0 q1.fst.ah.length,fS 3 0 q1.fst.dn,fI q1.fst.aj,fI q1.fst.aF],aO (q1.fst),aB (q1.fst.ah),aB (q1.fst.dl)]=aX x.fst)/\((!q1.snd.snd.snd)=false->vN q2 q1.fst.aq q1.fst.af.length q1.fst.ah.length q2.toNat q1.fst.af q1.fst.ah q1.fst.dl q1.fst.dn q1.fst.aj q1.fst.aF (↑q1.snd.fst:Int) (↑q1.snd.snd.fst:Int)/\(q4=true->(!x.snd.snd)=true/\fk=fk)/\(q4=false->(vN q2 q1.fst.aq q1.fst.af.length q1.fst.ah.length q2.toNat q1.fst.af q1.fst.ah q1.fst.dl q1.fst.dn q1.fst.aj q1.fst.aF (↑q1.snd.fst:Int) (↑q1.snd.snd.fst:Int)/\q4=false)/\au (sFt !x.snd.snd) (eT (!x.snd.snd) (A.aJ []) (aX x.fst)) [0] (fr [(0,aR 0 0),(1,nI (a:Int)),(2,bw w)]) (ak.ofList [Ob.mk 63 [fI q2,fI q1.fst.aq,fS 1 0 (q1.fst.af.length+1),fS 2 0 (q1.fst.ah.length+1),fS 3 0 q1.fst.dn,fI (q1.fst.aj+1),fI (max q1.fst.aF (q1.fst.aj+1))],Ob.mk 22 [Fd.c (W.th q2.toNat (eJ (eJ (q1.fst.af++[ab9 q2.toNat (-1:Int)]) q1.snd.fst q1.snd.snd.fst (↑q1.fst.af.length:Int)) q1.fst.af.length (bQ q1.snd.snd.fst) (↑q1.snd.fst:Int)))],aB (q1.fst.ah++[(↑q1.fst.ah.length:Int)]),aB (q1.fst.dl)])))) (by kernel_rfl)
   try simp only[sL,Nat.reduceAdd]
   simp only[un hbr];obtain⟨F1,B1,l1,m1,g1,o1⟩:=abu T hbr hw ha;have hx':x=if(bW true s a w).2.2.2=false then((bW true s a w).1,q,true) else if s.aq<=(bW true s a w).1.af.length then({ (bW true s a w).1 with ay:=2 },q,false) else bS true a w (q-1) (grow (bW true s a w).1 (bW true s a w).2.1 (bW true s a w).2.2.1):=by
    rw[hx];cases q with
    | zero =>
      rw[bS];split;rfl;rw[if_pos (by omega),if_pos (by omega)]
    | succ q=>rw[bS];rfl
   generalize bW true s a w=y at *;refine⟨⟨by omega,by omega,T,by rw[show 2*s.g/2=s.g by omega];exact hw,ha⟩,fun h=>?_,fun h=>?_⟩;rw[if_pos h] at hx';subst hx';exact⟨rfl,rfl,rfl⟩;obtain⟨o2,o3⟩:=o1 h;rw[if_neg (by rw[h];simp)] at hx';have hD:vN (2*y.1.g) y.1.aq y.1.af.length y.1.ah.length (2*y.1.g).toNat y.1.af y.1.ah y.1.dl y.1.dn y.1.aj y.1.aF y.2.1 y.2.2.1:=⟨abt F1 B1 ⟨by omega,by omega⟩,by omega,by omega,by omega,by rw[g1];simpa using o3⟩;refine⟨hD,fun h2=>?_,fun h2=>⟨⟨hD,h2⟩,?_⟩⟩;rw[if_pos (by omega)] at hx';subst hx';rfl;rw[if_neg (by omega)] at hx';obtain⟨G1,G2,G3⟩:=gG F1 y.2.2.1 (show y.2.1<y.1.af.length by omega) (by omega);cases q with
   | zero=>omega
   | succ q =>
     have:=Ji a w x q (grow y.1 y.2.1 y.2.2.1) G1 (B1.keep G3) (by rw[G3.1,g1];exact hw) (by omega) (by rw[G3.2.2.2.1];omega) (by rw[G3.2.2.2.1,m1];exact hm) (by rw[G3.2.2.2.1];omega) hx';simp only[aX,dO,aO,grow,join,add,cM,ab4,ab3] at this;exact this
theorem Jj(s:Rn)(a q:Nat)(w:List Int)(T:br s)(hbr:Br s)(hw:Wd s.g w)(h:a<s.af.length/\(s.af.length:Int)<=s.aq/\s.aq<=900000/\s.aq<=s.af.length+q):((!(bS true a w q s).2.2)=false->bn Tryz.prog 54 1 [pR,nI a,bw w] (aX s) (.aJ []) (aX (bS true a w q s).1))/\((!(bS true a w q s).2.2)=true->kX Tryz.prog 54 [pR,nI a,bw w] (aX s) fk):=by
 refine lW (dies:=TQ) (aj:=[([0],[0,1,2])]) (bZ:=[]) (fz:=[]) X1 Tryz.func54 (by kernel_rfl) 1 (by kernel_rfl) 100 ?_;apply of_eq (q:=au (jW Tryz.prog gFt TQ Tryz.f54 (1:Nat) [([0],[0,1,2])] [] [] (!(bS true a w q s).snd.snd) fk) (eT (!(bS true a w q s).snd.snd) (A.aJ []) (aX (bS true a w q s).fst)) [0] (fr [(0,aR 0 0),(1,nI (a:Int)),(2,bw w)]) (ak.ofList [dO s 1 2 3,aO s,aB s.ah,aB s.dl])) (by kernel_rfl)
 try simp only[sL,Int.reduceEq,Int.reduceNe,Nat.reduceAdd]
 exact Ji a w _ q s T hbr hw h.1 h.2.1 h.2.2.1 h.2.2.2 rfl
abbrev AX(s:Rn):List Ob:=[⟨63,[.c (.int .i64 (2*s.g)),.c (.int .i64 s.aq),.c (.sl 1 0 s.af.length 1),.c (.sl 2 0 s.ah.length 1),.c .nil,.c (.int .i64 s.aj),.c (.int .i64 s.aF)]⟩,aO s,aB s.ah]
abbrev JR(g aq:Int):Ob:=⟨63,[.c (.int .i64 (2*g)),.c (.int .i64 aq),.c .nil,.c .nil,.c .nil,.c (.int .i64 0),.c (.int .i64 0)]⟩
theorem TR{base:Nat}{η:Eta}{Z:Zeta}{r:Rn}{w:World}(h0:r.dn=0)(h1:r.dl=[])(R:St base η Z (.ofList (AX r)) w):St base η Z (.ofList (aX r)) w:=by
 have hf:∀ n,3<=n->η n=none:=R.fresh;have h3:η 3=none:=hf 3 (acn _);have back:∀ n o p,(ak.ofList (aX r)).get n=some o->η n=some p->n<3/\∃ o1,(ak.ofList (AX r)).get n=some o1:=by
  intro n o p h hp;have hn:n<3:=by
   rcases acp n 3 with h|h;exact h;rw[hf n h] at hp;cases hp
  refine⟨hn,?_⟩
  match n,hn with
  | 0,_=>exact⟨_,by rw[ak.aM];rfl⟩
  | 1,_=>exact⟨_,by rw[ak.aM];rfl⟩
  | 2,_=>exact⟨_,by rw[ak.aM];rfl⟩
 refine⟨fun n o p h hp=>?_,fun n o h hp=>?_,fun n o h=>?_,fun n n' o o' p p' b h h' hne hp hp'=>?_,R.zs,fun n hn=>hf n (by have:(ak.ofList (aX r)).next=4:=rfl;omega),R.fN,fun n o p h hp=>?_⟩
 . obtain⟨hn,o1,jQ⟩:=back n o p h hp;rw[ak.aM] at h
   match n,hn with
   | 0,_ =>
     cases h;obtain⟨a,b,L⟩:=R.ar 0 _ p (by rw[ak.aM];rfl) hp;refine⟨a,b,?_⟩;obtain⟨c,fz,l1,l2,l3,l4⟩:=L.there (by simp[Ob.eU,Ob.isMap,Ob.iB,Ob.cells,Fd.cells]);refine dN.plain (by simp[Ob.eU,Ob.isMap,Ob.iB,Ob.cells,Fd.cells]) ⟨c,fz,l1,l2,fun i x hx=>?_,l4.plain fun hB=>by obtain⟨q,e⟩:=hB (.int .i64 (2*r.g)) (by simp[Ob.cells,Fd.cells]);cases e⟩ (L.size (by simp[Ob.eU,Ob.isMap,Ob.iB,Ob.cells,Fd.cells]));by_cases hi:i=4;subst hi;have hx:some (W.sl 3 0 r.dn 1)=some x:=hx;cases hx;obtain⟨v,v1,v2,v3⟩:=l3 4 .nil rfl;exact⟨v,v1,.inl ⟨h0,v2⟩,v3⟩;refine l3 i x ?_;rw[<-hx];have h7:i<7:=(List.getElem?_eq_some_iff.1 hx).1
     match i,h7 with
     | 0,_|1,_|2,_|3,_|5,_|6,_=>rfl
     | 4,_=>exact absurd rfl hi
   | 1,_=>exact R.ar 1 o p (by rw[ak.aM];exact h) hp
   | 2,_=>exact R.ar 2 o p (by rw[ak.aM];exact h) hp
 . rw[ak.aM] at h
   match n,h with
   | 0,_=>exact absurd (R.cj 0 _ (by rw[ak.aM];rfl) hp) (by simp[Ob.cells,Fd.cells])
   | 1,h=>exact R.cj 1 o (by rw[ak.aM];exact h) hp
   | 2,h=>exact R.cj 2 o (by rw[ak.aM];exact h) hp
   | 3,h =>
     have h:some (aB r.dl)=some o:=h;cases h;simp[Ob.cells,Fd.cells,h1]
 rw[ak.aM] at h;exact(List.getElem?_eq_some_iff.1 h).1;obtain⟨_,o1,g1⟩:=back n o p h hp;obtain⟨_,o2,g2⟩:=back n' o' p' h' hp';exact R.jh n n' o1 o2 p p' b g1 g2 hne hp hp';obtain⟨_,o1,g1⟩:=back n o p h hp;exact R.sat n o1 p g1 hp
theorem bn.ghostT{P:Program}{f:FuncId}{keep:Nat}{args:List A}{ar:List Ob}{x:A}{r:Rn}(h0:r.dn=0)(h1:r.dl=[])(h:bn P f keep args ar x (AX r)):bn P f keep args ar x (aX r):=by
 intro base η Z w vs R hvs hK;refine(h base η Z w vs R hvs hK).mono ?_;rintro e w' ⟨u,aG,Z',rfl,mv,hx⟩;refine⟨u,aG,Z',rfl,⟨mv.le,TR h0 h1 mv.st,⟨mv.step.os,mv.step.tape,mv.step.output,mv.step.size,mv.step.block,fun b ⟨n,o,p,hn,hp,hb⟩=>mv.step.own b ?_,mv.step.cG,mv.step.ga,rfl⟩⟩,hx⟩;have hn3:n<3:=by
  rcases acp n 3 with h|h;exact h;have:aG n=none:=mv.st.fresh n h;rw[this] at hp;cases hp
 match n,hn3 with
 | 0,_=>exact⟨0,_,p,by rw[ak.aM];rfl,hp,hb⟩
 | 1,_=>exact⟨1,_,p,by rw[ak.aM];rfl,hp,hb⟩
 | 2,_=>exact⟨2,_,p,by rw[ak.aM];rfl,hp,hb⟩
theorem X2(g aq:Int)(ax sub:List (List Int))(hg:1<=g/\g<=16)(hl:1<=aq):bn Tryz.prog 55 1 [pR] [JR g aq] (nI 0) (AX (cX g aq ax sub)):=by
 refine(lW (dies:=[]) (aj:=[]) (bZ:=[]) (fz:=[]) EQ Tryz.func55 (by kernel_rfl) 1 (by kernel_rfl) (b:=false) (v:=fk) 100 ?_).1 rfl;apply of_eq (q:=let q1:=(R1.pure (Cd.t.and Cd.t) (aP W.nil)).v=(R1.pure (Cd.t.and Cd.t) (aP W.nil)).v;let q3:=((2:Int)*g);let q4:=(ab7 (1:Nat) (ab8 (0:Nat) [(-1:Int)]));let q2:=(R1.pure (Cd.t.and Cd.t) (nI q3));(decide ((0:Int)=aq)=true->false=true/\Value.iface (59:Nat) (Value.agg #[])=fk)/\(decide ((0:Int)=aq)=false->(0:Nat)+1<=1/\((0:Int)<=2*g/\(2:Int)*g<=100000/\(1:Nat)<=100000/\q3.toNat*1<=1000000)/\((pw q4 q3.toNat).length=q3.toNat*1/\(0:Nat)<q3.toNat*1/\(24:Nat)<=140737488355328)/\q1/\q1/\q1/\q1/\q2.v=q2.v/\q2.v=q2.v/\(0:Nat)+1<=1/\(1:Nat)*8<=140737488355328/\q1/\q1/\false=false/\aD [vI (IntKind.i64.wrap ((↑(1:Nat):Int)-1))]=nI (0:Int)/\[Ob.mk 63 [fI q3,fI aq,fS 1 0 1,fS 2 0 1,Fd.c W.nil,fI (IntKind.i64.wrap ((0:Int)+1)),fI (max (0:Int) (IntKind.i64.wrap ((0:Int)+1)))],Ob.mk 22 [Fd.c (W.th (q3.toNat*1) [pw q4 q3.toNat])],aB (ab7 (1:Nat) (ab8 (0:Nat) [(0:Int)]))]=AX (cX g aq ax sub))) (by kernel_rfl)
 try simp only[sL,Nat.reduceAdd]
 rw[wrap64 (n:=0+1) (by omega) (by omega),wrap64 (n:=((1:Nat):Int)-1) (by omega) (by omega),Af];refine⟨fun h=>by omega,fun _=>⟨by omega,⟨by rw[acf],by omega,by omega⟩,by omega,rfl,rfl⟩⟩
theorem TS(g aq:Int)(ax sub:List (List Int))(hg:1<=g/\g<=16)(hl:1<=aq):bn Tryz.prog 55 1 [pR] [JR g aq] (nI 0) (aX (cX g aq ax sub)) :=
 bn.ghostT rfl rfl (X2 g aq ax sub hg hl)
def Nx(g:Int):bI:={ refs:=[true],keep:=some 1,f:=fun args ar=>match args,ar with
 | [.p (.c (.ptr 0 0))],[⟨t,[.c (.int .i64 w),.c (.int .i64 aq),.c .nil,.c .nil,.c .nil,.c (.int .i64 0),.c (.int .i64 0)]⟩] =>
   bif ab0 t 63 then some (.p (w=2*g/\(1<=g/\g<=16)/\1<=aq),nI 0,aX (cX g aq [] [])) else none
 | _,_=>none }
theorem X3(g:Int):aK Tryz.prog 55 (Nx g):=by
 refine⟨by kernel_rfl,fun args ar c r aY e hc=>?_⟩;simp only[Nx] at e;split at e;obtain⟨hb,e1⟩:=aA.aH e;clear e;cases abZ hb;cases e1;obtain⟨rfl,h1,h2⟩:=hc;exact TS g _ [] [] h1 h2;cases e
def DN(r:Rn)(a:Nat)(w:List Int):Prop:=br r/\Wd r.g w/\a<r.af.length/\(r.af.length:Int)<=r.aq/\r.aq<=900000
def cFilT:bI:=JN fun r a w=>(DN r a w/\(!(bS true a w r.aq.toNat r).2.2)=false,.aJ [],(bS true a w r.aq.toNat r).1)
theorem abv:aK Tryz.prog 54 cFilT:=Nu (by kernel_rfl) fun r a w hb h=>(Jj r a r.aq.toNat w h.1.1 hb h.1.2.1 ⟨h.1.2.2.1,h.1.2.2.2.1,h.1.2.2.2.2,by have:=h.1.2.2.2.1;omega⟩).1 h.2
def TT:iT:={ refs:=[true,false,false],f:=fun args ar=>match args with
 | [.p (.c (.ptr 0 0)),.p (.c (.int .i64 x)),w]=>match fP dI w,Nk ar with
   | some w,some (c,r)=>some (.p (c/\0<=x/\DN r x.toNat w),some (!(bS true x.toNat w r.aq.toNat r).2.2),fk)
   | _,_=>none
 | _=>none }
theorem abw:gQ Tryz.prog 54 TT:=by
 refine⟨by kernel_rfl,fun args ar c b u e hc hb'=>?_⟩;simp only[TT] at e;split at e;rename_i x w0;split at e
 . rename_i w c1 r1 hw hr;cases e;obtain⟨h1,h2,h3⟩:=hc;have:=(Jj r1 x.toNat r1.aq.toNat w h3.1 (oz hr h1).2 h3.2.1 ⟨h3.2.2.1,h3.2.2.2.1,h3.2.2.2.2,by have:=h3.2.2.2.1;omega⟩).2 (by
    cases hd:(!(bS true x.toNat w r1.aq.toNat r1).2.2) with
    | true=>rfl
    | false=>rw[hd] at hb';exact absurd rfl hb')
   rw[<-fR h2] at this;rw[(oz hr h1).1];intro base η Z W vs R hvs hK
   match vs,hvs with
   | [u,v,t],⟨a1,a2,a3,_⟩=>exact this base η Z W _ R ⟨a1,a2,cg hw a3,trivial⟩ hK
 cases e;cases e
def TU:List { x:FuncId×iT // gQ Tryz.prog x.1 x.2 }:=[⟨(57,JQ),Nw⟩,⟨(54,TT),abw⟩]
def gRt(gg:Int):bN:=[(55,Nx gg),(54,cFilT),(57,JO),(56,Qs)]
theorem wS(gg:Int):bp Tryz.prog (gRt gg):=av (X3 gg) (av abv (av Nv (av TK aE)))
abbrev pRta:List Nat:=[0,1,0,1,1]
abbrev TV:List Nat:=[0,1,1,1,1]
abbrev abx:List Nat:=[0,1,0,0,0,1,0,0,1,1,1,1]
abbrev Ny:List Nat:=[0,1,1,0,0,1,0,0,1,1,1,1]
abbrev Nz:List (List Nat×List Nat):=[(pRta,[0,1,6,17,18,19]),(TV,[0,1,6,9]),(abx,[0,1,6,9,36,37,38]),(Ny,[0,1,6,9,12])]
def mO(gg:Int)(b:Bool):Site:=jW Tryz.prog (gRt gg) TU Tryz.f22 1 Nz [] [] b fk
abbrev vO:A:=.p (.c (.eF 54 0 0))
theorem Qw(s:Rn):Rn.mk s.g [] [] s.aq s.aF s.aj 0 0 0 0 s.af s.ah s.dl s.dn=bare s:=rfl
theorem AY{s:Rn}(T:br s):br (bare s):=⟨T.g1,T.g2,T.len,T.ah,T.row,T.dy,T.dx,T.aj,T.sum⟩
theorem half(g:Int):2*g/2=g:=by omega
theorem X4{s:Rn}(T:br s){r:Nat}(hr:r<s.af.length)(c:Nat):(grow s r c).ah.getD r 0=s.ah.getD r 0:=by
 have:=gB T;show (s.ah++[(s.ah.length:Int)]).getD r 0=_;exact Ge (by omega)
theorem aby{gg:Int}(b:Bool)(y:Rn)(R:List (List Int))(r:Nat)(x:Rn×Nat×Bool)(hb:x.2.2=false->b=true)(hN:x.2.2=true->au (mO gg b) (eT b (.aJ []) (aX y)) TV (fr [(0,pR),(1,bH R),(6,vO),(9,nI (r+1:Nat))]) (.ofList (aX x.1))):∀(f c q:Nat)(s:Rn),x=bG r f c s q->br s->c+f=(2*s.g).toNat->r<s.af.length->s.ah.getD r 0=(r:Int)->(s.af.length:Int)<=s.aq->s.aq<=900000->s.aq<=s.af.length+q->
 au (mO gg b) (eT b (.aJ []) (aX y)) Ny (fr [(0,pR),(1,bH R),(6,vO),(9,nI r),(12,nI c)]) (.ofList (aX s))
 | f, c, q, s, hx, T, hc, hr, hal, hl, hm, hq => by
   refine aL (wS gg) (by kernel_rfl) 100 ?_;apply of_eq (q:=let q1:=((2:Int)*((2:Int)*s.g/2));let q2:=(ak.ofList [Ob.mk 63 [fI q1,fI s.aq,fS 1 0 s.af.length,fS 2 0 s.ah.length,fS 3 0 s.dn,fI s.aj,fI s.aF],Ob.mk 22 [Fd.c (W.th q1.toNat s.af)],aB s.ah,aB s.dl]);let q3:=(fr [(0,aR 0 0),(1,bH R),(6,aP (W.eF (54:Nat) (0:Nat) (0:Nat))),(9,nI (r:Int)),(12,nI (IntKind.i64.wrap ((c:Int)+1)))]);let q4:=(fr [(0,aR 0 0),(1,bH R),(6,aP (W.eF (54:Nat) (0:Nat) (0:Nat))),(9,nI (IntKind.i64.wrap ((r:Int)+1)))]);let q5:=(eT b (A.aJ []) (aX y));let q6:=decide ((c:Int)<2*s.g);let q7:=(s.af.length:Int);let q8:=decide ((s.af.getD ((0:Nat)+r) []).getD c (0:Int)<0);(q6=true->q6=true/\q6=true/\((s.af.length=s.af.length/\s.ah.length=s.ah.length/\((2:Int)*s.g).toNat=((2:Int)*s.g).toNat/\(2:Int)*((2:Int)*s.g/2)=2*s.g)/\(0:Int)<=(r:Int)/\r<s.ah.length)/\(decide (s.ah.getD r (0:Int)=(r:Int))=true->((0:Int)<=(r:Int)/\(r:Int)<q7)/\(0:Nat)+r<s.af.length/\((0:Int)<=(c:Int)/\(c:Int)<(↑q1.toNat:Int))/\((0:Nat)+r<s.af.length/\c<q1.toNat)/\(q8=true->vN q1 s.aq s.af.length s.ah.length q1.toNat s.af s.ah s.dl s.dn s.aj s.aF (r:Int) (c:Int)/\(decide (q7=s.aq)=true->b=true/\fk=fk)/\(decide (q7=s.aq)=false->(vN q1 s.aq s.af.length s.ah.length q1.toNat s.af s.ah s.dl s.dn s.aj s.aF (r:Int) (c:Int)/\decide (q7=s.aq)=false)/\au (mO gg b) q5 [0,1,1,0,0,1,0,0,1,1,1,1] q3 (ak.ofList [Ob.mk 63 [fI q1,fI s.aq,fS 1 0 (s.af.length+1),fS 2 0 (s.ah.length+1),fS 3 0 s.dn,fI (s.aj+1),fI (max s.aF (s.aj+1))],Ob.mk 22 [Fd.c (W.th q1.toNat (eJ (eJ (s.af++[ab9 q1.toNat (-1:Int)]) r c q7) s.af.length (bQ c) (r:Int)))],aB (s.ah++[(s.ah.length:Int)]),aB s.dl])))/\(q8=false->au (mO gg b) q5 [0,1,1,0,0,1,0,0,1,1,1,1] q3 q2))/\(decide (s.ah.getD r (0:Int)=(r:Int))=false->au (mO gg b) q5 [0,1,1,1,1] q4 q2))/\(q6=!true->au (mO gg b) q5 [0,1,1,1,1] q4 (ak.ofList [dO s 1 2 3,aO s,aB s.ah,aB s.dl]))) (by kernel_rfl)
   try simp only[sL]
   have ko:1<=s.g:=T.g1;have kT:s.g<=16:=T.g2;have hpl:=gB T;simp only[half];rw[wrap64 (n:=(c:Int)+1) (by omega) (by omega),wrap64 (n:=(r:Int)+1) (by omega) (by omega)];refine⟨fun h=>⟨by omega,by omega,⟨trivial,by omega,by omega⟩,fun _=>⟨by omega,by omega,by omega,by omega,fun h1=>?_,fun h1=>?_⟩,fun h1=>absurd hal h1⟩,fun h=>?_⟩
   . cases f with
     | zero=>omega
     | succ f =>
     have h1':¬0<=aZ s.af r c:=by have:aZ s.af r c<0:=h1;omega
     rw[bG,if_neg h1'] at hx;have hD:vN (2*s.g) s.aq s.af.length s.ah.length (2*s.g).toNat s.af s.ah s.dl s.dn s.aj s.aF r c:=by
      have e:nk (2*s.g) s.aq s.aj s.aF s.af s.ah s.dl s.dn=bare s:=by unfold nk;rw[half];rfl
      refine⟨⟨⟨rfl,rfl,rfl,by omega⟩,?_,by omega,hm⟩,by omega,by omega,by omega,by omega⟩;rw[e];exact AY T
     refine⟨hD,fun h2=>?_,fun h2=>⟨⟨hD,h2⟩,?_⟩⟩;rw[if_pos (by omega)] at hx;exact hb (by rw[hx]);rw[if_neg (by omega),if_neg (by omega)] at hx;obtain⟨G1,G2,G3⟩:=gG T c hr (by omega);have:=aby (gg:=gg) b y R r x hb hN f (c+1) (q-1) (grow s r c) hx G1 (by rw[G3.1];omega) (by omega) (by rw[X4 T hr];exact hal) (by rw[G3.2.2.2.1];omega) (by rw[G3.2.2.2.1];exact hm) (by rw[G3.2.2.2.1];omega);simp only[aX,dO,aO,grow,join,add,cM,ab4,ab3] at this;exact this
   . cases f with
     | zero=>omega
     | succ f =>
     rw[bG,if_pos (show 0<=aZ s.af r c from h1)] at hx;exact aby b y R r x hb hN f (c+1) q s hx T (by omega) hr hal hl hm hq
   have h:¬(c:Int)<2*s.g:=by simpa using h
   have:f=0:=by omega
   subst this;have hx:x=(s,q,true):=hx;subst hx;exact hN rfl
theorem X5{s:Rn}{q a:Nat}{w:List Int}(T:br s)(hw:Wd s.g w)(ha:a<s.af.length)(hl:(s.af.length:Int)<=s.aq)(hm:s.aq<=900000)(hq:s.aq<=s.af.length+q) :
 DN (bare s) a w/\(bS true a w s.aq.toNat (bare s)).2.2=(bS true a w q s).2.2/\((bS true a w q s).2.2=true->aX (bS true a w s.aq.toNat (bare s)).1=aX (bS true a w q s).1):=by
 obtain⟨e1,e2⟩:=Qr true q s.aq.toNat T hw ha hl hm hq (by omega);obtain⟨e3,e4⟩:=Fu true a w s.aq.toNat s;refine⟨⟨AY T,hw,ha,hl,hm⟩,by rw[e3,e2],fun h=>?_⟩;rw[e4 (by rw[<-e2];exact h),e1];rfl
theorem actG_ok{s:Rn}(G:cT s)(q:Nat):(iM (bS true) s q).2=(act s q).2/\So (act s q).1 (iM (bS true) s q).1:=by
 obtain⟨a,b⟩:=(So.refl G.fine).act (flC true) G q;exact⟨b,a⟩
structure mK(s:Rn)(q:Nat):Prop where
 good:cT s
 q:s.aq<=s.af.length+q
theorem mK.next{s:Rn}{q:Nat}(H:mK s q)(h:(iM (bS true) s q).2.2=false):mK (iM (bS true) s q).1 (iM (bS true) s q).2.1:=by
 obtain⟨e,S⟩:=actG_ok H.good q;have A:=qf H.good q;rw[e] at h;obtain⟨g1,_,_⟩:=A.go h;have l1:=A.len;have l2:=A.same.2.2.2;have:=H.q;exact⟨S.good g1,by rw[S.aq,S.af,e,l2];omega⟩
theorem NA{s:Rn}{q a:Nat}{w:List Int}(T:br s)(hw:Wd s.g w)(ha:a<s.af.length)(hl:(s.af.length:Int)<=s.aq)(hm:s.aq<=900000)(hq:s.aq<=s.af.length+q)(h:(bS true a w q s).2.2=false):(bS true a w q s).1.ay=2:=by
 have F:=kD (a:=a) (w:=w) q T hw ha hl hm;obtain⟨S,e⟩:=So.fill true (a:=a) (w:=w) q T (So.refl T) hw ha hl hm;rw[e] at h;rw[S.pI.1];have h1:=F.len;rcases F.no h with ⟨h2,_⟩|⟨_,h2,h3⟩;exact h2;omega
theorem abz{s:Rn}{q a:Nat}(T:br s)(ha:a<s.af.length)(hl:(s.af.length:Int)<=s.aq)(hm:s.aq<=900000)(hq:s.aq<=s.af.length+q)(h:(bG a (2*s.g).toNat 0 s q).2.2=false):(bG a (2*s.g).toNat 0 s q).1.ay=2:=by
 have F:=pH (a:=a) (2*s.g).toNat 0 q T (by omega) ha hl hm;have h1:=F.len;rcases F.no h with ⟨h2,_⟩|⟨_,h2,h3⟩;exact h2;omega
theorem ru_dead{gg:Int}(b:Bool)(y:Rn)(R:List (List Int))(r:Nat)(s:Rn)(T:br s)(hr:r<s.af.length)(hd:¬s.ah.getD r 0=(r:Int))(hN:au (mO gg b) (eT b (.aJ []) (aX y)) TV (fr [(0,pR),(1,bH R),(6,vO),(9,nI (r+1:Nat))]) (.ofList (aX s))) :
 au (mO gg b) (eT b (.aJ []) (aX y)) Ny (fr [(0,pR),(1,bH R),(6,vO),(9,nI r),(12,nI (0:Nat))]) (.ofList (aX s)):=by
 refine aL (wS gg) (by kernel_rfl) 100 ?_;apply of_eq (q:=let q1:=((2:Int)*((2:Int)*s.g/2));let q2:=(ak.ofList [Ob.mk 63 [fI q1,fI s.aq,fS 1 0 s.af.length,fS 2 0 s.ah.length,fS 3 0 s.dn,fI s.aj,fI s.aF],Ob.mk 22 [Fd.c (W.th q1.toNat s.af)],aB s.ah,aB s.dl]);let q6:=(eT b (A.aJ []) (aX y));let q7:=(s.af.length:Int);let aU:=(0:Nat);let q4:=(↑aU:Int);let q5:=(fr [(0,aR 0 0),(1,bH R),(6,aP (W.eF (54:Nat) aU aU)),(9,nI (IntKind.i64.wrap ((r:Int)+1)))]);let q8:=decide ((s.af.getD (aU+r) []).getD aU (0:Int)<0);let q9:=decide (q4<2*s.g);let q3:=(fr [(0,aR 0 0),(1,bH R),(6,aP (W.eF (54:Nat) aU aU)),(9,nI (r:Int)),(12,nI (IntKind.i64.wrap (q4+1)))]);(q9=true->q9=true/\q9=true/\((s.af.length=s.af.length/\s.ah.length=s.ah.length/\((2:Int)*s.g).toNat=((2:Int)*s.g).toNat/\(2:Int)*((2:Int)*s.g/2)=2*s.g)/\(0:Int)<=(r:Int)/\r<s.ah.length)/\(decide (s.ah.getD r (0:Int)=(r:Int))=true->((0:Int)<=(r:Int)/\(r:Int)<q7)/\aU+r<s.af.length/\((0:Int)<=q4/\q4<(↑q1.toNat:Int))/\(aU+r<s.af.length/\aU<q1.toNat)/\(q8=true->vN q1 s.aq s.af.length s.ah.length q1.toNat s.af s.ah s.dl s.dn s.aj s.aF (r:Int) q4/\(decide (q7=s.aq)=true->b=true/\fk=fk)/\(decide (q7=s.aq)=false->(vN q1 s.aq s.af.length s.ah.length q1.toNat s.af s.ah s.dl s.dn s.aj s.aF (r:Int) q4/\decide (q7=s.aq)=false)/\au (mO gg b) q6 [0,1,1,0,0,1,0,0,1,1,1,1] q3 (ak.ofList [Ob.mk 63 [fI q1,fI s.aq,fS 1 0 (s.af.length+1),fS 2 0 (s.ah.length+1),fS 3 0 s.dn,fI (s.aj+1),fI (max s.aF (s.aj+1))],Ob.mk 22 [Fd.c (W.th q1.toNat (eJ (eJ (s.af++[ab9 q1.toNat (-1:Int)]) r aU q7) s.af.length (1:Nat) (r:Int)))],aB (s.ah++[(s.ah.length:Int)]),aB s.dl])))/\(q8=false->au (mO gg b) q6 [0,1,1,0,0,1,0,0,1,1,1,1] q3 q2))/\(decide (s.ah.getD r (0:Int)=(r:Int))=false->au (mO gg b) q6 [0,1,1,1,1] q5 q2))/\(q9=!true->au (mO gg b) q6 [0,1,1,1,1] q5 (ak.ofList [dO s 1 2 3,aO s,aB s.ah,aB s.dl]))) (by kernel_rfl)
 try simp only[sL]
 have ko:1<=s.g:=T.g1;have kT:s.g<=16:=T.g2;have hpl:=gB T;have hp:=T.ah.1;have hp:s.ah.length<=1000000:=hp;simp only[half];rw[wrap64 (n:=(r:Int)+1) (by omega) (by omega)];refine⟨fun h=>⟨by omega,by omega,⟨trivial,by omega,by omega⟩,fun h=>absurd h hd,fun _=>hN⟩,fun _=>hN⟩
theorem tZ{gg:Int}(b:Bool)(y:Rn)(R U:List (List Int))(q':Nat)(hb:b=decide (y.ay=2)):∀(F:Nat)(s:Rn)(q:Nat),mK s q->s.ax=R->s.sub=U->vK (bS true) F s q=some (y,q')->
 (s.ph=0->au (mO gg b) (eT b (.aJ []) (aX y)) pRta (fr [(0,pR),(1,bH R),(6,vO),(17,bH U),(18,nI U.length),(19,nI s.ix)]) (.ofList (aX s)))/\
 (s.ph=1->s.ix=0->au (mO gg b) (eT b (.aJ []) (aX y)) TV (fr [(0,pR),(1,bH R),(6,vO),(9,nI s.co)]) (.ofList (aX s)))/\
 (s.ph=1->s.co<s.af.length->au (mO gg b) (eT b (.aJ []) (aX y)) abx (fr [(0,pR),(1,bH R),(6,vO),(9,nI s.co),(36,bH R),(37,nI R.length),(38,nI s.ix)]) (.ofList (aX s)))/\
 (s.ph=2->s.ah.getD s.co.toNat 0=s.co->au (mO gg b) (eT b (.aJ []) (aX y)) Ny (fr [(0,pR),(1,bH R),(6,vO),(9,nI s.co),(12,nI (0:Nat))]) (.ofList (aX s)))
 | 0,_,_,_,_,_,h=>by cases h
 | F + 1, s, q, H, hR, hU, h => by
   have G:=H.good;have hq:=H.q;have hg:=G.ix;have hc:=G.co;have hl:=G.aq;have hl2:=G.x7;have Cz:=G.ph;have hn1:=G.n1;have ko:1<=s.g:=G.fine.g1;have kT:s.g<=16:=G.fine.g2;have hpl:=gB G.fine;rw[vK] at h;have hC : s.ph = 1 → s.co < s.af.length → au (mO gg b) (eT b (.aJ []) (aX y)) abx (fr [(0, pR), (1, bH R), (6, vO), (9, nI s.co), (36, bH R), (37, nI R.length), (38, nI s.ix)]) (.ofList (aX s)) := by
    intro h1 hco;obtain⟨i,hi⟩:∃ i:Nat,s.ix=i:=⟨s.ix.toNat,by omega⟩;obtain⟨r,hr⟩:∃ r:Nat,s.co=r:=⟨s.co.toNat,by omega⟩;have hrl:r<s.af.length:=by omega
    have Jk:s.co.toNat=r:=by omega
    have Fh:¬s.ah.getD r 0=(r:Int)->au (mO gg b) (eT b (.aJ []) (aX y)) Ny (fr [(0,pR),(1,bH R),(6,vO),(9,nI r),(12,nI (0:Nat))]) (.ofList (aX s)):=fun hd=>by
     have ha:iM (bS true) s q=({ s with ph:=1,co:=s.co+1,ix:=0 },q,false):=by
      unfold iM;rw[if_neg (by omega),if_neg (by omega),if_neg (by omega),if_neg (by omega),if_pos (by rw[Jk,hr];exact hd)]
     have Hn:=H.next (by rw[ha])
     rw[ha,if_neg (by simp)] at h;rw[ha] at Hn;have:=(tZ (gg:=gg) b y R U q' hb F _ _ Hn hR hU h).2.1 rfl rfl;simp only at this;rw[hr] at this;exact ru_dead (gg:=gg) b y R r s G.fine hrl hd this
    rw[hi,hr];refine aL (wS gg) (by kernel_rfl) 100 ?_;apply of_eq (q:=let q5:=(fr [(0,aR 0 0),(1,bH R),(6,aP (W.eF (54:Nat) (0:Nat) (0:Nat))),(9,nI (r:Int)),(12,nI (0))]);let q6:=(2:Int);let q7:=(eT b (A.aJ []) (aX y));let q8:=s.af.length=s.af.length;let q4:=(q6*s.g/2);let q2:=(Rn.mk (q6*q4/2) [] [] s.aq s.aF s.aj (0:Int) (0:Int) (0:Int) (0:Int) s.af s.ah s.dl s.dn);let q3:=s.ah.length=s.ah.length/\(q6*q4).toNat=(q6*q4).toNat/\q6*(q6*q4/2)=2*q4;let q1:=(bS true r (R.getD i []) s.aq.toNat q2);(decide ((i:Int)<(R.length:Int))=true->((0:Int)<=(i:Int)/\(i:Int)<(R.length:Int))/\i<R.length/\((q8/\s.ah.length=s.ah.length/\(q6*s.g).toNat=(q6*s.g).toNat/\q6*q4=2*s.g)/\(0:Int)<=(r:Int)/\r<s.ah.length)/\((!decide (s.ah.getD r (0:Int)=(r:Int)))=true->au (mO gg b) q7 [0,1,1,0,0,1,0,0,1,1,1,1] q5 (ak.ofList [Ob.mk 63 [fI (q6*q4),fI s.aq,fS 1 0 s.af.length,fS 2 0 s.ah.length,fS 3 0 s.dn,fI s.aj,fI s.aF],Ob.mk 22 [Fd.c (W.th (q6*q4).toNat s.af)],aB s.ah,aB s.dl]))/\((!decide (s.ah.getD r (0:Int)=(r:Int)))=false->((q8/\q3)/\(0:Int)<=(r:Int)/\DN q2 r (R.getD i []))/\((!q1.snd.snd)=true->b=true/\fk=fk)/\((!q1.snd.snd)=false->((q8/\q3)/\(0:Int)<=(r:Int)/\DN q2 r (R.getD i [])/\(!q1.snd.snd)=false)/\au (mO gg b) q7 [0,1,0,0,0,1,0,0,1,1,1,1] (fr [(0,aR 0 0),(1,bH R),(6,aP (W.eF (54:Nat) (0:Nat) (0:Nat))),(9,nI (r:Int)),(36,bH R),(37,nI (R.length:Int)),(38,nI (IntKind.i64.wrap ((i:Int)+1)))]) (ak.ofList [Ob.mk 63 [fI (q6*q1.fst.g),fI q1.fst.aq,fS 1 0 q1.fst.af.length,fS 2 0 q1.fst.ah.length,fS 3 0 q1.fst.dn,fI q1.fst.aj,fI q1.fst.aF],aO (q1.fst),aB (q1.fst.ah),aB (q1.fst.dl)]))))/\(decide ((i:Int)<(R.length:Int))=false->au (mO gg b) q7 [0,1,1,0,0,1,0,0,1,1,1,1] q5 (ak.ofList [Ob.mk 63 [fI (q6*s.g),fI s.aq,fS 1 0 s.af.length,fS 2 0 s.ah.length,fS 3 0 s.dn,fI s.aj,fI s.aF],aO s,aB s.ah,aB s.dl]))) (by kernel_rfl)
    try simp only[sL]
    simp only[half,Qw];rw[wrap64 (n:=(i:Int)+1) (by omega) (by omega)];refine⟨fun g1=>⟨by omega,by omega,⟨trivial,by omega,by omega⟩,Fh,fun hal=>?_⟩,fun g1=>?_⟩;have hsi:s.ix<s.ax.length:=by rw[hR];omega
    have hw:=G.ax _ (f9 hg.1 hsi);have ew:s.ax.getD s.ix.toNat []=R.getD i []:=by rw[hR,hi,ab2]
    rw[ew] at hw;obtain⟨c1,c2,c3⟩:=X5 (q:=q) (a:=r) (w:=R.getD i []) G.fine hw hrl hl hl2 hq;have ha:iM (bS true) s q=if(bS true r (R.getD i []) q s).2.2=false then((bS true r (R.getD i []) q s).1,(bS true r (R.getD i []) q s).2.1,true) else({ (bS true r (R.getD i []) q s).1 with ix:=s.ix+1 },(bS true r (R.getD i []) q s).2.1,false):=by
     unfold iM;rw[if_neg (by omega),if_neg (by omega),if_neg (by omega),if_neg (by omega),if_neg (by rw[Jk,hr];exact not_not_intro hal),if_neg (by rw[hR];omega),Jk,ew]
    refine⟨⟨trivial,by omega,c1⟩,fun hf=>?_,fun ht=>⟨⟨trivial,by omega,c1,ht⟩,?_⟩⟩;rw[c2] at hf;rw[if_pos hf] at ha;rw[ha,if_pos rfl] at h;cases h;rw[hb,NA G.fine hw hrl hl hl2 hq hf];rfl
    . rw[c2] at ht;rw[if_neg (by rw[ht];simp)] at ha;have Hn:=H.next (by rw[ha])
      rw[ha,if_neg (by simp)] at h;rw[ha] at Hn;obtain⟨S,_⟩:=So.fill true (a:=r) (w:=R.getD i []) q G.fine (So.refl G.fine) hw hrl hl hl2;have FF:=kD (a:=r) (w:=R.getD i []) q G.fine hw hrl hl hl2;have K:=FF.keep;have FG:=FF.grown;obtain⟨s1,s2,s3,s4,s5,s6,s7,s8⟩:=S.pI;have eco:(bS true r (R.getD i []) q s).1.co=s.co:=s3.trans K.2.2.2.2.2.1;have:=(tZ (gg:=gg) b y R U q' hb F _ _ Hn (s5.trans (K.2.1.trans hR)) (s6.trans (K.2.2.1.trans hU)) h).2.2.1 (s2.trans (K.2.2.2.2.1.trans h1)) (by simp only;rw[eco,S.af];omega);simp only at this;rw[eco,hi,hr] at this;have e3:=c3 ht;simp only[aX] at e3;rw[e3];exact this
    by_cases hal:s.ah.getD r 0=(r:Int)
    . have ha:iM (bS true) s q=({ s with ph:=2,co:=s.co,ix:=0 },q,false):=by
       unfold iM;rw[if_neg (by omega),if_neg (by omega),if_neg (by omega),if_neg (by omega),if_neg (by rw[Jk,hr];exact not_not_intro hal),if_pos (by rw[hR];omega)]
      have Hn:=H.next (by rw[ha])
      rw[ha,if_neg (by simp)] at h;rw[ha] at Hn;have:=(tZ (gg:=gg) b y R U q' hb F _ _ Hn hR hU h).2.2.2 rfl (by simp only;rw[Jk,hr];exact hal);simp only at this;rw[hr] at this;exact this
    exact Fh hal
   refine⟨fun h0=>?_,fun h1 hi=>?_,hC,fun h2 hal=>?_⟩;obtain⟨i,hi⟩:∃ i:Nat,s.ix=i:=⟨s.ix.toNat,by omega⟩;rw[hi];refine aL (wS gg) (by kernel_rfl) 100 ?_;apply of_eq (q:=let q2:=(Rn.mk ((2:Int)*s.g/2) [] [] s.aq s.aF s.aj (0:Int) (0:Int) (0:Int) (0:Int) s.af s.ah s.dl s.dn);let q3:=s.ah.length=s.ah.length/\((2:Int)*s.g).toNat=((2:Int)*s.g).toNat/\(2:Int)*((2:Int)*s.g/2)=2*s.g;let q1:=(bS true (0:Nat) (U.getD i []) s.aq.toNat q2);(decide ((i:Int)<(U.length:Int))=true->((0:Int)<=(i:Int)/\(i:Int)<(U.length:Int))/\i<U.length/\((s.af.length=s.af.length/\q3)/\(0:Int)<=0/\DN q2 (0:Nat) (U.getD i []))/\((!q1.snd.snd)=true->b=true/\fk=fk)/\((!q1.snd.snd)=false->((s.af.length=s.af.length/\q3)/\(0:Int)<=0/\DN q2 (0:Nat) (U.getD i [])/\(!q1.snd.snd)=false)/\au (mO gg b) (eT b (A.aJ []) (aX y)) [0,1,0,1,1] (fr [(0,aR 0 0),(1,bH R),(6,aP (W.eF (54:Nat) (0:Nat) (0:Nat))),(17,bH U),(18,nI (U.length:Int)),(19,nI (IntKind.i64.wrap ((i:Int)+1)))]) (ak.ofList [Ob.mk 63 [fI ((2:Int)*q1.fst.g),fI q1.fst.aq,fS 1 0 q1.fst.af.length,fS 2 0 q1.fst.ah.length,fS 3 0 q1.fst.dn,fI q1.fst.aj,fI q1.fst.aF],aO (q1.fst),aB (q1.fst.ah),aB (q1.fst.dl)])))/\(decide ((i:Int)<(U.length:Int))=false->au (mO gg b) (eT b (A.aJ []) (aX y)) [0,1,1,1,1] (fr [(0,aR 0 0),(1,bH R),(6,aP (W.eF (54:Nat) (0:Nat) (0:Nat))),(9,nI (0))]) (ak.ofList [dO s 1 2 3,aO s,aB s.ah,aB s.dl]))) (by kernel_rfl)
   try simp only[sL]
   simp only[half,Qw];rw[wrap64 (n:=(i:Int)+1) (by omega) (by omega)];refine⟨fun h1=>?_,fun h1=>?_⟩;have hsi:s.ix<s.sub.length:=by rw[hU];omega
   have hw:=G.sub _ (f9 hg.1 hsi);have ew:s.sub.getD s.ix.toNat []=U.getD i []:=by rw[hU,hi,ab2]
   rw[ew] at hw;obtain⟨c1,c2,c3⟩:=X5 (q:=q) (a:=0) (w:=U.getD i []) G.fine hw hn1 hl hl2 hq;have ha:iM (bS true) s q=if(bS true 0 (U.getD i []) q s).2.2=false then((bS true 0 (U.getD i []) q s).1,(bS true 0 (U.getD i []) q s).2.1,true) else({ (bS true 0 (U.getD i []) q s).1 with ix:=s.ix+1 },(bS true 0 (U.getD i []) q s).2.1,false):=by
    unfold iM;rw[if_neg (by omega),if_pos h0,ew]
   refine⟨by omega,by omega,⟨trivial,c1⟩,fun hf=>?_,fun ht=>⟨⟨trivial,c1,ht⟩,?_⟩⟩;rw[c2] at hf;rw[if_pos hf] at ha;rw[ha,if_pos rfl] at h;cases h;rw[hb,NA G.fine hw hn1 hl hl2 hq hf];rfl
   . rw[c2] at ht;rw[if_neg (by rw[ht];simp)] at ha;have Hn:=H.next (by rw[ha])
     rw[ha,if_neg (by simp)] at h;rw[ha] at Hn;obtain⟨S,_⟩:=So.fill true (a:=0) (w:=U.getD i []) q G.fine (So.refl G.fine) hw hn1 hl hl2;have K:=(kD (a:=0) (w:=U.getD i []) q G.fine hw hn1 hl hl2).keep;obtain⟨s1,s2,s3,s4,s5,s6,s7,s8⟩:=S.pI;have:=(tZ (gg:=gg) b y R U q' hb F _ _ Hn (s5.trans (K.2.1.trans hR)) (s6.trans (K.2.2.1.trans hU)) h).1 (s2.trans (K.2.2.2.2.1.trans h0));rw[hi] at this;have e3:=c3 ht;simp only[aX] at e3;rw[e3];exact this
   . have ha:iM (bS true) s q=({ s with ph:=1,co:=0,ix:=0 },q,false):=by
      unfold iM;rw[if_pos ⟨h0,by rw[hU];omega⟩]
     have Hn:=H.next (by rw[ha])
     rw[ha,if_neg (by simp)] at h;rw[ha] at Hn;exact(tZ (gg:=gg) b y R U q' hb F _ _ Hn hR hU h).2.1 rfl rfl
   obtain⟨r,hr⟩:∃ r:Nat,s.co=r:=⟨s.co.toNat,by omega⟩;rw[hr];refine aL (wS gg) (by kernel_rfl) 100 ?_;apply of_eq (q:=(decide ((r:Int)<(s.af.length:Int))=true->au (mO gg b) (eT b (A.aJ []) (aX y)) [0,1,0,0,0,1,0,0,1,1,1,1] (fr [(0,aR 0 0),(1,bH R),(6,aP (W.eF (54:Nat) (0:Nat) (0:Nat))),(9,nI (r:Int)),(36,bH R),(37,nI (R.length:Int)),(38,nI (0))]) (ak.ofList [dO s 1 2 3,aO s,aB s.ah,aB s.dl]))/\(decide ((r:Int)<(s.af.length:Int))=false->b=false/\aD []=A.aJ []/\[dO s (1:Nat) (2:Nat) (3:Nat),aO s,aB s.ah,aB s.dl]=aX y)) (by kernel_rfl)
   try simp only[sL,Nat.reduceAdd]
   refine⟨fun g1=>?_,fun g1=>?_⟩;have:=hC h1 (by omega);rw[hr,hi] at this;exact this;have ha:iM (bS true) s q=({ s with ph:=3,co:=0,ix:=0,ay:=1 },q,true):=by
    unfold iM;rw[if_neg (by omega),if_neg (by omega),if_neg (by omega),if_pos (by omega)]
   rw[ha,if_pos rfl] at h;cases h;exact⟨hb,rfl,rfl⟩;obtain⟨r,hr⟩:∃ r:Nat,s.co=r:=⟨s.co.toNat,by omega⟩;have Jk:s.co.toNat=r:=by omega
   have hrl:r<s.af.length:=by have:=G.ER h2;omega
   have ha:iM (bS true) s q=if(bG r (2*s.g).toNat 0 s q).2.2=false then((bG r (2*s.g).toNat 0 s q).1,(bG r (2*s.g).toNat 0 s q).2.1,true) else({ (bG r (2*s.g).toNat 0 s q).1 with ph:=1,co:=s.co+1,ix:=0 },(bG r (2*s.g).toNat 0 s q).2.1,false):=by
    unfold iM;rw[if_neg (by omega),if_neg (by omega),if_pos h2,Jk]
   rw[hr];have K:=(pH (a:=r) (2*s.g).toNat 0 q G.fine (by omega) hrl hl hl2).keep;refine aby b y R r (bG r (2*s.g).toNat 0 s q) (fun hf=>?_) (fun ht=>?_) (2*s.g).toNat 0 q s rfl G.fine (by omega) hrl (by rw[Jk,hr] at hal;exact hal) hl hl2 hq;rw[if_pos hf] at ha;rw[ha,if_pos rfl] at h;cases h;rw[hb,abz G.fine hrl hl hl2 hq hf];rfl
   . rw[if_neg (by rw[ht];simp)] at ha;have Hn:=H.next (by rw[ha])
     rw[ha,if_neg (by simp)] at h;rw[ha] at Hn;have:=(tZ (gg:=gg) b y R U q' hb F _ _ Hn (K.2.1.trans hR) (K.2.2.1.trans hU) h).2.1 rfl rfl;simp only at this;rw[hr] at this;exact this
theorem NC(g aq:Int)(ax sub:List (List Int))(G:cT (cX g aq ax sub))(hl:aq<=1000){F q':Nat}{y:Rn}(h:vK (bS true) F (cX g aq ax sub) 2000=some (y,q')):(decide (y.ay=2)=false->bn Tryz.prog 22 1 [pR,bH ax,bH sub] [JR g aq] (.aJ []) (aX y))/\(decide (y.ay=2)=true->kX Tryz.prog 22 [pR,bH ax,bH sub] [JR g aq] fk):=by
 refine lW (dies:=TU) (aj:=Nz) (bZ:=[]) (fz:=[]) (wS g) Tryz.func22 (by kernel_rfl) 1 (by kernel_rfl) 100 ?_;apply of_eq (q:=let q1:=(cX g aq [] []);((2:Int)*g=2*g/\((1:Int)<=g/\g<=16)/\(1:Int)<=aq)/\au (jW Tryz.prog (gRt g) TU Tryz.f22 (1:Nat) Nz [] [] (decide (y.ay=2)) fk) (eT (decide (y.ay=2)) (A.aJ []) (aX y)) [0,1,0,1,1] (fr [(0,aR 0 0),(1,bH ax),(6,aP (W.eF (54:Nat) (0:Nat) (0:Nat))),(17,bH sub),(18,nI (sub.length:Int)),(19,nI (0))]) (ak.ofList [Ob.mk 63 [fI ((2:Int)*q1.g),fI q1.aq,fS 1 0 1,fS 2 0 1,fS 3 0 0,fI q1.aj,fI q1.aF],Ob.mk 22 [Fd.c (W.th ((2:Int)*q1.g).toNat [ab9 ((2:Int)*g).toNat (-1:Int)])],aB (q1.ah),aB (q1.dl)])) (by kernel_rfl)
 try simp only[true_and]
 have H:mK (cX g aq ax sub) 2000:=⟨G,by have:(cX g aq ax sub).aq=aq:=rfl;have:(cX g aq ax sub).af.length=1:=rfl;omega⟩;have ko:1<=g:=G.fine.g1;have kT:g<=16:=G.fine.g2;have h1:((1:Nat):Int)<=aq:=G.aq;exact⟨⟨⟨ko,kT⟩,by omega⟩,(tZ (gg:=g) (decide (y.ay=2)) y ax sub q' rfl F _ _ H rfl rfl h).1 rfl⟩
theorem TW(w:List Int)(h:0<w.length/\w.length<=1000000):bA Tryz.prog 59 [bw w] [] (eY 0 w.length) [aB w]:=by
 refine dh (aj:=[]) (bZ:=[]) (fz:=[]) aE Tryz.func59 (by kernel_rfl) (keep:=0) rfl (by kernel_rfl) 100 ?_;apply of_eq (q:=∀(b:Bool),(b=!false->w=[])->(b=true->aD [V.c (W.sl 0 0 0 1)]=eY (0:Nat) w.length/\[aB ([])]=[aB w])/\(b=false->((0:Nat)+0<=0/\((0:Nat)+w.length)*8<=140737488355328)/\aD [V.c (W.sl 0 0 ((0:Nat)+w.length) 1)]=eY (0:Nat) w.length/\[aB (ab7 (0:Nat) (ab8 (0:Nat) [])++w)]=[aB w])) (by kernel_rfl)
 try simp only[sL]
 intro b hb;refine⟨fun g=>?_,fun g=>?_⟩;have:=hb g;rw[this] at h;exact absurd h.1 (by simp);exact⟨by omega,rfl,by rw[List.nil_append]⟩
def Qx:bI:=jJ dI fun w=>(.p (0<acr (α:=Int) w/\acr (α:=Int) w<=1000000),eY 0 (acr (α:=Int) w),[aB w])
theorem TX:aK Tryz.prog 59 Qx:=fE (by kernel_rfl) fun w h=>TW w h
theorem Oy(r:Rn)(a:Nat)(h:a<r.ah.length):bn Tryz.prog 56 4 [pR,nI a] (aX r) (bB (decide (r.ah.getD a 0=a))) (aX r):=by
 refine bJ (aj:=[]) (bZ:=[]) (fz:=[]) aE Tryz.func56 (by kernel_rfl) 4 (by kernel_rfl) 100 ?_;apply of_eq (q:=((0:Int)<=(a:Int)/\(a:Int)<(r.ah.length:Int))/\(0:Nat)+a<r.ah.length/\aD [vB (decide (r.ah.getD ((0:Nat)+a) (0:Int)=(a:Int)))]=bB (decide (r.ah.getD a (0:Int)=(a:Int)))/\[dO r (1:Nat) (2:Nat) (3:Nat),aO r,aB r.ah,aB r.dl]=aX r) (by kernel_rfl)
 try simp only[sL,Nat.reduceAdd]
 exact⟨by omega,h,rfl⟩
def DP : bI := { refs := [true, false], f := fun args ar => match args, ar with
 | [.p (.c (.ptr 0 0)),.p (.c (.int .i64 x))],[⟨t,[.c (.int .i64 w),.c (.int .i64 aq),.c (.sl a 0 nr 1),.c (.sl b 0 np 1),.c (.sl c 0 dn 1),.c (.int .i64 aj),.c (.int .i64 aF)]⟩,⟨t1,[.c (.th k af)]⟩,⟨t2,[.a 0 (.int .i64) ah]⟩,⟨t3,[.a 0 (.int .i64) dl]⟩] =>
   bif ab0 t 63&&(ab0 t1 22&&(ab0 t2 3&&(ab0 t3 3&&(ab0 a 1&&(ab0 b 2&&ab0 c 3))))) then some (.p ((nr=af.length/\np=ah.length/\k=w.toNat/\2*(w/2)=w)/\0<=x/\x.toNat<ah.length),bB (decide (ah.getD x.toNat 0=x.toNat)),
    [⟨t,[.c (.int .i64 w),.c (.int .i64 aq),.c (.sl a 0 nr 1),.c (.sl b 0 np 1),.c (.sl c 0 dn 1),.c (.int .i64 aj),.c (.int .i64 aF)]⟩,⟨t1,[.c (.th k af)]⟩,⟨t2,[.a 0 (.int .i64) ah]⟩,⟨t3,[.a 0 (.int .i64) dl]⟩]) else none
 | _,_=>none }
theorem Oz:aK Tryz.prog 56 DP:=by
 refine⟨by kernel_rfl,fun args ar c r aY e hc=>?_⟩;simp only[DP] at e;split at e;rename_i x t w aq a nr b np c' dn aj aF t1 k af t2 ah t3 dl;obtain⟨hb,e1⟩:=aA.aH e;clear e;simp only[ab6] at hb;obtain⟨h1,h2,h3,h4,h5,h6,h7⟩:=hb;cases abZ h1;cases abZ h2;cases abZ h3;cases abZ h4;cases abZ h5;cases abZ h6;cases abZ h7;cases e1;obtain⟨⟨rfl,rfl,rfl,hw⟩,hx,hl⟩:=hc;have:=Oy (nk w aq aj aF af ah dl dn) x.toNat hl;rw[<-fR hx] at this;simp only[aX,dO,aO,nk,hw] at this;rw[show ((x.toNat:Nat):Int)=x by omega];exact this;cases e
def gTt:bN:=[(56,DP),(59,Qx)]
theorem Fw:bp Tryz.prog gTt:=av Oz (av TX aE)
abbrev pTta:List Nat:=[0,1,0,1,1,1]
abbrev abA:List Nat:=[0,1,0,1,1,1,1,1]
abbrev pTtc:List Nat:=[0,1,0,1,1,1,0,0,1,1,0,0,1,0,1,1,1,1,1]
abbrev ND:List (List Nat×List Nat):=[(pTta,[0,3,4,21,22]),(abA,[0,3,6,38,39,40]),(pTtc,[0,3,6,9,38,39,40,52,53])]
def AZ:Site:=bD Tryz.prog gTt Tryz.f24 1 ND [] [some dL]
abbrev obTn(s:Rn)(l:List Int):List Ob:=[dO s 2 3 4,aB l,aO s,aB s.ah,aB s.dl]
def TY(f:Rn->Prop×A×Rn):bI:={ refs:=[true],keep:=some 1,f:=fun args ar=>match args with
 | [.p (.c (.ptr 0 0))]=>match Nk ar with
   | some (c,r)=>some (.p (c/\(f r).1),(f r).2.1,aX (f r).2.2)
   | none=>none
 | _=>none }
theorem abB{P:Program}{fn:FuncId}{f:Rn->Prop×A×Rn}(he:enters P fn=true)(h:∀ r,Br r->(f r).1->bn P fn 1 [pR] (aX r) (f r).2.1 (aX (f r).2.2)):aK P fn (TY f):=by
 refine⟨he,fun args ar c r aY e hc=>?_⟩;simp only[TY] at e;split at e;split at e;rename_i c1 r1 hr;cases e;obtain⟨h1,h2⟩:=hc;rw[(oz hr h1).1];exact h _ (oz hr h1).2 h2;cases e;cases e
def yK(s:Rn):Prop:=∀ a,a<s.af.length->s.ah.getD a 0=(a:Int)->∀ x∈s.af.getD a [],0<=x/\x.toNat<s.af.length
abbrev obTt2(s:Rn)(t:List (List Int)):List Ob:=[dO s 3 4 5,aB (l5 s),j7 t,aO s,aB s.ah,aB s.dl]
abbrev fT(s:Rn)(x:Int):Int:=(l5 s).getD x.toNat 0
theorem X6{L:List Int}{f:Int->Int}{c:Nat}(h:c<L.length):((L.take c).map f++L.drop c).getD c 0=L.getD c 0/\((L.take c).map f++L.drop c).set c (f (L.getD c 0))=(L.take (c+1)).map f++L.drop (c+1):=by
 have hl:((L.take c).map f).length=c:=by rw[ach,List.length_take];omega
 have hd:L.drop c=L.getD c 0::L.drop (c+1):=by
  rw[acj h,ab1,ab5 h];rfl
 have ht:L.take (c+1)=L.take c++[L.getD c 0]:=by
  rw[List.take_succ_eq_append_getElem h,ab1,ab5 h];rfl
 refine⟨?_,?_⟩;rw[hd,ab1,List.getElem?_append_right (by omega),hl,acu];rfl;rw[hd,List.set_append_right _ _ (by omega),hl,acu,List.set_cons_zero,ht,List.map_append,aci];rfl
theorem tt_c(s:Rn)(T:br s)(i:Nat)(hi:i<s.af.length)(L:List Int)(hLx:∀ x∈L,0<=x/\x.toNat<s.af.length)(hLl:L.length<=100)(t:List (List Int))(ht:t.length<=i)
 (hN:au AZ (aC (bH (jy s)) (aX s)) abA (fr [(0,pR),(3,eY 1 s.af.length),(6,eY 2 (t.length+1)),(38,eY 3 s.af.length),(39,nI s.af.length),(40,nI (i+1:Nat))]) (.ofList (obTt2 s (t++[L.map (fT s)])))):∀(n c:Nat),n=L.length-c->c<=L.length->
 au AZ (aC (bH (jy s)) (aX s)) pTtc (fr [(0,pR),(3,eY 1 s.af.length),(6,eY 2 t.length),(9,eY 3 L.length),(38,eY 4 s.af.length),(39,nI s.af.length),(40,nI i),(52,nI L.length),(53,nI c)]) (.ofList [dO s 4 5 6,aB (l5 s),j7 t,aB ((L.take c).map (fT s)++L.drop c),aO s,aB s.ah,aB s.dl])
 | n,c,hn,hc=>by
   refine aL Fw (by kernel_rfl) 100 ?_;apply of_eq (q:=let q1:=(List.map (fT s) (ab7 c L)++ab8 c L);let q2:=(0:Nat);(decide ((c:Int)<(L.length:Int))=true->((0:Int)<=(c:Int)/\(c:Int)<(L.length:Int))/\q2+c<q1.length/\((0:Int)<=q1.getD (q2+c) (0:Int)/\q1.getD (q2+c) (0:Int)<(s.af.length:Int))/\q2+(q1.getD (q2+c) (0:Int)).toNat<(l5 s).length/\((0:Int)<=(c:Int)/\(c:Int)<(L.length:Int))/\q2+c<q1.length/\au AZ (aC (bH (jy s)) (aX s)) [0,1,0,1,1,1,0,0,1,1,0,0,1,0,1,1,1,1,1] (fr [(0,aR 0 0),(3,aS 1 0 s.af.length),(6,aS 2 0 t.length),(9,aS 3 0 L.length),(38,aS 4 0 s.af.length),(39,nI (s.af.length:Int)),(40,nI (i:Int)),(52,nI (L.length:Int)),(53,nI (IntKind.i64.wrap ((c:Int)+1)))]) (ak.ofList [dO s 4 5 6,aB (l5 s),j7 t,aB (q1.set (q2+c) ((l5 s).getD (q2+(q1.getD (q2+c) (0:Int)).toNat) (0:Int))),aO s,aB s.ah,aB s.dl]))/\(decide ((c:Int)<(L.length:Int))=false->q2+L.length<=q1.length/\q2+1<=1/\(q2+t.length<=t.length/\(t.length+1)*24<=140737488355328)/\au AZ (aC (bH (jy s)) (aX s)) [0,1,0,1,1,1,1,1] (fr [(0,aR 0 0),(3,aS 1 0 s.af.length),(6,aS 2 0 (t.length+1)),(38,aS 3 0 s.af.length),(39,nI (s.af.length:Int)),(40,nI (IntKind.i64.wrap ((i:Int)+1)))]) (ak.ofList [dO s 3 4 5,aB (l5 s),j7 (ab7 t.length (ab8 q2 t)++ab7 (1:Nat) (ab8 q2 ([]++[ab7 L.length (ab8 q2 q1)]))),aO s,aB s.ah,aB s.dl]))) (by kernel_rfl)
   try simp only[sL]
   have ko:1<=s.g:=T.g1;have kT:s.g<=16:=T.g2;have hnl:=(Qq s).1;have hpl:=gB T;have hp:s.ah.length<=1000000:=T.ah.1;have hll:((L.take c).map (fT s)++L.drop c).length=L.length:=by simp;omega
   rw[wrap64 (n:=(c:Int)+1) (by omega) (by omega),wrap64 (n:=(i:Int)+1) (by omega) (by omega)];refine⟨fun h=>?_,fun h=>?_⟩
   . obtain⟨a1,a2⟩:=X6 (f:=fT s) (show c<L.length by omega);have hx:=hLx _ (fB (l:=L) (a:=c) (by omega));cases n with
     | zero=>omega
     | succ n =>
       have:=tt_c s T i hi L hLx hLl t ht hN n (c+1) (by omega) (by omega);rw[<-a2] at this;rw[a1];exact⟨by omega,by omega,by omega,by omega,by omega,by omega,this⟩
   have cn:c=L.length:=by omega
   subst cn;rw[List.take_length,List.drop_length,ack] at *;have e1:ab7 L.length (L.map (fT s))=L.map (fT s):=List.take_of_length_le (by rw[ach];exact acn _);rw[e1];exact⟨by rw[ach];exact acn _,by omega,hN⟩
theorem abC(s:Rn)(T:br s)(hfull:yK s):∀(n i:Nat)(t:List (List Int)),n=s.af.length-i->i<=s.af.length->t.length<=i->t++iA s.ah (fun x=>(l5 s).getD x.toNat 0) i (s.af.drop i)=jy s->
 au AZ (aC (bH (jy s)) (aX s)) abA (fr [(0,pR),(3,eY 1 s.af.length),(6,eY 2 t.length),(38,eY 3 s.af.length),(39,nI s.af.length),(40,nI i)]) (.ofList (obTt2 s t))
 | n, i, t, hn, hi, ht, e => by
   refine aL Fw (by kernel_rfl) 100 ?_;apply of_eq (q:=let q1:=(s.af.getD ((0:Nat)+i) []);let q2:=(s.af.length:Int);let q3:=((2:Int)*s.g);(decide ((i:Int)<q2)=true->((0:Int)<=(i:Int)/\(i:Int)<q2)/\(0:Nat)+i<s.af.length/\((s.af.length=s.af.length/\s.ah.length=s.ah.length/\q3.toNat=q3.toNat/\(2:Int)*((2:Int)*s.g/2)=2*s.g)/\(0:Int)<=(i:Int)/\i<s.ah.length)/\((!decide (s.ah.getD i (0:Int)=(i:Int)))=true->au AZ (aC (bH (jy s)) (aX s)) [0,1,0,1,1,1,1,1] (fr [(0,aR 0 0),(3,aS 1 0 s.af.length),(6,aS 2 0 t.length),(38,aS 3 0 s.af.length),(39,nI q2),(40,nI (IntKind.i64.wrap ((i:Int)+1)))]) (ak.ofList [dO s 3 4 5,aB (l5 s),j7 t,aO s,aB s.ah,aB s.dl]))/\((!decide (s.ah.getD i (0:Int)=(i:Int)))=false->((0:Nat)+i<s.af.length/\q3.toNat=q3.toNat)/\((0:Nat)<q1.length/\q1.length<=1000000)/\au AZ (aC (bH (jy s)) (aX s)) [0,1,0,1,1,1,0,0,1,1,0,0,1,0,1,1,1,1,1] (fr [(0,aR 0 0),(3,aS 1 0 s.af.length),(6,aS 2 0 t.length),(9,aS 3 0 q1.length),(38,aS 4 0 s.af.length),(39,nI q2),(40,nI (i:Int)),(52,nI (↑q1.length:Int)),(53,nI (0))]) (ak.ofList [Ob.mk 63 [fI q3,fI s.aq,fS 4 0 s.af.length,fS 5 0 s.ah.length,fS 6 0 s.dn,fI s.aj,fI s.aF],aB (l5 s),j7 t,aB q1,aO s,aB s.ah,aB s.dl])))/\(decide ((i:Int)<q2)=false->(0:Nat)+t.length<=t.length/\aD [V.c (wL (ab7 t.length (ab8 (0:Nat) t)))]=bH (jy s)/\[dO s (1:Nat) (2:Nat) (3:Nat),aO s,aB s.ah,aB s.dl]=aX s)) (by kernel_rfl)
   try simp only[sL,Nat.reduceAdd]
   simp only[half];have hpl:=gB T;have hp:s.ah.length<=1000000:=T.ah.1;have ko:1<=s.g:=T.g1;have kT:s.g<=16:=T.g2;rw[wrap64 (n:=(i:Int)+1) (by omega) (by omega)];refine⟨fun h=>?_,fun h=>?_⟩
   . have fZ:i<s.af.length:=by omega
     have hlen:(s.af.getD i []).length=(2*s.g).toNat:=(T.row _ (dZ fZ)).1;have hd:s.af.drop i=s.af.getD i []::s.af.drop (i+1):=by
      rw[acj fZ,ab1,ab5 fZ];rfl
     rw[hd,iA] at e;cases n with
     | zero=>omega
     | succ n =>
       refine⟨by omega,fZ,⟨trivial,by omega,by omega⟩,fun h1=>?_,fun h1=>⟨fZ,by omega,?_⟩⟩;rw[if_neg h1] at e;exact abC s T hfull n (i+1) t (by omega) (by omega) (by omega) e;rw[if_pos h1] at e;have:=abC s T hfull n (i+1) (t++[(s.af.getD i []).map (fT s)]) (by omega) (by omega) (by simp;omega) (by rw[aci];exact e);rw[ab4,ab3] at this;exact tt_c s T i fZ (s.af.getD i []) (hfull i fZ h1) (by omega) t ht this _ 0 rfl (ace _)
   rw[List.drop_eq_nil_of_le (by omega),iA,ack] at e;rw[e];rfl
theorem abD(s:Rn)(T:br s)(hfull:yK s):∀(n i:Nat)(l:List Int),n=s.af.length-i->i<=s.af.length->l.length=s.af.length->yJ s.ah n i (rk s.ah i) l=l5 s->
 au AZ (aC (bH (jy s)) (aX s)) pTta (fr [(0,pR),(3,eY 1 s.af.length),(4,nI (rk s.ah i)),(21,nI s.af.length),(22,nI i)]) (.ofList (obTn s l))
 | n,i,l,hn,hi,hl,e=>by
   refine aL Fw (by kernel_rfl) 100 ?_;apply of_eq (q:=let q1:=(s.af.length:Int);(decide ((i:Int)<q1)=true->((s.af.length=s.af.length/\s.ah.length=s.ah.length/\((2:Int)*s.g).toNat=((2:Int)*s.g).toNat/\(2:Int)*((2:Int)*s.g/2)=2*s.g)/\(0:Int)<=(i:Int)/\i<s.ah.length)/\(decide (s.ah.getD i (0:Int)=(i:Int))=true->((0:Int)<=(i:Int)/\(i:Int)<q1)/\(0:Nat)+i<l.length/\au AZ (aC (bH (jy s)) (aX s)) [0,1,0,1,1,1] (fr [(0,aR 0 0),(3,aS 1 0 s.af.length),(4,nI (IntKind.i64.wrap ((↑(rk s.ah i):Int)+1))),(21,nI q1),(22,nI (IntKind.i64.wrap ((i:Int)+1)))]) (ak.ofList [dO s 2 3 4,aB (l.set ((0:Nat)+i) (↑(rk s.ah i):Int)),aO s,aB s.ah,aB s.dl]))/\(decide (s.ah.getD i (0:Int)=(i:Int))=false->au AZ (aC (bH (jy s)) (aX s)) [0,1,0,1,1,1] (fr [(0,aR 0 0),(3,aS 1 0 s.af.length),(4,nI (↑(rk s.ah i):Int)),(21,nI q1),(22,nI (IntKind.i64.wrap ((i:Int)+1)))]) (ak.ofList [dO s 2 3 4,aB l,aO s,aB s.ah,aB s.dl])))/\(decide ((i:Int)<q1)=false->au AZ (aC (bH (jy s)) (aX s)) [0,1,0,1,1,1,1,1] (fr [(0,aR 0 0),(3,aS 1 0 s.af.length),(6,aS 2 0 0),(38,aS 3 0 s.af.length),(39,nI q1),(40,nI (0))]) (ak.ofList [dO s 3 4 5,aB l,j7 ([]),aO s,aB s.ah,aB s.dl]))) (by kernel_rfl)
   try simp only[sL]
   have hpl:=gB T;have hp:s.ah.length<=1000000:=T.ah.1;have UU:=rz s.ah;have hmono:=GA s.ah i (s.ah.length-i);rw[show i+(s.ah.length-i)=s.ah.length by omega,rk_al] at hmono;have uf:=mJ s.ah i;simp only[half];rw[wrap64 (n:=(i:Int)+1) (by omega) (by omega),wrap64 (n:=(rk s.ah i:Int)+1) (by omega) (by omega)];refine⟨fun h=>⟨⟨trivial,by omega,by omega⟩,fun h1=>⟨by omega,by omega,?_⟩,fun h1=>?_⟩,fun h=>?_⟩
   . cases n with
     | zero=>omega
     | succ n =>
       rw[yJ,if_pos h1] at e;rw[if_pos h1] at uf;have:=abD s T hfull n (i+1) (l.set i (rk s.ah i:Nat)) (by omega) (by omega) (by rw[acd];exact hl) (by rw[uf];exact e);rw[uf] at this;exact this
   . cases n with
     | zero=>omega
     | succ n =>
       rw[yJ,if_neg h1] at e;rw[if_neg h1] at uf;have:=abD s T hfull n (i+1) l (by omega) (by omega) hl (by rw[uf];exact e);rw[uf] at this;exact this
   have:n=0:=by omega
   subst this;rw[show l=l5 s from e];exact abC s T hfull _ 0 [] rfl (ace _) (ace _) rfl
theorem T9(s:Rn)(T:br s)(hfull:yK s):bn Tryz.prog 24 1 [pR] (aX s) (bH (jy s)) (aX s):=by
 refine bJ (aj:=ND) (bZ:=[]) (fz:=[some dL]) Fw Tryz.func24 (by kernel_rfl) 1 (by kernel_rfl) 100 ?_;apply of_eq (q:=let q1:=(s.af.length:Int);((0:Int)<=q1/\q1<=q1/\(↑(8:Nat):Int)*q1<=140737488355328)/\au (bD Tryz.prog gTt Tryz.f24 (1:Nat) ND [] [some dL]) (aC (bH (jy s)) (aX s)) [0,1,0,1,1,1] (fr [(0,aR 0 0),(3,aS 1 0 s.af.length),(4,nI (0)),(21,nI q1),(22,nI (0))]) (ak.ofList [dO s 2 3 4,aB (ab9 s.af.length (0:Int)),aO s,aB s.ah,aB s.dl])) (by kernel_rfl)
 try simp only[sL]
 have hpl:=gB T;have hp:s.ah.length<=1000000:=T.ah.1;exact⟨⟨by omega,by omega⟩,abD s T hfull s.af.length 0 _ rfl (ace _) (acf ..) rfl⟩
def Qy:bI:=TY fun r=>(br r/\yK r,bH (jy r),r)
theorem Ua:aK Tryz.prog 24 Qy:=abB (by kernel_rfl) fun r _ h=>T9 r h.1 h.2
end Go.Proofs.YtlbmkeimafgemaaGreatDoor
