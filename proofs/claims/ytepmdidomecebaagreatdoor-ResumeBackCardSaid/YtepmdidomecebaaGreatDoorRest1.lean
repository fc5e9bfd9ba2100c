/- Tables of cosets: neighbours know each other, the dead have no neighbours, rows that were done stay full. -/
import Derived.Test.YtepmdidomecebaaGreatDoorKnown1
namespace Go.cG
theorem Dp (c:Nat):cw (cw c)=c:=by unfold cw;split <;> split <;> omega
theorem MJ (c:Nat):cw c≠c:=by unfold cw;split <;> omega
theorem zK {k n:Nat} {rows:List (List Int)} (h:∀ l∈rows,Row k n l) {a c:Nat} {x:Int} (ha:a<rows.length) (hc:c<k) (b d:Nat) :
 bD (jE rows a c x) b d=if b=a/\d=c then x else bD rows b d:=by
 unfold bD jE;rw [vP];have hlen:=(h _ (fw ha)).1;by_cases hb:b=a
 . subst hb;rw [if_pos ⟨rfl,ha⟩,ku];by_cases hd:d=c
   . subst hd;rw [if_pos ⟨rfl,by omega⟩,if_pos ⟨rfl,rfl⟩]
   . rw [if_neg (by omega),if_neg (by omega)]
 . rw [if_neg (by omega),if_neg (by omega)]
def Nb (r:Rn):Prop:=∀ a c,a<r.rows.length->c<(2*r.g).toNat->0<=bD r.rows a c->bD r.rows (bD r.rows a c).toNat (cw c)=a
def Live (r:Rn) (a:Nat):Prop:=r.par.getD a 0=(a:Int)
def Dd (r:Rn) (D:Nat->Prop):Prop:=∀ a c,a<r.rows.length->c<(2*r.g).toNat->¬ Live r a->¬ D a->bD r.rows a c<0
def Cp (r:Rn) (K:Nat):Prop:=∀ a c,a<r.rows.length->a<K->c<(2*r.g).toNat->Live r a->∃ x,x<r.rows.length/\top r.par x=a/\0<=bD r.rows x c
theorem Nb.dead {r:Rn} (T:eu r) (N:Nb r) {e c:Nat} (he:e<r.rows.length) (hc:c<(2*r.g).toNat) (h:0<=bD r.rows e c) :
 Nb (dH r e c)/\∀ b d,bD (dH r e c).rows b d=if (b=(bD r.rows e c).toNat/\d=cw c)∨(b=e/\d=c) then -1 else bD r.rows b d:=by
 have hr:=gk T.row he hc;have hf:=T.flip hc;have hd:(bD r.rows e c).toNat<r.rows.length:=by omega
 have rw1:=oN (c:=c) (x:=-1) T.row he (by omega);have ent:∀ b d,bD (dH r e c).rows b d=if (b=(bD r.rows e c).toNat/\d=cw c)∨(b=e/\d=c) then -1 else bD r.rows b d:=by
  intro b d;show bD (jE (jE r.rows e c (-1)) (bD r.rows e c).toNat (cw c) (-1)) b d=_;rw [zK rw1 (by rw [gD];exact hd) hf,zK T.row he hc];by_cases h1:b=(bD r.rows e c).toNat/\d=cw c
  . rw [if_pos h1,if_pos (.inl h1)]
  . rw [if_neg h1];by_cases h2:b=e/\d=c
    . rw [if_pos h2,if_pos (.inr h2)]
    . rw [if_neg h2,if_neg (by rintro (h | h);exact h1 h;exact h2 h)]
 refine ⟨fun a x ha hx h0=>?_,ent⟩;have hlen:(dH r e c).rows.length=r.rows.length:=by unfold dH;simp only [gD]
 rw [hlen] at ha;have ea:=ent a x;by_cases h1:(a=(bD r.rows e c).toNat/\x=cw c)∨(a=e/\x=c)
 . rw [if_pos h1] at ea;omega
 . rw [if_neg h1] at ea;rw [ea] at h0 ⊢;have old:=N a x ha hx h0;have oe:=N e c he hc h;rw [ent,if_neg,old];rintro (⟨g1,g2⟩ | ⟨g1,g2⟩)
   . rw [g1,g2,oe] at old;have:x=c:=by rw [<-Dp x,g2,Dp]
     exact h1 (.inr ⟨by omega,this⟩)
   . rw [g1,g2] at old;have:x=cw c:=by rw [<-g2,Dp]
     exact h1 (.inl ⟨by omega,this⟩)
theorem Nb.join {r:Rn} (hrow:∀ l∈r.rows,Row (2*r.g).toNat r.rows.length l) (hfl:∀ {c},c<(2*r.g).toNat->cw c<(2*r.g).toNat) (N:Nb r) {u c v:Nat} (hu:u<r.rows.length) (hv:v<r.rows.length) (hc:c<(2*r.g).toNat) (h1:bD r.rows u c<0) (h2:bD r.rows v (cw c)<0) :
 Nb (cG.join r u c v)/\∀ b d,bD (cG.join r u c v).rows b d=if b=v/\d=cw c then (u:Int) else if b=u/\d=c then (v:Int) else bD r.rows b d:=by
 have hf:=hfl hc;have rw1:=oN (c:=c) (x:=(v:Int)) hrow hu (by omega);have ent:∀ b d,bD (cG.join r u c v).rows b d=if b=v/\d=cw c then (u:Int) else if b=u/\d=c then (v:Int) else bD r.rows b d:=by
  intro b d;show bD (jE (jE r.rows u c v) v (cw c) u) b d=_;rw [zK rw1 (by rw [gD];exact hv) hf,zK hrow hu hc]
 refine ⟨fun a x ha hx h0=>?_,ent⟩;have hlen:=(jD r u c v).1;rw [hlen] at ha;have hne:=MJ c;rw [ent] at h0;have ea:=ent a x;by_cases g1:a=v/\x=cw c
 . rw [ea,if_pos g1,Int.toNat_natCast,ent,g1.2,Dp,if_neg (by omega),if_pos ⟨rfl,rfl⟩,g1.1]
 . rw [if_neg g1] at h0 ea;by_cases g2:a=u/\x=c
   . rw [ea,if_pos g2,Int.toNat_natCast,ent,g2.2,if_pos ⟨rfl,rfl⟩,g2.1]
   . rw [if_neg g2] at h0 ea;have old:=N a x ha hx h0;rw [ea,ent];by_cases g3:(bD r.rows a x).toNat=v/\cw x=cw c
     . exfalso;rw [g3.1,g3.2] at old;omega
     . rw [if_neg g3];by_cases g4:(bD r.rows a x).toNat=u/\cw x=c
       . exfalso;rw [g4.1,g4.2] at old;omega
       . rw [if_neg g4];exact old
theorem ZF {par:List Int} (hp:jG par) {m s:Nat} (hm:m<par.length) (hlm:par.getD m 0=(m:Int)) (hls:par.getD s 0=(s:Int)) (Lh:s<m):∀ (x:Nat),x<par.length->top (par.set m (s:Int)) x=if top par x=m then s else top par x:=by
 have hp':jG (par.set m (s:Int)):=by
  refine ⟨by rw [List.length_set];exact hp.1,fun i hi=>?_⟩;rw [List.length_set] at hi;rw [ku];split
  . omega
  . exact hp.2 i hi
 intro x
 induction x using Nat.strongRecOn with
 | ind x ih =>
   intro hx;have hg:(par.set m (s:Int)).getD x 0=if m=x then (s:Int) else par.getD x 0:=by
    rw [ku];by_cases e:m=x
    . rw [if_pos ⟨e,hm⟩,if_pos e]
    . rw [if_neg (by omega),if_neg e]
   by_cases e:m=x
   . subst e;rw [if_pos rfl] at hg;rw [kr hlm,if_pos rfl,vO hp' (by rw [List.length_set];exact hx) (by omega),hg,Int.toNat_natCast];refine kr ?_;rw [ku,if_neg (by omega)];exact hls
   . rw [if_neg e] at hg;by_cases hl:par.getD x 0=(x:Int)
     . rw [kr (hg.trans hl),kr hl,if_neg (by omega)]
     . have hpx:=hp.2 x hx;rw [vO hp' (by rw [List.length_set];exact hx) (by omega),hg,vO hp hx hl];exact ih _ (by omega) (by omega)
structure Mg (r r':Rn) (a b:Nat):Prop where
 rows:r'.rows=r.rows
 g:r'.g=r.g
 live:∀ x,x<r.rows.length->Live r' x->Live r x
 tp:∀ x,x<r.rows.length->∀ y,Live r' y->y<r.rows.length->cG.top r.par x=y->cG.top r'.par x=y
 ab:∀ y,y<r.rows.length->Live r' y->(cG.top r.par a=y∨cG.top r.par b=y)->cG.top r'.par a=y/\cG.top r'.par b=y
 dl:∀ x,x<r.rows.length->Live r x->¬ Live r' x->∃ j,j<r'.dn/\r'.dl.getD j 0=(x:Int)
 old:∀ j,j<r.dn->r'.dl.getD j 0=r.dl.getD j 0
 dn:r.dn<=r'.dn
 dead:∀ j,r.dn<=j->j<r'.dn->¬ Live r' (r'.dl.getD j 0).toNat
theorem wo {r:Rn} (T:eu r) {a b:Nat} (ha:a<r.rows.length) (hb:b<r.rows.length):Mg r (merge r a b) a b:=by
 have hl:=T.len;have pa:=kD T.par (show a<r.par.length by omega);have pb:=kD T.par (show b<r.par.length by omega);have qa:=nA T.par (show a<r.par.length by omega);have qb:=nA T.par (show b<r.par.length by omega);unfold merge;split
 . rename_i h;exact ⟨rfl,rfl,fun _ _ h=>h,fun _ _ _ _ _ h=>h,fun y _ _ h2=>by rcases h2 with h2 | h2 <;> exact ⟨by omega,by omega⟩,fun x _ h1 h2=>absurd h1 h2,fun _ _=>rfl,Nat.le_refl _,fun j h1 h2=>by omega⟩
 . rename_i h;have hm:max (top r.par a) (top r.par b)<r.par.length:=by omega
   have hlm:r.par.getD (max (top r.par a) (top r.par b)) 0=((max (top r.par a) (top r.par b):Nat):Int):=by
    rcases Nat.le_total (top r.par a) (top r.par b) with h1 | h1
    . rw [Nat.max_eq_right h1];exact qb
    . rw [Nat.max_eq_left h1];exact qa
   have hls:r.par.getD (min (top r.par a) (top r.par b)) 0=((min (top r.par a) (top r.par b):Nat):Int):=by
    rcases Nat.le_total (top r.par a) (top r.par b) with h1 | h1
    . rw [Nat.min_eq_left h1];exact qa
    . rw [Nat.min_eq_right h1];exact qb
   have ts:=ZF T.par hm hlm hls (show min (top r.par a) (top r.par b)<max (top r.par a) (top r.par b) by omega);have tK:∀ x,Live { r with par:=r.par.set (max (top r.par a) (top r.par b)) (min (top r.par a) (top r.par b):Nat),dl:=r.dl.take r.dn++[((max (top r.par a) (top r.par b):Nat):Int)],dn:=r.dn+1,live:=r.live-1 } x↔(x≠max (top r.par a) (top r.par b)/\Live r x):=by
    intro x;unfold Live;simp only;rw [ku];by_cases e:max (top r.par a) (top r.par b)=x
    . rw [if_pos ⟨e,hm⟩];constructor
      . intro h;omega
      . intro h;exact absurd e.symm h.1
    . rw [if_neg (fun h=>e h.1)];exact ⟨fun h=>⟨fun h2=>e h2.symm,h⟩,fun h=>h.2⟩
   have hdy:=T.dy;have htk:(r.dl.take r.dn).length=r.dn:=by rw [List.length_take];omega
   refine ⟨rfl,rfl,fun x _ hx=>((tK x).1 hx).2,fun x hx y hy _ ht=>?_,fun y _ hy h2=>?_,fun x _ h1 h2=>?_,fun j hj=>?_,Nat.le_succ _,fun j h1 h2=>?_⟩
   . have hne:=((tK y).1 hy).1;show top (r.par.set _ _) x=y;rw [ts x (by omega),ht,if_neg hne]
   . have hne:=((tK y).1 hy).1;show top (r.par.set _ _) a=y/\top (r.par.set _ _) b=y;rw [ts a (by omega),ts b (by omega)];refine ⟨?_,?_⟩ <;> split <;> omega
   . have:x=max (top r.par a) (top r.par b):=by
      refine Classical.byContradiction fun hne=>h2 ((tK x).2 ⟨hne,h1⟩)
     refine ⟨r.dn,Nat.lt_succ_self _,?_⟩;show (r.dl.take r.dn++[_]).getD r.dn 0=_;rw [List.getD_eq_getElem?_getD,List.getElem?_append_right (by omega),htk,Nat.sub_self,this];rfl
   . show (r.dl.take r.dn++[_]).getD j 0=_;rw [List.getD_eq_getElem?_getD,List.getElem?_append_left (by omega),List.getElem?_take,if_pos hj,List.getD_eq_getElem?_getD]
   . have:j=r.dn:=by
      have h2:j<r.dn+1:=h2;omega
     subst this;show ¬ Live _ ((r.dl.take r.dn++[((max (top r.par a) (top r.par b):Nat):Int)]).getD r.dn 0).toNat;rw [List.getD_eq_getElem?_getD,List.getElem?_append_right (by omega),htk,Nat.sub_self];intro hx;exact ((tK _).1 hx).1 rfl
def DL (r:Rn) (k:Nat) (a:Nat):Prop:=∃ j,k<=j/\j<r.dn/\r.dl.getD j 0=(a:Int)
structure Dy (r:Rn) (K k:Nat) (X:Nat->Prop):Prop where
 nb:Nb r
 cp:Cp r K
 dd:Dd r fun a=>X a∨DL r k a
 dl:∀ j,j<r.dn->¬ Live r (r.dl.getD j 0).toNat
structure Cl (r r':Rn) (e c:Nat):Prop where
 live:∀ x,x<r.rows.length->Live r' x->Live r x
 old:∀ j,j<r.dn->r'.dl.getD j 0=r.dl.getD j 0
 dn:r.dn<=r'.dn
 here:bD r'.rows e c<0
 keep:∀ x,bD r.rows e x<0->bD r'.rows e x<0
theorem Bz {r:Rn} (T:eu r) {K k:Nat} {X:Nat->Prop} {a b:Nat} (ha:a<r.rows.length) (hb:b<r.rows.length) (hk:k<=r.dn)
 (nb:Nb r) (dd:Dd r fun a=>X a∨DL r k a) (dl:∀ j,j<r.dn->¬ Live r (r.dl.getD j 0).toNat)
 (cp:∀ y c,y<r.rows.length->y<K->c<(2*r.g).toNat->Live (merge r a b) y->∃ x,x<r.rows.length/\top (merge r a b).par x=y/\0<=bD r.rows x c) :
 Dy (merge r a b) K k X:=by
 have M:=wo T ha hb;have hlen:(merge r a b).rows.length=r.rows.length:=by rw [M.rows]
 refine ⟨fun y c hy hc h0=>?_,fun y c hy hK hc hl=>?_,fun y c hy hc hl hx=>?_,fun j hj=>?_⟩
 . rw [M.rows] at hy h0 ⊢;rw [M.g] at hc;exact nb y c hy hc h0
 . rw [hlen] at hy ⊢;rw [M.g] at hc;rw [M.rows];exact cp y c hy hK hc hl
 . rw [hlen] at hy;rw [M.g] at hc;rw [M.rows];have ot:¬ X y:=fun h=>hx (.inl h);by_cases oh:Live r y
   . exfalso;obtain ⟨j,hj,ej⟩:=M.dl y hy oh hl;by_cases hjd:j<r.dn
     . have:=dl j hjd;rw [M.old j hjd] at ej;rw [ej,Int.toNat_natCast] at this;exact this oh
     . exact hx (.inr ⟨j,by omega,hj,ej⟩)
   . refine dd y c hy hc oh ?_;rintro (h | ⟨j,h1,h2,h3⟩)
     . exact ot h
     . have:=M.dn;exact hx (.inr ⟨j,h1,by omega,by rw [M.old j h2];exact h3⟩)
 . by_cases hjd:j<r.dn
   . rw [M.old j hjd];intro hl;have hm:(r.dl.getD j 0)∈r.dl:=gO (by have:=T.dy;omega);have:=T.dx _ hm;exact dl j hjd (M.live _ (by omega) hl)
   . exact M.dead j (by omega) hj
theorem ZG {r : Rn} (T : eu r) {K k : Nat} {X : Nat → Prop} (H : Dy r K k X) {e c : Nat} (he : e < r.rows.length) (hc : c < (2 * r.g).toNat) (Yj : ¬ Live r e) (hk : k ≤ r.dn) :
 Dy (cell r e c) K k X/\Cl r (cell r e c) e c:=by
 unfold cell;have hr:=gk T.row he hc;split
 . rename_i h;exact ⟨H,fun _ _ h=>h,fun _ _=>rfl,Nat.le_refl _,h,fun _ h=>h⟩
 . rename_i hd;have hd2:(bD r.rows e c).toNat<r.rows.length:=by omega
   have T1:eu (dH r e c):=T.dead (c:=c) he hd2;obtain ⟨N1,ent⟩:=H.nb.dead T he hc (by omega);have hl:=T.len;have hlen:(dH r e c).rows.length=r.rows.length:=by unfold dH;simp only [gD]
   have pu:=kD T.par (show e<r.par.length by omega);have pv:=kD T.par (show (bD r.rows e c).toNat<r.par.length by omega);have lu:Live r (top r.par e):=nA T.par (show e<r.par.length by omega);have lv:Live r (top r.par (bD r.rows e c).toNat):=nA T.par (show (bD r.rows e c).toNat<r.par.length by omega);have hue:top r.par e≠e:=fun h=>Yj (h▸lu);have jr:top r.par (bD r.rows e c).toNat≠e:=fun h=>Yj (h▸lv);have hf:=T.flip hc;have hcn:=MJ c;have dd1:Dd (dH r e c) fun a=>X a∨DL r k a:=fun a x ha hx hla hX=>by
    rw [ent];split
    . omega
    . exact H.dd a x (by omega) hx hla hX
   have cp1 : ∀ a x, a < r.rows.length → a < K → x < (2 * r.g).toNat → Live r a → (∃ y, y < r.rows.length ∧ top r.par y = a ∧ 0 ≤ bD (dH r e c).rows y x) ∨ (a = top r.par e ∧ x = c) ∨ (a = top r.par (bD r.rows e c).toNat ∧ x = cw c) := by
    intro a x ha hK hx hla;obtain ⟨y,y1,y2,y3⟩:=H.cp a x ha hK hx hla;by_cases g1:y=e/\x=c
    . exact .inr (.inl ⟨by rw [<-y2,g1.1],g1.2⟩)
    . by_cases g2:y=(bD r.rows e c).toNat/\x=cw c
      . exact .inr (.inr ⟨by rw [<-y2,g2.1],g2.2⟩)
      . refine .inl ⟨y,y1,y2,?_⟩;rw [ent,if_neg (by rintro (h | h);exact g2 h;exact g1 h)];exact y3
   generalize hu:top r.par e=u at *;generalize hv:top r.par (bD r.rows e c).toNat=v at *;have hun:u<r.rows.length:=by omega
   have hvn:v<r.rows.length:=by omega
   have tu:top r.par u=u:=kr lu;have tv:top r.par v=v:=kr lv;have hec:bD (dH r e c).rows e c<0:=by rw [ent,if_pos (.inr ⟨rfl,rfl⟩)];omega
   have hek:∀ x,bD r.rows e x<0->bD (dH r e c).rows e x<0:=fun x hx=>by
    rw [ent];split
    . omega
    . exact hx
   have r1:=gk T1.row (a:=u) (c:=c) (by omega) hc;have r2:=gk T1.row (a:=v) (c:=cw c) (by omega) hf;unfold nY;split
   . rename_i h1;have hw:(bD (dH r e c).rows u c).toNat<(dH r e c).rows.length:=by omega
     have M:=wo T1 hw (show v<(dH r e c).rows.length by omega);refine ⟨Bz T1 hw (by omega) hk N1 dd1 H.dl fun y x hy hK hx oh=>?_,fun x hx hlx=>M.live x (by omega) hlx,M.old,M.dn,by rw [M.rows];exact hec,fun x hx=>by rw [M.rows];exact hek x hx⟩;rw [hlen] at hy ⊢;rcases cp1 y x hy hK hx (M.live y (by omega) oh) with ⟨z,z1,z2,z3⟩ | ⟨z1,z2⟩ | ⟨z1,z2⟩
     . exact ⟨z,z1,M.tp z (by omega) y oh (by omega) z2,z3⟩
     . exact ⟨u,hun,M.tp u (by omega) y oh (by omega) (tu.trans z1.symm),by rw [z2];exact h1⟩
     . refine ⟨_,by omega,(M.ab y (by omega) oh (.inr (tv.trans z1.symm))).1,?_⟩;rw [z2,N1 u c (by omega) hc h1];omega
   . rename_i h1;split
     . rename_i h2;have hw:(bD (dH r e c).rows v (cw c)).toNat<(dH r e c).rows.length:=by omega
       have M:=wo T1 hw (show u<(dH r e c).rows.length by omega);refine ⟨Bz T1 hw (by omega) hk N1 dd1 H.dl fun y x hy hK hx oh=>?_,fun x hx hlx=>M.live x (by omega) hlx,M.old,M.dn,by rw [M.rows];exact hec,fun x hx=>by rw [M.rows];exact hek x hx⟩;rw [hlen] at hy ⊢;rcases cp1 y x hy hK hx (M.live y (by omega) oh) with ⟨z,z1,z2,z3⟩ | ⟨z1,z2⟩ | ⟨z1,z2⟩
       . exact ⟨z,z1,M.tp z (by omega) y oh (by omega) z2,z3⟩
       . refine ⟨_,by omega,(M.ab y (by omega) oh (.inr (tu.trans z1.symm))).1,?_⟩;have:=N1 v (cw c) (by omega) hf h2;rw [Dp] at this;rw [z2,this];omega
       . exact ⟨v,hvn,M.tp v (by omega) y oh (by omega) (tv.trans z1.symm),by rw [z2];exact h2⟩
     . rename_i h2;obtain ⟨N2,PB⟩:=N1.join (u:=u) (c:=c) (v:=v) T1.row (fun h=>T1.flip h) (by omega) (by omega) hc (by omega) (by omega);have M9:=(jD (dH r e c) u c v).1;have pos:∀ b x,0<=bD (dH r e c).rows b x->0<=bD (join (dH r e c) u c v).rows b x:=fun b x h=>by
        rw [PB];split
        . omega
        . split
          . omega
          . exact h
       have same:∀ b x,b≠u->b≠v->bD (join (dH r e c) u c v).rows b x=bD (dH r e c).rows b x:=fun b x g1 g2=>by
        rw [PB,if_neg (fun h=>g2 h.1),if_neg (fun h=>g1 h.1)]
       refine ⟨⟨N2,fun y x hy hK hx oh=>?_,fun y x hy hx oh hX=>?_,H.dl⟩,fun x hx hlx=>hlx,fun _ _=>rfl,Nat.le_refl _,?_,fun x hx=>?_⟩
       . rw [M9,hlen] at hy ⊢;rcases cp1 y x hy hK hx oh with ⟨z,z1,z2,z3⟩ | ⟨z1,z2⟩ | ⟨z1,z2⟩
         . exact ⟨z,z1,z2,pos _ _ z3⟩
         . refine ⟨u,hun,tu.trans z1.symm,?_⟩;rw [z2,PB,if_neg (by omega),if_pos ⟨rfl,rfl⟩];omega
         . refine ⟨v,hvn,tv.trans z1.symm,?_⟩;rw [z2,PB,if_pos ⟨rfl,rfl⟩];omega
       . rw [M9] at hy;rw [same y x (fun h=>oh (h▸lu)) (fun h=>oh (h▸lv))];exact dd1 y x hy hx oh hX
       . rw [same e c (fun h=>hue h.symm) (fun h=>jr h.symm)];exact hec
       . rw [same e x (fun h=>hue h.symm) (fun h=>jr h.symm)];exact hek x hx
theorem Kl {K k:Nat} {X:Nat->Prop} {e:Nat}:∀ (f c:Nat) {r:Rn},eu r->Dy r K k X->e<r.rows.length->c+f=(2*r.g).toNat->¬ Live r e->k<=r.dn->(∀ x,x<c->bD r.rows e x<0)->
 Dy (iw e f c r) K k X/\k<=(iw e f c r).dn/\(∀ x,x<(2*r.g).toNat->bD (iw e f c r).rows e x<0)/\∀ j,j<r.dn->(iw e f c r).dl.getD j 0=r.dl.getD j 0
 | 0,c,r,T,H,he,hc,hd,hk,hx=>⟨H,hk,fun x h=>hx x (by omega),fun _ _=>rfl⟩
 | f+1,c,r,T,H,he,hc,hd,hk,hx=>by
   obtain ⟨T1,h1,h2⟩:=T.cell (c:=c) he (by omega);obtain ⟨H1,C⟩:=ZG T H he (by omega) hd hk (c:=c);have hdn:=C.dn;obtain ⟨a1,a2,a3,a4⟩:=Kl (e:=e) f (c+1) T1 H1 (by omega) (by rw [h2];omega) (fun h=>hd (C.live e he h)) (by omega) (fun x sB=>by
    rcases Nat.lt_or_ge x c with h | h
    . exact C.keep x (hx x h)
    . rw [show x=c by omega];exact C.here)
   rw [iw];refine ⟨a1,a2,fun x h=>a3 x (by rw [h2];exact h),fun j hj=>?_⟩;rw [a4 j (by omega),C.old j hj]
theorem TG {K k2 : Nat} : ∀ (f k : Nat) {r : Rn}, eu r → k2 = (2 * r.g).toNat → 0 < r.rows.length → Dy r K k (fun _ => False) → k ≤ r.dn → r.rows.length < f + k → Dy (kO k2 f k r) K (kO k2 f k r).dn fun _ => False
 | 0,k,r,T,hk2,hn,H,hk,hf=>by
   have:=T.sum;omega
 | f + 1, k, r, T, hk2, hn, H, hk, hf => by
   rw [kO];split
   . rename_i h;have hd:=T.dx _ (gO (l:=r.dl) (a:=k) (by have:=T.dy;omega));have QK:=H.dl k h;generalize hE:(r.dl.getD k 0).toNat=e at *;have hE':r.dl.getD k 0=(e:Int):=by omega
     obtain ⟨T1,h1,h2⟩:=eu.cells (e:=e) k2 0 T (by omega) (by omega);have H0 : Dy r K (k + 1) (fun a => a = e) := ⟨H.nb, H.cp, fun a c ha hc hl hx => H.dd a c ha hc hl (by
      rintro (h | ⟨j,j1,j2,j3⟩)
      . exact h
      . by_cases hj:j=k
        . subst hj;exact hx (.inl (by omega))
        . exact hx (.inr ⟨j,by omega,j2,j3⟩)),H.dl⟩
     obtain ⟨a1,a2,a3,_⟩:=Kl (e:=e) k2 0 T H0 (by omega) (by omega) QK (by omega) (fun x hx=>by omega);have H1:Dy (iw e k2 0 r) K (k+1) (fun _=>False):=⟨a1.nb,a1.cp,fun a c ha hc hl hx=>by
      by_cases hae:a=e
      . subst hae;exact a3 c (by rw [<-h2];exact hc)
      . exact a1.dd a c ha hc hl (by
         rintro (h | h)
         . exact hae h
         . exact hx (.inr h)),a1.dl⟩
     exact TG f (k+1) T1 (by rw [h2];exact hk2) (by omega) H1 a2 (by omega)
   . rename_i h;rw [show k=r.dn by omega] at H;exact H
structure Rest (r:Rn) (K:Nat):Prop where
 nb:Nb r
 dd:∀ a c,a<r.rows.length->c<(2*r.g).toNat->¬ Live r a->bD r.rows a c<0
 cp:∀ a c,a<r.rows.length->a<K->c<(2*r.g).toNat->Live r a->0<=bD r.rows a c
theorem Gc {r:Rn} (T:bS r) {K:Nat} (H:Rest r K) {a b:Nat} (ha:a<r.rows.length) (hb:b<r.rows.length):Rest (coincide r a b) K:=by
 have T0:eu { r with dn:=0 }:=T;have M:=wo T0 (a:=a) (b:=b) ha hb;have D1:Dy (merge { r with dn:=0 } a b) K 0 (fun _=>False):=by
  refine Bz T0 ha hb (Nat.zero_le _) H.nb (fun a c ha hc hl _=>H.dd a c ha hc hl) (fun j hj=>by cases hj) fun y c hy hK hc hl=>?_;have hl':=M.live y hy hl;exact ⟨y,hy,M.tp y hy y hl hy (kr hl'),H.cp y c hy hK hc hl'⟩
 have T1:eu (merge { r with dn:=0 } a b):=eu.merge T0 ha hb;have hm:=p4 { r with dn:=0 } a b;have hlen:(merge { r with dn:=0 } a b).rows.length=r.rows.length:=by rw [hm.1]
 have D2:=TG (K:=K) (k2:=(2*r.g).toNat) (r.rows.length+1) 0 T1 (by rw [hm.2]) (by omega) D1 (Nat.zero_le _) (by omega);obtain ⟨T2,h1,h2⟩:=eu.die (k2:=(2*r.g).toNat) (r.rows.length+1) 0 T1 (by rw [hm.2]);have hco:kO (2*r.g).toNat (r.rows.length+1) 0 (merge { r with dn:=0 } a b)=coincide r a b:=rfl;rw [hco] at D2 T2;have ddd:∀ y c,y<(coincide r a b).rows.length->c<(2*(coincide r a b).g).toNat->¬ Live (coincide r a b) y->bD (coincide r a b).rows y c<0:=fun y c hy hc hl=>D2.dd y c hy hc hl (by
  rintro (h | ⟨j,j1,j2,_⟩)
  . exact h
  . omega)
 refine ⟨D2.nb,ddd,fun y c hy hK hc hl=>?_⟩;obtain ⟨x,x1,x2,x3⟩:=D2.cp y c hy hK hc hl;have hlx:Live (coincide r a b) x:=Classical.byContradiction fun h=>by have:=ddd x c x1 hc h;omega
 rw [kr hlx] at x2;rw [<-x2];exact x3
theorem Rest.live {r:Rn} {K:Nat} (H:Rest r K) (T:bS r) {a c:Nat} (ha:a<r.rows.length) (hc:c<(2*r.g).toNat) (h:0<=bD r.rows a c):Live r (bD r.rows a c).toNat:=by
 have hr:=T.at ha hc;have hg:cw c<(2*r.g).toNat:=eu.flip (r:={ r with dn:=0 }) T hc;refine Classical.byContradiction fun hl=>?_;have h1:=H.nb a c ha hc h;have h2:=H.dd (bD r.rows a c).toNat (cw c) (by omega) hg hl;omega
theorem Km {r:Rn} (T:bS r) {K:Nat} (H:Rest r K) {w:List Int} (hw:Wd r.g w):∀ (n f i:Nat),f<r.rows.length->Live r f->Live r (jd r.rows w n f i).1
 | 0,f,i,hf,h=>h
 | n + 1, f, i, hf, h => by
   rw [jd];split
   . rename_i hh;have hc:=jx (hw.get hh.1);have:=T.at (a:=f) (c:=(cW (w.getD i 0)).toNat) hf (by omega);exact Km T H hw n _ _ (by omega) (H.live T hf (by omega) hh.2)
   . exact h
theorem Kn {r:Rn} (T:bS r) {K:Nat} (H:Rest r K) {w:List Int} (hw:Wd r.g w) {i:Nat}:∀ (n b j:Nat),b<r.rows.length->j<=w.length->Live r b->Live r (jR r.rows w i n b j).1
 | 0,b,j,hb,_,h=>h
 | n + 1, b, j, hb, hj, h => by
   rw [jR];split
   . rename_i hh;have hg:=hw.get (show j-1<w.length by omega);have hc:=jx (show-w.getD (j-1) 0≠0/\- r.g<=- w.getD (j-1) 0/\- w.getD (j-1) 0<=r.g by omega);have:=T.at (a:=b) (c:=(cW (- w.getD (j-1) 0)).toNat) hb (by omega);exact Kn T H hw n _ _ (by omega) (by omega) (H.live T hb (by omega) hh.2)
   . exact h
theorem Ko {rows:List (List Int)} {w:List Int}:∀ (n f i:Nat),w.length<=i+n->(jd rows w n f i).2<w.length->bD rows (jd rows w n f i).1 (cW (w.getD (jd rows w n f i).2 0)).toNat<0
 | 0,f,i,h,h2=>by
   have h2:i<w.length:=h2;omega
 | n + 1, f, i, h, h2 => by
   rw [jd] at h2 ⊢;split
   . rename_i hh;rw [if_pos hh] at h2;exact Ko n _ _ (by omega) h2
   . rename_i hh;rw [if_neg hh] at h2;have h2:i<w.length:=h2;exact Int.not_le.1 fun hc=>hh ⟨h2,hc⟩
theorem Kp {rows:List (List Int)} {w:List Int} {i:Nat}:∀ (n b j:Nat),j<=i+n->i<(jR rows w i n b j).2->bD rows (jR rows w i n b j).1 (cW (- w.getD ((jR rows w i n b j).2-1) 0)).toNat<0
 | 0,b,j,h,h2=>by
   have h2:i<j:=h2;omega
 | n + 1, b, j, h, h2 => by
   rw [jR] at h2 ⊢;split
   . rename_i hh;rw [if_pos hh] at h2;exact Kp n _ _ (by omega) h2
   . rename_i hh;rw [if_neg hh] at h2;have h2:i<j:=h2;exact Int.not_le.1 fun hc=>hh ⟨h2,hc⟩
theorem W4 {x:Int} (h:x≠0):cw (cW x).toNat=(cW (-x)).toNat:=by
 unfold cw cW;split <;> omega
theorem FQ {r:Rn} (T:bS r) {K:Nat} (H:Rest r K) {u c v:Nat} (hu:u<r.rows.length) (hv:v<r.rows.length) (hc:c<(2*r.g).toNat) (lu:Live r u) (lv:Live r v) (h1:bD r.rows u c<0) (h2:bD r.rows v (cw c)<0):Rest (join r u c v) K:=by
 have hrow:∀ l∈r.rows,Row (2*r.g).toNat r.rows.length l:=T.row;obtain ⟨N,ent⟩:=H.nb.join (u:=u) (c:=c) (v:=v) hrow (fun h=>eu.flip (r:={ r with dn:=0 }) T h) hu hv hc h1 h2;have hlen:=(jD r u c v).1;refine ⟨N,fun a x ha hx hl=>?_,fun a x ha hK hx hl=>?_⟩
 . rw [hlen] at ha;rw [ent,if_neg (show ¬ (a=v/\x=cw c) from fun h=>hl (h.1▸lv)),if_neg (show ¬ (a=u/\x=c) from fun h=>hl (h.1▸lu))];exact H.dd a x ha hx hl
 . rw [hlen] at ha;rw [ent];split
   . omega
   . split
     . omega
     . exact H.cp a x ha hK hx hl
theorem TH {r:Rn} (T:bS r) {K:Nat} (H:Rest r K) {w:List Int} (hw:Wd r.g w) {a:Nat} (ha:a<r.rows.length) (la:Live r a) :
 Rest (scan r a w).1 K/\((scan r a w).2.2.2=true->Live r (scan r a w).2.1/\bD r.rows (scan r a w).2.1 (scan r a w).2.2.1<0):=by
 obtain ⟨f1,f2⟩:=yh T hw w.length a 0 ha (Nat.zero_le _);obtain ⟨b1,b2,b3⟩:=yj T hw (i:=(jd r.rows w w.length a 0).2) w.length a w.length ha f2 (Nat.le_refl _);have lf:=Km T H hw w.length a 0 ha la;have lb:=Kn T H hw (i:=(jd r.rows w w.length a 0).2) w.length a w.length ha (Nat.le_refl _) la;have sf:=Ko (rows:=r.rows) (w:=w) w.length a 0 (by omega);have sb:=Kp (rows:=r.rows) (w:=w) (i:=(jd r.rows w w.length a 0).2) w.length a w.length (by omega);unfold scan CK;generalize jd r.rows w w.length a 0=p at *;generalize jR r.rows w p.2 w.length a w.length=q at *;unfold vQ;split
 . exact ⟨Gc T H f1 b1,fun h=>by cases h⟩
 . split
   . rename_i h1 h2;have hx:=hw.get (show p.2<w.length by omega);have hc:=jx hx;have e:q.2-1=p.2:=by omega
     have s2:=sb (by omega);rw [e] at s2;exact ⟨FQ T H f1 b1 (by omega) lf lb (sf (by omega)) (by rw [W4 hx.1];exact s2),fun h=>by cases h⟩
   . exact ⟨H,fun _=>⟨lf,sf (by omega)⟩⟩
theorem MK {r:Rn} (T:bS r):r.par.length=r.rows.length:=T.len
theorem FT {r:Rn} (T:bS r) {K:Nat} (H:Rest r K) (hK:K<=r.rows.length) {f c:Nat} (hf:f<r.rows.length) (hc:c<(2*r.g).toNat) (lf:Live r f) (h:bD r.rows f c<0) (hn:r.rows.length<1000000):Rest (grow r f c) K/\∀ b,b<r.rows.length->(Live (grow r f c) b↔Live r b):=by
 have hpl:=MK T;have hal:=qR r;have hlen:(add r).rows.length=r.rows.length+1:=hal.1;have tK:∀ b,b<r.rows.length->(Live (add r) b↔Live r b):=fun b hb=>by
  unfold Live;show (r.par++[(r.par.length:Int)]).getD b 0=_↔_;rw [List.getD_eq_getElem?_getD,List.getElem?_append_left (by omega),<-List.getD_eq_getElem?_getD]
 have lnew:Live (add r) r.rows.length:=by
  unfold Live;show (r.par++[(r.par.length:Int)]).getD r.rows.length 0=_;rw [List.getD_eq_getElem?_getD,List.getElem?_append_right (by omega),show r.rows.length-r.par.length=0 by omega,hpl];rfl
 have eo:∀ b x,b<r.rows.length->bD (add r).rows b x=bD r.rows b x:=fun b x hb=>by
  unfold bD;show ((r.rows++[_]).getD b []).getD x 0=_;rw [List.getD_eq_getElem?_getD (l:=r.rows++_),List.getElem?_append_left hb,<-List.getD_eq_getElem?_getD]
 have en:∀ x,x<(2*r.g).toNat->bD (add r).rows r.rows.length x<0:=fun x hx=>by
  unfold bD;show ((r.rows++[List.replicate (2*r.g).toNat (-1)]).getD r.rows.length []).getD x 0<0;rw [List.getD_eq_getElem?_getD (l:=r.rows++_),List.getElem?_append_right (by omega),Nat.sub_self];show (List.replicate (2*r.g).toNat (-1:Int)).getD x 0<0;rw [List.getD_eq_getElem?_getD,List.getElem?_replicate,if_pos hx];exact (by decide:(-1:Int)<0)
 have hadd : Rest (add r) K := by
  refine ⟨fun a x ha hx h0=>?_,fun a x ha hx hl=>?_,fun a x ha hKa hx hl=>?_⟩
  . rw [hlen] at ha;rcases Nat.lt_or_ge a r.rows.length with h1 | h1
    . rw [eo a x h1] at h0 ⊢;have hr:=T.at h1 hx;rw [eo _ _ (by omega)];exact H.nb a x h1 hx h0
    . have:=en x hx;rw [show a=r.rows.length by omega] at h0;omega
  . rw [hlen] at ha;rcases Nat.lt_or_ge a r.rows.length with h1 | h1
    . rw [eo a x h1];exact H.dd a x h1 hx fun h=>hl ((tK a h1).2 h)
    . rw [show a=r.rows.length by omega];exact en x hx
  . rcases Nat.lt_or_ge a r.rows.length with h1 | h1
    . rw [eo a x h1];exact H.cp a x h1 hKa hx ((tK a h1).1 hl)
    . omega
 have hfl:cw c<(2*r.g).toNat:=eu.flip (r:={ r with dn:=0 }) T hc;exact ⟨FQ (T.add hn) hadd (by omega) (by omega) hc ((tK f hf).2 lf) lnew (by rw [eo f c hf];exact h) (en _ hfl),tK⟩
structure Fr (r:Rn) (K a:Nat) (x:Rn×Nat×Bool):Prop where
 rest:Rest x.1 K
 live:x.2.2=false->Live x.1 a
theorem Rest.stat {r:Rn} {K:Nat} (H:Rest r K) (s:Int):Rest { r with stat:=s } K:=⟨H.nb,H.dd,H.cp⟩
theorem yN {a:Nat} {w:List Int} {K:Nat}:∀ (q:Nat) {r:Rn},bS r->Rest r K->K<=r.rows.length->Wd r.g w->a<r.rows.length->Live r a->r.rows.length<=r.au->r.au<=900000->Fr r K a (dh a w q r)
 | q, r, T, H, hK, hw, ha, la, hl, hm => by
   have S:=qT T hw ha;obtain ⟨R,o⟩:=TH T H hw ha la;have h1:=S.len;have step:(scan r a w).2.2.2=true->(scan r a w).1=r/\Live (scan r a w).1 a:=fun h=>by
    have:=(S.opn h).1;exact ⟨this,by rw [this];exact la⟩
   cases q with
   | zero =>
     rw [dh];split
     . exact ⟨R,fun h=>by cases h⟩
     . rename_i h2;have st:=step (by simpa using h2);split
       . exact ⟨R.stat 2,fun _=>st.2⟩
       . exact ⟨R,fun _=>st.2⟩
   | succ q =>
     rw [dh];split
     . exact ⟨R,fun h=>by cases h⟩
     . rename_i h2;have h2:(scan r a w).2.2.2=true:=by simpa using h2
       have st:=step h2;split
       . exact ⟨R.stat 2,fun _=>st.2⟩
       . rename_i h3;obtain ⟨o1,o2,o3⟩:=S.opn h2;obtain ⟨p1,p2⟩:=o h2;have hSg:(scan r a w).1.g=r.g:=S.keep.1;obtain ⟨g1,g2,g3⟩:=nB S.fine (scan r a w).2.2.1 (show (scan r a w).2.1<(scan r a w).1.rows.length by omega) (by omega);obtain ⟨q1,q2⟩:=FT S.fine R (by omega) (f:=(scan r a w).2.1) (c:=(scan r a w).2.2.1) (by omega) (by rw [hSg];exact o3) (by rw [o1];exact p1) (by rw [o1];exact p2) (by omega);have k:=S.keep.trans g3;have F:=yN (a:=a) (w:=w) q g1 q1 (by omega) (by rw [k.1];exact hw) (by omega) ((q2 a (by omega)).2 st.2) (by rw [k.2.2.2.1];omega) (by rw [k.2.2.2.1];exact hm);exact ⟨F.rest,F.live⟩
theorem yO {a:Nat} {K:Nat}:∀ (f c:Nat) (q:Nat) {r:Rn},bS r->Rest r K->K<=r.rows.length->c+f=(2*r.g).toNat->a<r.rows.length->Live r a->Pre a c r->r.rows.length<=r.au->r.au<=900000->
 Fr r K a (fE a f c r q)/\((fE a f c r q).2.2=true->Pre a (2*r.g).toNat (fE a f c r q).1)
 | 0,c,q,r,T,H,hK,hc,ha,la,hp,hl,hm=>⟨⟨H,fun h=>by cases h⟩,fun _ i hi=>hp i (by omega)⟩
 | f + 1, c, q, r, T, H, hK, hc, ha, la, hp, hl, hm => by
   rw [fE];split
   . rename_i h1;exact yO f (c+1) q T H hK (by omega) ha la (fun i hi=>by
      rcases Nat.lt_or_ge i c with h | h
      . exact hp i h
      . rw [show i=c by omega];exact h1) hl hm
   . rename_i h1;split
     . exact ⟨⟨H.stat 2,fun _=>la⟩,fun h=>by cases h⟩
     . split
       . exact ⟨⟨H,fun _=>la⟩,fun h=>by cases h⟩
       . obtain ⟨g1,g2,g3⟩:=nB T c ha (by omega);obtain ⟨q1,q2⟩:=FT T H hK ha (c:=c) (by omega) la (by omega) (by omega);obtain ⟨F,F2⟩:=yO (a:=a) f (c+1) (q-1) g1 q1 (by omega) (by rw [g3.1];omega) (by omega) ((q2 a ha).2 la) (VN T ha (by omega) hp) (by rw [g3.2.2.2.1];omega) (by rw [g3.2.2.2.1];exact hm);rw [g3.1] at F2;exact ⟨⟨F.rest,F.live⟩,F2⟩
structure Ps (r:Rn):Prop where
 rest:Rest r (if r.ph=0 then 0 else r.co.toNat)
 ph0:r.ph=0->r.co=0
 ph2:r.ph=2->Live r r.co.toNat/\r.ix=0
structure Sp (r:Rn):Prop where
 rest:Rest r (if r.stat=1 then r.rows.length else if r.ph=0 then 0 else r.co.toNat)
 fin:r.stat=1->r.ph=3/\r.co=0/\r.ix=0
 yP:r.stat≠1->(r.ph=0/\r.co=0/\0<=r.ix/\r.ix<r.sub.length)∨(r.ph=1/\0<=r.ix/\r.ix<r.av.length)∨(r.ph=2/\r.ix=0)
 co:r.stat≠1->0<=r.co/\r.co<r.rows.length/\Live r r.co.toNat
theorem act_ps {r:Rn} (G:dZ r) (P:Ps r) (hs:r.stat=0) (q:Nat):((act r q).2.2=false->Ps (act r q).1)/\((act r q).2.2=true->Sp (act r q).1):=by
 have hg:=G.ix;have hc:=G.co;have hl:=G.au;have hl2:=G.OC;have FB:=G.ph;have hn1:=G.n1;have R:=P.rest;have l0:Live r 0:=by
  have hp:jG r.par:=G.fine.par;have hpl:=MK G.fine;have:=hp.2 0 (by omega);unfold Live;omega
 unfold act;split
 . rename_i h;refine ⟨fun _=>⟨?_,fun h=>(by cases h),fun h=>by cases h⟩,fun h=>by cases h⟩;rw [if_pos h.1] at R;exact ⟨R.nb,R.dd,R.cp⟩
 . rename_i h0;split
   . rename_i hp;have hi:r.ix<r.sub.length:=by omega
     have hw:=G.sub _ (jX hg.1 hi);rw [if_pos hp] at R;have F:=oO (a:=0) (w:=r.sub.getD r.ix.toNat []) q G.fine hw hn1 hl hl2;have L:=yN (a:=0) (w:=r.sub.getD r.ix.toNat []) q G.fine R (Nat.zero_le _) hw hn1 l0 hl hl2;generalize dh 0 (r.sub.getD r.ix.toNat []) q r=x at *;obtain ⟨k1,k2,k3,k4,k5,k6,k7,_⟩:=F.keep;simp only at k1 k2 k3 k4 k5 k6 k7;have hco:=P.ph0 hp;have f3:=F.grown;split
     . rename_i hx;refine ⟨fun h=>(by cases h),fun _=>?_⟩;have hst:x.1.stat≠1:=by rcases F.no hx with ⟨h,_⟩ | ⟨h,_⟩ <;> omega
       refine ⟨?_,fun h=>absurd h hst,fun _=>.inl ⟨(by rw [k5];exact hp),by rw [k6];exact hco,by rw [k7];exact hg.1,by rw [k7,k3];exact hi⟩,fun _=>?_⟩
       . simp only;rw [if_neg hst,k5,if_pos hp];exact L.rest
       . simp only;rw [k6,hco];exact ⟨Int.le_refl _,by omega,L.live hx⟩
     . refine ⟨fun _=>⟨?_,fun _=>(by show x.1.co=0;rw [k6];exact hco),fun h=>?_⟩,fun h=>by cases h⟩
       . simp only;rw [k5,if_pos hp];exact ⟨L.rest.nb,L.rest.dd,L.rest.cp⟩
       . have h:x.1.ph=2:=h;omega
   . rename_i hp;rw [if_neg hp] at R;split
     . rename_i hp2;have hco:=G.XT hp2;obtain ⟨lc,hix⟩:=P.ph2 hp2;have F:=uD (a:=r.co.toNat) (2*r.g).toNat 0 q G.fine (by omega) (by omega) hl hl2;obtain ⟨L,L2⟩:=yO (a:=r.co.toNat) (2*r.g).toNat 0 q G.fine R (by omega) (by omega) (by omega) lc (fun i hi=>by omega) hl hl2;generalize fE r.co.toNat (2*r.g).toNat 0 r q=x at *;obtain ⟨k1,k2,k3,k4,k5,k6,k7,_⟩:=F.keep;simp only at k1 k2 k3 k4 k5 k6 k7;have f3:=F.grown;split
       . rename_i hx;refine ⟨fun h=>(by cases h),fun _=>?_⟩;have hst:x.1.stat≠1:=by rcases F.no hx with ⟨h,_⟩ | ⟨h,_⟩ <;> omega
         refine ⟨?_,fun h=>absurd h hst,fun _=>.inr (.inr ⟨by rw [k5];exact hp2,by rw [k7];exact hix⟩),fun _=>?_⟩
         . simp only;rw [if_neg hst,k5,if_neg (by omega),k6];exact L.rest
         . simp only;rw [k6];exact ⟨hc.1,by omega,L.live hx⟩
       . rename_i hx;have hx:x.2.2=true:=by simpa using hx
         refine ⟨fun _=>⟨?_,fun h=>(by cases h),fun h=>by cases h⟩,fun h=>by cases h⟩;simp only [Int.reduceEq,if_false];refine ⟨L.rest.nb,L.rest.dd,fun a c ha hK hc' hl'=>?_⟩;rcases Nat.lt_or_ge a r.co.toNat with h1 | h1
         . exact L.rest.cp a c ha h1 hc' hl'
         . have:a=r.co.toNat:=by omega
           subst this;exact L2 hx c (by rw [<-k1];exact hc')
     . rename_i hp2;split
       . rename_i h4;refine ⟨fun h=>(by cases h),fun _=>⟨?_,fun _=>⟨rfl,rfl,rfl⟩,fun h=>absurd rfl h,fun h=>absurd rfl h⟩⟩;simp only [if_true];rw [show r.rows.length=r.co.toNat by omega];exact ⟨R.nb,R.dd,R.cp⟩
       . rename_i h4;have hlt:r.co<r.rows.length:=by omega
         split
         . rename_i hd;refine ⟨fun _=>⟨?_,fun h=>(by cases h),fun h=>by cases h⟩,fun h=>by cases h⟩;simp only [Int.reduceEq,if_false];refine ⟨R.nb,R.dd,fun a c ha hK hc' hl'=>?_⟩;rcases Nat.lt_or_ge a r.co.toNat with h1 | h1
           . exact R.cp a c ha h1 hc' hl'
           . have:a=r.co.toNat:=by omega
             subst this;exfalso;have hl':r.par.getD r.co.toNat 0=(r.co.toNat:Int):=hl';omega
         . rename_i hlv;have hlv:r.par.getD r.co.toNat 0=r.co:=Classical.not_not.1 hlv;have lc:Live r r.co.toNat:=by unfold Live;omega
           split
           . refine ⟨fun _=>⟨?_,fun h=>(by cases h),fun _=>⟨lc,rfl⟩⟩,fun h=>by cases h⟩;simp only [Int.reduceEq,if_false];exact ⟨R.nb,R.dd,R.cp⟩
           . rename_i hi;have hi:r.ix<r.av.length:=by omega
             have hw:=G.av _ (jX hg.1 hi);have F:=oO (a:=r.co.toNat) (w:=r.av.getD r.ix.toNat []) q G.fine hw (by omega) hl hl2;have L:=yN (a:=r.co.toNat) (w:=r.av.getD r.ix.toNat []) q G.fine R (by omega) hw (by omega) lc hl hl2;generalize dh r.co.toNat (r.av.getD r.ix.toNat []) q r=x at *;obtain ⟨k1,k2,k3,k4,k5,k6,k7,_⟩:=F.keep;simp only at k1 k2 k3 k4 k5 k6 k7;have f3:=F.grown;split
             . rename_i hx;refine ⟨fun h=>(by cases h),fun _=>?_⟩;have hst:x.1.stat≠1:=by rcases F.no hx with ⟨h,_⟩ | ⟨h,_⟩ <;> omega
               refine ⟨?_,fun h=>absurd h hst,fun _=>.inr (.inl ⟨by rw [k5];omega,by rw [k7];exact hg.1,by rw [k7,k2];exact hi⟩),fun _=>?_⟩
               . simp only;rw [if_neg hst,k5,if_neg hp,k6];exact L.rest
               . simp only;rw [k6];exact ⟨hc.1,by omega,L.live hx⟩
             . refine ⟨fun _=>⟨?_,fun h=>?_,fun h=>?_⟩,fun h=>by cases h⟩
               . simp only;rw [k5,if_neg hp,k6];exact ⟨L.rest.nb,L.rest.dd,L.rest.cp⟩
               . have h:x.1.ph=0:=h;omega
               . have h:x.1.ph=2:=h;omega
theorem ML:∀ (f:Nat) {r:Rn} {q:Nat} {y},dZ r->Ps r->r.stat=0->jS f r q=some y->Sp y.1
 | 0,_,_,_,_,_,_,h=>by cases h
 | f + 1, r, q, y, G, P, hs, h => by
   have A:=yq G q;have B:=act_ps G P hs q;rw [jS] at h;split at h
   . rename_i hx;cases h;exact B.2 hx
   . rename_i hx;have hx:(act r q).2.2=false:=by simpa using hx
     obtain ⟨g1,_,g3⟩:=A.go hx;exact ML f g1 (B.1 hx) (g3.trans hs) h
theorem run_sp {r:Rn} (G:dZ r) (P:Ps r) (hs:r.stat=0) (q:Nat):Sp (run r q).1:=by
 obtain ⟨z,hz⟩:=nC (meas r+1) q G (by omega);rw [CP G hz];exact ML _ G P hs hz
end Go.cG
