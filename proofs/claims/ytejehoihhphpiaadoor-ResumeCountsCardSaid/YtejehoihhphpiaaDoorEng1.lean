/- Enumeration of cosets in steps: the procedure in plain words. -/
namespace Go.Eng

structure Rn where
 g:Int
 rels:List (List Int)
 sub:List (List Int)
 lim:Int
 most:Int
 live:Int
 stat:Int
 ph:Int
 co:Int
 ix:Int
 rows:List (List Int)
 par:List Int
 dl:List Int
 dn:Nat
def at2 (rows:List (List Int)) (a c:Nat):Int:=(rows.getD a []).getD c 0
def set2 (rows:List (List Int)) (a c:Nat) (x:Int):List (List Int):=rows.set a ((rows.getD a []).set c x)
theorem at2_def (rows:List (List Int)) (a c:Nat):(rows.getD a []).getD c 0=at2 rows a c:=rfl
theorem set2_def (rows:List (List Int)) (a c:Nat) (x:Int):rows.set a ((rows.getD a []).set c x)=set2 rows a c x:=rfl
def colI (x:Int):Int:=max (2*x-2) (-2*x-1)
def flipc (c:Nat):Nat:=if c % 2=0 then c+1 else c-1
def topF (par:List Int):Nat->Nat->Nat
 | 0,a=>a
 | f+1,a=>if par.getD a 0=(a:Int) then a else topF par f (par.getD a 0).toNat
def top (par:List Int) (a:Nat):Nat:=topF par (a+1) a
def merge (r:Rn) (a b:Nat):Rn :=
 if top r.par a=top r.par b then r
 else { r with par:=r.par.set (max (top r.par a) (top r.par b)) (min (top r.par a) (top r.par b):Nat),dl:=r.dl.take r.dn++[((max (top r.par a) (top r.par b):Nat):Int)],dn:=r.dn+1,live:=r.live-1 }
def join (r:Rn) (a c b:Nat):Rn:={ r with rows:=set2 (set2 r.rows a c b) b (flipc c) a }
def deadR (r:Rn) (e c:Nat):Rn:={ r with rows:=set2 (set2 r.rows e c (-1)) (at2 r.rows e c).toNat (flipc c) (-1) }
def cellV (r:Rn) (u v c:Nat):Rn :=
 if 0<=at2 r.rows u c then merge r (at2 r.rows u c).toNat v
 else if 0<=at2 r.rows v (flipc c) then merge r (at2 r.rows v (flipc c)).toNat u
 else join r u c v
def cell (r:Rn) (e c:Nat):Rn:=if at2 r.rows e c<0 then r else cellV (deadR r e c) (top r.par e) (top r.par (at2 r.rows e c).toNat) c
def cellsF (e:Nat):Nat->Nat->Rn->Rn
 | 0,_,r=>r
 | f+1,c,r=>cellsF e f (c+1) (cell r e c)
def dieF (k2:Nat):Nat->Nat->Rn->Rn
 | 0,_,r=>r
 | f+1,k,r=>if k<r.dn then dieF k2 f (k+1) (cellsF (r.dl.getD k 0).toNat k2 0 r) else r
def coincide (r:Rn) (a b:Nat):Rn :=
 dieF (2*r.g).toNat (r.rows.length+1) 0 (merge { r with dn:=0 } a b)
def fwdF (rows:List (List Int)) (w:List Int):Nat->Nat->Nat->Nat×Nat
 | 0,f,i=>(f,i)
 | n+1,f,i=>if i<w.length/\0<=at2 rows f (colI (w.getD i 0)).toNat then fwdF rows w n (at2 rows f (colI (w.getD i 0)).toNat).toNat (i+1) else (f,i)
def bwdF (rows:List (List Int)) (w:List Int) (i:Nat):Nat->Nat->Nat->Nat×Nat
 | 0,b,j=>(b,j)
 | n+1,b,j=>if i<j/\0<=at2 rows b (colI (- w.getD (j-1) 0)).toNat then bwdF rows w i n (at2 rows b (colI (- w.getD (j-1) 0)).toNat).toNat (j-1) else (b,j)
def Par (par:List Int):Prop:=par.length<=1000000/\∀ a,a<par.length->0<=par.getD a 0/\par.getD a 0<=a
theorem topF_eq {par:List Int} (hp:Par par):∀ (f f' a:Nat),a<f->a<f'->a<par.length->topF par f a=topF par f' a
 | 0,_,_,h,_,_=>by omega
 | _+1,0,_,_,h,_=>by omega
 | f + 1, f' + 1, a, h1, h2, h3 => by
   simp only [topF]
   split
   . rfl
   . have:=hp.2 a h3
     exact topF_eq hp f f' _ (by omega) (by omega) (by omega)
theorem top_step {par:List Int} (hp:Par par) {a:Nat} (h:a<par.length) (hn:par.getD a 0≠a):top par a=top par (par.getD a 0).toNat:=by
 have:=hp.2 a h
 unfold top
 rw [topF,if_neg hn]
 exact topF_eq hp _ _ _ (by omega) (by omega) (by omega)
theorem top_stop {par:List Int} {a:Nat} (hn:par.getD a 0=a):top par a=a:=by
 unfold top
 rw [topF,if_pos hn]
theorem topF_le {par:List Int} (hp:Par par):∀ (f a:Nat),a<par.length->topF par f a<=a
 | 0,_,_=>Nat.le_refl _
 | f + 1, a, h => by
   rw [topF]
   split
   . exact Nat.le_refl _
   . have:=hp.2 a h
     have:=topF_le hp f (par.getD a 0).toNat (by omega)
     omega
theorem top_le {par:List Int} (hp:Par par) {a:Nat} (h:a<par.length):top par a<=a:=topF_le hp _ _ h
theorem topF_alive {par:List Int} (hp:Par par):∀ (f a:Nat),a<f->a<par.length->par.getD (topF par f a) 0=(topF par f a:Nat)
 | 0,_,h,_=>by omega
 | f + 1, a, h, h2 => by
   rw [topF]
   split
   . assumption
   . have:=hp.2 a h2
     exact topF_alive hp f _ (by omega) (by omega)
theorem top_alive {par:List Int} (hp:Par par) {a:Nat} (h:a<par.length):par.getD (top par a) 0=(top par a:Nat):=topF_alive hp _ _ (by omega) h
theorem getD_set {l:List Int} {i j:Nat} {x:Int}:(l.set i x).getD j 0=if i=j/\i<l.length then x else l.getD j 0:=by
 simp only [List.getD_eq_getElem?_getD,List.getElem?_set]
 split
 . rename_i h
   subst h
   split
   . rename_i h2;rw [if_pos ⟨rfl,h2⟩];rfl
   . rename_i h2;rw [if_neg (by omega),List.getElem?_eq_none (by omega)]
 . rename_i h;rw [if_neg (by omega)]
theorem getL_set {l:List (List Int)} {i j:Nat} {x:List Int}:(l.set i x).getD j []=if i=j/\i<l.length then x else l.getD j []:=by
 simp only [List.getD_eq_getElem?_getD,List.getElem?_set]
 split
 . rename_i h
   subst h
   split
   . rename_i h2;rw [if_pos ⟨rfl,h2⟩];rfl
   . rename_i h2;rw [if_neg (by omega),List.getElem?_eq_none (by omega)]
 . rename_i h;rw [if_neg (by omega)]
/-! ### How many are alive -/
def al (par:List Int):Nat:=(List.range par.length).countP fun i=>decide (par.getD i 0=(i:Int))
theorem count_one {p q:Nat->Bool} {m:Nat} (hp:p m=true) (hq:q m=false) (h:∀ i,i≠m->p i=q i):∀ n,(List.range n).countP q+(if m<n then 1 else 0)=(List.range n).countP p
 | 0=>rfl
 | n + 1 => by
   have ih:=count_one hp hq h n
   rw [List.range_succ,List.countP_append,List.countP_append,List.countP_singleton,List.countP_singleton]
   by_cases e:n=m
   . subst e
     rw [hp,hq]
     rw [if_neg (show ¬ n<n by omega)] at ih
     rw [if_pos (show n<n+1 by omega)]
     simp
     omega
   . rw [h n e]
     by_cases h2:m<n
     . rw [if_pos h2] at ih;rw [if_pos (show m<n+1 by omega)];omega
     . rw [if_neg h2] at ih;rw [if_neg (show ¬ m<n+1 by omega)];omega
theorem al_set {par:List Int} {m b:Nat} (hm:m<par.length) (ha:par.getD m 0=(m:Int)) (hb:b≠m):al (par.set m (b:Int))+1=al par:=by
 unfold al
 rw [List.length_set]
 have:=count_one (p:=fun i=>decide (par.getD i 0=(i:Int))) (q:=fun i=>decide ((par.set m (b:Int)).getD i 0=(i:Int))) (m:=m) (by simpa using ha) ?_ ?_ par.length
 . rw [if_pos hm] at this;exact this
 . simp only [decide_eq_false_iff_not]
   rw [getD_set,if_pos ⟨rfl,hm⟩]
   omega
 . intro i hi
   rw [getD_set,if_neg (show ¬ (m=i/\m<par.length) by omega)]
theorem al_le (par:List Int):al par<=par.length:=by
 unfold al
 have:=List.countP_le_length (p:=fun i=>decide (par.getD i 0=(i:Int))) (l:=List.range par.length)
 rw [List.length_range] at this
 exact this
theorem al_pos {par:List Int} (hp:Par par) (h:0<par.length):0<al par:=by
 unfold al
 rw [List.countP_pos_iff]
 have:=hp.2 0 h
 exact ⟨0,by simpa using h,by simp only [decide_eq_true_eq];omega⟩
theorem al_app (par:List Int):al (par++[(par.length:Int)])=al par+1:=by
 unfold al
 rw [List.length_append,List.length_singleton,List.range_succ,List.countP_append,List.countP_singleton]
 have e:(par++[(par.length:Int)]).getD par.length 0=par.length:=by
  rw [List.getD_eq_getElem?_getD,List.getElem?_append_right (Nat.le_refl _)];simp
 rw [e]
 simp only [decide_true,if_true]
 congr 1
 refine List.countP_congr fun i hi=>?_
 have hi:=List.mem_range.1 hi
 have:(par++[(par.length:Int)]).getD i 0=par.getD i 0:=by
  rw [List.getD_eq_getElem?_getD,List.getElem?_append_left hi,<-List.getD_eq_getElem?_getD]
 rw [this]
/-! ### Tables in order -/
def Row (k:Nat) (n:Nat) (l:List Int):Prop:=l.length=k/\∀ x∈l,-1<=x/\x<n
structure Tab (r:Rn):Prop where
 g1:1<=r.g
 g2:r.g<=16
 len:r.par.length=r.rows.length
 par:Par r.par
 row:∀ l∈r.rows,Row (2*r.g).toNat r.rows.length l
 dy:r.dn<=r.dl.length
 dx:∀ x∈r.dl,0<=x/\x<r.rows.length
 live:r.live=al r.par
 sum:al r.par+r.dn<=r.rows.length
theorem Row.set {k n:Nat} {l:List Int} (h:Row k n l) {c:Nat} {x:Int} (hx:-1<=x/\x<n):Row k n (l.set c x):=by
 refine ⟨by rw [List.length_set];exact h.1,fun y hy=>?_⟩
 rcases List.mem_or_eq_of_mem_set hy with hy | rfl
 . exact h.2 y hy
 . exact hx
theorem getL_mem {l:List (List Int)} {a:Nat} (h:a<l.length):l.getD a []∈l:=by
 rw [List.getD_eq_getElem?_getD,List.getElem?_eq_getElem h];exact List.getElem_mem h
theorem getD_mem {l:List Int} {a:Nat} (h:a<l.length):l.getD a 0∈l:=by
 rw [List.getD_eq_getElem?_getD,List.getElem?_eq_getElem h];exact List.getElem_mem h
theorem rows_set {k n:Nat} {rows:List (List Int)} (h:∀ l∈rows,Row k n l) {a c:Nat} {x:Int} (ha:a<rows.length) (hx:-1<=x/\x<n):∀ l∈set2 rows a c x,Row k n l:=by
 intro l hl
 rcases List.mem_or_eq_of_mem_set hl with hl | rfl
 . exact h l hl
 . exact (h _ (getL_mem ha)).set hx
theorem set2_len (rows:List (List Int)) (a c:Nat) (x:Int):(set2 rows a c x).length=rows.length:=List.length_set ..
theorem at2_range {k n:Nat} {rows:List (List Int)} (h:∀ l∈rows,Row k n l) {a c:Nat} (ha:a<rows.length) (hc:c<k):-1<=at2 rows a c/\at2 rows a c<n:=by
 have:=h _ (getL_mem ha)
 exact this.2 _ (getD_mem (by rw [this.1];exact hc))
theorem Tab.rows {r:Rn} (T:Tab r) {rows:List (List Int)} (hl:rows.length=r.rows.length) (h:∀ l∈rows,Row (2*r.g).toNat r.rows.length l):Tab { r with rows:=rows } :=
 ⟨T.g1,T.g2,T.len.trans hl.symm,T.par,by rw [show ({ r with rows:=rows }:Rn).rows.length=r.rows.length from hl];exact h,T.dy,by rw [show ({ r with rows:=rows }:Rn).rows.length=r.rows.length from hl];exact T.dx,T.live,by rw [show ({ r with rows:=rows }:Rn).rows.length=r.rows.length from hl];exact T.sum⟩
theorem flipc_lt {c g:Nat} (h:c<2*g):flipc c<2*g:=by unfold flipc;split <;> omega
theorem Tab.flip {r:Rn} (T:Tab r) {c:Nat} (h:c<(2*r.g).toNat):flipc c<(2*r.g).toNat:=by
 have:=T.g1
 have:=@flipc_lt c r.g.toNat (by omega)
 omega
theorem Tab.merge {r:Rn} (T:Tab r) {a b:Nat} (ha:a<r.rows.length) (hb:b<r.rows.length):Tab (merge r a b):=by
 unfold Eng.merge
 split
 . exact T
 . rename_i h
   have hl:=T.len
   have pa:=top_le T.par (show a<r.par.length by omega)
   have pb:=top_le T.par (show b<r.par.length by omega)
   have qa:=top_alive T.par (show a<r.par.length by omega)
   have qb:=top_alive T.par (show b<r.par.length by omega)
   generalize top r.par a=u at *
   generalize top r.par b=v at *
   have hmax:max u v<r.par.length:=by omega
   have hal:r.par.getD (max u v) 0=((max u v:Nat):Int):=by
    rcases Nat.le_total u v with h1 | h1
    . rw [Nat.max_eq_right h1];exact qb
    . rw [Nat.max_eq_left h1];exact qa
   have hs:=al_set hmax hal (show min u v≠max u v by omega)
   have hsum:=T.sum
   have hlive:=T.live
   refine ⟨T.g1,T.g2,by simp only [List.length_set];exact hl,⟨by simp only [List.length_set];exact T.par.1,fun i hi=>?_⟩,T.row,?_,?_,?_,?_⟩
   . simp only [List.length_set] at hi
     simp only
     rw [getD_set]
     split
     . rename_i h2;omega
     . exact T.par.2 i hi
   . have:=T.dy
     simp only [List.length_append,List.length_take,List.length_singleton];omega
   . intro x hx
     simp only [List.mem_append,List.mem_singleton] at hx
     rcases hx with hx | rfl
     . exact T.dx x (List.mem_of_mem_take hx)
     . simp only;omega
   . simp only;omega
   . simp only;omega
theorem merge_len (r:Rn) (a b:Nat):(merge r a b).rows=r.rows/\(merge r a b).g=r.g:=by unfold merge;split <;> exact ⟨rfl,rfl⟩
theorem Tab.join {r:Rn} (T:Tab r) {a c b:Nat} (ha:a<r.rows.length) (hb:b<r.rows.length):Tab (join r a c b):=by
 refine T.rows (by rw [set2_len,set2_len]) (rows_set (rows_set T.row ha (by omega)) (by rw [set2_len];exact hb) (by omega))
theorem join_len (r:Rn) (a c b:Nat):(join r a c b).rows.length=r.rows.length/\(join r a c b).g=r.g:=⟨by unfold join;simp only [set2_len],rfl⟩
theorem Tab.dead {r:Rn} (T:Tab r) {e c:Nat} (he:e<r.rows.length) {d:Nat} (hd:d<r.rows.length):Tab { r with rows:=set2 (set2 r.rows e c (-1)) d (flipc c) (-1) } :=
 T.rows (by rw [set2_len,set2_len]) (rows_set (rows_set T.row he (by omega)) (by rw [set2_len];exact hd) (by omega))
theorem Tab.cellV {r:Rn} (T:Tab r) {u v c:Nat} (hu:u<r.rows.length) (hv:v<r.rows.length) (hc:c<(2*r.g).toNat):Tab (cellV r u v c)/\(cellV r u v c).rows.length=r.rows.length/\(cellV r u v c).g=r.g:=by
 have r1:=at2_range T.row hu hc
 have r2:=at2_range T.row hv (T.flip hc)
 unfold Eng.cellV
 split
 . have:=merge_len r (at2 r.rows u c).toNat v
   exact ⟨T.merge (by omega) hv,by rw [this.1],this.2⟩
 . split
   . have:=merge_len r (at2 r.rows v (flipc c)).toNat u
     exact ⟨T.merge (by omega) hu,by rw [this.1],this.2⟩
   . have:=join_len r u c v
     exact ⟨T.join hu hv,this.1,this.2⟩
theorem Tab.cell {r:Rn} (T:Tab r) {e c:Nat} (he:e<r.rows.length) (hc:c<(2*r.g).toNat):Tab (cell r e c)/\(cell r e c).rows.length=r.rows.length/\(cell r e c).g=r.g:=by
 unfold Eng.cell
 have hr:=at2_range T.row he hc
 split
 . exact ⟨T,rfl,rfl⟩
 . rename_i hd
   have hd2:(at2 r.rows e c).toNat<r.rows.length:=by omega
   have T1:Tab (deadR r e c):=T.dead (c:=c) he hd2
   have hl:=T.len
   have hlen:(deadR r e c).rows.length=r.rows.length:=by unfold deadR;simp only [set2_len]
   have pu:=top_le T.par (show e<r.par.length by omega)
   have pv:=top_le T.par (show (at2 r.rows e c).toNat<r.par.length by omega)
   have:=T1.cellV (u:=top r.par e) (v:=top r.par (at2 r.rows e c).toNat) (c:=c) (by omega) (by omega) hc
   exact ⟨this.1,this.2.1.trans hlen,this.2.2⟩
theorem Tab.cells {e:Nat}:∀ (f c:Nat) {r:Rn},Tab r->e<r.rows.length->c+f<=(2*r.g).toNat->Tab (cellsF e f c r)/\(cellsF e f c r).rows.length=r.rows.length/\(cellsF e f c r).g=r.g
 | 0,c,r,T,_,_=>⟨T,rfl,rfl⟩
 | f+1,c,r,T,he,hc=>by
   obtain ⟨T1,h1,h2⟩:=T.cell (c:=c) he (by omega)
   have:=Tab.cells (e:=e) f (c+1) T1 (by omega) (by rw [h2];omega)
   rw [cellsF]
   exact ⟨this.1,this.2.1.trans h1,this.2.2.trans h2⟩
theorem Tab.die {k2:Nat}:∀ (f k:Nat) {r:Rn},Tab r->k2=(2*r.g).toNat->Tab (dieF k2 f k r)/\(dieF k2 f k r).rows.length=r.rows.length/\(dieF k2 f k r).g=r.g
 | 0,k,r,T,_=>⟨T,rfl,rfl⟩
 | f + 1, k, r, T, hk => by
   rw [dieF]
   split
   . rename_i h
     have hd:=T.dx _ (getD_mem (l:=r.dl) (a:=k) (by have:=T.dy;omega))
     obtain ⟨T1,h1,h2⟩:=Tab.cells k2 0 T (show (r.dl.getD k 0).toNat<r.rows.length by omega) (by omega)
     have:=Tab.die (k2:=k2) f (k+1) T1 (by rw [h2];exact hk)
     exact ⟨this.1,this.2.1.trans h1,this.2.2.trans h2⟩
   . exact ⟨T,rfl,rfl⟩
def Fine (r:Rn):Prop:=Tab { r with dn:=0 }
theorem Fine.coincide {r:Rn} (T:Fine r) {a b:Nat} (ha:a<r.rows.length) (hb:b<r.rows.length):Fine (coincide r a b)/\(coincide r a b).rows.length=r.rows.length/\(coincide r a b).g=r.g:=by
 have T1:Tab (merge { r with dn:=0 } a b):=Tab.merge T ha hb
 have hm:=merge_len { r with dn:=0 } a b
 obtain ⟨T2,h1,h2⟩:=Tab.die (k2:=(2*r.g).toNat) (r.rows.length+1) 0 T1 (by rw [hm.2])
 refine ⟨?_,h1.trans (by rw [hm.1]),h2.trans hm.2⟩
 have hs:=T2.sum
 exact ⟨T2.g1,T2.g2,T2.len,T2.par,T2.row,Nat.zero_le _,T2.dx,T2.live,Nat.le_trans (Nat.le_add_right _ _) hs⟩
theorem Fine.at {r:Rn} (T:Fine r) {a c:Nat} (ha:a<r.rows.length) (hc:c<(2*r.g).toNat):-1<=at2 r.rows a c/\at2 r.rows a c<r.rows.length :=
 at2_range (rows:=r.rows) T.row ha hc
def add (r:Rn):Rn:={ r with rows:=r.rows++[List.replicate (2*r.g).toNat (-1)],par:=r.par++[(r.par.length:Int)],live:=r.live+1,most:=max r.most (r.live+1) }
theorem add_len (r:Rn):(add r).rows.length=r.rows.length+1/\(add r).g=r.g:=⟨by unfold add;simp,rfl⟩
theorem Fine.add {r:Rn} (T:Fine r) (h:r.rows.length<1000000):Fine (add r):=by
 have hl:r.par.length=r.rows.length:=T.len
 have hp:Par r.par:=T.par
 have hlive:r.live=al r.par:=T.live
 refine ⟨T.g1,T.g2,?_,⟨?_,?_⟩,?_,Nat.zero_le _,?_,?_,?_⟩
 . show (r.par++[(r.par.length:Int)]).length=(r.rows++[List.replicate (2*r.g).toNat (-1)]).length
   simp [hl]
 . show (r.par++[(r.par.length:Int)]).length<=1000000
   simp;omega
 . show ∀ a,a<(r.par++[(r.par.length:Int)]).length->0<=(r.par++[(r.par.length:Int)]).getD a 0/\(r.par++[(r.par.length:Int)]).getD a 0<=a
   intro a ha
   rw [List.length_append,List.length_singleton] at ha
   rw [List.getD_eq_getElem?_getD]
   rcases Nat.lt_or_ge a r.par.length with h1 | h1
   . rw [List.getElem?_append_left h1,<-List.getD_eq_getElem?_getD];exact hp.2 a h1
   . rw [List.getElem?_append_right h1,show a-r.par.length=0 by omega]
     simp;omega
 . show ∀ l∈r.rows++[List.replicate (2*r.g).toNat (-1)],Row (2*r.g).toNat (r.rows++[List.replicate (2*r.g).toNat (-1)]).length l
   intro l hl
   rw [List.length_append,List.length_singleton]
   rcases List.mem_append.1 hl with hl | hl
   . obtain ⟨h1,h2⟩:=T.row l hl
     refine ⟨h1,fun x hx=>?_⟩
     have h2:∀ x∈l,-1<=x/\x<r.rows.length:=h2
     have:=h2 x hx
     omega
   . rw [List.mem_singleton.1 hl]
     refine ⟨List.length_replicate,fun x hx=>?_⟩
     rw [List.eq_of_mem_replicate hx];omega
 . show ∀ x∈r.dl,0<=x/\x<((r.rows++[List.replicate (2*r.g).toNat (-1)]).length:Nat)
   intro x hx
   have:0<=x/\x<r.rows.length:=T.dx x hx
   rw [List.length_append,List.length_singleton];omega
 . show r.live+1=(al (r.par++[(r.par.length:Int)]):Nat)
   rw [al_app,hlive];omega
 . show al (r.par++[(r.par.length:Int)])+0<=(r.rows++[List.replicate (2*r.g).toNat (-1)]).length
   have:=al_le (r.par++[(r.par.length:Int)])
   simp only [List.length_append,List.length_singleton] at this ⊢
   omega
theorem Fine.joins {r:Rn} (T:Fine r) {a c b:Nat} (ha:a<r.rows.length) (hb:b<r.rows.length):Fine (join r a c b):=Tab.join (r:={ r with dn:=0 }) T ha hb
/-! ### Words -/
def Wd (g:Int) (w:List Int):Prop:=w.length<=1000000/\∀ x∈w,x≠0/\-g<=x/\x<=g
theorem Wd.get {g:Int} {w:List Int} (h:Wd g w) {i:Nat} (hi:i<w.length):w.getD i 0≠0/\-g<=w.getD i 0/\w.getD i 0<=g:=h.2 _ (getD_mem hi)
theorem Wd.any {g:Int} {w:List Int} (h:Wd g w) (h0:0<=g) (i:Nat):-g<=w.getD i 0/\w.getD i 0<=g:=by
 rcases Nat.lt_or_ge i w.length with hi | hi
 . exact (h.get hi).2
 . rw [List.getD_eq_getElem?_getD,List.getElem?_eq_none hi];exact ⟨by simp;omega,by simpa using h0⟩
theorem col_range {g x:Int} (h:x≠0/\-g<=x/\x<=g):0<=colI x/\colI x<2*g:=by
 unfold colI;omega
def scanE (r:Rn) (w:List Int) (f i b j:Nat):Rn×Nat×Nat×Bool :=
 if i=j then (coincide r f b,0,0,false)
 else if i+1=j then (join r f (colI (w.getD i 0)).toNat b,0,0,false)
 else (r,f,(colI (w.getD i 0)).toNat,true)
def scanB (r:Rn) (a:Nat) (w:List Int) (f i:Nat):Rn×Nat×Nat×Bool :=
 scanE r w f i (bwdF r.rows w i w.length a w.length).1 (bwdF r.rows w i w.length a w.length).2
def scan (r:Rn) (a:Nat) (w:List Int):Rn×Nat×Nat×Bool :=
 scanB r a w (fwdF r.rows w w.length a 0).1 (fwdF r.rows w w.length a 0).2
theorem fwd_range {r:Rn} (T:Fine r) {w:List Int} (hw:Wd r.g w):∀ (n f i:Nat),f<r.rows.length->i<=w.length->(fwdF r.rows w n f i).1<r.rows.length/\(fwdF r.rows w n f i).2<=w.length
 | 0,f,i,hf,hi=>⟨hf,hi⟩
 | n + 1, f, i, hf, hi => by
   rw [fwdF]
   split
   . rename_i h
     have hc:=col_range (hw.get h.1)
     have:=T.at (a:=f) (c:=(colI (w.getD i 0)).toNat) hf (by omega)
     exact fwd_range T hw n _ _ (by omega) (by omega)
   . exact ⟨hf,hi⟩
theorem bwd_range {r:Rn} (T:Fine r) {w:List Int} (hw:Wd r.g w) {i:Nat}:∀ (n b j:Nat),b<r.rows.length->i<=j->j<=w.length->(bwdF r.rows w i n b j).1<r.rows.length/\i<=(bwdF r.rows w i n b j).2/\(bwdF r.rows w i n b j).2<=w.length
 | 0,b,j,hb,hi,hj=>⟨hb,hi,hj⟩
 | n + 1, b, j, hb, hi, hj => by
   rw [bwdF]
   split
   . rename_i h
     have hg:=hw.get (show j-1<w.length by omega)
     have hc:=col_range (show-w.getD (j-1) 0≠0/\- r.g<=- w.getD (j-1) 0/\- w.getD (j-1) 0<=r.g by omega)
     have:=T.at (a:=b) (c:=(colI (- w.getD (j-1) 0)).toNat) hb (by omega)
     exact bwd_range T hw n _ _ (by omega) (by omega) (by omega)
   . exact ⟨hb,hi,hj⟩
/-! ### What stays as it is -/
def Keep (r r':Rn):Prop:=r'.g=r.g/\r'.rels=r.rels/\r'.sub=r.sub/\r'.lim=r.lim/\r'.ph=r.ph/\r'.co=r.co/\r'.ix=r.ix/\r'.stat=r.stat
theorem Keep.refl (r:Rn):Keep r r:=⟨rfl,rfl,rfl,rfl,rfl,rfl,rfl,rfl⟩
theorem Keep.trans {a b c:Rn} (h:Keep a b) (k:Keep b c):Keep a c:=by
 obtain ⟨h1,h2,h3,h4,h5,h6,h7,h8⟩:=h
 obtain ⟨k1,k2,k3,k4,k5,k6,k7,k8⟩:=k
 exact ⟨k1.trans h1,k2.trans h2,k3.trans h3,k4.trans h4,k5.trans h5,k6.trans h6,k7.trans h7,k8.trans h8⟩
theorem merge_keep (r:Rn) (a b:Nat):Keep r (merge r a b):=by unfold merge;split <;> exact Keep.refl _
theorem join_keep (r:Rn) (a c b:Nat):Keep r (join r a c b):=Keep.refl _
theorem cell_keep (r:Rn) (e c:Nat):Keep r (cell r e c):=by
 unfold cell
 split
 . exact Keep.refl _
 . unfold cellV
   split
   . exact merge_keep (deadR r e c) _ _
   . split
     . exact merge_keep (deadR r e c) _ _
     . exact join_keep (deadR r e c) _ _ _
theorem cells_keep (e:Nat):∀ (f c:Nat) (r:Rn),Keep r (cellsF e f c r)
 | 0,_,_=>Keep.refl _
 | f+1,c,r=>(cell_keep r e c).trans (cells_keep e f (c+1) _)
theorem die_keep (k2:Nat):∀ (f k:Nat) (r:Rn),Keep r (dieF k2 f k r)
 | 0,_,_=>Keep.refl _
 | f+1,k,r=>by
   rw [dieF]
   split
   . exact (cells_keep _ _ _ r).trans (die_keep k2 f (k+1) _)
   . exact Keep.refl _
theorem coincide_keep (r:Rn) (a b:Nat):Keep r (coincide r a b) :=
 (merge_keep { r with dn:=0 } a b).trans (die_keep _ _ _ _)
structure Scanned (r:Rn) (x:Rn×Nat×Nat×Bool):Prop where
 fine:Fine x.1
 len:x.1.rows.length=r.rows.length
 keep:Keep r x.1
 opn:x.2.2.2=true->x.1=r/\x.2.1<r.rows.length/\x.2.2.1<(2*r.g).toNat
theorem scan_ok {r:Rn} (T:Fine r) {w:List Int} (hw:Wd r.g w) {a:Nat} (ha:a<r.rows.length):Scanned r (scan r a w):=by
 obtain ⟨f1,f2⟩:=fwd_range T hw w.length a 0 ha (Nat.zero_le _)
 obtain ⟨b1,b2,b3⟩:=bwd_range T hw (i:=(fwdF r.rows w w.length a 0).2) w.length a w.length ha f2 (Nat.le_refl _)
 unfold scan scanB
 generalize fwdF r.rows w w.length a 0=p at *
 generalize bwdF r.rows w p.2 w.length a w.length=q at *
 unfold scanE
 split
 . obtain ⟨c1,c2,c3⟩:=T.coincide f1 b1
   exact ⟨c1,c2,coincide_keep _ _ _,fun h=>by cases h⟩
 . split
   . exact ⟨T.joins f1 b1,(join_len _ _ _ _).1,join_keep _ _ _ _,fun h=>by cases h⟩
   . have:=col_range (hw.get (show p.2<w.length by omega))
     exact ⟨T,rfl,Keep.refl _,fun _=>⟨rfl,f1,by simp only;omega⟩⟩
def grow (r:Rn) (f c:Nat):Rn:=join (add r) f c r.rows.length
theorem grow_ok {r:Rn} (T:Fine r) {f:Nat} (c:Nat) (hf:f<r.rows.length) (h:r.rows.length<1000000):Fine (grow r f c)/\(grow r f c).rows.length=r.rows.length+1/\Keep r (grow r f c):=by
 have h1:=add_len r
 exact ⟨(T.add h).joins (by omega) (by omega),(join_len _ _ _ _).1.trans h1.1,Keep.refl _⟩
def fillF (a:Nat) (w:List Int):Nat->Rn->Rn×Nat×Bool
 | 0,r =>
   if (scan r a w).2.2.2=false then ((scan r a w).1,0,true)
   else if r.lim<=(scan r a w).1.rows.length then ({ (scan r a w).1 with stat:=2 },0,false)
   else ((scan r a w).1,0,false)
 | q+1,r =>
   if (scan r a w).2.2.2=false then ((scan r a w).1,q+1,true)
   else if r.lim<=(scan r a w).1.rows.length then ({ (scan r a w).1 with stat:=2 },q+1,false)
   else fillF a w q (grow (scan r a w).1 (scan r a w).2.1 (scan r a w).2.2.1)
def colsF (a:Nat):Nat->Nat->Rn->Nat->Rn×Nat×Bool
 | 0,_,r,q=>(r,q,true)
 | f+1,c,r,q =>
   if 0<=at2 r.rows a c then colsF a f (c+1) r q
   else if r.lim<=r.rows.length then ({ r with stat:=2 },q,false)
   else if q=0 then (r,0,false)
   else colsF a f (c+1) (grow r a c) (q-1)
structure Filled (r:Rn) (q:Nat) (x:Rn×Nat×Bool):Prop where
 fine:Fine x.1
 len:x.1.rows.length+x.2.1=r.rows.length+q
 lim:x.1.rows.length<=r.lim
 grown:r.rows.length<=x.1.rows.length
 keep:Keep r { x.1 with stat:=r.stat }
 yes:x.2.2=true->x.1.stat=r.stat
 no:x.2.2=false->(x.1.stat=2/\r.lim<=x.1.rows.length)∨(x.1.stat=r.stat/\x.2.1=0/\x.1.rows.length<r.lim)
theorem Keep.stat {a b:Rn} (h:Keep a b):Keep a { b with stat:=a.stat }:=by
 obtain ⟨h1,h2,h3,h4,h5,h6,h7,h8⟩:=h
 exact ⟨h1,h2,h3,h4,h5,h6,h7,rfl⟩
theorem Fine.stat {r:Rn} (T:Fine r) (s:Int):Fine { r with stat:=s }:=⟨T.g1,T.g2,T.len,T.par,T.row,T.dy,T.dx,T.live,T.sum⟩
theorem Keep.trans' {a b c:Rn} (h:Keep a b) (k:Keep b { c with stat:=b.stat }):Keep a { c with stat:=a.stat }:=by
 obtain ⟨h1,h2,h3,h4,h5,h6,h7,h8⟩:=h
 obtain ⟨k1,k2,k3,k4,k5,k6,k7,k8⟩:=k
 exact ⟨k1.trans h1,k2.trans h2,k3.trans h3,k4.trans h4,k5.trans h5,k6.trans h6,k7.trans h7,rfl⟩
theorem fill_ok {a:Nat} {w:List Int}:∀ (q:Nat) {r:Rn},Fine r->Wd r.g w->a<r.rows.length->r.rows.length<=r.lim->r.lim<=900000->Filled r q (fillF a w q r)
 | 0,r,T,hw,ha,hl,hm=>by
   have S:=scan_ok T hw ha
   have h1:=S.len
   rw [fillF]
   split
   . exact ⟨S.fine,by simp only;omega,by simp only;omega,by simp only;omega,S.keep.stat,fun _=>S.keep.2.2.2.2.2.2.2,fun h=>by cases h⟩
   . split
     . rename_i h2 h3
       exact ⟨S.fine.stat 2,by simp only;omega,by simp only;omega,by simp only;omega,S.keep.stat,fun h=>(by cases h),fun _=>.inl ⟨rfl,h3⟩⟩
     . exact ⟨S.fine,by simp only;omega,by simp only;omega,by simp only;omega,S.keep.stat,fun h=>(by cases h),fun _=>.inr ⟨S.keep.2.2.2.2.2.2.2,rfl,by simp only;omega⟩⟩
 | q + 1, r, T, hw, ha, hl, hm => by
   have S:=scan_ok T hw ha
   have h1:=S.len
   rw [fillF]
   split
   . exact ⟨S.fine,by simp only;omega,by simp only;omega,by simp only;omega,S.keep.stat,fun _=>S.keep.2.2.2.2.2.2.2,fun h=>by cases h⟩
   . split
     . rename_i h2 h3
       exact ⟨S.fine.stat 2,by simp only;omega,by simp only;omega,by simp only;omega,S.keep.stat,fun h=>(by cases h),fun _=>.inl ⟨rfl,h3⟩⟩
     . rename_i h2 h3
       obtain ⟨o1,o2,o3⟩:=S.opn (by simpa using h2)
       obtain ⟨g1,g2,g3⟩:=grow_ok S.fine (scan r a w).2.2.1 (show (scan r a w).2.1<(scan r a w).1.rows.length by omega) (by omega)
       have k:=S.keep.trans g3
       have F:=fill_ok (a:=a) (w:=w) q g1 (by rw [k.1];exact hw) (by omega) (by rw [k.2.2.2.1];omega) (by rw [k.2.2.2.1];exact hm)
       refine ⟨F.fine,by have:=F.len;omega,by have:=F.lim;rw [k.2.2.2.1] at this;exact this,by have:=F.grown;omega,k.trans' F.keep,fun h=>(F.yes h).trans k.2.2.2.2.2.2.2,fun h=>?_⟩
       have:=F.no h
       rw [k.2.2.2.1,k.2.2.2.2.2.2.2] at this
       exact this
theorem cols_ok {a:Nat}:∀ (f c:Nat) (q:Nat) {r:Rn},Fine r->c+f=(2*r.g).toNat->a<r.rows.length->r.rows.length<=r.lim->r.lim<=900000->Filled r q (colsF a f c r q)
 | 0,c,q,r,T,hc,ha,hl,hm=>by
   show Filled r q (r,q,true)
   exact ⟨T,rfl,hl,Nat.le_refl _,Keep.refl _,fun _=>rfl,fun h=>by cases h⟩
 | f + 1, c, q, r, T, hc, ha, hl, hm => by
   rw [colsF]
   split
   . exact cols_ok f (c+1) q T (by omega) ha hl hm
   . split
     . rename_i h2 h3
       exact ⟨T.stat 2,rfl,hl,Nat.le_refl _,Keep.refl _,fun h=>(by cases h),fun _=>.inl ⟨rfl,h3⟩⟩
     . rename_i h2 h3
       split
       . rename_i h4
         exact ⟨T,by simp only;omega,hl,Nat.le_refl _,Keep.refl _,fun h=>(by cases h),fun _=>.inr ⟨rfl,rfl,by simp only;omega⟩⟩
       . obtain ⟨g1,g2,g3⟩:=grow_ok T c ha (by omega)
         have F:=cols_ok (a:=a) f (c+1) (q-1) g1 (by rw [g3.1];omega) (by omega) (by rw [g3.2.2.2.1];omega) (by rw [g3.2.2.2.1];exact hm)
         refine ⟨F.fine,by have:=F.len;omega,by have:=F.lim;rw [g3.2.2.2.1] at this;exact this,by have:=F.grown;omega,g3.trans' F.keep,fun h=>(F.yes h).trans g3.2.2.2.2.2.2.2,fun h=>?_⟩
         have:=F.no h
         rw [g3.2.2.2.1,g3.2.2.2.2.2.2.2] at this
         exact this
end Go.Eng
