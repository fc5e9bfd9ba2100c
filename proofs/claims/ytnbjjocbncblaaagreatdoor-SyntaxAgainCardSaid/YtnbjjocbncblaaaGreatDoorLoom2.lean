/- The walk by values, second part: operations that write; calls by contracts. It holds for every program and every world, under the hypotheses that each theorem names. -/
import Derived.Test.YtnbjjocbncblaaaGreatDoorLoom1
import Derived.RangeFuncCalls
import Derived.Test.YtnbjjocbncblaaaGreatDoorMill2
namespace Go.aN
open Go.RowKit
open Go.ah (T)
section
variable {P:Program} {base n:Nat} {η:Eta} {Z:ar} {S:af} {w:World} {F:Fr} {a:Act}
theorem aI.takeN{α β:Type}{R:α->β->Prop}{l:List α}{m:List β}(h:aI R l m)(k:Nat):aI R (l.take k) (m.take k):=aI.take k h
theorem Tw(R:St base η Z S w){t ty el:TypeId}{ts:Array TypeId}{sz:Nat}(ht:ts[0]? = some t)(hu:P.underlying t=some (.slice el))(hs:ig P el=some sz)
 {uy:Value} {cs:List W} (hsrc:Src P η Z w uy sz cs) (hsz:sz≠0) {u:Value} {m off len:Nat} (hx:au η Z (.sl m off len sz) u) {o:Ob} (ho:S.get m=some o) (hmo:¬o.gF) (hnb:¬o.bytes∨o.cells=[]) (hnw:¬o.wb) (hb:off+len*sz<=o.cells.length) :
 bq P base η Z S w (do pure (Next.value (<-Builtin.copy_ ts ty #[u,uy]))) (.p (.c (.int .i64 ((Nat.min (cs.length/sz) len:Nat):Int)))) (S.put m (Ob.of o.ty (kB o.cells off (cs.take (len*sz))))):=by
 obtain⟨k,vs,h1,h2,h3,h4,h5,h6⟩:=hsrc;have hdiv:cs.length/sz=k:=by rw[h1];exact Nat.mul_div_cancel _ (by omega)
 rw[hdiv];have hmin:∃ j,Nat.min k len=j/\j<=k/\j<=len:=⟨_,rfl,Nat.min_le_left _ _,Nat.min_le_right _ _⟩;obtain⟨j,hj,hjk,hjl⟩:=hmin;rw[hj];have hcs:cs.take (len*sz)=cs.take (j*sz):=by
  by_cases hkl:k<=len;have:j=k:=by rw[<-hj];exact Nat.min_eq_left hkl
  subst this;rw[List.take_of_length_le (by rw[h1];exact Nat.mul_le_mul_right _ hkl),List.take_of_length_le (by omega)];have:j=len:=by rw[<-hj];exact Nat.min_eq_right (by omega)
  rw[this]
 rw[hcs];have hrun:=h6 w j rfl hjk;have hjs:j*sz<=len*sz:=Nat.mul_le_mul_right _ hjl;have hjs2:j*sz<=k*sz:=Nat.mul_le_mul_right _ hjk;rcases hx with ⟨rfl,rfl⟩|⟨pl,cap,ad,hpl,rfl,hcap,hroom,had⟩;have hj0:j=0:=by omega
 subst hj0;refine bq.alike (S':=S) (bq.of (u:=goInt 0) ?_ (bL.refl R) eP) ?_;have hmin0:k.min 0=0:=hj;simp only[Builtin.copy_,ht,Sem.run_bind,List.getElem?_toArray,List.getElem?_cons_zero,List.getElem?_cons_succ,run_underlying hu,Result.andThen_ok,h5,dP hs,hmin0,hrun,Sem.run_pure];rfl;refine⟨⟨rfl,rfl⟩,fun i=>?_⟩;rw[af.j3];by_cases hi:i=m;subst hi;rw[if_pos rfl,ho];exact⟨rfl,by simp[kB]⟩
 . rw[if_neg hi];cases S.get i with
   | none=>trivial
   | some x=>exact⟨rfl,rfl⟩
 by_cases h0:j=0;subst h0;refine bq.alike (S':=S) (bq.of (u:=goInt 0) ?_ (bL.refl R) eP) ?_;simp only[Nat.zero_mul,List.take_zero] at hrun;simp only[Builtin.copy_,ht,Sem.run_bind,List.getElem?_toArray,List.getElem?_cons_zero,List.getElem?_cons_succ,run_underlying hu,Result.andThen_ok,h5,dP hs,hj,hrun,Sem.run_pure,storeCells];rfl;refine⟨⟨rfl,rfl⟩,fun i=>?_⟩;rw[af.j3];by_cases hi:i=m;subst hi;rw[if_pos rfl,ho];exact⟨rfl,by simp[kB]⟩
 . rw[if_neg hi];cases S.get i with
   | none=>trivial
   | some x=>exact⟨rfl,rfl⟩
 have hca:ad=⟨pl.block,pl.off+off,none⟩:=by
  rcases had with rfl|rfl;omega;rfl
 subst hca;have hlt:=(h3.takeN (j*sz)).length;have bK:(cs.take (j*sz)).length=j*sz:=by simp;omega
 have hn0:¬o.bytes:=by
  rcases hnb with h|h;exact h;exfalso;rw[h] at hb;have hb:off+len*sz<=0:=hb;have:1*1<=j*sz:=Nat.mul_le_mul (by omega) (by omega);omega
 obtain⟨hst,g⟩:=R.store (P:=P) ho hpl hmo hn0 hnw (h3.takeN (j*sz)) (fun v hv=>h4 v (List.mem_of_mem_take hv)) (off:=off) (by omega) (o':=Ob.of o.ty (kB o.cells off (cs.take (j*sz)))) rfl (by simp);refine bq.of (u:=goInt j) ?_ g.up eP;simp only[Builtin.copy_,ht,Sem.run_bind,List.getElem?_toArray,List.getElem?_cons_zero,List.getElem?_cons_succ,run_underlying hu,Result.andThen_ok,h5,dP hs,hj,hrun,hst,Sem.run_pure]
theorem QM(R : St base η Z S w){t ty el : TypeId}{ts : Array TypeId}{i : TypeInfo}{z : W}{zv : Value}(ht : ts[0]? = some t)(hu : P.underlying t = some (.slice el))(hi : P.info? el = some i)(hzv : i.zero = some zv)(hz : AP z zv = true)
 {u:Value} {m off len:Nat} (hx:au η Z (.sl m off len 1) u) {o:Ob} (ho:S.get m=some o) (hmo:¬o.gF) (hnb:¬o.bytes∨o.cells=[]) (hnw:¬o.wb) (hb:off+len<=o.cells.length) :
 bq P base η Z S w (do pure (Next.value (<-Builtin.clear_ ts ty #[u]))) (.bG []) (S.put m (Ob.of o.ty (kB o.cells off (List.replicate len z)))):=by
 have uh:∀{u:Value},(Builtin.clear_ ts ty #[u]).run P w=.ok (.tuple #[]) w->len=0->bq P base η Z S w (do pure (Next.value (<-Builtin.clear_ ts ty #[u]))) (.bG []) (S.put m (Ob.of o.ty (kB o.cells off (List.replicate len z)))):=by
  rintro u hr rfl;refine bq.alike (S':=S) (bq.of (u:=.tuple #[]) hr (bL.refl R) ⟨[],rfl,trivial⟩) ⟨⟨rfl,rfl⟩,fun i=>?_⟩;rw[af.j3];by_cases hi:i=m;subst hi;rw[if_pos rfl,ho];exact⟨rfl,by simp[kB]⟩;rw[if_neg hi];cases S.get i with
  | none=>trivial
  | some x=>exact⟨rfl,rfl⟩
 rcases hx with ⟨rfl,rfl⟩|⟨pl,cap,ad,hpl,rfl,hcap,hroom,had⟩;exact uh (by simp[Builtin.clear_,ht,run_underlying hu]) rfl;by_cases h0:len=0;subst h0;exact uh (by simp[Builtin.clear_,ht,run_underlying hu]) rfl
 · have hca : ad = ⟨pl.block, pl.off + off, none⟩ := by
    rcases had with rfl|rfl;omega;rfl
   subst hca;obtain⟨hr,_,hone,hy⟩:=xJ (η:=η) (Z:=Z) hz;have hrel : aI (au η Z) (List.replicate len z) (List.replicate len zv) := by
    apply aI.pQ;simp;intro j x v hx hv;rw[List.getElem?_replicate] at hx hv;split at hx;rename_i hj;rw[if_pos hj] at hv;cases hx;cases hv;exact hr;cases hx
   have hn0:¬o.bytes:=by
    rcases hnb with h|h;exact h;exfalso;rw[h] at hb;have hb:off+len<=0:=hb;omega
   obtain⟨hst,g⟩:=R.store (P:=P) ho hpl hmo hn0 hnw hrel (fun v hv=>by rw[(List.mem_replicate.1 hv).2];exact hone) (off:=off) (by simp;omega) (o':=Ob.of o.ty (kB o.cells off (List.replicate len z))) rfl (by simp);have hzc:(Builtin.zeroCells zv.cells len).toList=List.replicate len zv:=by
    rw[hy];unfold Builtin.zeroCells;apply List.ext_getElem?;intro j;rw[List.getElem?_replicate];by_cases hj:j<len;simp[hj,Nat.mod_one];simp[hj]
   have Dj:(zeroValue el).run P w=.ok zv w:=by simp[zeroValue,typeInfo,hi,hzv]
   refine bq.of (u:=.tuple #[]) ?_ g.up ⟨[],rfl,trivial⟩;simp only[Builtin.clear_,ht,Sem.run_bind,List.getElem?_toArray,List.getElem?_cons_zero,run_underlying hu,Result.andThen_ok];cases len with
   | zero=>exact absurd rfl h0
   | succ n=>simp only[Dj,Result.andThen_ok,hzc,hst,Sem.run_pure]
def sF(l:List Int):ByteArray:=⟨(l.map fun n=>UInt8.ofNat n.toNat).toArray⟩
theorem KQ(l:List Int):sF l=l.foldl (fun r n=>r.push (UInt8.ofNat n.toNat)) ByteArray.empty:=ah.Qu l
theorem D6{k:IntKind}:∀{l:List Int}{vs:List Value},aI (au η Z) (l.map (D.int k).w) vs->vs=l.map (Value.int k)
 | [],[],_=>rfl
 | n::l,v::vs,⟨a,b⟩=>by
   have:v=.int k n:=by simpa[D.w,au,aF] using a
   subst this;simp only[List.map_cons];rw[<-D6 b]
theorem KR{src dst el:TypeId}(hs:P.underlying src=some (.slice el))(hd:P.underlying dst=some .string)(he:P.underlying el=some (.int .u8)){u:Value}{l:List Int}(hsrc:Src P η Z w u 1 (l.map (D.int .u8).w))(hu:∃ ad len c,u=.slice ad len c)(hnil:∀ len c,u=.slice none len c->l=[]) :
 bP P η Z w (do pure (Next.value (<-convert src dst u))) (.c (.str (sF l))):=by
 obtain⟨ad,len,c,rfl⟩:=hu;obtain⟨m,vs,h1,h2,h3,h4,h5,h6⟩:=hsrc;have bE:len=m:=by
  have:=h5 w;simp[Builtin.lenOf] at this;exact this
 subst bE;have hvs:=D6 h3;cases ad with
 | none =>
   have:=hnil len c rfl;subst this;refine bP.of (u:=.string (sF [])) ?_ rW;simp[convert,run_underlying hs,run_underlying hd,run_underlying he,Conv.bytesToString];rfl
 | some ad =>
   have yP:=h6 w len rfl (Nat.le_refl _);rw[List.take_of_length_le (by omega),hvs] at yP;simp only[Builtin.firstCells,Nat.mul_one] at yP;have:=run_bytesToString (P:=P) w ad len c l yP;refine bP.of (u:=.string (sF l)) ?_ rW;simp only[convert,Sem.run_bind,run_underlying hs,run_underlying hd,run_underlying he,Result.andThen_ok,this,KQ]
end
def tV(P:Program):Nat->TypeId->Option D
 | 0,_=>none
 | k+1,t=>match P.underlying t with
   | some (.int k)=>some (.int k)
   | some .bool=>some .bool
   | some .string=>some .str
   | some (.slice el)=>match tV P k el with|some d=>some (.sl d)|none=>none
   | _=>none
def Tx(P:Program):Nat->TypeId->Option (List Fd)
 | 0,_=>none
 | k+1,t=>match P.underlying t with
   | some (.struct fs)=>fs.toList.foldr (fun f r=>match Tx P k f.type,r with|some a,some b=>some (a++b)|_,_=>none) (some [])
   | some (.array n el)=>match tV P 4 el with|some d=>some [.a n d (List.replicate n d.zero)]|none=>none
   | some _=>match QA P t with|some z=>some [.c z]|none=>none
   | none=>none
def yQ:List PV->List Fd->List Fd
 | .aZ n _::zs,.c .nil::l=>.c (.rs n [])::yQ zs l
 | _::zs,.c x::l=>.c x::yQ zs l
 | _,l=>l
def ZN(P:Program)(k:Nat)(t:TypeId):Option (List Fd):=match Tx P k t with
 | some fs=>(match P.underlying t with|some (.struct _)=>some (yQ (shapes P t) fs)|_=>some fs)
 | none=>none
def KS:List W->List Value->Bool
 | [],[]=>true
 | x::l,v::m=>AP x v&&KS l m
 | _,_=>false
theorem Cw{η:Eta}{Z:ar}:∀{l:List W}{m:List Value},KS l m=true->aI (au η Z) l m/\∀ v∈m,v.oneCell'=true
 | [],[],_=>⟨trivial,by simp⟩
 | x::l,v::m,h=>by
   simp only[KS,Bool.and_eq_true] at h;obtain⟨a,b⟩:=Cw (η:=η) (Z:=Z) h.2;obtain⟨c,_,d,_⟩:=xJ (η:=η) (Z:=Z) h.1;refine⟨⟨c,a⟩,fun u hu=>?_⟩;rcases List.mem_cons.1 hu with rfl|hu;exact d;exact b u hu
 | [],_::_,h=>by cases h
 | _::_,[],h=>by cases h
def qV:List Fd->Nat->Fd->Option (List Fd)
 | [],_,_=>none
 | .c x::fs,k,f=>match k with
   | 0=>some (f::fs)
   | k+1=>match qV fs k f with|some r=>some (.c x::r)|none=>none
 | .a n d l::fs,k,f=>match k with
   | 0=>some (f::fs)
   | k+1=>bif Nat.blt (k+1) n then none else match qV fs (k+1-n) f with|some r=>some (.a n d l::r)|none=>none
 | .m _ _ _::_,_,_=>none
 | .b _::_,_,_=>none
theorem yR:∀{fs:List Fd}{off:Nat}{c:Cd}{f f':Fd}{fs':List Fd},jD fs off=some (c,f)->c->qV fs off f'=some fs'->∃ pre post,fs=pre++f::post/\fs'=pre++f'::post/\(pre.flatMap Fd.cells).length=off
 | [],_,_,_,_,_,e,_,_=>by cases e
 | .c x::fs,0,c,f,f',fs',e,_,h=>by
   simp only[jD] at e;simp only[qV] at h;cases e;cases h;exact⟨[],fs,rfl,rfl,rfl⟩
 | .c x::fs,k+1,c,f,f',fs',e,hc,h=>by
   simp only[jD] at e;simp only[qV] at h;split at h;rename_i r hr;cases h;obtain⟨pre,post,rfl,rfl,hl⟩:=yR e hc hr;exact⟨.c x::pre,post,rfl,rfl,by rw[List.flatMap_cons,List.length_append,hl];simp only[Fd.cells,List.length_singleton];omega⟩;cases h
 | .a n d l::fs,0,c,f,f',fs',e,_,h=>by
   simp only[jD] at e;simp only[qV] at h;cases e;cases h;exact⟨[],fs,rfl,rfl,rfl⟩
 | .a n d l :: fs, k + 1, c, f, f', fs', e, hc, h => by
   simp only[jD] at e;simp only[qV] at h;cases hb:Nat.blt (k+1) n with
   | true=>rw[hb] at e;cases e
   | false =>
     rw[hb] at e h;simp only[cond_false] at e h;have hn:n<=k+1:=by
      rcases Nat.lt_or_ge (k+1) n with h|h;rw[(Nat.blt_eq (x:=k+1) (y:=n)).mpr h] at hb;cases hb;exact h
     split at e;rename_i c' f'' he;cases e;split at h;rename_i r hr;cases h;obtain⟨pre,post,rfl,rfl,hl⟩:=yR he hc.2 hr;exact⟨.a n d l::pre,post,rfl,rfl,by rw[List.flatMap_cons,List.length_append,hl];simp only[Fd.cells,List.length_map];have:l.length=n:=hc.1;omega⟩;cases h;cases e
theorem NN{fs fs':List Fd}{off:Nat}{c:Cd}{x y:W}(e:jD fs off=some (c,.c x))(hc:c)(h:qV fs off (.c y)=some fs'):fs'.flatMap Fd.cells=(fs.flatMap Fd.cells).set off y/\off<(fs.flatMap Fd.cells).length:=by
 obtain⟨pre,post,rfl,rfl,hl⟩:=yR e hc h;rw[List.flatMap_append,List.flatMap_append,List.flatMap_cons,List.flatMap_cons];refine⟨?_,by simp only[List.length_append,Fd.cells,List.length_singleton];omega⟩;rw[List.set_append_right _ _ (by omega),hl,Nat.sub_self];rfl
theorem NP{fs fs':List Fd}{off n n':Nat}{d:D}{l l':List d.ty}{c:Cd}(e:jD fs off=some (c,.a n d l))(hc:c)(h:qV fs off (.a n' d l')=some fs') :
 ∃ pre post,fs.flatMap Fd.cells=pre++l.map d.w++post/\fs'.flatMap Fd.cells=pre++l'.map d.w++post/\pre.length=off:=by
 obtain⟨pre,post,rfl,rfl,hl⟩:=yR e hc h;exact⟨pre.flatMap Fd.cells,post.flatMap Fd.cells,by simp[List.flatMap_append,Fd.cells],by simp[List.flatMap_append,Fd.cells],hl⟩
def EU(fs : List Fd)(off : Nat) : List W → Option (Cd × List Fd)
 | []=>some (.t,fs)
 | y :: cs => match jD fs off with
   | some (c,.c _)=>match qV fs off (.c y) with
     | some fs'=>match EU fs' (off+1) cs with
       | some (c',r)=>some (.and c c',r)
       | none=>none
     | none=>none
   | _=>none
theorem Dm : ∀{cs : List W}{fs fs' : List Fd}{off : Nat}{c : Cd}, EU fs off cs = some (c, fs') → c → fs'.flatMap Fd.cells = kB (fs.flatMap Fd.cells) off cs ∧ (cs ≠ [] → off + cs.length ≤ (fs.flatMap Fd.cells).length)
 | [],fs,fs',off,c,e,_=>by
   simp only[EU] at e;cases e;exact⟨rfl,fun h=>absurd rfl h⟩
 | y :: cs, fs, fs', off, c, e, hc => by
   simp only[EU] at e;split at e;rename_i c1 x hg;split at e;rename_i fs1 hp;split at e;rename_i c2 r hr;cases e;obtain⟨h1,h2⟩:=NN hg hc.1 hp;obtain⟨h3,h4⟩:=Dm hr hc.2;rw[h1] at h3 h4;refine⟨h3,fun _=>?_⟩;by_cases h0:cs=[];subst h0;rw[List.length_singleton];omega;have:=h4 h0;rw[List.length_set] at this;rw[List.length_cons];omega;cases e;cases e;cases e
def Fd.list(d:D):List Fd->Option (List d.ty)
 | [.a _ d' l]=>if h:d'=d then some (h▸l) else none
 | _=>none
theorem Fd.iE{d:D}{fs:List Fd}{l:List d.ty}(h:Fd.list d fs=some l):fs.flatMap Fd.cells=l.map d.w:=by
 unfold Fd.list at h;split at h;split at h;rename_i hd;subst hd;cases h;simp[Fd.cells];cases h;cases h
noncomputable def KT(S:af):(d:D)->W->Option (Cd×d.ty×af)
 | .sl e,.sl m off len sz=>bif Nat.beq sz 1 then match S.get m with
  | some o=>match Fd.list e o.fs with
    | some l=>some (.p (off+len<=l.length),((l.drop off).take len:List e.ty),S.del m)
    | none=>none
  | none=>none
   else none
 | d,x=>match d.of x with|some y=>some (.t,y,S)|none=>none
section
variable {P:Program} {base n:Nat} {η:Eta} {Z:ar} {S:af} {w:World} {F:Fr} {a:Act}
theorem nQ{d:D}{x:W}{y:d.ty}(e:d.of x=some y){v:Value}(h:au η Z x v):cG Z d y v:=D.of_rel e (au.frel (D.WQ e) h)
theorem oW{sz:Nat}(h:Nat.beq sz 1=true):sz=1:=Nat.eq_of_beq_eq_true h
theorem Ty(R : St base η Z S w){m off len : Nat}{o : Ob}(ho : S.get m = some o){e : D}{l : List e.ty}(hl : Fd.list e o.fs = some l)(hb : off + len ≤ l.length){v : Value}(h : au η Z (.sl m off len 1) v) :
 ∃ Z',bL base η Z S w η Z' (S.del m) w/\cG Z' (.sl e) ((l.drop off).take len) v:=by
 have hc:=Fd.iE hl;have hz:len=0->∀ ad cap Z',v=.slice ad 0 cap->cG Z' (.sl e) ((l.drop off).take len) v:=by
  rintro rfl ad cap Z' rfl;exact⟨ad,0,cap,rfl,by simp,Nat.zero_le _,.inl (by simp)⟩
 rcases h with ⟨h0,rfl⟩|⟨p,c,ad,hp,rfl,hcap,hroom,had⟩;exact⟨Z,⟨Eta.le.refl _,R.del m,Step.del m⟩,hz h0 _ _ _ rfl⟩;by_cases h0:len=0;subst h0;exact⟨Z,⟨Eta.le.refl _,R.del m,Step.del m⟩,hz rfl _ _ _ rfl⟩;obtain⟨cs,ty,fz,hh,mv,hv⟩:=R.freeze ho hp (Ob.fY (o:=o) hc);refine⟨_,mv,some ad,len,c,rfl,by simp;omega,hcap,.inr ⟨p.block,p.off+off,cs,?_,?_,?_⟩⟩;rcases had with h|h;omega;rw[h];unfold ar.add;rw[if_pos rfl];intro i x hx;have hx':(l.map e.w)[off+i]? = some (e.w x):=by
  rw[List.getElem?_take] at hx;split at hx;rw[List.getElem?_drop] at hx;simp[hx];cases hx
 obtain⟨u,h1,h2⟩:=hv (off+i) _ (by unfold Ob.cells;rw[hc];exact hx');exact⟨u,by rw[<-h1];congr 1;omega,cG.mono mv.step.cN e ((D.eV e).1 h2)⟩
noncomputable def Xa(S:af):W->Option (Cd×W×af)
 | .sl m off len sz=>match S.get m with
   | some o=>match Fd.list .pv o.fs with
     | some l=>some (.p (off+len*sz<=List.length (α:=PV) l),.rs sz ((List.drop (α:=PV) off l).take (len*sz)),S.del m)
     | none=>none
   | none=>none
 | _=>none
theorem Tz(R : St base η Z S w){m off len sz : Nat}{o : Ob}(ho : S.get m = some o)(hM : ¬o.gF){l : List PV}(hc : o.cells = l.map PV.w)(hb : off + len * sz ≤ l.length){v : Value}(h : au η Z (.sl m off len sz) v) :
 ∃ Z',bL base η Z S w η Z' (S.del m) w/\dF Z' (.aZ sz ((l.drop off).take (len*sz))) v:=by
 have hz:len=0->∀ ad cap Z',v=.slice ad 0 cap->dF Z' (.aZ sz ((l.drop off).take (len*sz))) v:=by
  rintro rfl ad cap Z' rfl;simp only[dF];exact⟨ad,0,cap,rfl,by simp,Nat.zero_le _,.inl (by simp)⟩
 rcases h with ⟨h0,rfl⟩|⟨p,c,ad,hp,rfl,hcap,hroom,had⟩;exact⟨Z,⟨Eta.le.refl _,R.del m,Step.del m⟩,hz h0 _ _ _ rfl⟩;by_cases h0:len=0;subst h0;exact⟨Z,⟨Eta.le.refl _,R.del m,Step.del m⟩,hz rfl _ _ _ rfl⟩;obtain⟨cs,ty,fz,hh,mv,hv⟩:=R.freeze ho hp hM;refine⟨_,mv,?_⟩;simp only[dF];refine⟨some ad,len,c,rfl,by simp;omega,hcap,.inr ⟨p.block,p.off+off,cs,?_,?_,?_⟩⟩;rcases had with h|h;omega;rw[h];unfold ar.add;rw[if_pos rfl];rw[jF.iff];intro i x hx;have hx':(l.map PV.w)[off+i]? = some (PV.w x):=by
  rw[List.getElem?_take] at hx;split at hx;rw[List.getElem?_drop] at hx;simp[hx];cases hx
 obtain⟨u,h1,h2⟩:=hv (off+i) _ (by rw[hc];exact hx');exact⟨u,by rw[<-h1];congr 1;omega,dF.mono mv.step.cN (PV.eV.1 h2)⟩
theorem TA(R:St base η Z S w){x y:W}{c:Cd}{S':af}(e:Xa S x=some (c,y,S'))(hc:c){v:Value}(h:au η Z x v):∃ Z',bL base η Z S w η Z' S' w/\au η Z' y v/\y≠.dm:=by
 unfold Xa at e;split at e;split at e;rename_i o ho;split at e;rename_i l hl;cases e;have bK:=Fd.iE hl;obtain⟨Z',a,b⟩:=Tz R ho (Ob.fY (o:=o) bK) (l:=l) bK hc h;exact⟨Z',a,by simpa only[au,aF] using b,by intro h;cases h⟩;cases e;cases e;cases e
theorem AR(R:St base η Z S w){d:D}{x:W}{c:Cd}{y:d.ty}{S':af}(e:KT S d x=some (c,y,S'))(hc:c){v:Value}(h:au η Z x v) :
 ∃ Z',bL base η Z S w η Z' S' w/\cG Z' d y v/\(S'=S∨∃ m,S'=S.del m):=by
 unfold KT at e;split at e;rename_i d m off len sz;obtain⟨hs,e⟩:=ah.ay e;have hs1:=oW hs;subst hs1;split at e;rename_i o ho;split at e;rename_i l hl;cases e;obtain⟨Z',a,b⟩:=Ty R ho hl hc h;exact⟨Z',a,b,.inr ⟨m,rfl⟩⟩;cases e;cases e;split at e;rename_i y' hy;cases e;exact⟨Z,bL.refl R,nQ hy h,.inl rfl⟩;cases e
def Fd.hole:List Fd->Option ((d:D)×(List d.ty×W×List d.ty))
 | [.a k d l,.c x,.a k' d' l']=>bif Nat.beq k 1&&Nat.beq k' 1 then(if h:d'=d then some ⟨d,l,x,h▸l'⟩ else none) else none
 | _=>none
theorem Fd.Ow{fs:List Fd}{d:D}{l l':List d.ty}{x:W}(h:Fd.hole fs=some ⟨d,l,x,l'⟩):∃ k k',fs=[.a k d l,.c x,.a k' d l']:=by
 unfold Fd.hole at h;split at h;rename_i k d1 l1 x1 k' d2 l2;obtain⟨_,h⟩:=ah.ay h;split at h;rename_i hd;subst hd;cases h;exact⟨k,k',rfl⟩;cases h;cases h
def D.qW:D->Bool
 | .int .u8=>true
 | _=>false
theorem D.w_u8{d:D}(h:d.qW=true)(x:d.ty):∃ n,d.w x=.int .u8 n:=by
 unfold D.qW at h;split at h;exact⟨x,rfl⟩;cases h
theorem D.EV{d:D}(h:d.qW=false)(x:d.ty)(n:Int):d.w x≠.int .u8 n:=by
 intro e;cases d with
 | int k =>
   have e:W.int k x=.int .u8 n:=e;cases e;cases h
 | bool=>cases e
 | str=>cases e
 | sl d=>cases e
 | pv =>
   have e:PV.w x=.int .u8 n:=e;cases x<;>cases e
theorem ZO{Z:ar}{y:D.ty .pv}{n:Int}(h:cG Z .pv y (.int .u8 n)):D.w .pv y=.int .u8 n:=by
 have h:dF Z y (.int .u8 n):=h;cases y<;>simp only[dF] at h<;>first|(cases h;done)|(obtain⟨_,_,_,h,_⟩:=h;cases h)
noncomputable def shut(S:af)(m:Nat):Option (Cd×af):=match S.tG m with
 | some o=>match Fd.hole o.fs with
   | some ⟨d,l,x,l'⟩=>bif d.qW then none else(match KT S d x with
     | some (c,y,S1)=>match S1.get m with
       | some _=>some (c,S1.put m ⟨o.ty,[.a 1 d (l++y::l')]⟩)
       | none=>none
     | none=>none)
   | none=>none
 | none=>none
theorem Gx(R : St base η Z S w){m : Nat}{c : Cd}{S' : af}(e : shut S m = some (c, S'))(hc : c) : ∃ Z', bL base η Z S w η Z' S' w ∧ ∀ i, i ≠ m → S'.get i = none ∨ S'.get i = S.get i := by
 unfold shut at e;split at e
 · rename_i o ho
   obtain⟨ho,hmo⟩:=kK ho;split at e
   · rename_i d l x l' hh
     cases uN:d.qW with
     | true=>rw[uN] at e;cases e
     | false =>
     rw[uN] at e;simp only[cond_false] at e;split at e;rename_i c1 y S1 hf;split at e
     . rename_i o1 lE;cases e;obtain⟨k,k',hfs⟩:=Fd.Ow hh;have bK:o.cells=l.map d.w++x::l'.map d.w:=by unfold Ob.cells;rw[hfs];simp[Fd.cells]
       have hx:o.cells[l.length]? = some x:=by rw[bK,List.getElem?_append_right (by simp)];simp
       cases hp:η m with
       | none=>rw[R.cL m o ho hp] at hx;simp at hx
       | some p =>
         obtain⟨_,_,L⟩:=R.ai m o p ho hp;obtain⟨cs,fz,h1,h2,h3,pR⟩:=L.there hmo;obtain⟨v,hv,hr,hone⟩:=h3 _ _ hx;obtain⟨Z1,mv,hd,hS⟩:=AR R hf hc hr;have h4:=pR.plain (hw:=Ob.uH (List.mem_of_getElem? hx) (fun n e=>by subst e;have hr:v=.int .u8 n:=hr;subst hr;exact(by
          cases d with
          | int k=>have hd:Value.int .u8 n=.int k y:=hd;cases hd;cases uN
          | bool=>have hd:Value.int .u8 n=.bool y:=hd;cases hd
          | str=>have hd:Value.int .u8 n=.string y:=hd;cases hd
          | sl d=>obtain⟨_,_,_,hd,_⟩:=hd;cases hd
          | pv=>exact D.EV uN y n (ZO hd)))) fun hB=>by
          obtain⟨n,e⟩:=hB x (List.mem_of_getElem? hx);subst e;have hr:v=.int .u8 n:=by simpa only[au,aF] using hr
          subst hr;cases d with
          | int k =>
            have hd:Value.int .u8 n=.int k y:=hd;cases hd;cases uN
          | bool=>have hd:Value.int .u8 n=.bool y:=hd;cases hd
          | str=>have hd:Value.int .u8 n=.string y:=hd;cases hd
          | sl d=>obtain⟨_,_,_,hd,_⟩:=hd;cases hd
          | pv=>exact D.EV uN y n (ZO hd)
         have hget:∀ i,S1.get i=none∨S1.get i=S.get i:=by
          intro i;rcases hS with rfl|⟨m',rfl⟩;exact .inr rfl;rw[af.iN];by_cases hi:i=m';rw[if_pos hi];exact .inl rfl;rw[if_neg hi];exact .inr rfl
         have Xb:S1.get m=some o:=by
          rcases hget m with h|h;rw[h] at lE;cases lE;rw[h];exact ho
         have g : qR base η Z1 S1 w η (S1.put m ⟨o.ty, [.a 1 d (l ++ y :: l')]⟩) w := by
          refine mv.st.write Xb hp rfl rfl rfl rfl (fun _ _=>rfl) (fk.plain (Ob.fY (d:=d) (l:=l++y::l') (by unfold Ob.cells;simp[Fd.cells])) ⟨cs,fz,h1,h2,?_,h4⟩ ?_);intro i z hz;have hz':(l.map d.w++d.w y::l'.map d.w)[i]? = some z:=by
           rw[<-hz];unfold Ob.cells;simp[Fd.cells]
          by_cases hi:i=l.length;subst hi;rw[List.getElem?_append_right (by simp)] at hz';simp at hz';subst hz';exact⟨v,hv,(D.eV d).2 hd,hone⟩;obtain⟨v',a,b,e⟩:=h3 i z (by
           rw[bK,<-hz'];rcases Nat.lt_or_gt_of_ne hi with hi|hi;rw[List.getElem?_append_left (by simpa using hi),List.getElem?_append_left (by simpa using hi)];rw[List.getElem?_append_right (by simp;omega),List.getElem?_append_right (by simp;omega)];simp only[List.length_map];obtain⟨j,hj⟩:∃ j,i-l.length=j+1:=⟨i-l.length-1,by omega⟩;rw[hj];rfl)
          exact⟨v',a,b.mono (Eta.le.refl _) mv.step.cN,e⟩;have:=L.size hmo;rw[bK] at this;unfold Ob.cells;simp[Fd.cells] at this ⊢;omega
         refine⟨Z1,mv.trans g.up,fun i hi=>?_⟩;rw[af.j3,if_neg hi];exact hget i
     cases e;cases e
   cases e
 cases e
noncomputable def Iv(S:af)(d:D)(x:W):Option (Cd×d.ty×af) :=
 match KT S d x with
 | some r=>some r
 | none=>match x with
   | .sl m off len sz=>match shut S m with
     | some (c,S1)=>match KT S1 d (.sl m off len sz) with
       | some (c',y,S2)=>some (.and c c',y,S2.del m)
       | none=>none
     | none=>none
   | _=>none
theorem p9(R : St base η Z S w){d : D}{x : W}{c : Cd}{y : d.ty}{S' : af}(e : Iv S d x = some (c, y, S'))(hc : c){v : Value}(h : au η Z x v) :
 ∃ Z',bL base η Z S w η Z' S' w/\cG Z' d y v/\∀ i,S'.get i=none∨S'.get i=S.get i:=by
 have fW:∀{S S':af},(S'=S∨∃ m,S'=S.del m)->∀ i,S'.get i=none∨S'.get i=S.get i:=by
  intro S S' hS i;rcases hS with rfl|⟨m',rfl⟩;exact .inr rfl;rw[af.iN];by_cases hi:i=m';rw[if_pos hi];exact .inl rfl;rw[if_neg hi];exact .inr rfl
 unfold Iv at e;split at e;rename_i r hr;cases e;obtain⟨Z',a,b,hS⟩:=AR R hr hc h;exact⟨Z',a,b,fW hS⟩
 · split at e
   rename_i m off len sz _;split at e;rename_i c1 S1 hs;split at e;rename_i c2 y2 S2 hf;cases e;obtain⟨Z1,Iw,g1⟩:=Gx R hs hc.1;obtain⟨Z2,ij,hd,hS⟩:=AR Iw.st hf hc.2 (h.mono (Eta.le.refl _) Iw.step.cN);refine⟨Z2,(Iw.trans ij).trans ⟨Eta.le.refl _,ij.st.del m,Step.del m⟩,hd,fun i=>?_⟩;rw[af.iN];by_cases hi:i=m;rw[if_pos hi];exact .inl rfl;rw[if_neg hi];rcases fW hS i with h|h;exact .inl h;rw[h];exact g1 i hi;cases e;cases e;cases e
end
noncomputable def Gy(S:af)(d:D):List V->Option (Cd×List d.ty×af)
 | []=>some (.t,[],S)
 | .c x::l=>match Iv S d x with
   | some (c,y,S1)=>match Gy S1 d l with
     | some (c',ys,S2)=>some (.and c c',y::ys,S2)
     | none=>none
   | none=>none
 | _=>none
def ku(s:ByteArray):List Int:=s.data.toList.map fun b=>(b.toNat:Int)
def strD:(d:D)->ByteArray->Option (Cd×List d.ty)
 | .int .u8,s=>some (.t,ku s)
 | _,_=>none
noncomputable def D7(S:af)(d:D)(x:W):Option (Cd×List d.ty) :=
 match x with
 | .nil=>some (.t,[])
 | .rd d' l=>if h:d'=d then some (.t,h▸l) else none
 | .sl m off len sz=>bif Nat.beq sz 1 then match S.get m with
  | some o=>match Fd.list d o.fs with
    | some l=>some (.p (off+len<=l.length),(l.drop off).take len)
    | none=>none
  | none=>none
   else none
 | .str s=>strD d s
 | _=>none
def PV.conv:PV->W->Option PV
 | .strs _,.nil=>some (.strs [])
 | .aZ n _,.nil=>some (.aZ n [])
 | _,x=>PV.of x
def mz(z0:List PV):List PV->List W->Option (List PV)
 | _,[]=>some []
 | z::zs,x::l=>match z.conv x,mz z0 zs l with|some y,some r=>some (y::r)|_,_=>none
 | [],x::l=>match z0 with
   | z::zs=>match z.conv x,mz z0 zs l with|some y,some r=>some (y::r)|_,_=>none
   | []=>none
theorem PV.D8{η:Eta}{Z:ar}{z y:PV}{x:W}{v:Value}(e:z.conv x=some y)(h:au η Z x v):au η Z y.w v:=by
 unfold PV.conv at e
 split at e;cases e;have h:v=.slice none 0 0:=h.nil_eq;subst h;exact PV.eV.2 (by simp only[dF];exact⟨none,0,0,rfl,rfl,Nat.le_refl _,.inl trivial⟩);cases e;have h:v=.slice none 0 0:=h.nil_eq;subst h;exact PV.eV.2 (by simp only[dF];exact⟨none,0,0,rfl,by simp,Nat.le_refl _,.inl trivial⟩);rw[<-PV.of_eq e];exact h
theorem AU{η:Eta}{Z:ar}{z0:List PV}:∀{l:List W}{zs ys:List PV}{vs:List Value},mz z0 zs l=some ys->aI (au η Z) l vs->aI (au η Z) (ys.map PV.w) vs/\ys.length=l.length
 | [],zs,ys,vs,e,h=>by
   simp only[mz] at e;cases e;cases vs with
   | nil=>exact⟨trivial,rfl⟩
   | cons _ _=>exact h.elim
 | x :: l, z :: zs, ys, vs, e, h => by
   simp only[mz] at e;split at e
   . rename_i y r hy hr;cases e;cases vs with
     | nil=>exact h.elim
     | cons v vs =>
       obtain⟨a,b⟩:=AU hr h.2;exact⟨⟨PV.D8 hy h.1,a⟩,by simp[b]⟩
   cases e
 | x :: l, [], ys, vs, e, h => by
   simp only[mz] at e;split at e;split at e
   . rename_i y r hy hr;cases e;cases vs with
     | nil=>exact h.elim
     | cons v vs =>
       obtain⟨a,b⟩:=AU hr h.2;exact⟨⟨PV.D8 hy h.1,a⟩,by simp[b]⟩
   cases e;cases e
def Xc(S : af)(zs : List PV)(sz : Nat)(y : W) : Option (Cd × List PV × Nat) :=
 match y with
 | .nil=>some (.t,[],0)
 | .rs sz' l=>bif Nat.beq sz' sz then some (.t,l,l.length/sz) else none
 | .sl m off len sz'=>bif Nat.beq sz' sz then match S.tG m with
  | some o=>match Fd.list .pv o.fs with
    | some l=>some (.p (off+len*sz<=List.length (α:=PV) l),(List.drop (α:=PV) off l).take (len*sz),len)
    | none=>match mz zs [] o.cells with
      | some ys=>bif Nat.beq off 0&&Nat.beq ys.length (len*sz) then some (.t,ys,len) else none
      | none=>none
  | none=>none
   else none
 | _=>none
def elK(P:Program)(el:TypeId):Option (D×Nat):=match tV P 4 el with
 | some d=>some (d,1)
 | none=>match P.underlying el,ig P el with
   | some (.struct _),some n=>if n=0 then none else some (.pv,n)
   | some (.array _ _),some n=>if n=0 then none else some (.pv,n)
   | _,_=>none
def KU(S : af)(x : W) : Option (Cd × List Int) :=
 match x with
 | .sl m off len sz=>bif Nat.beq sz 1 then match S.get m with
  | some o=>match Kw o.fs with
    | some l=>some (.p (off+len<=l.length),(l.drop off).take len)
    | none=>none
  | none=>none
   else none
 | _=>none
def D.same:(d:D)->W->Option d.ty
 | .int k,.int k' n=>if k'=k then some n else none
 | .bool,.bool b=>some b
 | .str,.str s=>some s
 | _,_=>none
theorem D.same_w{d:D}{x:W}{y:d.ty}(e:d.same x=some y):d.w y=x:=by
 cases d<;>cases x<;>simp only[D.same] at e<;>try cases e
 rename_i k k' n;split at e;rename_i hk;subst hk;cases e;rfl;cases e;rfl;rfl
def Cx(d:D):Nat->List W->Option (List d.ty×List W)
 | 0,l=>some ([],l)
 | n+1,x::l=>match d.same x,Cx d n l with|some y,some (ys,r)=>some (y::ys,r)|_,_=>none
 | _+1,[]=>none
theorem KV{d:D}:∀{n:Nat}{l r:List W}{ys:List d.ty},Cx d n l=some (ys,r)->l=ys.map d.w++r
 | 0,l,r,ys,e=>by simp only[Cx] at e;cases e;rfl
 | n+1,[],r,ys,e=>by simp only[Cx] at e;cases e
 | n + 1, x :: l, r, ys, e => by
   simp only[Cx] at e;split at e;rename_i y ys' r' h1 h2;cases e;rw[KV h2,List.map_cons,D.same_w h1];rfl;cases e
def oX:List Fd->List W->Option (List Fd)
 | [],[]=>some []
 | .c _::fs,x::l=>match oX fs l with|some r=>some (.c x::r)|none=>none
 | .a n d _::fs,l=>match Cx d n l with
   | some (ys,r)=>(match oX fs r with|some q=>some (.a n d ys::q)|none=>none)
   | none=>none
 | _,_=>none
theorem yS:∀{fs:List Fd}{l:List W}{r:List Fd},oX fs l=some r->r.flatMap Fd.cells=l
 | [],[],r,e=>by simp only[oX] at e;cases e;rfl
 | [],_::_,r,e=>by simp only[oX] at e;cases e
 | .c _::fs,[],r,e=>by simp only[oX] at e;cases e
 | .c _::fs,x::l,r,e=>by
   simp only[oX] at e;split at e;rename_i q h;cases e;rw[List.flatMap_cons,yS h];rfl;cases e
 | .a n d _::fs,l,r,e=>by
   simp only[oX] at e;split at e;rename_i ys q h;split at e;rename_i q' h';cases e;rw[List.flatMap_cons,yS h',KV h];rfl;cases e;cases e
def KW(fs:Option (List Fd))(l:List W):List Fd :=
 match fs with
 | some fs=>(match oX fs l with|some r=>r|none=>l.map .c)
 | none=>l.map .c
theorem KX{fs:Option (List Fd)}{l:List W}:(KW fs l).flatMap Fd.cells=l:=by
 unfold KW;split;split;rename_i h;exact yS h;exact xC l;exact xC l
def Xd:List W->Bool
 | [.dN,.nil]=>true
 | _=>false
theorem isNN_eq{l:List W}(h:Xd l=true):l=[.dN,.nil]:=by
 unfold Xd at h;split at h;rfl;cases h
def D.lU:(d:D)->d.ty->d.ty->Bool
 | .int _,a,b=>decide ((show Int from a)=b)
 | .str,a,b=>decide ((show ByteArray from a)=b)
 | _,_,_=>false
def D.isKey:D->Bool
 | .int _=>true
 | .str=>true
 | _=>false
theorem D.Iy{d:D}(h:d.isKey=true){a b:d.ty}:d.lU a b=true↔a=b:=by
 cases d<;>simp only[D.isKey] at h<;>first|(cases h;done)|(simp only[D.lU];exact decide_eq_true_iff)
def bJ(kd vd:D)(k:kd.ty)(v:vd.ty):List (kd.ty×vd.ty)->List (kd.ty×vd.ty)
 | []=>[(k,v)]
 | (k',v')::l=>bif kd.lU k k' then(k,v)::l else(k',v')::bJ kd vd k v l
def nX(kd vd:D)(k:kd.ty):List (kd.ty×vd.ty)->Option vd.ty
 | []=>none
 | (k',v')::l=>bif kd.lU k k' then some v' else nX kd vd k l
def dH(kd vd:D)(l:List (kd.ty×vd.ty))(k:kd.ty):vd.ty:=match nX kd vd k l with|some v=>v|none=>vd.zero
def QN(kd vd:D)(l:List (kd.ty×vd.ty))(k:kd.ty):Bool:=(nX kd vd k l).isSome
inductive L where
 | ZP (ty:TypeId) (kd vd:D)
 | bJ (kd vd:D) (m k v:bO)
 | dH (kd vd:D) (m k:bO) (ok:Bool)
 | TB (ty:TypeId)
 | QO (kd:D) (m k v:bO)
 | ZQ (kd:D) (m k:bO)
 | alloc (ty:TypeId) (fs:List Fd)
 | TF (ty el:TypeId)
 | boxB (ty el:TypeId) (x:bO)
 | ustr (el:TypeId) (x n:bO)
 | nil (el:TypeId) (d:D) (sz:Nat)
 | box (ty:TypeId) (fs:Option (List Fd)) (x:bO)
 | store (n:Nat) (x v:bO)
 | make (el:TypeId) (bytes:Nat) (d:D) (l c:bO)
 | lit (el:TypeId) (sz:Nat) (d:Option D) (h:Bool) (zs:List PV) (parts:List bO)
 | append (el:TypeId) (bytes:Nat) (d:D) (x y:bO)
 | Ox (el:TypeId) (bytes sz:Nat) (zs:List PV) (x y:bO)
 | zeros (el:TypeId) (bytes:Nat) (d:D) (x y:bO)
 | TG (el:TypeId) (bytes sz:Nat) (zs:List PV) (x y:bO)
 | copy (d:D) (x y:bO)
 | clear (d:D) (x:bO)
 | b2s (x:bO)
 | mki (t:TypeId) (x:bO)
 | tas (t:TypeId) (z:V) (x:bO)
 | pS (x v:bO)
 | s2b (el:TypeId) (x:bO)
 | mlen (kd vd:D) (x:bO)
def JV(sz:Nat):List V->Bool
 | []=>true
 | v::l=>Nat.beq v.cells.length sz&&JV sz l
def spl{α:Type}(l:List α)(off:Nat)(ys:List α):List α:=l.take off++ys++l.drop (off+ys.length)
def KY(d:Option D)(h:Bool)(vs:List V):Option (List Fd):=match d,vs with
 | some d,[.c (.sl m off len sz)]=>bif h&&Nat.beq sz 1 then some [.a 1 d [],.c (.sl m off len sz),.a 1 d []] else none
 | _,_=>none
theorem KZ{d:Option D}{h:Bool}{vs:List V}{fs:List Fd}(e:KY d h vs=some fs):fs.flatMap Fd.cells=vs.flatMap V.cells:=by
 unfold KY at e;split at e;obtain⟨_,e⟩:=ah.ay e;cases e;rfl;cases e
def Fd.one:List Fd->Option W
 | [.a _ _ l,.c x,.a _ _ l']=>match l,l' with
   | [],[]=>some x
   | _,_=>none
 | _=>none
theorem Fd.Iz{fs:List Fd}{x:W}(e:Fd.one fs=some x):fs.flatMap Fd.cells=[x]:=by
 unfold Fd.one at e;split at e;split at e;cases e;rfl;cases e;cases e
def rowOf(S:af)(d:D):W->Option (Nat×Nat×List Int×Nat)
 | .sl q off len sz => match d, S.tG q with
   | .sl (.int .i64),some o=>match Fd.one o.fs with
     | some (.sl m off' k sz')=>bif Nat.beq off 0&&Nat.beq len 1&&Nat.beq sz 1&&Nat.beq sz' 1 then match S.get m with
      | some om=>match Fd.list (.int .i64) om.fs with
        | some l=>(match off' with|0=>some (m,k,(l:List Int),List.length (α:=Int) l)|j+1=>some (m,k,List.drop (α:=Int) (j+1) l,List.length (α:=Int) l))
        | none=>none
      | none=>none
       else none
     | _=>none
   | _,_=>none
 | _=>none
theorem QS{S : af}{d : D}{y : W}{m k n0 : Nat}{l : List Int}(e : rowOf S d y = some (m, k, l, n0)) : ∃(q : Nat)(o om : Ob)(ro : Nat)(l0 : List Int), y = .sl q 0 1 1 ∧ S.get q = some o ∧ ¬o.gF ∧ o.cells = [.sl m ro k 1] ∧ S.get m = some om ∧ om.cells = l0.map (W.int .i64) ∧ l = l0.drop ro ∧ n0 = l0.length := by
 unfold rowOf at e;split at e;rename_i q off len sz;split at e;rename_i o ho;obtain⟨ho,hmo⟩:=kK ho;split at e;rename_i m' off' k' sz' h1;obtain⟨hb,e⟩:=ah.ay e;simp only[Bool.and_eq_true] at hb;obtain⟨⟨⟨b1,b2⟩,b3⟩,b5⟩:=hb;have b1:=Nat.eq_of_beq_eq_true b1;have b2:=Nat.eq_of_beq_eq_true b2;have b3:=Nat.eq_of_beq_eq_true b3;have b5:=Nat.eq_of_beq_eq_true b5;subst b1;subst b2;subst b3;subst b5;split at e;rename_i om TH;split at e
 . rename_i l' hl;cases off' with
   | zero =>
     cases e;exact⟨q,o,om,0,_,rfl,ho,hmo,Fd.Iz h1,TH,Fd.iE hl,rfl,rfl⟩
   | succ j =>
     cases e;exact⟨q,o,om,j+1,l',rfl,ho,hmo,Fd.Iz h1,TH,Fd.iE hl,rfl,rfl⟩
 cases e;cases e;cases e;cases e;cases e
def Xe(zs:List PV)(vs:List V):Option (List PV):=match zs with
 | []=>none
 | z::zs=>mz (z::zs) [] (vs.flatMap V.cells)
noncomputable def litV(S:af)(d:Option D)(h:Bool)(vs:List V):Option (Cd×List Fd×af) :=
 match KY d h vs with
 | some fs=>some (.t,fs,S)
 | none=>match d with
 | some d=>match Gy S d vs with
   | some (c,ys,S1)=>some (c,[.a 0 d ys],S1)
   | none=>some (.t,(vs.flatMap V.cells).map .c,S)
 | none=>some (.t,(vs.flatMap V.cells).map .c,S)
def Fd.nb:Fd->Bool
 | .c (.int .u8 _)=>false
 | .c (.nC _)=>false
 | .c _=>true
 | _=>false
def TI(fs:List Fd):Bool:=fs.any Fd.nb||(match fs with | [.a _ d _]=>!d.qW|_=>false)
theorem nbF_ok{o:Ob}(h:TI o.fs=true)(h0:o.cells≠[]):¬o.bytes:=by
 intro hB;unfold TI at h;rw[Bool.or_eq_true] at h;rcases h with h|h
 . obtain⟨f,hf,hn⟩:=List.any_eq_true.1 h;cases f with
   | c x =>
     obtain⟨n,e⟩:=hB x (by unfold Ob.cells;exact List.mem_flatMap.2 ⟨_,hf,by simp[Fd.cells]⟩);subst e;cases hn
   | a _ _ _=>cases hn
   | m _ _ _=>cases hn
   | b _=>cases hn
 split at h
 . rename_i k d l hfs;have bK:o.cells=l.map d.w:=by unfold Ob.cells;rw[hfs];simp[Fd.cells]
   cases l with
   | nil=>exact h0 (by rw[bK];rfl)
   | cons x l =>
     obtain⟨n,e⟩:=hB (d.w x) (by rw[bK];simp);exact D.EV (by simpa using h) x n e
 cases h
theorem nbF_wb{o:Ob}(h:TI o.fs=true):¬o.wb:=by
 unfold TI at h;rw[Bool.or_eq_true] at h;rcases h with h|h
 . obtain⟨f,hf,hn⟩:=List.any_eq_true.1 h;cases f with
   | c x =>
     refine Ob.uH (x:=x) (by unfold Ob.cells;exact List.mem_flatMap.2 ⟨_,hf,by simp[Fd.cells]⟩) fun n e=>?_;subst e;cases hn
   | a _ _ _=>cases hn
   | m _ _ _=>cases hn
   | b _=>cases hn
 split at h;rename_i k d l hfs;exact Ob.qu (d:=d) (l:=l) (by unfold Ob.cells;rw[hfs];simp[Fd.cells]);cases h
theorem xL{o:Ob}{d:D}{l:List d.ty}(bK:o.cells=l.map d.w)(h:d.qW=false):¬o.bytes∨o.cells=[]:=by
 cases l with
 | nil=>right;rw[bK];rfl
 | cons x l =>
   left;intro hB;obtain⟨n,e⟩:=hB (d.w x) (by rw[bK];simp);exact D.EV h x n e
noncomputable def opn(S:af)(m i:Nat)(y:W):Option (Cd×af):=match S.tG m with
 | some o=>match o.fs with
   | [.a k d l]=>bif Nat.beq k 1&&!d.qW then some (.p (i<l.length),S.put m ⟨o.ty,[.a 1 d (l.take i),.c y,.a 1 d (l.drop (i+1))]⟩) else none
   | _=>none
 | none=>none
noncomputable def again(S:af)(m i:Nat)(y:W):Option (Cd×af):=match S.tG m with
 | some o=>match Fd.hole o.fs with
   | some ⟨d,l,.sl k _ _ _,l'⟩=>match S.get k with
     | none=>some (.p (i=l.length),S.put m ⟨o.ty,[.a 1 d l,.c y,.a 1 d l']⟩)
     | some _=>none
   | _=>none
 | none=>none
noncomputable def Xf(S:af)(m i:Nat)(y:W):Option (Cd×af):=match y with
 | .sl _ _ _ _ => match opn S m i y with
   | some r=>some r
   | none=>match again S m i y with
     | some r=>some r
     | none=>match shut S m with
       | some (c,S1)=>match opn S1 m i y with
         | some (c',S')=>some (.and c c',S')
         | none=>none
       | none=>none
 | _=>none
def D.isSl:D->Bool
 | .sl _=>true
 | _=>false
def Ob.rX(kd vd:D)(o:Ob):Option (List (kd.ty×vd.ty)):=match o.fs with
 | [.m ZR vd' l]=>if h:ZR=kd/\vd'=vd then some (h.1▸h.2▸l) else none
 | _=>none
theorem Ob.ents_fs{kd vd:D}{o:Ob}{l:List (kd.ty×vd.ty)}(h:o.rX kd vd=some l):o.fs=[.m kd vd l]:=by
 unfold Ob.rX at h;split at h;rename_i ZR vd' l' hfs;split at h;rename_i hd;obtain⟨rfl,rfl⟩:=hd;cases h;exact hfs;cases h;cases h
def qX(kd:D):List Fd->Option (List (kd.ty×W))
 | []=>some []
 | .c k::.c v::r=>match kd.of k,qX kd r with
   | some x,some l=>bif v.aK then some ((x,v)::l) else none
   | _,_=>none
 | _=>none
def xM(kd:D):List Fd->Option (List (kd.ty×W))
 | .c .mh::r=>qX kd r
 | _=>none
def AV(kd:D)(k:kd.ty):List (kd.ty×W)->Option W
 | []=>none
 | (k',v)::l=>bif kd.lU k k' then some v else AV kd k l
def W.vQ:W->Option Value
 | .bool b=>some (.bool b)
 | .int k n=>some (.int k n)
 | .str s=>some (.string s)
 | .lT=>some .nilIface
 | .val v=>some v
 | _=>none
def EW:List W->Option (List Value)
 | []=>some []
 | x::l=>match x.vQ,EW l with|some u,some r=>some (u::r)|_,_=>none
def V.vQ:V->Option Value
 | .c x=>x.vQ
 | .agg cs=>match EW cs with|some us=>some (.agg us.toArray)|none=>none
theorem W.vR{η:Eta}{Z:ar}{x:W}{u v:Value}(e:x.vQ=some u)(h:au η Z x v):v=u:=by
 cases x<;>simp only[W.vQ] at e<;>first
  | (cases e;done)
  | (cases e;simp only[au,aF] at h;exact h)
  | (cases e;simp only[au,aF] at h;exact h.1)
theorem EY{η:Eta}{Z:ar}:∀{cs:List W}{us vs:List Value},EW cs=some us->aI (au η Z) cs vs->vs=us
 | [],us,vs,e,h=>by
   cases e;cases vs with
   | nil=>rfl
   | cons _ _=>exact h.elim
 | x :: l, us, vs, e, h => by
   simp only[EW] at e;split at e
   . rename_i u r hu hr;cases e;cases vs with
     | nil=>exact h.elim
     | cons v vs=>rw[W.vR hu h.1,EY hr h.2]
   cases e
theorem V.vR{η:Eta}{Z:ar}{x:V}{u v:Value}(e:x.vQ=some u)(h:cZ η Z x v):v=u:=by
 cases x with
 | c x=>exact W.vR e h.2
 | agg cs =>
   simp only[V.vQ] at e;split at e;rename_i us AK;cases e;obtain⟨ws,hw,_,hl⟩:=h;rw[hw,EY AK hl];cases e
noncomputable def QT(F:Fr)(S:af)(el:TypeId)(bytes:Nat)(d:D)(x:bO)(y:W):Option (Cd×A×af) :=
 match D7 S d y with
  | some (q,ys)=>match fP F x with
    | some (r,.nil)=>some (.and q (.and r (.p (ys.length*bytes<=140737488355328))),.p (.c (.sl S.next 0 ys.length 1)),S.add ⟨el,[.a 0 d ys]⟩)
    | some (r,.sl n off len sz)=>bif Nat.beq sz 1 then match S.get n with
     | some o=>bif Nat.beq o.ty el then match Fd.list d o.fs with
      | some l=>some (.and q (.and r (bif d.qW then .p (off=0/\len=l.length/\(len+ys.length)*bytes<=140737488355328) else .p (off+len<=l.length/\(len+ys.length)*bytes<=140737488355328))),.p (.c (.sl S.next 0 (len+ys.length) 1)),(S.del n).add ⟨el,[.a 0 d ((l.drop off).take len++ys)]⟩)
      | none=>none
       else none
     | none=>none
      else none
    | _=>none
  | none=>none
noncomputable def appR(F:Fr)(S:af)(el:TypeId)(bytes:Nat)(d:D)(x:bO)(y:W):Option (Cd×A×af):=match y with
 | .sl q _ _ _=>match shut S q with
   | some (c,S1)=>match QT F S1 el bytes d x y with
     | some (c2,v,S2)=>some (.and c c2,v,S2)
     | none=>none
   | none=>none
 | _=>none
noncomputable def kx(F:Fr)(S:af):L->Option (Cd×A×af)
 | .mki t x=>match ou F x with
   | some (c,v)=>match v.vQ with
     | some u=>some (c,.p (.c (.val (.iface t u))),S)
     | none=>none
   | none=>none
 | .tas t z x=>match fP F x with
   | some (c,.lT)=>some (c,.bG [z,.c (.bool false)],S)
   | some (c,.val (.iface t' v))=>bif Nat.beq t' t then(match Oj v with|some y=>some (c,.bG [y,.c (.bool true)],S)|none=>none) else some (c,.bG [z,.c (.bool false)],S)
   | _=>none
 | .pS x v=>match fP F x,ou F v with
   | some (p,.ptr _ _),some (q,.agg [])=>some (.and p q,.bG [],S)
   | _,_=>none
 | .s2b el x=>match AB F x with
   | some (c,s)=>bif Nat.blt S.next 2 then some (c,.p (.c (.rd (.int .u8) (ku s))),S) else some (.and c (.p (0<s.size)),.p (.c (.sl S.next 0 s.size 1)),S.add ⟨el,[.b (ku s)]⟩)
   | none=>none
 | .mlen kd vd x=>match fP F x with
   | some (p,.mp n)=>match S.get n with
     | some o=>match o.rX kd vd with
       | some l=>some (p,.p (.c (.int .i64 (l.length:Nat))),S)
       | none=>none
     | none=>none
   | _=>none
 | .TB ty=>some (.t,.p (.c (.mp S.next)),S.add ⟨ty,[.c .mh]⟩)
 | .QO kd m k v => match fP F m, fP F k, fP F v with
   | some (p,.mp n),some (q,x),some (r,y)=>match kd.of x,S.get n with
     | some k,some o=>match xM kd o.fs with
       | some l=>match AV kd k l with
         | none=>bif y.aK then some (.and p (.and q r),.bG [],S.put n ⟨o.ty,o.fs++[.c (kd.w k),.c y]⟩) else none
         | some _=>none
       | none=>none
     | _,_=>none
   | _,_,_=>none
 | .ZQ kd m k => match fP F m, fP F k with
   | some (p,.mp n),some (q,x)=>match kd.of x,S.get n with
     | some k,some o=>match xM kd o.fs with
       | some l=>match AV kd k l with
         | some v=>some (.and p q,.p (.c v),S)
         | none=>none
       | none=>none
     | _,_=>none
   | _,_=>none
 | .ZP ty kd vd=>some (.t,.p (.c (.mp S.next)),S.add ⟨ty,[.m kd vd []]⟩)
 | .bJ kd vd m k v => match fP F m, fP F k, fP F v with
   | some (p,.mp n),some (q,x),some (r,y)=>match kd.of x,Iv S vd y with
     | some k,some (c,z,S1)=>match S1.get n with
       | some o=>match o.rX kd vd with
         | some l=>some (.and p (.and q (.and r c)),.bG [],S1.put n ⟨o.ty,[.m kd vd (aN.bJ kd vd k z l)]⟩)
         | none=>none
       | none=>none
     | _,_=>none
   | _,_,_=>none
 | .dH kd vd m k ok => match fP F m, fP F k with
   | some (p,.mp n),some (q,x)=>match kd.of x,S.get n with
     | some k,some o=>match o.rX kd vd with
       | some l=>bif ok
         then some (.and p q,.bG [.c (vd.w (aN.dH kd vd l k)),.c (.bool (QN kd vd l k))],S)
         else some (.and p q,.p (.c (vd.w (aN.dH kd vd l k))),S)
       | none=>none
     | _,_=>none
   | _,_=>none
 | .alloc ty fs=>some (.t,.p (.c (.ptr S.next 0)),S.add ⟨ty,fs⟩)
 | .TF ty el=>some (.t,.p (.c (.ptr S.next 0)),(S.add ⟨ty,[.c (.ba S.next),.c (.sl (S.next+1) 0 0 1)]⟩).add ⟨el,[.a 0 (.int .u8) []]⟩)
 | .boxB ty el x=>match ou F x with
   | some (p,v)=>bif Xd v.cells then some (p,.p (.c (.ptr S.next 0)),(S.add ⟨ty,[.c (.ba S.next),.c (.sl (S.next+1) 0 0 1)]⟩).add ⟨el,[.a 0 (.int .u8) []]⟩) else none
   | none=>none
 | .ustr el x n=>match fP F x,kL F n with
   | some (p,.pe m off i),some (q,_,k)=>match S.get m with
     | some o=>bif Nat.beq off 0&&Nat.beq o.ty el then match Fd.list (.int .u8) o.fs with
      | some l=>some (.and p (.and q (.p (0<k/\i+k<=l.length/\k<=9223372036854775807))),.p (.c (.str (sF ((l.drop i).take k.toNat)))),S)
      | none=>none
       else none
     | none=>none
   | _,_=>none
 | .nil el d sz=>some (.t,.p (.c (.sl S.next 0 0 sz)),S.add ⟨el,[.a 0 d []]⟩)
 | .box ty fs x=>match ou F x with
   | some (p,v)=>some (p,.p (.c (.ptr S.next 0)),S.add ⟨ty,KW fs v.cells⟩)
   | none=>none
 | .store n x v => match fP F x, ou F v with
   | some (p,.ptr m off),some (q,v)=>bif Nat.beq v.cells.length n then match S.tG m with
    | some o=>bif TI o.fs then(match EU o.fs off v.cells with
      | some (c,fs')=>some (.and p (.and q c),.bG [],S.put m ⟨o.ty,fs'⟩)
      | none=>none) else none
    | none=>none
     else none
   | some (p,.qP m i j),some (q,.c (.int .i64 y))=>bif Nat.beq n 1 then match vM S m with
     | some (k,av)=>match S.get m with
       | some o=>some (.and p (.and q (.p (i<av.length/\j<k))),.bG [],S.put m ⟨o.ty,[.c (.th k (av.set i ((av.getD i []).set j y)))]⟩)
       | none=>none
     | none=>none
     else none
   | some (p, .pe m off i), some (q, .c y) => bif Nat.beq n 1 then match (bif Nat.beq off 0 then Xf S m i y else none) with
     | some (c,S1)=>some (.and p (.and q c),.bG [],S1)
     | none=>match S.tG m with
       | some o=>match Kw o.fs with
        | some l=>match y with
          | .int .u8 z=>bif Nat.beq off 0 then some (.and p (.and q (.p (i<l.length))),.bG [],S.put m ⟨o.ty,[.b (l.set i z)]⟩) else none
          | _=>none
        | none=>match jD o.fs off with
         | some (c,.a k d l)=>bif d.qW then none else match Iv S d y with
           | some (c2,z,S1)=>match S1.get m,qV o.fs off (.a k d (l.set i z)) with
             | some _,some fs'=>some (.and p (.and q (.and c (.and c2 (.p (i<l.length))))),.bG [],S1.put m ⟨o.ty,fs'⟩)
             | _,_=>none
           | none=>none
         | _=>none
       | none=>none
     else none
   | _,_=>none
 | .make el bytes d l c=>match kL F l,kL F c with
   | some (p,_,l),some (q,_,c)=>bif d.isSl
     then some (.and p (.and q (.p (0<=l/\l<=c/\(bytes:Int)*c<=140737488355328))),.p (.c (.sl S.next 0 l.toNat 1)),S.add ⟨el,[.a 1 d (List.replicate c.toNat d.zero)]⟩)
     else some (.and p (.and q (.p (0<=l/\l<=c/\(bytes:Int)*c<=140737488355328))),.p (.c (.sl S.next 0 l.toNat 1)),S.add ⟨el,[.a 0 d (List.replicate c.toNat d.zero)]⟩)
   | _,_=>none
 | .lit el sz d h zs parts=>match nP F parts with
   | some (p,vs)=>bif JV sz vs then(match Xe zs vs with
     | some ys=>some (p,.p (.c (.rs sz ys)),S.skip)
     | none=>match litV S d h vs with
       | some (c,fs,S1)=>some (.and p c,.p (.c (.sl S1.next 0 parts.length sz)),S1.add ⟨el,fs⟩)
       | none=>none)
     else none
   | none=>none
 | .TG el bytes sz zs x y=>match fP F x,kL F y with
   | some (p,.nil),some (q,_,n)=>some (.and p (.and q (.p (0<n/\(bytes:Int)*n<=140737488355328))),.p (.c (.sl S.next 0 n.toNat sz)),S.add ⟨el,[.a 0 .pv (sP zs sz (n.toNat*sz))]⟩)
   | _,_=>none
 | .zeros el bytes d x y=>match fP F x,kL F y with
   | some (p,.nil),some (q,_,n)=>some (.and p (.and q (.p (0<n/\(bytes:Int)*n<=140737488355328))),.p (.c (.sl S.next 0 n.toNat 1)),S.add ⟨el,[.a 0 d (List.replicate n.toNat d.zero)]⟩)
   | _,_=>none
 | .append el bytes d x y=>match fP F y with
   | some (p, y) => match rowOf S d y with
    | some (m,k,l,n0)=>match fP F x with
      | some (r,.nil)=>some (.and p (.and r (.p (l.length=k/\(0<k∨0<n0)/\bytes<=140737488355328))),.p (.c (.sl S.next 0 1 1)),(S.del m).add ⟨el,[.c (.th k [l])]⟩)
      | some (r,.sl n off len sz)=>match vM S n with
        | some (k',av)=>bif Nat.beq sz 1&&!(Nat.beq n m) then(match S.get n with
         | some o=>bif Nat.beq o.ty el then some (.and p (.and r (.p (off=0/\len=av.length/\k'=k/\l.length=k/\(0<k∨0<n0)/\(av.length+1)*bytes<=140737488355328))),.p (.c (.sl S.next 0 (av.length+1) 1)),((S.del n).del m).add ⟨el,[.c (.th k (av++[l]))]⟩) else none
         | none=>none) else none
        | none=>match appR F S el bytes d x y with
          | some (c,v,S1)=>some (.and p c,v,S1)
          | none=>none
      | _=>none
    | none=>match QT F S el bytes d x y with
     | some (c,v,S1)=>some (.and p c,v,S1)
     | none=>none
   | none=>none
 | .Ox el bytes sz zs x y => match fP F y with
   | some (p, y) => match Xc S zs sz y with
     | some (q,ys,k)=>match fP F x with
       | some (r,.nil)=>some (.and p (.and q (.and r (.p (k*bytes<=140737488355328)))),.p (.c (.sl S.next 0 k sz)),S.add ⟨el,[.a 0 .pv ys]⟩)
       | some (r,.sl n off len sz')=>bif Nat.beq sz' sz then match S.get n with
        | some o=>bif Nat.beq o.ty el then match Fd.list .pv o.fs with
         | some l=>some (.and p (.and q (.and r (.p (off+len*sz<=List.length (α:=PV) l/\(len+k)*bytes<=140737488355328)))),.p (.c (.sl S.next 0 (len+k) sz)),(S.del n).add ⟨el,[.a 0 .pv ((List.drop (α:=PV) off l).take (len*sz)++ys)]⟩)
         | none=>none
          else none
        | none=>none
         else none
       | _=>none
     | none=>none
   | none=>none
 | .copy d x y => match fP F y with
   | some (p, y) => match D7 S d y with
     | some (q,ys)=>match fP F x with
       | some (r,.sl n off len sz)=>bif Nat.beq sz 1&&!d.qW then match S.get n with
        | some o=>match Fd.list d o.fs with
          | some l=>some (.and p (.and q (.and r (.p (off+len<=l.length)))),.p (.c (.int .i64 ((Nat.min ys.length len:Nat):Int))),S.put n ⟨o.ty,[.a 0 d (spl l off (ys.take len))]⟩)
          | none=>none
        | none=>none
         else none
       | _=>none
     | none=>none
   | none=>none
 | .clear d x=>match fP F x with
   | some (p,.sl n off len sz)=>bif Nat.beq sz 1&&!d.qW then match S.get n with
    | some o=>match Fd.list d o.fs with
      | some l=>some (.and p (.p (off+len<=l.length)),.bG [],S.put n ⟨o.ty,[.a 0 d (spl l off (List.replicate len d.zero))]⟩)
      | none=>none
    | none=>none
     else none
   | _=>none
 | .b2s x=>match fP F x with
   | some (p,y)=>match y with
     | .str _=>none
     | y => match KU S y with
       | some (q,l)=>some (.and p q,.p (.c (.str (sF l))),S)
       | none=>match D7 S (.int .u8) y with
         | some (q,l)=>some (.and p q,.p (.c (.str (sF l))),S)
         | none=>none
   | none=>none
def qY:TypeDesc->D->Bool
 | .int k,.int k'=>decide (k=k')
 | .string,.str=>true
 | _,_=>false
def wS(P:Program)(t:TypeId):Option (D×D):=match P.underlying t with
 | some (.map kt et)=>match P.underlying kt,tV P 4 kt,P.info? et,tV P 4 et with
   | some td,some kd,some i,some vd=>match i.zero with
     | some z=>if qY td kd=true/\AP (vd.w vd.zero) z=true then some (kd,vd) else none
     | none=>none
   | _,_,_,_=>none
 | _=>none
def tJ(P:Program)(t:TypeId):Option D:=match P.underlying t with
 | some (.map kt _)=>match P.underlying kt,tV P 4 kt with
   | some td,some kd=>if qY td kd=true then some kd else none
   | _,_=>none
 | _=>none
def JW(P:Program)(t:TypeId):Option TypeId:=match P.underlying t with
 | some (.struct ⟨[f,g]⟩)=>match P.underlying f.type,P.underlying g.type,P.info? t with
   | some (.pointer t'),some (.slice el),some i=>match P.underlying el,i.zero with
     | some (.int .u8),some z=>if t'=t/\KS [.dN,.nil] z.cells.toList=true then some el else none
     | _,_=>none
   | _,_,_=>none
 | _=>none
def unnamed(P:Program)(t:TypeId):Bool:=match P.info? t with
 | some { desc:=.slice _,.. }=>true
 | _=>false
def K0(P : Program)(o : Oper) : Option L :=
 match o.op with
 | .makeMap t none=>match wS P t with|some (kd,vd)=>some (.ZP t kd vd)|none=>match tJ P t with|some _=>some (.TB t)|none=>none
 | .mapUpdate t m k v=>match wS P t,bV m,bV k,bV v with|some (kd,vd),some m,some k,some v=>some (.bJ kd vd m k v)|none,some m,some k,some v=>(match tJ P t with|some kd=>some (.QO kd m k v)|none=>none)|_,_,_,_=>none
 | .insert t m k v=>match wS P t,bV m,bV k,bV v with|some (kd,vd),some m,some k,some v=>some (.bJ kd vd m k v)|none,some m,some k,some v=>(match tJ P t with|some kd=>some (.QO kd m k v)|none=>none)|_,_,_,_=>none
 | .lookup t m k ok=>match wS P t,bV m,bV k with|some (kd,vd),some m,some k=>some (.dH kd vd m k ok)|none,some m,some k=>(bif ok then none else match tJ P t with|some kd=>some (.ZQ kd m k)|none=>none)|_,_,_=>none
 | .assign (.const (.slice none 0 0))=>match P.underlying o.type with
   | some (.slice el)=>match elK P el with|some (d,n)=>some (.nil el d n)|none=>none
   | _=>none
 | .move (.const (.slice none 0 0))=>match P.underlying o.type with
   | some (.slice el)=>match elK P el with|some (d,n)=>some (.nil el d n)|none=>none
   | _=>none
 | .alloc t=>match JW P t with
   | some el=>some (.TF t el)
   | none=>match ZN P 8 t,P.info? t with
     | some fs,some i=>match i.zero with
       | some z=>if KS (fs.flatMap Fd.cells) z.cells.toList then some (.alloc t fs) else none
       | none=>none
     | _,_=>none
 | .call { callee:=.builtin .unsafeString,args:=⟨[x,y]⟩,argTypes:=⟨[pt,_]⟩ }=>match P.underlying pt,bV x,bV y with
   | some (.pointer el),some x,some y=>if P.cellsOf el=1 then some (.ustr el x y) else none
   | _,_,_=>none
 | .box t x=>match bV x with|some x=>(match JW P t with|some el=>some (.boxB t el x)|none=>some (.box t (ZN P 8 t) x))|none=>none
 | .store t x v=>match ig P t,bV x,bV v with|some n,some x,some v=>if n=0 then some (.pS x v) else some (.store n x v)|_,_,_=>none
 | .makeInterface t x=>match P.underlying t,bV x with
   | some (.interface _),_=>none
   | some _,some x=>some (.mki t x)
   | _,_=>none
 | .typeAssert x _ t true=>match P.underlying t,P.info? t,bV x with
   | some (.interface _),_,_=>none
   | some _,some i,some x=>(match i.zero with
     | some z=>(match Oj z with|some z=>some (.tas t z x)|none=>none)
     | none=>none)
   | _,_,_=>none
 | .makeSlice t l c=>match P.underlying t,bV l,bV c with
   | some (.slice el),some l,some c=>match P.info? el,tV P 4 el with
     | some i,some d=>match i.zero with
       | some z=>if i.size=1/\1<=i.bytes/\AP (d.w d.zero) z=true then some (.make el i.bytes d l c) else none
       | none=>none
     | _,_=>none
   | _,_,_=>none
 | .buildSlice t len parts=>match P.underlying t with
   | some (.slice el)=>match ig P el,EQ 0 parts.toList,kr P el with
     | some n,some ps,some z=>if n≠0/\ps.length=len/\len*n<=16777216/\z.length=n then some (.lit el n (if n=1 then tV P 4 el else none) (unnamed P el) (match tV P 4 el with|none=>shapes P el|some _=>[]) ps) else none
     | _,_,_=>none
   | _=>none
 | .call { callee := .builtin .append, args := ⟨[x, y]⟩, argTypes := ⟨[t, ts]⟩ } => match P.underlying t, bV x, bV y with
   | some (.slice el),some x,some y=>match P.info? el,kr P el,tV P 4 el with
     | some i,some z,some d=>match P.underlying ts with
       | some (.slice _)=>if i.size=1/\z.length=1/\1<=i.bytes then some (.append el i.bytes d x y) else none
       | some .string=>if i.size=1/\z.length=1/\1<=i.bytes then some (.append el i.bytes d x y) else none
       | some (.int _)=>match i.zero with
         | some zv=>if i.size=1/\1<=i.bytes/\AP (d.w d.zero) zv=true then some (.zeros el i.bytes d x y) else none
         | none=>none
       | _=>none
     | some i,some z,none=>match P.underlying ts with
       | some (.slice _)=>if i.size≠0/\z.length=i.size/\1<=i.bytes then some (.Ox el i.bytes i.size (shapes P el) x y) else none
       | some (.int _)=>match i.zero with
         | some zv=>if 0<i.size/\1<=i.bytes/\zv.cells.size=i.size/\KS ((shapes P el).map PV.w) zv.cells.toList=true then some (.TG el i.bytes i.size (shapes P el) x y) else none
         | none=>none
       | _=>none
     | _,_,_=>none
   | _,_,_=>none
 | .call { callee:=.builtin .copy,args:=⟨[x,y]⟩,argTypes:=⟨[t,_]⟩ }=>match P.underlying t,bV x,bV y with
   | some (.slice el),some x,some y=>match ig P el,tV P 4 el with|some n,some d=>if n=1 then some (.copy d x y) else none|_,_=>none
   | _,_,_=>none
 | .call { callee:=.builtin .clear,args:=⟨[x]⟩,argTypes:=⟨[t]⟩ }=>match P.underlying t,bV x with
   | some (.slice el),some x=>match P.info? el,tV P 4 el with
     | some i,some d=>match i.zero with
       | some z=>if AP (d.w d.zero) z=true then some (.clear d x) else none
       | none=>none
     | _,_=>none
   | _,_=>none
 | .convert s d x=>match P.underlying s,P.underlying d,bV x with
   | some .string,some (.slice el),some x=>match P.underlying el with|some (.int .u8)=>some (.s2b el x)|_=>none
   | some (.slice el),some .string,some x=>match P.underlying el with|some (.int .u8)=>some (.b2s x)|_=>none
   | _,_,_=>none
 | .call { callee:=.builtin .len,args:=⟨[x]⟩,argTypes:=⟨[t]⟩ }=>match wS P t,bV x with
   | some (kd,vd),some x=>some (.mlen kd vd x)
   | _,_=>none
 | _=>none
section
variable {P:Program} {base n:Nat} {η:Eta} {Z:ar} {S:af} {w:World} {F:Fr} {a:Act}
theorem Xg(s:ByteArray):(ku s).map (D.int .u8).w=AO s.data.toList:=by
 simp[ku,AO,D.w]
theorem PV.AX{z y:PV}{x:W}(e:z.conv x=some y):¬x.special:=by
 unfold PV.conv at e
 split at e;simp[W.special];simp[W.special];rw[PV.of_eq e];exact D.AA .pv y
theorem AY{z0:List PV}:∀{l:List W}{zs ys:List PV},mz z0 zs l=some ys->ys.length=l.length/\(∀(i:Nat) y,ys[i]? = some y->∃ x z,l[i]? = some x/\PV.conv z x=some y)/\∀ x∈l,¬x.special
 | [],zs,ys,e=>by
   simp only[mz] at e;cases e;exact⟨rfl,by simp,by simp⟩
 | x :: l, z :: zs, ys, e => by
   simp only[mz] at e;split at e;rename_i y r hy hr;cases e;obtain⟨a,b,c⟩:=AY hr;refine⟨by simp[a],fun i y' hi=>?_,fun x' hx=>?_⟩
   . cases i with
     | zero=>simp at hi;subst hi;exact⟨x,z,rfl,hy⟩
     | succ i=>simpa using b i y' (by simpa using hi)
   rcases List.mem_cons.1 hx with rfl|hx;exact PV.AX hy;exact c _ hx;cases e
 | x :: l, [], ys, e => by
   simp only[mz] at e;split at e;rename_i z zs;split at e;rename_i y r hy hr;cases e;obtain⟨a,b,c⟩:=AY hr;refine⟨by simp[a],fun i y' hi=>?_,fun x' hx=>?_⟩
   . cases i with
     | zero=>simp at hi;subst hi;exact⟨x,z,rfl,hy⟩
     | succ i=>simpa using b i y' (by simpa using hi)
   rcases List.mem_cons.1 hx with rfl|hx;exact PV.AX hy;exact c _ hx;cases e;cases e
theorem TJ(R:St base η Z S w){t el:TypeId}{sz:Nat}{parts:Array (Nat×Operand)}{ps:List bO}{z:List W}(hu:P.underlying t=some (.slice el))(hs:ig P el=some sz)(hz:kr P el=some z)(hbig:ps.length*sz<=16777216)(hzl:z.length=sz)
 {vs:List V} {us:List Value} (h1:aI (cZ η Z) vs us) (h2:parts.toList.map (fun x=>(x.1,a.eval x.2))=(us.zipIdx 0).map (fun x=>(x.2,x.1))) (h3:us.length=ps.length) (hv:∀ v∈vs,v.cells.length=sz) {zs ys:List PV} (e:Xe zs vs=some ys) :
 bq P base η Z S w (do pure (Next.value (<-Instr.buildSlice t ps.length (parts.map fun(i,x)=>(i,a.eval x))))) (.p (.c (.rs sz ys))) S.skip:=by
 obtain⟨nx,u,w',aB,Z',ha,hb,mv,hr⟩:=D5 R hu hs hz hbig hzl h1 h2 h3 hv;unfold Xe at e;split at e;cases e;obtain⟨bE,hget,hsp⟩:=AY e;have bK:(vs.flatMap V.cells).length=ps.length*sz:=by
  have key:∀ l:List V,(∀ v∈l,v.cells.length=sz)->(l.flatMap V.cells).length=l.length*sz:=by
   intro l
   induction l with
   | nil=>simp
   | cons v l ih =>
     intro h;simp only[List.flatMap_cons,List.length_append,List.length_cons,ih (fun x hx=>h x (by simp[hx])),Nat.succ_mul];have:=h v (by simp);omega
  rw[key vs hv,h1.length,h3]
 have hal:((S.add (Ob.of el (vs.flatMap V.cells))).del S.next).Alike S.skip:=by
  refine⟨⟨rfl,rfl⟩,fun n=>?_⟩;rw[af.iN];show match (if n=S.next then none else(S.add (Ob.of el (vs.flatMap V.cells))).get n),S.get n with|none,none=>True|some o,some o'=>o'.ty=o.ty/\o'.cells=o.cells|_,_=>False
  by_cases hn:n=S.next
  subst hn;rw[if_pos rfl,R.fu];trivial;rw[if_neg hn,af.yM R,if_neg hn];cases S.get n with
  | none=>trivial
  | some o=>exact⟨rfl,rfl⟩
 obtain⟨_,hr⟩:=hr;rcases hr with ⟨h0,rfl⟩|⟨p,c,ad,hp,rfl,hcap,hroom,had⟩;have hy:ys=[]:=List.eq_nil_of_length_eq_zero (by rw[bE,bK,h0];simp);subst hy;exact⟨nx,_,w',aB,Z',ha,hb,(mv.trans ⟨Eta.le.refl _,mv.st.del _,Step.del _⟩).alike hal,(by intro h;cases h),KF⟩
 . have ho:(S.add (Ob.of el (vs.flatMap V.cells))).get S.next=some (Ob.of el (vs.flatMap V.cells)):=by rw[af.yM R,if_pos rfl]
   obtain⟨cs,ty,fz,hh,ij,hv2⟩:=mv.st.freeze ho hp (Ob.rV fun x hx=>hsp x (by simpa using hx));refine⟨nx,_,w',aB,_,ha,hb,(mv.trans ij).alike hal,(by intro h;cases h),?_⟩;simp only[au,aF,dF];refine⟨some ad,ps.length,c,rfl,by rw[bE,bK],hcap,?_⟩;by_cases h0:ys=[];exact .inl h0;refine .inr ⟨p.block,p.off,cs,?_,?_,?_⟩;have hy:0<ys.length:=List.length_pos_iff.2 h0;rcases had with h|h;rw[bE,bK] at hy;have h0:ps.length=0:=by omega
   rw[h0] at hy;simp at hy;rw[h];simp;unfold ar.add;rw[if_pos rfl];rw[jF.iff];intro i y hy;obtain⟨x,z',hx,hcv⟩:=hget i y hy;obtain⟨u,g1,g2⟩:=hv2 i x (by simpa using hx);exact⟨u,g1,dF.mono (ar.le.refl _) (PV.eV.1 (PV.D8 hcv (g2.mono (Eta.le.refl _) ij.step.cN)))⟩
theorem bq.run{s s':Sem Next}{v:A}{S':af}(h:s.run P w=s'.run P w)(g:bq P base η Z S w s' v S'):bq P base η Z S w s v S':=by
 unfold bq at g ⊢;rw[h];exact g
theorem Src.map{u:Value}{sz:Nat}{cs cs':List W}(h:Src P η Z w u sz cs)(k:∀ vs,aI (au η Z) cs vs->aI (au η Z) cs' vs):Src P η Z w u sz cs':=by
 obtain⟨m,vs,h1,h2,h3,h4,h5,h6⟩:=h;have:=(k vs h3).length;exact⟨m,vs,by omega,h2,k vs h3,h4,h5,h6⟩
theorem src_rs(R:St base η Z S w){sz:Nat}(hsz:sz≠0){l:List PV}{u:Value}(h:au η Z (.rs sz l) u):Src P η Z w u sz (l.map PV.w)/\l.length=l.length/sz*sz:=by
 obtain⟨ad,len,cap,hev,bE,hcap,hcs⟩:=h.rs;refine⟨?_,by rw[bE,Nat.mul_div_cancel _ (by omega)]⟩;rw[hev];rcases hcs with rfl|⟨b,off,cells,rfl,hz,hf⟩;have hl0:len=0:=by
  rcases Nat.mul_eq_zero.1 bE.symm with h|h;exact h;exact absurd h hsz
 subst hl0;exact qx _;obtain⟨vs,h1,h2,h3,h4⟩:=yN (η:=η) (o:=off) (off:=0) hf;obtain⟨ty,fz,hc⟩:=R.zs b cells hz;exact KN h1 (by omega) h3 (fun j v hv=>by simp[World.cell?,hc];simpa using h4 j v hv)
theorem K1(R : St base η Z S w){zs : List PV}{sz : Nat}(hsz : sz ≠ 0){x : W}{c : Cd}{ys : List PV}{k : Nat}(e : Xc S zs sz x = some (c, ys, k))(hc : c){u : Value}(h : au η Z x u) : Src P η Z w u sz (ys.map PV.w) ∧ ys.length = k * sz := by
 unfold Xc at e;split at e;cases e;rw[h.nil_eq];exact⟨qx _,by simp⟩;rename_i sz' l;obtain⟨hs,e⟩:=ah.ay e;have hs:=Nat.eq_of_beq_eq_true hs;subst hs;cases e;exact src_rs R hsz h;rename_i m off len sz';obtain⟨hs,e⟩:=ah.ay e;have hs:=Nat.eq_of_beq_eq_true hs;subst hs;split at e;rename_i o ho;obtain⟨ho,hmo⟩:=kK ho;split at e;rename_i l hl;cases e;have bK:o.cells=l.map (D.w .pv):=Fd.iE hl;have hc:off+k*sz'<=List.length (α:=PV) l:=hc;have s:=xK (P:=P) R (sz:=sz') h ho hmo (by rw[bK,List.length_map];exact hc);rw[bK,<-List.map_drop,<-List.map_take] at s;exact⟨s,by rw[List.length_take,List.length_drop];omega⟩
 · split at e
   rename_i ys0 hp;obtain⟨hb,e2⟩:=ah.ay e;clear e;simp only[Bool.and_eq_true] at hb;have h1:=Nat.eq_of_beq_eq_true hb.1;have h2:=Nat.eq_of_beq_eq_true hb.2;subst h1;cases e2;have hl : ys.length = o.cells.length := by
    have : ∀{l : List W}{zs' ys : List PV}, mz zs zs' l = some ys → ys.length = l.length := by
     intro l
     induction l with
     | nil=>intro zs' ys e;simp only[mz] at e;cases e;rfl
     | cons x l ih =>
       intro zs' ys e;cases zs' with
       | cons z zs' =>
         simp only[mz] at e;split at e;rename_i hr;cases e;simp[ih hr];cases e
       | nil =>
         simp only[mz] at e;split at e;split at e;rename_i hr;cases e;simp[ih hr];cases e;cases e
    exact this hp
   have s:=xK (P:=P) R (sz:=sz') h ho hmo (by omega);rw[List.drop_zero,List.take_of_length_le (by omega)] at s;exact⟨s.map fun vs hv=>(AU hp hv).1,h2⟩;cases e
 cases e;cases e
theorem yU(R:St base η Z S w){d:D}{x:W}{c:Cd}{ys:List d.ty}(e:D7 S d x=some (c,ys))(hc:c){u:Value}(h:au η Z x u):Src P η Z w u 1 (ys.map d.w):=by
 unfold D7 at e;split at e;cases e;rw[h.nil_eq];exact qx _;rename_i d' l;split at e;rename_i hd;subst hd;cases e;exact src_rd R h;cases e;rename_i m off len sz;obtain⟨hs,e1⟩:=ah.ay e;have hs1:=oW hs;subst hs1;split at e1;rename_i o ho;split at e1;rename_i l hl;cases e1;have bK:o.cells=l.map d.w:=Fd.iE hl;have:=xK (P:=P) R h ho (Ob.fY bK) (by rw[bK];simp;exact hc);rw[bK,Nat.mul_one,<-List.map_drop,<-List.map_take] at this;exact this;cases e1;cases e1;rename_i s;have:u=.string s:=by simpa only[au,aF] using h
 subst this;unfold strD at e;split at e;cases e;have h1:=src_str (P:=P) (η:=η) (Z:=Z) (w:=w) (s:=s);rw[<-Xg] at h1;exact h1;cases e;cases e
theorem src_by{u:Value}:∀{l:List Int},Src P η Z w u 1 (l.map W.nC)->Src P η Z w u 1 (l.map (D.int .u8).w):=by
 intro l ⟨m,vs,h1,h2,h3,h4⟩;refine⟨m,vs,by simpa using h1,h2,?_,h4⟩;clear h1 h2 h4
 induction l generalizing vs with
 | nil=>exact h3
 | cons x l ih =>
   cases vs with
   | nil=>exact h3.elim
   | cons v vs=>exact⟨by have h:v=.int .u8 x:=h3.1;simp[D.w,au,aF,h],ih vs h3.2⟩
theorem QU(R:St base η Z S w){x:W}{c:Cd}{ys:List Int}(e:KU S x=some (c,ys))(hc:c){u:Value}(h:au η Z x u):Src P η Z w u 1 (ys.map (D.int .u8).w)/\(∃ ad len cap,u=.slice ad len cap)/\∀ len cap,u=.slice none len cap->ys=[]:=by
 unfold KU at e;split at e;rename_i m off len sz;obtain⟨hs,e1⟩:=ah.ay e;have hs1:=oW hs;subst hs1;split at e1;rename_i o ho;split at e1;rename_i l hl;cases e1;have bK:o.cells=l.map W.nC:=by unfold Ob.cells;rw[Gt hl];simp[Fd.cells]
 have hm:¬o.gF:=Ob.rV fun x hx=>by rw[bK,List.mem_map] at hx;obtain⟨y,_,rfl⟩:=hx;exact id
 refine⟨src_by ?_,?_⟩;have:=xK (P:=P) R h ho hm (by rw[bK];simp;exact hc);rw[bK,Nat.mul_one,<-List.map_drop,<-List.map_take] at this;exact this;rcases h with ⟨h0,rfl⟩|⟨p,cap,ad,hp,rfl,_⟩;subst h0;exact⟨⟨none,0,0,rfl⟩,fun _ _ _=>by simp⟩;exact⟨⟨some ad,len,cap,rfl⟩,fun _ _ hh=>by cases hh⟩;cases e1;cases e1;cases e
theorem QV{x:W}{c:Cd}{ys:List Int}(hx:∀ s,x≠.str s)(e:D7 S (.int .u8) x=some (c,ys)){u:Value}(h:au η Z x u):(∃ ad len cap,u=.slice ad len cap)/\∀ len cap,u=.slice none len cap->ys=[]:=by
 unfold D7 at e;split at e;cases e;rw[h.nil_eq];exact⟨⟨none,0,0,rfl⟩,fun _ _ _=>rfl⟩;rename_i d' l;split at e;rename_i hd;subst hd;cases e;obtain⟨ad,len,cap,rfl,hl,hcap,hcs⟩:=h.rd;refine⟨⟨ad,len,cap,rfl⟩,fun len' cap' hh=>?_⟩;cases hh;rcases hcs with hcs|⟨b,off,cells,hh,_⟩;exact hcs;cases hh;cases e;rename_i m off len sz;obtain⟨hs,e1⟩:=ah.ay e;split at e1;rename_i o ho;split at e1;rename_i l hl;cases e1;rcases h with ⟨h0,rfl⟩|⟨p,cap,ad,hp,rfl,_⟩;subst h0;exact⟨⟨none,0,0,rfl⟩,fun _ _ _=>by simp⟩;exact⟨⟨some ad,len,cap,rfl⟩,fun _ _ hh=>by cases hh⟩;cases e1;cases e1;rename_i s;exact absurd rfl (hx s);cases e
theorem IB:∀{vs:List V}{us:List Value}{S S':af}{Z:ar}{d:D}{c:Cd}{ys:List d.ty},St base η Z S w->Gy S d vs=some (c,ys,S')->c->aI (cZ η Z) vs us->
 ∃ Z',bL base η Z S w η Z' S' w/\aI (cZ η Z') (ys.map fun y=>V.c (d.w y)) us
 | [],[],S,S',Z,d,c,ys,R,e,_,_=>by
   simp only[Gy] at e;cases e;exact⟨Z,bL.refl R,trivial⟩
 | .c x::vs,u::us,S,S',Z,d,c,ys,R,e,hc,⟨h1,h2⟩=>by
   simp only[Gy] at e;split at e;rename_i c1 y S1 hf;split at e;rename_i c2 ys' S2 hfs;cases e;obtain⟨Z1,m1,r1,_⟩:=p9 R hf hc.1 h1.2;obtain⟨Z2,m2,r2⟩:=IB m1.st hfs hc.2 (h2.mono fun _ _=>cZ.mono (Eta.le.refl _) m1.step.cN);exact⟨Z2,m1.trans m2,⟨D.jG _ _,(D.eV d).2 (cG.mono m2.step.cN d r1)⟩,r2⟩;cases e;cases e
 | .agg _::_,_::_,_,_,_,_,_,_,_,e,_,_=>by simp only[Gy] at e;cases e
theorem flat_w{d:D}(ys:List d.ty):(ys.map fun y=>V.c (d.w y)).flatMap V.cells=ys.map d.w:=by
 induction ys with
 | nil=>rfl
 | cons y ys ih=>simp[V.cells,ih]
theorem AZ{sz:Nat}:∀{vs:List V},JV sz vs=true->∀ v∈vs,v.cells.length=sz
 | [],_=>by simp
 | v::vs,h=>by
   simp only[JV,Bool.and_eq_true] at h;intro x hx;rcases List.mem_cons.1 hx with rfl|hx;exact Nat.eq_of_beq_eq_true h.1;exact AZ h.2 x hx
theorem gi(ty:TypeId){d:D}(k:Nat)(l:List d.ty):(Ob.mk ty [.a k d l]).cells=l.map d.w:=by
 unfold Ob.cells;simp[Fd.cells]
theorem IE{d:D}{l ys:List d.ty}{off:Nat}(h:off+ys.length<=l.length):(spl l off ys).map d.w=kB (l.map d.w) off (ys.map d.w):=by
 apply List.ext_getElem?;intro i;rw[D4 (by simpa using h)];unfold spl;simp only[List.getElem?_map,List.length_map];have h1:(l.take off).length=off:=by simp;omega
 by_cases hi:i<off;rw[if_neg (by omega),List.append_assoc,List.getElem?_append_left (by omega),List.getElem?_take,if_pos hi];by_cases hi2:i<off+ys.length;rw[if_pos (by omega),List.append_assoc,List.getElem?_append_right (by omega),h1,List.getElem?_append_left (by omega)];rw[if_neg (by omega),List.getElem?_append_right (by simp;omega),List.getElem?_drop];congr 2;simp;omega
theorem K2(R:St base η Z S w){t:TypeId}(hk:ig P t=some 1){m i:Nat}{y:W}{c:Cd}{S':af}(e:opn S m i y=some (c,S'))(hc:c){vx vy:Value}(hx:au η Z (.ptr m i) vx)(hy:cZ η Z (.c y) vy) :
 bq P base η Z S w (do Instr.storeAt t vx vy;pure Next.skip) (.bG []) S':=by
 unfold opn at e;split at e;rename_i o ho;obtain⟨ho,hmo⟩:=kK ho;split at e;rename_i k d l hfs;obtain⟨hb1,e⟩:=ah.ay e;cases e;simp only[Bool.and_eq_true,Bool.not_eq_true'] at hb1;have hc:i<l.length:=hc;have bK:o.cells=l.map d.w:=by unfold Ob.cells;rw[hfs];simp[Fd.cells]
 have hnb:¬o.bytes:=(xL bK hb1.2).resolve_right fun h0=>by
  rw[bK,List.map_eq_nil_iff] at h0;rw[h0] at hc;exact absurd hc (Nat.not_lt_zero _)
 refine(ug R hk ho hmo hnb (Ob.qu bK) (v:=.c y) hx hy rfl (by rw[bK];simp;omega)).alike (af.qv rfl ?_);rw[Ob.ez];show List.flatMap Fd.cells [.a 1 d (l.take i),.c y,.a 1 d (l.drop (i+1))]=(o.cells).set i y;rw[bK];simp only[List.flatMap_cons,List.flatMap_nil,Fd.cells,List.append_nil,List.map_take,List.map_drop];rw[List.set_eq_take_append_cons_drop,if_pos (by simpa using hc)];rfl;cases e;cases e
theorem QW(R : St base η Z S w){t : TypeId}(hk : ig P t = some 1){m i : Nat}{y : W}{c : Cd}{S' : af}(e : again S m i y = some (c, S'))(hc : c){vx vy : Value}(hx : au η Z (.ptr m i) vx)(hy : cZ η Z (.c y) vy) :
 bq P base η Z S w (do Instr.storeAt t vx vy;pure Next.skip) (.bG []) S':=by
 unfold again at e;split at e;rename_i o ho;obtain⟨ho,hmo⟩:=kK ho;split at e;rename_i d l k off len sz l' hh;split at e;cases e;have hc:i=l.length:=hc;subst hc;obtain⟨k1,k2,hfs⟩:=Fd.Ow hh;have bK:o.cells=l.map d.w++W.sl k off len sz::l'.map d.w:=by unfold Ob.cells;rw[hfs];simp[Fd.cells]
 have hnb:¬o.bytes:=fun hB=>by
  obtain⟨n,e⟩:=hB (W.sl k off len sz) (by rw[bK];simp);cases e
 refine(ug R hk ho hmo hnb (Ob.uH (x:=W.sl k off len sz) (by rw[bK];simp) (by intro n h;cases h)) (v:=.c y) hx hy rfl (by rw[bK];simp)).alike (af.qv rfl ?_);rw[Ob.ez];show List.flatMap Fd.cells [.a 1 d l,.c y,.a 1 d l']=(o.cells).set l.length y;rw[bK,List.set_append_right _ _ (by simp)];simp[Fd.cells];cases e;cases e;cases e
theorem TK(R : St base η Z S w){t : TypeId}(hk : ig P t = some 1){m i : Nat}{y : W}{c : Cd}{S' : af}(e : Xf S m i y = some (c, S'))(hc : c){vx vy : Value}(hx : au η Z (.ptr m i) vx)(hy : cZ η Z (.c y) vy) :
 bq P base η Z S w (do Instr.storeAt t vx vy;pure Next.skip) (.bG []) S':=by
 unfold Xf at e;split at e
 · split at e
   rename_i r hr;cases e;exact K2 R hk hr hc hx hy
   · split at e
     rename_i r hr;cases e;exact QW R hk hr hc hx hy;split at e;rename_i c1 S1 hs;split at e;rename_i c2 S2 hr;cases e;obtain⟨Z1,mv,_⟩:=Gx R hs hc.1;exact bq.before mv (K2 mv.st hk hr hc.2 (hx.mono (Eta.le.refl _) mv.step.cN) (hy.mono (Eta.le.refl _) mv.step.cN));cases e;cases e
 cases e
def kN(Z:ar)(kd vd:D):List (kd.ty×vd.ty)->List MapEntry->Prop
 | [],[]=>True
 | (k,v)::l,e::es=>cG Z kd k e.key/\cG Z vd v e.val/\kN Z kd vd l es
 | _,_=>False
theorem wT{kd vd:D}:∀{l:List (kd.ty×vd.ty)}{es:List MapEntry},eW η Z (pH kd vd l) es↔kN Z kd vd l es
 | [],[]=>by simp[pH,eW,kN]
 | [],_::_=>by simp[pH,eW,kN]
 | (_,_)::_,[]=>by simp[pH,eW,kN]
 | (k,v)::l,e::es=>by
   simp only[pH,eW,kN,D.eV,wT (l:=l)];exact⟨fun⟨⟨_,a⟩,⟨_,b⟩,c⟩=>⟨a,b,c⟩,fun⟨a,b,c⟩=>⟨⟨D.jG _ _,a⟩,⟨D.jG _ _,b⟩,c⟩⟩
theorem bytes_beq{a b:ByteArray}:(a==b)=true↔a=b:=by
 rw[<-ah.WO];constructor;intro h;have:=Array.toList_inj.1 (ah.Au h);exact ByteArray.ext this;intro h;rw[h];exact ah.wM _
theorem wU{td:TypeDesc}{kd:D}(h:qY td kd=true){k k':kd.ty}{u u':Value}(hu:cG Z kd k u)(hu':cG Z kd k' u'):Instr.sameNow td u u'=some (kd.lU k k')/\(kd.lU k k'=true->∀ n,Instr.sameBits n u' u=true):=by
 unfold qY at h;split at h;rename_i a b;have hab:=of_decide_eq_true h;subst hab;simp only[cG] at hu hu';subst hu;subst hu';refine⟨by simp[Instr.sameNow,D.lU];rfl,fun hk n=>?_⟩;have:=of_decide_eq_true hk;cases n<;>simp[Instr.sameBits]<;>exact this.symm;simp only[cG] at hu hu';subst hu;subst hu';refine⟨by simp only[Instr.sameNow,D.lU];exact congrArg some (Bool.eq_iff_iff.2 (bytes_beq.trans decide_eq_true_iff.symm)),fun hk n=>?_⟩;have h1:(show ByteArray from k)=k':=of_decide_eq_true hk;have h2:((show ByteArray from k')==k)=true:=bytes_beq.2 h1.symm;cases n<;>simp only[Instr.sameBits]<;>exact h2;cases h
theorem Dn{td:TypeDesc}{kd vd:D}(h:qY td kd=true){k:kd.ty}{u:Value}(hu:cG Z kd k u):∀{l:List (kd.ty×vd.ty)}{es:List MapEntry}(i:Nat),kN Z kd vd l es->
 (nX kd vd k l=none->Instr.findNow td u es i=some none)/\(∀ v,nX kd vd k l=some v->∃ j v',Instr.findNow td u es i=some (some (j,v'))/\cG Z vd v v')
 | [],[],i,_=>⟨fun _=>rfl,fun v e=>by cases e⟩
 | (k',v')::l,e::es,i,⟨h1,h2,h3⟩=>by
   obtain⟨s1,_⟩:=wU h hu h1;simp only[nX,Instr.findNow,s1];cases hb:kd.lU k k' with
   | true=>exact⟨fun e=>(by cases e),fun v hv=>(by cases hv;exact⟨i,_,rfl,h2⟩)⟩
   | false=>exact Dn h hu (i+1) h3
 | [],_::_,_,h=>h.elim
 | _::_,[],_,h=>h.elim
theorem Dp{td:TypeDesc}{kd vd:D}(h:qY td kd=true){k:kd.ty}{u:Value}(hu:cG Z kd k u){v:vd.ty}{y:Value}(hv:cG Z vd v y):∀{l:List (kd.ty×vd.ty)}{es:List MapEntry}(i:Nat),kN Z kd vd l es->
 (Instr.findNow td u es i=some none/\∀ c,kN Z kd vd (bJ kd vd k v l) (es++[{ key:=u,val:=y,born:=c }]))∨
 (∃ j v' e,i<=j/\Instr.findNow td u es i=some (some (j,v'))/\es[j-i]? = some e/\(∀ n,Instr.sameBits n e.key u=true)/\kN Z kd vd (bJ kd vd k v l) (es.set (j-i) { e with key:=u,val:=y }))
 | [],[],i,_=>.inl ⟨rfl,fun c=>⟨hu,hv,trivial⟩⟩
 | (k',v')::l,e::es,i,⟨h1,h2,h3⟩=>by
   obtain⟨s1,s2⟩:=wU h hu h1;simp only[bJ,Instr.findNow,s1];cases hb:kd.lU k k' with
   | true =>
     refine .inr ⟨i,e.val,e,Nat.le_refl _,rfl,by simp,s2 hb,?_⟩;simp only[Nat.sub_self,List.set_cons_zero,cond_true];exact⟨hu,hv,h3⟩
   | false =>
     rcases Dp h hu hv (i+1) h3 with ⟨a,b⟩|⟨j,v2,e2,a,b,c,d,f⟩;exact .inl ⟨a,fun c=>⟨h1,h2,b c⟩⟩;have hj:j-i=(j-(i+1))+1:=by omega
     refine .inr ⟨j,v2,e2,by omega,b,?_,d,?_⟩;rw[hj,List.getElem?_cons_succ];exact c;rw[hj,List.set_cons_succ];exact⟨h1,h2,f⟩
 | [],_::_,_,h=>h.elim
 | _::_,[],_,h=>h.elim
theorem A4{t:TypeId}{kd vd:D}(h:wS P t=some (kd,vd)):∃ kt et td z,P.underlying t=some (.map kt et)/\P.underlying kt=some td/\qY td kd=true/\ah.plainKey td=true/\(∀ w,(zeroValue et).run P w=.ok z w)/\AP (vd.w vd.zero) z=true:=by
 unfold wS at h;split at h;rename_i kt et hu;split at h;rename_i td ZR i vd' h1 h2 h3 h4;split at h;rename_i z hz;obtain⟨⟨h5,h6⟩,h⟩:=dA h;cases h;refine⟨kt,et,td,z,hu,h1,h5,?_,fun w=>?_,h6⟩;unfold qY at h5;split at h5;rfl;rfl;cases h5;simp[zeroValue,typeInfo,h3,hz];cases h;cases h;cases h
theorem St.rX(R:St base η Z S w){n:Nat}{o:Ob}{kd vd:D}{l:List (kd.ty×vd.ty)}(ho:S.get n=some o)(hl:o.rX kd vd=some l){u:Value}(hu:au η Z (.mp n) u) :
 ∃ p es clock,η n=some p/\u=.map (some p.block)/\base<=p.block/\Z p.block=none/\w.heap[p.block]? = some (.map es clock)/\kN Z kd vd l es.toList:=by
 obtain⟨p,hp,rfl⟩:=hu;obtain⟨h1,h2,L⟩:=R.ai n o p ho hp;have hfs:=Ob.ents_fs hl;have bK:o.cells=.mh::pH kd vd l:=by unfold Ob.cells;rw[hfs];simp[Fd.cells]
 obtain⟨es,k,h3,h4⟩:=L.maps (by unfold Ob.isMap;rw[bK];rfl);rw[bK] at h4;exact⟨p,es,k,hp,rfl,h1,h2,h3,wT.1 h4⟩
theorem QX(R:St base η Z S w){t:TypeId}(kd vd:D):bq P base η Z S w (do pure (Next.value (<-Instr.makeMap t none))) (.p (.c (.mp S.next))) (S.add ⟨t,[.m kd vd []]⟩):=by
 obtain⟨g,hn⟩:=R.Tb (w':={ w with heap:=w.heap.push (.map #[] 0) }) (Ob.mk t [.m kd vd []]) (by unfold Ob.cells;simp[Fd.cells,pH]) rfl rfl rfl rfl;exact bq.of (u:=.map (some w.heap.size)) (by simp[Instr.makeMap,newObj,Sem.run]) g.up ⟨by simp,_,hn,rfl⟩
theorem TL(R:St base η Z S w){t:TypeId}{kd vd:D}(hd:wS P t=some (kd,vd)){n:Nat}{o:Ob}{l:List (kd.ty×vd.ty)}(ho:S.get n=some o)(hl:o.rX kd vd=some l){u uk:Value}(hu:au η Z (.mp n) u){k:kd.ty}(hk:cG Z kd k uk)(ok:Bool) :
 bq P base η Z S w (do pure (Next.value (<-Instr.lookup t u uk ok))) (bif ok then .bG [.c (vd.w (dH kd vd l k)),.c (.bool (QN kd vd l k))] else .p (.c (vd.w (dH kd vd l k)))) S:=by
 obtain⟨kt,et,td,z,ht,hkt,hkey,hpk,hz,hz'⟩:=A4 hd;obtain⟨p,es,clock,hp,rfl,_,_,xO,hes⟩:=R.rX ho hl hu;have hg:(getObj p.block).run P w=.ok (.map es clock) w:=by simp[getObj,Sem.run,xO]
 obtain⟨f1,f2⟩:=Dn hkey hk 0 hes;obtain⟨zr,zl,z1,_⟩:=xJ (η:=η) (Z:=Z) hz';have key:∃ y b,(Instr.lookup t (.map (some p.block)) uk ok).run P w=.ok (if ok then .tuple #[y,.bool b] else y) w/\au η Z (vd.w (dH kd vd l k)) y/\QN kd vd l k=b:=by
  unfold dH QN;cases hm:nX kd vd k l with
  | none =>
    exact⟨z,false,by simp[Instr.lookup,run_underlying ht,ah.mB w hkt hpk,hg,ah.nK w hkt (f1 hm),hz],zr,rfl⟩
  | some v =>
    obtain⟨j,v',g1,g2⟩:=f2 v hm;exact⟨v',true,by simp[Instr.lookup,run_underlying ht,ah.mB w hkt hpk,hg,ah.nK w hkt g1],(D.eV vd).2 g2,rfl⟩
 obtain⟨y,b,hrun,hy,hb⟩:=key;refine bq.of hrun (bL.refl R) ?_;cases ok;exact⟨D.jG _ _,hy⟩;exact⟨[y,.bool b],rfl,⟨D.jG _ _,hy⟩,⟨by simp,by simp[au,aF,hb]⟩,trivial⟩
theorem K3{Z:ar}{kd vd:D}:∀{l:List (kd.ty×vd.ty)}{es:List MapEntry},kN Z kd vd l es->es.length=l.length
 | [],[],_=>rfl
 | _::l,_::es,⟨_,_,h⟩=>by rw[List.length_cons,List.length_cons,K3 h]
 | [],_::_,h=>h.elim
 | _::_,[],h=>h.elim
theorem TM(R:St base η Z S w){t ty:TypeId}{kd vd:D}(hd:wS P t=some (kd,vd)){n:Nat}{o:Ob}{l:List (kd.ty×vd.ty)}(ho:S.get n=some o)(hl:o.rX kd vd=some l){u:Value}(hu:au η Z (.mp n) u) :
 bq P base η Z S w (do pure (Next.value (<-Builtin.len_ #[t] ty #[u]))) (.p (.c (.int .i64 (l.length:Nat)))) S:=by
 obtain⟨kt,et,td,z,ht,hkt,hkey,hpk,hz,hz'⟩:=A4 hd;obtain⟨p,es,clock,hp,rfl,_,_,xO,hes⟩:=R.rX ho hl hu;have hg:(getObj p.block).run P w=.ok (.map es clock) w:=by simp[getObj,Sem.run,xO]
 have hsz:es.size=l.length:=by rw[<-Array.length_toList];exact K3 hes
 refine bq.of (u:=.int .i64 (l.length:Nat)) ?_ (bL.refl R) ⟨by simp,by simp[au,aF]⟩;simp[Builtin.len_,run_underlying ht,hg,hsz,goInt]
theorem IG(R:St base η Z S w){t:TypeId}{kd vd:D}(hd:wS P t=some (kd,vd)){n:Nat}{o:Ob}{l:List (kd.ty×vd.ty)}(ho:S.get n=some o)(hl:o.rX kd vd=some l){u uk uv:Value}(hu:au η Z (.mp n) u){k:kd.ty}(hk:cG Z kd k uk){v:vd.ty}(hv:cG Z vd v uv) :
 bq P base η Z S w (do Instr.mapUpdate t u uk uv;pure Next.skip) (.bG []) (S.put n ⟨o.ty,[.m kd vd (bJ kd vd k v l)]⟩):=by
 obtain⟨kt,et,td,z,ht,hkt,hkey,hpk,hz,hz'⟩:=A4 hd;obtain⟨p,es,clock,hp,rfl,hb,hZ,xO,hes⟩:=R.rX ho hl hu;have hg:(getObj p.block).run P w=.ok (.map es clock) w:=by simp[getObj,Sem.run,xO]
 have hset:∀ o,(setObj p.block o).run P w=.ok () (w.putObj p.block o):=fun o=>by simp[setObj,Sem.run,xO,World.putObj]
 have fin:∀(TN:Array MapEntry)(c:Nat),kN Z kd vd (bJ kd vd k v l) TN.toList->(Instr.mapUpdate t (.map (some p.block)) uk uv).run P w=.ok () (w.putObj p.block (.map TN c))->
  bq P base η Z S w (do Instr.mapUpdate t (.map (some p.block)) uk uv;pure Next.skip) (.bG []) (S.put n ⟨o.ty,[.m kd vd (bJ kd vd k v l)]⟩):=by
  intro TN c h2 hrun;have bK:(Ob.mk o.ty [.m kd vd (bJ kd vd k v l)]).cells=.mh::pH kd vd (bJ kd vd k v l):=by unfold Ob.cells;simp[Fd.cells]
  have hm:(Ob.mk o.ty [.m kd vd (bJ kd vd k v l)]).isMap:=by unfold Ob.isMap;rw[bK];rfl
  have g:=R.write (w':=w.putObj p.block (.map TN c)) ho hp (o':=Ob.mk o.ty [.m kd vd (bJ kd vd k v l)]) rfl rfl rfl (by simp[World.putObj]) (fun b hb=>by simp only[World.putObj];rw[Array.getElem?_setIfInBounds_ne (Ne.symm hb)])
   (fk.map hm ⟨TN,c,ah.wK (cM xO),by rw[bK];exact wT.2 h2⟩)
  exact bq.Oo hrun g.up
 rcases Dp hkey hk hv 0 hes with ⟨a,b⟩|⟨j,v2,e2,_,h1,h4,h5,f⟩;refine fin (es.push { key:=uk,val:=uv,born:=clock }) (clock+1) (by simpa using b clock) ?_;simp[Instr.mapUpdate,run_underlying ht,hg,ah.mB w hkt hpk,ah.nK w hkt a,hset]
 · rw[Nat.sub_zero] at h4 f
   have hj:j<es.size:=by have:=(List.getElem?_eq_some_iff.1 h4).1;simpa using this
   have hmod:es.modify j (fun e=>{ e with key:=uk,val:=uv })=(es.toList.set j { e2 with key:=uk,val:=uv }).toArray:=by
    apply Array.ext';rw[Array.toList_modify];apply List.ext_getElem?;intro i;rw[List.getElem?_modify,List.getElem?_set];by_cases hij:j=i;subst hij;simp only[if_pos,Array.length_toList,hj];rw[h4];rfl;simp[hij]
   have h4':es[j]? = some e2:=by rw[<-Array.getElem?_toList];exact h4
   refine fin (es.toList.set j { e2 with key:=uk,val:=uv }).toArray clock (by simpa using f) ?_;simp[Instr.mapUpdate,run_underlying ht,hg,ah.mB w hkt hpk,ah.nK w hkt h1,Instr.keyThatStays,h4',h5,hset,hmod]
set_option maxHeartbeats 1000000 in
theorem liesAt_bytes'{e:TypeId}(hc:P.cellsOf e=1)(count off n:Nat)(hn:off+n<=count):liesAt P P.depth e count off e n=true:=by
 have hd:P.depth=(2*(P.types.size+Made.depth)+1)+1:=rfl;rw[hd];simp only[liesAt,Bool.or_eq_true];left;rw[hd];simp[rowAt,hc,hn,sameLayout,Nat.mod_one]
theorem NQ(R : St base η Z S w){t el : TypeId}(h : JW P t = some el) :
 bq P base η Z S w (do pure (Next.value (<-Instr.alloc t true (.tuple #[])))) (.p (.c (.ptr S.next 0))) ((S.add ⟨t,[.c (.ba S.next),.c (.sl (S.next+1) 0 0 1)]⟩).add ⟨el,[.a 0 (.int .u8) []]⟩):=by
 obtain⟨i, z, hi, hz, hzs⟩ : ∃ i z, P.info? t = some i ∧ i.zero = some z ∧ KS [.dN, .nil] z.cells.toList = true := by
  unfold JW at h;split at h;split at h;rename_i hi;split at h;rename_i hz;obtain⟨⟨_,h2⟩,_⟩:=dA h;exact⟨_,_,hi,hz,h2⟩;cases h;cases h;cases h
 obtain⟨h1,h3⟩:=Cw (η:=η) (Z:=Z) hzs;have hz':(zeroValue t).run P w=.ok z w:=by simp[zeroValue,typeInfo,hi,hz]
 obtain⟨w',hr,g,hn⟩:=qw (P:=P) R t h1 h3;generalize η.add S.next ⟨w.heap.size,0,z.cells.size,[]⟩=eM at g hn
 have II:(S.add (Ob.of t [.dN,.nil])).get S.next=some (Ob.of t [.dN,.nil]):=by rw[af.fH R.fu,if_pos rfl]
 have m2:=g.st.ow (o:=⟨el,[.a 0 (.int .u8) []]⟩) (by rw[gi];rfl);have K4:((S.add (Ob.of t [.dN,.nil])).add ⟨el,[.a 0 (.int .u8) []]⟩).get S.next=some (Ob.of t [.dN,.nil]):=by
  rw[af.fH g.st.fu,if_neg (by show S.next≠S.next+1;omega)];exact II
 obtain⟨_,_,L⟩:=m2.st.ai _ _ _ K4 hn;have hm1:¬(Ob.of t [.dN,.nil]).gF:=by simp[Ob.gF,Ob.isMap,Ob.kQ]
 have hm2:¬(Ob.mk t [.c (.ba S.next),.c (.sl (S.next+1) 0 0 1)]).gF:=by simp[Ob.gF,Ob.isMap,Ob.kQ,Ob.cells,Fd.cells]
 obtain⟨c,fz,c1,c2,c3,c4⟩:=L.there hm1
 have g3:=m2.st.write (w':=w') K4 hn (o':=⟨t,[.c (.ba S.next),.c (.sl (S.next+1) 0 0 1)]⟩) rfl rfl rfl rfl (fun _ _=>rfl)
  (fk.plain hm2 ⟨c,fz,c1,c2,fun i x hx=>by
   have e:(Ob.mk t [.c (.ba S.next),.c (.sl (S.next+1) 0 0 1)]).cells=[.ba S.next,.sl (S.next+1) 0 0 1]:=rfl;rw[e] at hx
   match i,hx with
   | 0,hx =>
     cases hx;obtain⟨v,hv,hr,ho⟩:=c3 0 .dN (by simp);have:v=.pointer none:=by simpa only[au,aF] using hr
     exact⟨v,hv,⟨_,hn,rfl,.inl this⟩,ho⟩
   | 1,hx =>
     cases hx;obtain⟨v,hv,hr,ho⟩:=c3 1 .nil (by simp);have:v=.slice none 0 0:=by simpa only[au,aF] using hr
     exact⟨v,hv,.inl ⟨rfl,this⟩,ho⟩
   | i+2,hx=>simp at hx,c4.plain (fun hB=>by obtain⟨q,e⟩:=hB .dN (by simp);cases e) (Ob.uH (x:=.dN) (by simp) (by intro n h;cases h))⟩ (by
     have:=L.size hm1;rw[Ob.ez] at this;exact this))
 have gd:bq P base η Z S w (do pure (Next.value (<-Instr.alloc t true (.tuple #[])))) (.p (.c (.ptr S.next 0))) _:=bq.of (u:=.pointer (some ⟨w.heap.size,0,none⟩)) (by simp[Instr.alloc,hz',newVar,hr]) ((g.up.trans m2).trans g3.up) ⟨by simp,_,hn,by simp⟩;refine gd.alike ⟨⟨rfl,rfl⟩,fun n=>?_⟩;have hA:∀ k,((S.add ⟨t,[.c (.ba S.next),.c (.sl (S.next+1) 0 0 1)]⟩).add ⟨el,[.a 0 (.int .u8) []]⟩).get k=if k=S.next+1 then some ⟨el,[.a 0 (.int .u8) []]⟩ else if k=S.next then some ⟨t,[.c (.ba S.next),.c (.sl (S.next+1) 0 0 1)]⟩ else S.get k:=by
  intro k;have h0:(S.add ⟨t,[.c (.ba S.next),.c (.sl (S.next+1) 0 0 1)]⟩).get (S.next+1)=none:=by
   rw[af.fH R.fu,if_neg (by omega)];cases hk:S.get (S.next+1) with
   | none=>rfl
   | some o=>have:=R.known _ _ hk;omega
  rw[af.fH (S:=S.add _) h0];show (if k=S.next+1 then _ else _)=_;rw[af.fH R.fu]
 have hB:∀ k,(((S.add (Ob.of t [.dN,.nil])).add ⟨el,[.a 0 (.int .u8) []]⟩).put S.next ⟨t,[.c (.ba S.next),.c (.sl (S.next+1) 0 0 1)]⟩).get k=if k=S.next then some ⟨t,[.c (.ba S.next),.c (.sl (S.next+1) 0 0 1)]⟩ else if k=S.next+1 then some ⟨el,[.a 0 (.int .u8) []]⟩ else S.get k:=by
  intro k;rw[af.j3,K4,af.fH g.st.fu];by_cases h1:k=S.next
  rw[if_pos h1,if_pos h1];rfl
  . rw[if_neg h1,if_neg h1];by_cases h2:k=S.next+1
    rw[if_pos h2];exact if_pos h2;rw[if_neg h2,af.fH R.fu,if_neg h1];exact if_neg h2
 rw[hA,hB];by_cases h1:n=S.next
 subst h1;rw[if_pos rfl,if_neg (by omega),if_pos rfl];exact⟨rfl,rfl⟩
 . rw[if_neg h1];by_cases h2:n=S.next+1
   subst h2;rw[if_pos rfl,if_pos rfl];exact⟨rfl,rfl⟩;rw[if_neg h2,if_neg h2,if_neg h1];cases S.get n with
   | none=>trivial
   | some o=>exact⟨rfl,rfl⟩
theorem TP(R:St base η Z S w){t el:TypeId}{v:V}{u:Value}(h:cZ η Z v u)(hv:v.cells=[.dN,.nil]) :
 bq P base η Z S w (do pure (Next.value (<-Instr.box t u))) (.p (.c (.ptr S.next 0))) ((S.add ⟨t,[.c (.ba S.next),.c (.sl (S.next+1) 0 0 1)]⟩).add ⟨el,[.a 0 (.int .u8) []]⟩):=by
 obtain⟨h1,_,h3⟩:=h.cells;rw[hv] at h1;obtain⟨w',hr,g,hn⟩:=qw (P:=P) R t h1 h3;generalize η.add S.next ⟨w.heap.size,0,u.cells.size,[]⟩=eM at g hn
 have II:(S.add (Ob.of t [.dN,.nil])).get S.next=some (Ob.of t [.dN,.nil]):=by rw[af.fH R.fu,if_pos rfl]
 have m2:=g.st.ow (o:=⟨el,[.a 0 (.int .u8) []]⟩) (by rw[gi];rfl);have K4:((S.add (Ob.of t [.dN,.nil])).add ⟨el,[.a 0 (.int .u8) []]⟩).get S.next=some (Ob.of t [.dN,.nil]):=by
  rw[af.fH g.st.fu,if_neg (by show S.next≠S.next+1;omega)];exact II
 obtain⟨_,_,L⟩:=m2.st.ai _ _ _ K4 hn;have hm1:¬(Ob.of t [.dN,.nil]).gF:=by simp[Ob.gF,Ob.isMap,Ob.kQ]
 have hm2:¬(Ob.mk t [.c (.ba S.next),.c (.sl (S.next+1) 0 0 1)]).gF:=by simp[Ob.gF,Ob.isMap,Ob.kQ,Ob.cells,Fd.cells]
 obtain⟨c,fz,c1,c2,c3,c4⟩:=L.there hm1
 have g3:=m2.st.write (w':=w') K4 hn (o':=⟨t,[.c (.ba S.next),.c (.sl (S.next+1) 0 0 1)]⟩) rfl rfl rfl rfl (fun _ _=>rfl)
  (fk.plain hm2 ⟨c,fz,c1,c2,fun i x hx=>by
   have e:(Ob.mk t [.c (.ba S.next),.c (.sl (S.next+1) 0 0 1)]).cells=[.ba S.next,.sl (S.next+1) 0 0 1]:=rfl;rw[e] at hx
   match i,hx with
   | 0,hx =>
     cases hx;obtain⟨v,hv,hr,ho⟩:=c3 0 .dN (by simp);have:v=.pointer none:=by simpa only[au,aF] using hr
     exact⟨v,hv,⟨_,hn,rfl,.inl this⟩,ho⟩
   | 1,hx =>
     cases hx;obtain⟨v,hv,hr,ho⟩:=c3 1 .nil (by simp);have:v=.slice none 0 0:=by simpa only[au,aF] using hr
     exact⟨v,hv,.inl ⟨rfl,this⟩,ho⟩
   | i+2,hx=>simp at hx,c4.plain (fun hB=>by obtain⟨q,e⟩:=hB .dN (by simp);cases e) (Ob.uH (x:=.dN) (by simp) (by intro n h;cases h))⟩ (by
     have:=L.size hm1;rw[Ob.ez] at this;exact this))
 have gd:bq P base η Z S w (do pure (Next.value (<-Instr.box t u))) (.p (.c (.ptr S.next 0))) _:=bq.of (u:=.pointer (some ⟨w.heap.size,0,none⟩)) (by simp[Instr.box,newVar,hr]) ((g.up.trans m2).trans g3.up) ⟨by simp,_,hn,by simp⟩;refine gd.alike ⟨⟨rfl,rfl⟩,fun n=>?_⟩;have hA:∀ k,((S.add ⟨t,[.c (.ba S.next),.c (.sl (S.next+1) 0 0 1)]⟩).add ⟨el,[.a 0 (.int .u8) []]⟩).get k=if k=S.next+1 then some ⟨el,[.a 0 (.int .u8) []]⟩ else if k=S.next then some ⟨t,[.c (.ba S.next),.c (.sl (S.next+1) 0 0 1)]⟩ else S.get k:=by
  intro k;have h0:(S.add ⟨t,[.c (.ba S.next),.c (.sl (S.next+1) 0 0 1)]⟩).get (S.next+1)=none:=by
   rw[af.fH R.fu,if_neg (by omega)];cases hk:S.get (S.next+1) with
   | none=>rfl
   | some o=>have:=R.known _ _ hk;omega
  rw[af.fH (S:=S.add _) h0];show (if k=S.next+1 then _ else _)=_;rw[af.fH R.fu]
 have hB:∀ k,(((S.add (Ob.of t [.dN,.nil])).add ⟨el,[.a 0 (.int .u8) []]⟩).put S.next ⟨t,[.c (.ba S.next),.c (.sl (S.next+1) 0 0 1)]⟩).get k=if k=S.next then some ⟨t,[.c (.ba S.next),.c (.sl (S.next+1) 0 0 1)]⟩ else if k=S.next+1 then some ⟨el,[.a 0 (.int .u8) []]⟩ else S.get k:=by
  intro k;rw[af.j3,K4,af.fH g.st.fu];by_cases h1:k=S.next
  rw[if_pos h1,if_pos h1];rfl
  . rw[if_neg h1,if_neg h1];by_cases h2:k=S.next+1
    rw[if_pos h2];exact if_pos h2;rw[if_neg h2,af.fH R.fu,if_neg h1];exact if_neg h2
 rw[hA,hB];by_cases h1:n=S.next
 subst h1;rw[if_pos rfl,if_neg (by omega),if_pos rfl];exact⟨rfl,rfl⟩
 . rw[if_neg h1];by_cases h2:n=S.next+1
   subst h2;rw[if_pos rfl,if_pos rfl];exact⟨rfl,rfl⟩;rw[if_neg h2,if_neg h2,if_neg h1];cases S.get n with
   | none=>trivial
   | some o=>exact⟨rfl,rfl⟩
theorem TQ(R:St base η Z S w){pt it ty el:TypeId}(hp:P.underlying pt=some (.pointer el))(hc:P.cellsOf el=1){m i:Nat}{o:Ob}{l:List Int}(ho:S.get m=some o)(hty:o.ty=el)(hl:Fd.list (.int .u8) o.fs=some l)
 {u:Value} (hu:au η Z (.pe m 0 i) u) {kk:IntKind} {k:Nat} (h0:0<k) (hk:i+k<=l.length) (h63:k<=9223372036854775807) :
 bq P base η Z S w (do pure (Next.value (<-Builtin.unsafeString_ #[pt,it] ty #[u,.int kk k]))) (.p (.c (.str (sF ((l.drop i).take k))))) S:=by
 obtain⟨pl,hpl,rfl⟩:=hu;have bK:=Fd.iE hl;have hmo:¬o.gF:=Ob.fY (o:=o) bK;obtain⟨hb,hz,L⟩:=R.ai m o pl ho hpl;obtain⟨c,fz,c1,c2,c3,c4⟩:=L.there hmo;have hroom:=L.size hmo;have bE:o.cells.length=l.length:=by unfold Ob.cells;rw[bK];simp
 obtain⟨vs,v1,v2,v3,v4⟩:=R.reads ho hpl hmo (off:=i) (k:=k) (by omega);have hvs:vs=(((l.drop i).take k).map fun n=>Value.int .u8 n):=by
  have e:(o.cells.drop i).take k=((l.drop i).take k).map (D.int .u8).w:=by
   unfold Ob.cells;rw[bK];simp[List.map_drop,List.map_take]
  rw[e] at v1;exact D6 v1
 have yP : ∀(l : List Int)(a : Addr)(acc : ByteArray), (∀ j x, l[j]? = some x → w.cell? (a.add j) = some (.int .u8 x)) → (loadBytes a acc l.length).run P w = .ok (l.foldl (fun r n => r.push (UInt8.ofNat n.toNat)) acc) w := by
  intro l
  induction l with
  | nil=>intro a acc _;simp[loadBytes]
  | cons x l ih =>
    intro a acc h;have h0:w.cell? a=some (.int .u8 x):=by
     have:=h 0 x rfl;simpa[Addr.add] using this
    have ih:=ih (a.add 1) (acc.push (UInt8.ofNat x.toNat)) (fun j y hy=>by
     have:=h (j+1) y (by simpa using hy);have e:(a.add 1).add j=a.add (j+1):=by
      unfold Addr.add;by_cases hj:j=0;subst hj;simp;simp[hj];omega
     rw[e];exact this)
    simp only[List.length_cons,loadBytes,Sem.run_bind,run_load,h0,Result.andThen];exact ih
 have hkl:((l.drop i).take k).length=k:=by simp;omega
 have hrd:=yP ((l.drop i).take k) ⟨pl.block,pl.off+i,none⟩ .empty (fun j x hx=>by
  rw[Addr.add_lit];refine v4 j _ ?_;rw[hvs,List.getElem?_map,hx];rfl)
 rw[hkl,<-KQ] at hrd;have hsh:w.shape? pl.block=some (el,c.size):=by rw[<-hty];simp[World.shape?,c1]
 have hlies:=liesAt_bytes' (P:=P) hc (c.size/P.cellsOf el) (pl.off+i) k (by rw[hc,Nat.div_one];omega);have hrun:(Builtin.unsafeString_ #[pt,it] ty #[.pointer (some ⟨pl.block,pl.off+i,none⟩),.int kk k]).run P w=.ok (.string (sF ((l.drop i).take k))) (w.freeze ⟨pl.block,pl.off+i,none⟩ k):=by
  have hdef:Builtin.unsafeString_ #[pt,it] ty #[.pointer (some ⟨pl.block,pl.off+i,none⟩),.int kk k] =
   (do
    let n <-asInt (.int kk k)
    if n<0 then runtimePanic (.error "unsafe.String: len out of range")
    if n>IntKind.i64.max then unsupported (.unsafePointer "String: a length above the largest int")
    if n=0 then pure (.string .empty)
    else if <-variablesAt ⟨pl.block,pl.off+i,none⟩ (<-elemOf pt) n.toNat then do
     let s <-loadBytes ⟨pl.block,pl.off+i,none⟩ .empty n.toNat
     freeze ⟨pl.block,pl.off+i,none⟩ n.toNat
     pure (.string s)
    else unsupported (.unsafePointer "String: not so many bytes at ptr")):=rfl
  rw[hdef];have hmax:IntKind.i64.max=9223372036854775807:=rfl;have e1:¬((k:Int)<0):=by omega
  have e2:¬((9223372036854775807:Int)<(k:Int)):=by omega
  have e3:k≠0:=by omega
  simp[asInt,asIntOf,hmax,e2,e3,variablesAt,elemOf,run_underlying hp,hsh,hlies,hrd,freeze,Sem.run];intro h;omega
 have gW:∀ q,q≠pl.block->(w.freeze ⟨pl.block,pl.off+i,none⟩ k).heap[q]? = w.heap[q]?:=by
  intro q hq;unfold World.freeze;rw[if_neg (by omega)];simp[Array.getElem?_modify,Ne.symm hq]
 have hsz:(w.freeze ⟨pl.block,pl.off+i,none⟩ k).heap.size=w.heap.size:=by
  unfold World.freeze;rw[if_neg (by omega)];simp
 have hblk : ∃ AL, (w.freeze ⟨pl.block, pl.off + i, none⟩ k).heap[pl.block]? = some (.cells c o.ty AL) ∧ Az c.size o pl AL := by
  have hB:o.bytes:=by
   intro x hx;unfold Ob.cells at hx;rw[bK] at hx;obtain⟨y,_,rfl⟩:=List.mem_map.1 hx;exact⟨y,rfl⟩
  have hNW:¬o.wb:=Ob.qu (d:=.int .u8) (l:=l) (by unfold Ob.cells;rw[bK]);refine⟨if fz.1==fz.2 then(pl.off+i,pl.off+i+k) else(min fz.1 (pl.off+i),max fz.2 (pl.off+i+k)),?_,?_⟩;unfold World.freeze;rw[if_neg (by omega)];simp only[Array.getElem?_modify,if_true,c1,Option.map_some];refine .inr (.inl ⟨hB,?_⟩);rw[bE];split;show pl.off+i+k<=_;omega;rename_i hne;show max fz.2 (pl.off+i+k)<=_;rcases c4.tail with h|h|h;exact absurd (by simpa using h) hne;rw[bE] at h;omega;exact absurd h.1 hNW
 obtain⟨AL,hb1,hb2⟩:=hblk;simp only[Nat.zero_add]
 have g:=R.write (w':=w.freeze ⟨pl.block,pl.off+i,none⟩ k) ho hpl (o':=o) (by unfold World.freeze;rw[if_neg (by omega)]) (by unfold World.freeze;rw[if_neg (by omega)]) (by unfold World.freeze;rw[if_neg (by omega)]) hsz gW
  (fk.EL hmo ⟨c,AL,hb1,c2,c3,hb2⟩ hroom)
 refine(show bq P base η Z S w (do pure (Next.value (<-Builtin.unsafeString_ #[pt,it] ty #[.pointer (some ⟨pl.block,pl.off+i,none⟩),.int kk k]))) (.p (.c (.str (sF ((l.drop i).take k))))) (S.put m o) from bq.of hrun g.up rW).alike ⟨⟨rfl,rfl⟩,fun q=>?_⟩;rw[af.j3];by_cases hq:q=m;subst hq;rw[if_pos rfl,ho];exact⟨rfl,rfl⟩;rw[if_neg hq];cases S.get q with
 | none=>trivial
 | some x=>exact⟨rfl,rfl⟩
theorem JT(R:St base η Z S w){t:TypeId}(hs:ig P t=some 1){m i j k:Nat}{av:List (List Int)}{o:Ob}(ho:S.get m=some o)(hto:o.kQ k av){u:Value}(hx:au η Z (.qP m i j) u)(hi:i<av.length)(hj:j<k){y:Int} :
 bq P base η Z S w (do Instr.storeAt t u (.int .i64 y);pure Next.skip) (.bG []) (S.put m ⟨o.ty,[.c (.th k (av.set i ((av.getD i []).set j y)))]⟩):=by
 obtain⟨p,r,hp,hr,rfl⟩:=hx;obtain⟨_,_,L⟩:=R.ai m o p ho hp;have T:=L.tabs k av hto;have TR:av.getD i []=av[i]:=by rw[List.getD_eq_getElem?_getD,List.getElem?_eq_getElem hi];rfl
 obtain⟨hl,c,ty,fz,hc,hsz,hv,hfz⟩:=T.row i r av[i] hr (List.getElem?_eq_getElem hi)
 have hst:=run_storeCells_cells (P:=P) r.1 (r.2+j) [Value.int .i64 y] 0 w
  (fun q hq=>by
   have K5:q=0:=by simpa using hq
   subst K5;have:r.2+j+0<c.size:=by omega
   simp[World.cell?,hc];simpa using this)
  (fun q hq=>by
   have K5:q=0:=by simpa using hq
   subst K5;have:=hfz (r.2+j+0) (by omega) (by omega);simp only[World.frozen?,hc];simpa using this) (by intro x hx;rw[List.mem_singleton] at hx;subst hx;rfl)
 simp only[Nat.add_zero] at hst;obtain⟨c',g1,g2,g3,g4⟩:=ah.lM [Value.int .i64 y] (r.2+j) w c hc;have tU:=ah.je (base:=0) (bk:=r.1) (Nat.zero_le _) [Value.int .i64 y] (r.2+j) w;have hnd:=T.nodup;rw[List.nodup_cons] at hnd;have hrb:r.1∈p.sats:=List.mem_map.2 ⟨r,List.mem_of_getElem? hr,rfl⟩;have hpb:p.block≠r.1:=fun e=>hnd.1 (e▸hrb);have gW:∀ b,b≠r.1->(w.setCells r.1 (r.2+j) [Value.int .i64 y]).heap[b]? = w.heap[b]?:=fun b hb=>ah.gT hb _ _ _
 have g := R.Td (w' := w.setCells r.1 (r.2 + j) [Value.int .i64 y]) ho hp (o' := ⟨o.ty, [.c (.th k (av.set i ((av.getD i []).set j y)))]⟩) (ck.Og hr) tU.os tU.tape tU.output (ah.lN _ _ _) gW ⟨_, g1, rfl⟩
  (fk.tab (k:=k) (av:=av.set i ((av.getD i []).set j y)) (Kx rfl) ⟨by
   obtain⟨co,fo,q1,q2⟩:=T.outer;exact⟨co,fo,(gW _ hpb).trans q1,q2⟩,by rw[List.length_set];exact T.len,by rw[List.length_set];exact T.room,by
   intro i' r' l' hr' hl';by_cases hii:i'=i;subst hii;rw[hr] at hr';cases hr';rw[List.getElem?_set,if_pos rfl,if_pos hi,TR] at hl';cases hl';refine⟨by rw[List.length_set];exact hl,c',ty,fz,g1,by omega,?_,by rw[g2];exact hfz⟩;intro j' x hx;rw[List.getElem?_set] at hx;by_cases hjj:j=j';subst hjj;rw[if_pos rfl,if_pos (by omega)] at hx;cases hx;have:=g4 0 (by simp) (by omega);simpa using this;rw[if_neg hjj] at hx;rw[g3 _ (by simp;omega)];exact hv j' x hx;rw[List.getElem?_set,if_neg (Ne.symm hii)] at hl';obtain⟨q0,cq,tq,fq,q1,q2⟩:=T.row i' r' l' hr' hl';refine⟨q0,cq,tq,fq,(gW _ fun e=>?_).trans q1,q2⟩;have h1:i'<p.sats.length:=by unfold ck.sats;rw[List.length_map];exact(List.getElem?_eq_some_iff.1 hr').1
   have h2:=(List.getElem?_inj h1 hnd.2 (j:=i)).1 (by
    show p.sats[i']? = p.sats[i]?;unfold ck.sats;rw[List.getElem?_map,List.getElem?_map,hr,hr'];show some r'.1=some r.1;rw[e])
   exact hii h2,T.nodup⟩)
 refine bq.Oo ?_ g.up;simp[Instr.storeAt,Instr.sureAddr,storeVar,dP hs,Value.cells,hst]
theorem IJ{t:TypeId}{kd:D}(h:tJ P t=some kd):∃ kt et td,P.underlying t=some (.map kt et)/\P.underlying kt=some td/\qY td kd=true/\ah.plainKey td=true:=by
 unfold tJ at h;split at h;rename_i kt et hu;split at h;rename_i td ZR h1 h2;obtain⟨h5,h⟩:=dA h;cases h;refine⟨kt,et,td,hu,h1,h5,?_⟩;unfold qY at h5;split at h5;rfl;rfl;cases h5;cases h;cases h
theorem A5{td:TypeDesc}{kd:D}(h:qY td kd=true){k:kd.ty}{u:Value}(hu:cG Z kd k u):∀{fs:List Fd}{l:List (kd.ty×W)}{es:List MapEntry}(i:Nat),qX kd fs=some l->eW η Z (fs.flatMap Fd.cells) es->
 (AV kd k l=none->Instr.findNow td u es i=some none)/\(∀ v,AV kd k l=some v->∃ j v',Instr.findNow td u es i=some (some (j,v'))/\v≠.dm/\au η Z v v')
 | [],l,es,i,e,r=>by
   simp only[qX] at e;cases e;cases es with
   | nil=>exact⟨fun _=>rfl,fun v e=>by cases e⟩
   | cons _ _=>simp[eW] at r
 | .c kw::.c vw::fs,l,es,i,e,r=>by
   simp only[qX] at e;split at e
   . rename_i x l' hx hl;obtain⟨_,e⟩:=ah.ay e;cases e;cases es with
     | nil=>simp[eW,Fd.cells] at r
     | cons e0 es =>
       have r:(kw≠.dm/\au η Z kw e0.key)/\(vw≠.dm/\au η Z vw e0.val)/\eW η Z (fs.flatMap Fd.cells) es:=r;obtain⟨r1,r2,r3⟩:=r;obtain⟨s1,_⟩:=wU h hu (nQ hx r1.2);simp only[AV,Instr.findNow,s1];cases hb:kd.lU k x with
       | true=>exact⟨fun e=>(by cases e),fun v hv=>(by cases hv;exact⟨i,_,rfl,r2.1,r2.2⟩)⟩
       | false=>exact A5 h hu (i+1) hl r3
   cases e
 | [.c _],_,_,_,e,_=>by simp[qX] at e
 | .a _ _ _::_,_,_,_,e,_=>by simp[qX] at e
 | .m _ _ _::_,_,_,_,e,_=>by simp[qX] at e
 | .c _::.a _ _ _::_,_,_,_,e,_=>by simp[qX] at e
 | .c _::.m _ _ _::_,_,_,_,e,_=>by simp[qX] at e
theorem Dq{kd:D}{fs:List Fd}{l:List (kd.ty×W)}(e:xM kd fs=some l):∃ r,fs=.c .mh::r/\qX kd r=some l:=by
 unfold xM at e;split at e;exact⟨_,rfl,e⟩;cases e
theorem St.ZS(R:St base η Z S w){n:Nat}{o:Ob}{r:List Fd}(ho:S.get n=some o)(hl:o.fs=.c .mh::r){u:Value}(hu:au η Z (.mp n) u) :
 ∃ p es clock,η n=some p/\u=.map (some p.block)/\base<=p.block/\Z p.block=none/\w.heap[p.block]? = some (.map es clock)/\eW η Z (r.flatMap Fd.cells) es.toList:=by
 obtain⟨p,hp,rfl⟩:=hu;obtain⟨h1,h2,L⟩:=R.ai n o p ho hp;have bK:o.cells=.mh::r.flatMap Fd.cells:=by unfold Ob.cells;rw[hl];rfl
 obtain⟨es,k,h3,h4⟩:=L.maps (by unfold Ob.isMap;rw[bK];rfl);rw[bK] at h4;exact⟨p,es,k,hp,rfl,h1,h2,h3,h4⟩
theorem NR(R:St base η Z S w){t:TypeId}:bq P base η Z S w (do pure (Next.value (<-Instr.makeMap t none))) (.p (.c (.mp S.next))) (S.add ⟨t,[.c .mh]⟩):=by
 obtain⟨g,hn⟩:=R.Tb (w':={ w with heap:=w.heap.push (.map #[] 0) }) (Ob.mk t [.c .mh]) (by unfold Ob.cells;simp[Fd.cells]) rfl rfl rfl rfl;exact bq.of (u:=.map (some w.heap.size)) (by simp[Instr.makeMap,newObj,Sem.run]) g.up ⟨by simp,_,hn,rfl⟩
theorem QY(R:St base η Z S w){t:TypeId}{kd:D}(hd:tJ P t=some kd){n:Nat}{o:Ob}{l:List (kd.ty×W)}(ho:S.get n=some o)(hl:xM kd o.fs=some l){u uk:Value}(hu:au η Z (.mp n) u){k:kd.ty}(hk:cG Z kd k uk){v:W}(hv:AV kd k l=some v) :
 bq P base η Z S w (do pure (Next.value (<-Instr.lookup t u uk false))) (.p (.c v)) S:=by
 obtain⟨kt,et,td,ht,hkt,hkey,hpk⟩:=IJ hd;obtain⟨r,hfs,hr⟩:=Dq hl;obtain⟨p,es,clock,hp,rfl,_,_,xO,hes⟩:=R.ZS ho hfs hu;have hg:(getObj p.block).run P w=.ok (.map es clock) w:=by simp[getObj,Sem.run,xO]
 obtain⟨j,v',g1,g2,g3⟩:=(A5 hkey hk 0 hr hes).2 v hv;have hrun:(Instr.lookup t (.map (some p.block)) uk false).run P w=.ok v' w:=by simp[Instr.lookup,run_underlying ht,ah.mB w hkt hpk,hg,ah.nK w hkt g1]
 exact bq.of hrun (bL.refl R) ⟨g2,g3⟩
theorem Dr{k v:W}{e:MapEntry}(h1:k≠.dm/\au η Z k e.key)(h2:v≠.dm/\au η Z v e.val):∀{l:List W}{es:List MapEntry},eW η Z l es->eW η Z (l++[k,v]) (es++[e])
 | [],[],_=>⟨h1,h2,trivial⟩
 | _::_::l,_::es,⟨a,b,c⟩=>⟨a,b,Dr h1 h2 c⟩
 | [],_::_,h=>by simp[eW] at h
 | [_],_,h=>by simp[eW] at h
 | _::_::_,[],h=>by simp[eW] at h
theorem EZ(R:St base η Z S w){t:TypeId}{kd:D}(hd:tJ P t=some kd){n:Nat}{o:Ob}{l:List (kd.ty×W)}(ho:S.get n=some o)(hl:xM kd o.fs=some l){u uk uv:Value}(hu:au η Z (.mp n) u){k:kd.ty}(hk:cG Z kd k uk){v:W}(hv:v≠.dm/\au η Z v uv)(hno:AV kd k l=none) :
 bq P base η Z S w (do Instr.mapUpdate t u uk uv;pure Next.skip) (.bG []) (S.put n ⟨o.ty,o.fs++[.c (kd.w k),.c v]⟩):=by
 obtain⟨kt,et,td,ht,hkt,hkey,hpk⟩:=IJ hd;obtain⟨r,hfs,hr⟩:=Dq hl;obtain⟨p,es,clock,hp,rfl,hb,hZ,xO,hes⟩:=R.ZS ho hfs hu;have hg:(getObj p.block).run P w=.ok (.map es clock) w:=by simp[getObj,Sem.run,xO]
 have hset:∀ o,(setObj p.block o).run P w=.ok () (w.putObj p.block o):=fun o=>by simp[setObj,Sem.run,xO,World.putObj]
 have a:=(A5 hkey hk 0 hr hes).1 hno;have bK:(Ob.mk o.ty (o.fs++[.c (kd.w k),.c v])).cells=.mh::(r.flatMap Fd.cells++[kd.w k,v]):=by unfold Ob.cells;rw[hfs];simp[Fd.cells]
 have hm:(Ob.mk o.ty (o.fs++[.c (kd.w k),.c v])).isMap:=by unfold Ob.isMap;rw[bK];rfl
 have g:=R.write (w':=w.putObj p.block (.map (es.push { key:=uk,val:=uv,born:=clock }) (clock+1))) ho hp (o':=Ob.mk o.ty (o.fs++[.c (kd.w k),.c v])) rfl rfl rfl (by simp[World.putObj]) (fun b hb=>by simp only[World.putObj];rw[Array.getElem?_setIfInBounds_ne (Ne.symm hb)])
  (fk.map hm ⟨es.push { key:=uk,val:=uv,born:=clock },clock+1,ah.wK (cM xO),by
   rw[bK,List.tail_cons,Array.toList_push];exact Dr ⟨D.jG _ _,(D.eV kd).2 hk⟩ hv hes⟩)
 refine bq.Oo ?_ g.up;simp[Instr.mapUpdate,run_underlying ht,hg,ah.mB w hkt hpk,ah.nK w hkt a,hset]
theorem Xh(R:St base η Z S w){t:TypeId}{d:TypeDesc}(hu:P.underlying t=some d)(hd:∀ ms,d≠.interface ms){x:Value}:bq P base η Z S w (do pure (Next.value (<-Instr.makeInterface t x))) (.p (.c (.val (.iface t x)))) S:=by
 refine bq.of (u:=.iface t x) ?_ (bL.refl R) ⟨by simp,by simp only[au,aF];exact⟨trivial,rfl⟩⟩;unfold Instr.makeInterface;simp only[Sem.run_bind,run_underlying hu,Result.andThen_ok];cases d<;>first|exact absurd rfl (hd _)|rfl
theorem Xi(R:St base η Z S w){src dst el:TypeId}(hs:P.underlying src=some .string)(hd:P.underlying dst=some (.slice el))(he:P.underlying el=some (.int .u8))(s:ByteArray):bq P base η Z S w (do pure (Next.value (<-convert src dst (.string s)))) (.p (.c (.rd (.int .u8) (ku s)))) S:=by
 have hge:=grownCap_ge w s.size 0 el;generalize hcap:grownCap w s.size 0 el=cap at hge;have QZ:(Question.appendCap s.size 0 el).cut (w.tape w.drawn (Question.appendCap s.size 0 el))=cap:=hcap;let c:Array Value:=s.data.map (fun b=>Value.int .u8 b.toNat)++Array.replicate (cap-s.size) (.int .u8 0);have hsz:s.data.size=s.size:=rfl;have hcs:c.size=cap:=by
  simp only[c,Array.size_append,Array.size_map,Array.size_replicate];omega
 let w':World:={ w with heap:=w.heap.push (.cells c el (cap,cap+1)),drawn:=w.drawn+1 };have hrun:(convert src dst (.string s)).run P w=.ok (.slice (some ⟨w.heap.size,0,none⟩) s.size cap) w':=by
  simp only[convert,Sem.run_bind,run_underlying hs,run_underlying hd,run_underlying he,Result.andThen_ok];simp only[Conv.stringToBytes,Sem.run_bind,run_choose,Question.forced,Bool.false_eq_true,if_false,Result.andThen_ok,newRow,newObj,Sem.run,Sem.run_pure,QZ,markStringish,shape,World.shape?,freeze];have hc0:Array.map (fun b=>Value.int IntKind.u8 (b.toNat:Int)) s.data++Array.replicate (cap-s.size) (Value.int IntKind.u8 0)=c:=rfl;rw[hc0];have e1:((w.heap.push (Obj.cells c el))[w.heap.size]?)=some (Obj.cells c el):=by simp
  simp only[e1,Sem.run,Result.andThen_ok,World.freeze,Nat.one_ne_zero,if_false,hcs];have e2:(w.heap.push (Obj.cells c el)).modify w.heap.size (fun x=>match x with
   | .cells c elem (lo,hi)=>.cells c elem (if lo==hi then(cap,cap+1) else(min lo cap,max hi (cap+1)))
   | o=>o)=w.heap.push (Obj.cells c el (cap,cap+1)):=by
   apply Array.ext_getElem?;intro i;rw[Array.getElem?_modify,Array.getElem?_push,Array.getElem?_push];by_cases hi:w.heap.size=i;subst hi;simp;rw[if_neg hi,if_neg (by omega),if_neg (by omega)]
  exact congrArg (fun hp=>Result.ok (Value.slice (some { block:=w.heap.size,off:=0 }) s.size cap) { w with heap:=hp,drawn:=w.drawn+1 }) e2
 have hfree:Z w.heap.size=none:=by
  cases h:Z w.heap.size with
  | none=>rfl
  | some x=>have:=R.WU h;omega
 have hzle:Z.le (Z.add w.heap.size c):=fun b x hb=>by
  unfold ar.add;split;rename_i h;subst h;rw[hfree] at hb;cases hb;exact hb
 have hold:∀ b,b<w.heap.size->w'.heap[b]? = w.heap[b]?:=fun b hb=>by
  show (w.heap.push _)[b]? = _;rw[Array.getElem?_push,if_neg (by omega)]
 have hown:∀ b,Own η S b->b<w.heap.size:=fun b ⟨n,o,p,h1,h2,hb⟩=>R.kq h1 h2 hb;have hst : St base η (Z.add w.heap.size c) S w' := by
  refine R.uM hzle (fun b cs hb=>?_) (by show _<=(w.heap.push _).size;simp) (fun b ho=>hold b (hown b ho)) (fun b ho=>?_);unfold ar.add at hb;split at hb;rename_i h;cases hb;subst h;exact⟨el,(cap,cap+1),by show (w.heap.push _)[w.heap.size]? = _;simp⟩;obtain⟨ty,fz,e⟩:=R.zs b cs hb;exact⟨ty,fz,(hold b (cM e)).trans e⟩;unfold ar.add;have:=hown b ho;rw[if_neg (by omega)];obtain⟨n,o,p,h1,h2,hb⟩:=ho;exact(R.all h1 h2 hb).2.1
 refine bq.of hrun ⟨Eta.le.refl _,hst,⟨rfl,rfl,rfl,(by show _<=(w.heap.push _).size;simp),fun b hb _=>hold b hb,fun _ h=>.inl h,hzle,fun b cs hb=>?_,rfl⟩⟩ ⟨by simp,?_⟩;unfold ar.add at hb;split at hb;rename_i h;exact .inr (.inr (by omega));exact .inl hb;simp only[au,aF,cG];have hl:(ku s).length=s.size:=by simp[ku]
 refine⟨_,_,_,rfl,hl,hge,.inr ⟨w.heap.size,0,c,rfl,by unfold ar.add;rw[if_pos rfl],fun i x hx=>?_⟩⟩;simp only[ku,List.getElem?_map,Array.getElem?_toList] at hx;cases hb:s.data[i]? with
 | none=>rw[hb] at hx;cases hx
 | some b =>
   rw[hb] at hx;cases hx;refine⟨.int .u8 (b.toNat:Int),?_,rfl⟩;have hi:=(Array.getElem?_eq_some_iff.1 hb).1;have hi2:i<(s.data.map (fun b=>Value.int IntKind.u8 (b.toNat:Int))).size:=by simpa using hi
   show c[0+i]? = _;rw[Nat.zero_add,Array.getElem?_append_left hi2];simp[hb]
theorem Xj(R:St base η Z S w){src dst el:TypeId}(hs:P.underlying src=some .string)(hd:P.underlying dst=some (.slice el))(he:P.underlying el=some (.int .u8))(s:ByteArray)(h0:0<s.size):bq P base η Z S w (do pure (Next.value (<-convert src dst (.string s)))) (.p (.c (.sl S.next 0 s.size 1))) (S.add ⟨el,[.b (ku s)]⟩):=by
 have hge:=grownCap_ge w s.size 0 el;generalize hcap:grownCap w s.size 0 el=cap at hge;have QZ:(Question.appendCap s.size 0 el).cut (w.tape w.drawn (Question.appendCap s.size 0 el))=cap:=hcap;let c:Array Value:=s.data.map (fun b=>Value.int .u8 b.toNat)++Array.replicate (cap-s.size) (.int .u8 0);have hsz:s.data.size=s.size:=rfl;have hcs:c.size=cap:=by
  simp only[c,Array.size_append,Array.size_map,Array.size_replicate];omega
 let w':World:={ w with heap:=w.heap.push (.cells c el (cap,cap+1)),drawn:=w.drawn+1 };have hrun:(convert src dst (.string s)).run P w=.ok (.slice (some ⟨w.heap.size,0,none⟩) s.size cap) w':=by
  simp only[convert,Sem.run_bind,run_underlying hs,run_underlying hd,run_underlying he,Result.andThen_ok];simp only[Conv.stringToBytes,Sem.run_bind,run_choose,Question.forced,Bool.false_eq_true,if_false,Result.andThen_ok,newRow,newObj,Sem.run,Sem.run_pure,QZ,markStringish,shape,World.shape?,freeze];have hc0:Array.map (fun b=>Value.int IntKind.u8 (b.toNat:Int)) s.data++Array.replicate (cap-s.size) (Value.int IntKind.u8 0)=c:=rfl;rw[hc0];have e1:((w.heap.push (Obj.cells c el))[w.heap.size]?)=some (Obj.cells c el):=by simp
  simp only[e1,Sem.run,Result.andThen_ok,World.freeze,Nat.one_ne_zero,if_false,hcs];have e2:(w.heap.push (Obj.cells c el)).modify w.heap.size (fun x=>match x with
   | .cells c elem (lo,hi)=>.cells c elem (if lo==hi then(cap,cap+1) else(min lo cap,max hi (cap+1)))
   | o=>o)=w.heap.push (Obj.cells c el (cap,cap+1)):=by
   apply Array.ext_getElem?;intro i;rw[Array.getElem?_modify,Array.getElem?_push,Array.getElem?_push];by_cases hi:w.heap.size=i;subst hi;simp;rw[if_neg hi,if_neg (by omega),if_neg (by omega)]
  exact congrArg (fun hp=>Result.ok (Value.slice (some { block:=w.heap.size,off:=0 }) s.size cap) { w with heap:=hp,drawn:=w.drawn+1 }) e2
 have bK:(Ob.mk el [.b (ku s)]).cells=(ku s).map W.nC:=by unfold Ob.cells;simp[Fd.cells]
 have hl:(ku s).length=s.size:=by simp[ku]
 obtain⟨g,hn⟩:=R.newF (w':=w') ⟨el,[.b (ku s)]⟩ c (fz:=(cap,cap+1)) rfl rfl rfl rfl (by rw[bK,List.length_map,hl,hcs];exact hge)
  (fun i x hx=>by
   rw[bK,List.getElem?_map] at hx;simp only[ku,List.getElem?_map,Array.getElem?_toList] at hx;cases hb:s.data[i]? with
   | none=>rw[hb] at hx;cases hx
   | some b =>
     rw[hb] at hx;cases hx;refine⟨.int .u8 (b.toNat:Int),?_,rfl,rfl⟩;have hi:=(Array.getElem?_eq_some_iff.1 hb).1;have hi2:i<(s.data.map (fun b=>Value.int IntKind.u8 (b.toNat:Int))).size:=by simpa using hi
     show c[i]? = _;rw[Array.getElem?_append_left hi2];simp[hb])
  ⟨by rw[bK];intro h;have h9:=congrArg List.length h;rw[List.length_map,hl,List.length_nil] at h9;omega,fun x hx=>by rw[bK] at hx;obtain⟨y,_,rfl⟩:=List.mem_map.1 hx;exact⟨y,rfl⟩⟩ (by rw[hcs];exact Nat.le_refl _)
 exact bq.of hrun g.up ⟨by simp,.inr ⟨_,cap,_,hn,rfl,hge,by rw[hcs];simp,.inr rfl⟩⟩
theorem NS(R:St base η Z S w){t:TypeId}(hs:ig P t=some 1){m i:Nat}{l:List Int}{o:Ob}(ho:S.get m=some o)(hfs:o.fs=[.b l])(hm:¬o.gF){u:Value}(hx:au η Z (.ptr m i) u)(hi:i<l.length){y:Int} :
 bq P base η Z S w (do Instr.storeAt t u (.int .u8 y);pure Next.skip) (.bG []) (S.put m ⟨o.ty,[.b (l.set i y)]⟩):=by
 obtain⟨p,hp,rfl⟩:=hx;obtain⟨_,_,L⟩:=R.ai m o p ho hp;have bK:o.cells=l.map W.nC:=by unfold Ob.cells;rw[hfs];simp[Fd.cells]
 have Xk:(Ob.mk o.ty [.b (l.set i y)]).cells=(l.set i y).map W.nC:=by unfold Ob.cells;simp[Fd.cells]
 have hsize:=L.size hm;rw[bK,List.length_map] at hsize;obtain⟨c,fz,hc,hsz,hv,pR⟩:=L.there hm;have hnb:¬o.bytes:=fun hB=>by
  obtain⟨n,e⟩:=hB (.nC l[i]) (by rw[bK];exact List.mem_map.2 ⟨_,List.getElem_mem hi,rfl⟩);cases e
 have Kk:∀ l':List Int,l'.length=l.length->(Ob.mk o.ty [.b l']).wb:=fun l' hl'=>by
  have e:(Ob.mk o.ty [.b l']).cells=l'.map W.nC:=by unfold Ob.cells;simp[Fd.cells]
  refine⟨by rw[e];intro h;have:=congrArg List.length h;simp at this;rw[this] at hl';simp at hl';omega,fun x hx=>?_⟩;rw[e] at hx;obtain⟨y,_,rfl⟩:=List.mem_map.1 hx;exact⟨y,rfl⟩
 have hfz:=pR.strong hnb
 have hst:=run_storeCells_cells (P:=P) p.block (p.off+i) [Value.int .u8 y] 0 w
  (fun q hq=>by
   have K5:q=0:=by simpa using hq
   subst K5;have:p.off+i+0<c.size:=by omega
   simp[World.cell?,hc];simpa using this)
  (fun q hq=>by
   have K5:q=0:=by simpa using hq
   subst K5;have:=hfz (p.off+i+0) (by omega) (by omega);simp only[World.frozen?,hc];simpa using this) (by intro x hx;rw[List.mem_singleton] at hx;subst hx;rfl)
 simp only[Nat.add_zero] at hst;obtain⟨c',g1,g2,g3,g4⟩:=ah.lM [Value.int .u8 y] (p.off+i) w c hc;have tU:=ah.je (base:=0) (bk:=p.block) (Nat.zero_le _) [Value.int .u8 y] (p.off+i) w;have hm':¬(Ob.mk o.ty [.b (l.set i y)]).gF:=Ob.rV fun x hx=>by rw[Xk,List.mem_map] at hx;obtain⟨y,_,rfl⟩:=hx;exact id
 have g:=R.write (w':=w.setCells p.block (p.off+i) [Value.int .u8 y]) ho hp (o':=⟨o.ty,[.b (l.set i y)]⟩) tU.os tU.tape tU.output (ah.lN _ _ _) (fun b hb=>ah.gT hb _ _ _)
  (fk.EL hm' ⟨c',fz,g1,by rw[g2];exact hsz,fun j x hx=>by
   rw[Xk,List.getElem?_map,List.getElem?_set] at hx;by_cases hj:i=j;subst hj;rw[if_pos rfl,if_pos hi] at hx;cases hx;have:=g4 0 (by simp) (by omega);exact⟨.int .u8 y,by simpa using this,rfl,rfl⟩;rw[if_neg hj] at hx;obtain⟨v,a,b,d⟩:=hv j x (by rw[bK,List.getElem?_map];exact hx);exact⟨v,(g3 (p.off+j) (by simp;omega)).trans a,b,d⟩,by
   rw[g2];rcases pR with h|h|h;exact .inl h;exact absurd h.1 hnb;exact .inr (.inr ⟨Kk _ (by simp),h.2⟩)⟩ (by rw[Xk,List.length_map,List.length_set];exact hsize))
 refine bq.Oo ?_ g.up;simp[Instr.storeAt,Instr.sureAddr,storeVar,dP hs,Value.cells,hst]
theorem TS(R : St base η Z S w)(FR : aT n η Z F a.tmps){o : Oper}{l : L}(ht : K0 P o = some l){c : Cd}{v : A}{S' : af}(e : kx F S l = some (c, v, S'))(hc : c) : bq P base η Z S w (execOp a.eval o) v S' := by
 unfold K0 at ht;unfold execOp;split at ht<;>rename_i hop<;>simp only[hop]
 -- maps
 rename_i t;split at ht;rename_i kd vd hd;cases ht;simp only[kx] at e;cases e;exact QX R kd vd;split at ht;cases ht;simp only[kx] at e;cases e;exact NR R;cases ht;rename_i t m' k' v';split at ht;rename_i kd vd m k v' hd hm hk hv;cases ht;simp only[kx] at e;split at e;rename_i p n q x r y hme hke mD;split at e;rename_i kk c2 z S1 ox hfz;split at e;rename_i o1 lE;split at e;rename_i l hl;cases e;obtain⟨hp,hq,hr,hc2⟩:=hc;have hy:=(aC FR hv mD hr).2;obtain⟨Z1,mv,hrz,hS⟩:=p9 R hfz hc2 hy;have hkr:cG Z1 kd kk (a.eval k'):=cG.mono mv.step.cN _ (nQ ox (aC FR hk hke hq).2);exact bq.before mv (IG mv.st hd lE hl ((aC FR hm hme hp).2.mono (Eta.le.refl _) mv.step.cN) hkr hrz);cases e;cases e;cases e;cases e;rename_i m k v _ hm hk hv;split at ht;rename_i kd hd;cases ht;simp only[kx] at e;split at e;rename_i p n q x r y hme hke mD;split at e;rename_i kk o1 ox lE;split at e;rename_i l hl;split at e;rename_i hno;obtain⟨_,e⟩:=ah.ay e;cases e;obtain⟨hp,hq,hr⟩:=hc;have hy:=aC FR hv mD hr;exact EZ R hd lE hl (aC FR hm hme hp).2 (nQ ox (aC FR hk hke hq).2) ⟨hy.1,hy.2⟩ hno;cases e;cases e;cases e;cases e;cases ht;cases ht;rename_i t m' k' v';split at ht;rename_i kd vd m k v' hd hm hk hv;cases ht;simp only[kx] at e;split at e;rename_i p n q x r y hme hke mD;split at e;rename_i kk c2 z S1 ox hfz;split at e;rename_i o1 lE;split at e;rename_i l hl;cases e;obtain⟨hp,hq,hr,hc2⟩:=hc;have hy:=(aC FR hv mD hr).2;obtain⟨Z1,mv,hrz,hS⟩:=p9 R hfz hc2 hy;have hkr:cG Z1 kd kk (a.eval k'):=cG.mono mv.step.cN _ (nQ ox (aC FR hk hke hq).2);exact bq.before mv (IG mv.st hd lE hl ((aC FR hm hme hp).2.mono (Eta.le.refl _) mv.step.cN) hkr hrz);cases e;cases e;cases e;cases e;rename_i m k v _ hm hk hv;split at ht;rename_i kd hd;cases ht;simp only[kx] at e;split at e;rename_i p n q x r y hme hke mD;split at e;rename_i kk o1 ox lE;split at e;rename_i l hl;split at e;rename_i hno;obtain⟨_,e⟩:=ah.ay e;cases e;obtain⟨hp,hq,hr⟩:=hc;have hy:=aC FR hv mD hr;exact EZ R hd lE hl (aC FR hm hme hp).2 (nQ ox (aC FR hk hke hq).2) ⟨hy.1,hy.2⟩ hno;cases e;cases e;cases e;cases e;cases ht;cases ht;rename_i t m' k' ok;split at ht;rename_i kd vd m k hd hm hk;cases ht;simp only[kx] at e;split at e;rename_i p n q x hme hke;split at e;rename_i kk o1 ox lE;split at e;rename_i l hl;have g:=fun(hc:Cd.and p q)=>TL (P:=P) R hd lE hl (aC FR hm hme hc.1).2 (nQ ox (aC FR hk hke hc.2).2) ok;cases ok<;>simp only[cond_true,cond_false] at e g<;>cases e<;>exact g hc;cases e;cases e;cases e
 . rename_i m k _ hm hk;cases ok with
   | true=>cases ht
   | false =>
   simp only[cond_false] at ht;split at ht;rename_i kd hd;cases ht;simp only[kx] at e;split at e;rename_i p n q x hme hke;split at e;rename_i kk o1 ox lE;split at e;rename_i l hl;split at e;rename_i v hv;cases e;exact QY R hd lE hl (aC FR hm hme hc.1).2 (nQ ox (aC FR hk hke hc.2).2) hv;cases e;cases e;cases e;cases e;cases ht
 cases ht
 -- nil
 split at ht;split at ht;cases ht;simp only[kx] at e;cases e;exact⟨.value (.slice none 0 0),_,w,η,Z,rfl,.inl rfl,R.ow (by rw[gi];rfl),by simp,.inl ⟨rfl,rfl⟩⟩;cases ht;cases ht;split at ht;split at ht;cases ht;simp only[kx] at e;cases e;exact⟨.value (.slice none 0 0),_,w,η,Z,rfl,.inl rfl,R.ow (by rw[gi];rfl),by simp,.inl ⟨rfl,rfl⟩⟩;cases ht;cases ht
 -- alloc
 split at ht;rename_i el hel;cases ht;simp only[kx] at e;cases e;exact NQ R hel;split at ht;rename_i fs i hfs hi;split at ht;rename_i z hz;obtain⟨hzs,ht⟩:=dA ht;cases ht;simp only[kx] at e;cases e;obtain⟨h1,h2⟩:=Cw (η:=η) (Z:=Z) hzs;exact(QH R hi hz h1 h2).alike (af.jT rfl (by simp[Ob.cells,Ob.of,xC]));cases ht;cases ht
 -- bytes as a text
 rename_i x y pt it;split at ht;rename_i el x' y' hpt hx hy;obtain⟨hc1,ht⟩:=dA ht;cases ht;simp only[kx] at e;split at e;rename_i p m off i q kk k hxe rN;split at e;rename_i o1 lE;obtain⟨hb,e1⟩:=ah.ay e;clear e;simp only[Bool.and_eq_true] at hb;have hoff:=Nat.eq_of_beq_eq_true hb.1;have hty:=Nat.eq_of_beq_eq_true hb.2;subst hoff;split at e1;rename_i l hl;cases e1;obtain⟨hp,hq,hb3⟩:=hc;obtain⟨h0,hk,h63⟩:=(show 0<k/\i+k<=l.length/\k<=9223372036854775807 from hb3);obtain⟨k',rfl⟩:∃ k':Nat,k=k':=⟨k.toNat,by omega⟩;have h1:=(aC FR hx hxe hp).2;have h2:=cI FR hy rN hq;have hk':i+k'<=List.length (α:=Int) l:=Int.ofNat_le.1 hk;have g:=TQ (P:=P) (base:=base) (pt:=pt) (it:=it) (ty:=o.type) (kk:=kk) (k:=k') R hpt hc1 lE hty hl h1 (by omega) hk' (by omega);rw[Int.toNat_natCast];exact bq.run (by simp[resolve,invoke,builtin,h2]) g;cases e1;cases e;cases e;cases ht
 -- box
 · split at ht
   rename_i x hx;split at ht;rename_i el hel;cases ht;simp only[kx] at e;split at e;rename_i p v hv;obtain⟨hb,e1⟩:=ah.ay e;clear e;cases e1;exact TP R (ew FR hx hv hc) (isNN_eq hb);cases e;cases ht;simp only[kx] at e;split at e;rename_i p v hv;cases e;exact(W8 R (ew FR hx hv hc)).alike (af.jT rfl (by simp[Ob.cells,Ob.of,xC,KX]));cases e;cases ht
 -- store
 · split at ht
   · rename_i k x' v' hk hx hv
     split at ht;rename_i hk0;subst hk0;cases ht;simp only[kx] at e;split at e;rename_i p m off q hxe mD;cases e;obtain⟨_,pl,_,hpv⟩:=aC FR hx hxe hc.1;obtain⟨ws,hvv,_,hwl⟩:=ew FR hv mD hc.2;have hw0:ws=[]:=by cases ws with|nil=>rfl|cons _ _=>exact hwl.elim
     subst hw0;refine bq.Oo ?_ (bL.refl R);rw[hpv,hvv];simp[Instr.storeAt,Instr.sureAddr,storeVar,dP hk,Value.cells,storeCells];cases e;rename_i hk0;cases ht;simp only[kx] at e;split at e;rename_i p m off q v hxe mD;obtain⟨hl,e⟩:=ah.ay e;have hl:=Nat.eq_of_beq_eq_true hl;split at e;rename_i o ho;obtain⟨ho,hmo⟩:=kK ho;obtain⟨hnf,e⟩:=ah.ay e;split at e;rename_i c' fs' hput;cases e;obtain⟨hp,hq,hc'⟩:=hc;obtain⟨h1,h2⟩:=Dm hput hc';have hle:=h2 (by rintro h0;rw[h0] at hl;simp at hl;omega);have hnb:¬o.bytes:=nbF_ok hnf fun h0=>by
      have hle:off+v.cells.length<=o.cells.length:=hle;rw[h0] at hle;have hle:off+v.cells.length<=0:=hle;omega
     refine(ug R hk ho hmo hnb (nbF_wb hnf) (aC FR hx hxe hp).2 (ew FR hv mD hq) hl ?_).alike (af.qv rfl ?_);rw[<-hl];exact h2 (by rintro h0;rw[h0] at hl;simp at hl;omega);rw[Ob.ez];exact h1;cases e;cases e;rename_i p m i j q y hxe mD;obtain⟨hl,e⟩:=ah.ay e;have hl:=oW hl;subst hl;split at e;rename_i k' av hto;obtain⟨o1,lE,_,ht1⟩:=oU hto;split at e;rename_i o2 ES;rw[lE] at ES;cases ES;cases e;obtain⟨hp,hq,hi,hj⟩:=hc;have hy:=(ew FR hv mD hq).2;simp only[au,aF] at hy;rw[hy];exact JT R hk lE ht1 (aC FR hx hxe hp).2 hi hj;cases e;cases e;rename_i p m off i q y hxe mD;obtain⟨hl,e9⟩:=ah.ay e;clear e;have e:=e9;clear e9;have hl:=oW hl;subst hl;split at e;rename_i c1 S1 Oy;cases e;obtain⟨hp,hq,hc1⟩:=hc;obtain⟨ox,hpu1⟩:=ah.ay Oy;clear Oy;have ox:=Nat.eq_of_beq_eq_true ox;subst ox;have hy:=ew FR hv mD hq;have hx1:au η Z (.ptr m (0+i)) _:=(aC FR hx hxe hp).2;rw[Nat.zero_add] at hx1;exact TK R hk hpu1 hc1 hx1 hy;split at e;rename_i o ho;obtain⟨ho,hmo⟩:=kK ho;split at e;rename_i l hl;split at e;rename_i z;obtain⟨uL,e⟩:=ah.ay e;have uL:=Nat.eq_of_beq_eq_true uL;subst uL;cases e;obtain⟨hp,hq,hi⟩:=hc;have hx1:au η Z (.ptr m (0+i)) _:=(aC FR hx hxe hp).2;rw[Nat.zero_add] at hx1;have hy:=(ew FR hv mD hq).2;simp only[au,aF] at hy;rw[hy];exact NS R hk ho (Gt hl) hmo hx1 hi;cases e;split at e
     . rename_i c' k d l hg;cases uN:d.qW with
       | true=>rw[uN] at e;cases e
       | false =>
       rw[uN] at e;simp only[cond_false] at e;split at e;rename_i c2 z S1 hfz;split at e;rename_i o1 fs' lE hput;cases e;obtain⟨hp,hq,hc',hc2,hi0⟩:=hc;have hi:i<l.length:=hi0;have hy:=ew FR hv mD hq;obtain⟨Z1,mv,hr,hS⟩:=p9 R hfz hc2 hy.2;have Xb:S1.get m=some o:=by
        rcases hS m with h|h;rw[h] at lE;cases lE;rw[h];exact ho
       obtain⟨pre,post,g1,g2,g3⟩:=NP hg hc' hput;have bK:o.cells.length=pre.length+l.length+post.length:=by unfold Ob.cells;rw[g1];simp;omega
       have hnb:¬o.bytes:=fun hB=>by
        obtain⟨n,e⟩:=hB (d.w l[i]) (by unfold Ob.cells;rw[g1];exact List.mem_append_left _ (List.mem_append_right _ (List.mem_map.2 ⟨_,List.getElem_mem hi,rfl⟩)));exact D.EV uN _ _ e
       have hnw:¬o.wb:=Ob.uH (x:=d.w l[i]) (by unfold Ob.cells;rw[g1];exact List.mem_append_left _ (List.mem_append_right _ (List.mem_map.2 ⟨_,List.getElem_mem hi,rfl⟩))) (fun n e=>D.w_by d _ e);refine bq.before mv ((ug mv.st hk Xb hmo hnb hnw (v:=.c (d.w z)) ((aC FR hx hxe hp).2.mono (Eta.le.refl _) mv.step.cN:au η Z1 (.ptr m (off+i)) _) ⟨D.jG _ _,(D.eV d).2 hr⟩ rfl (by omega)).alike (af.qv rfl ?_));rw[Ob.ez];show fs'.flatMap Fd.cells=(o.cells).set (off+i) (d.w z);unfold Ob.cells;rw[g1,g2,List.map_set,List.append_assoc,List.append_assoc,List.set_append_right _ _ (by omega),List.set_append_left _ _ (by simp;omega)];congr 3;omega;cases e;cases e
     cases e;cases e;cases e
   cases ht
 -- makeInterface
 rename_i t x;split at ht;cases ht;rename_i d x' hu hd hx;cases ht;simp only[kx] at e;split at e;rename_i c' v' mD;split at e;rename_i u hu';cases e;have:=V.vR hu' (ew FR hx mD hc);rw[this];exact Xh R hd fun ms h=>hu ms (by rw[<-h]);cases e;cases e;cases ht
 -- typeAssert
 rename_i x xt t;split at ht;cases ht;rename_i d i x' hu hd hi hx;split at ht;rename_i z hz;split at ht;rename_i zv hzv;cases ht;have Dj:(zeroValue t).run P w=.ok z w:=by simp[zeroValue,typeInfo,hi,hz]
 obtain⟨r1,r2,r3⟩:=ah.Qw (P:=P) (w:=w) hd (fun ms h=>hu ms (by rw[<-h])) xt true;have ZT:cZ η Z zv z:=Cs hzv;have bG:∀{y:V}{u:Value}{b:Bool},cZ η Z y u->cE η Z (.bG [y,.c (.bool b)]) (.tuple #[u,.bool b]):=fun h=>⟨[_,_],rfl,h,⟨by simp,by simp only[au,aF]⟩,trivial⟩;simp only[kx] at e;split at e;rename_i c' hxe;cases e;have Ds:a.eval x=.nilIface:=by have:=(aC FR hx hxe hc).2;simpa only[au,aF] using this
 rw[Ds];exact bq.of (r3 z Dj) (bL.refl R) (bG ZT)
 . rename_i c' t' v' hxe;have Ds:∀ hc:c',a.eval x=.iface t' v':=fun hc=>by have:=(aC FR hx hxe hc).2;simp only[au,aF] at this;exact this.1
   cases hb:Nat.beq t' t with
   | true =>
     have ht':=Nat.eq_of_beq_eq_true hb;subst ht';simp only[hb,cond_true] at e;split at e;rename_i y hy;cases e;rw[Ds hc];exact bq.of (r1 v') (bL.refl R) (bG (Cs hy));cases e
   | false =>
     simp only[hb,cond_false] at e;cases e;rw[Ds hc];exact bq.of (r2 t' v' z (fun h=>by subst h;rw[Nat.beq_refl] at hb;cases hb) Dj) (bL.refl R) (bG ZT)
 cases e;cases ht;cases ht;cases ht
 -- makeSlice
 · split at ht
   rename_i el l' c' hu hl hc';split at ht;rename_i i d hi hd;split at ht;rename_i z hz;obtain⟨⟨h1,h2,h3⟩,ht⟩:=dA ht;cases ht;simp only[kx] at e;split at e
   . rename_i p kl l q kc c hle hce;cases hd0:d.isSl<;>rw[hd0] at e<;>simp only[cond_true,cond_false] at e<;>cases e
     all_goals
      obtain⟨hp,hq,h4,h5,h6⟩:=hc;rw[cI FR hl hle hp,cI FR hc' hce hq];have h7:c<=140737488355328:=by
       have:(1:Int)*c<=(i.bytes:Int)*c:=Int.mul_le_mul_of_nonneg_right (by omega) (by omega);omega
      exact(Tn R hu hi h1 hz h3 h4 h5 h6 h7).alike (af.jT rfl (by rw[Ob.ez,gi];simp))
   cases e;cases ht;cases ht;cases ht
 -- buildSlice
 · rename_i t len parts
   split at ht
   · rename_i el hu
     split at ht
     · rename_i k ps z hk hps hz
       obtain⟨⟨h1,h2,h3,h4⟩,ht⟩:=dA ht;cases ht;subst h2;simp only[kx] at e;split at e;rename_i p vs hvs;obtain⟨hal,e⟩:=ah.ay e;split at e;rename_i ys hys;cases e;obtain⟨us,g1,g2,g3⟩:=AQ FR hps hvs hc;exact TJ R hu hk hz h3 h4 g1 g2 g3 (AZ hal) hys;split at e
       . rename_i c' fs S1 hlit;cases e;obtain⟨us,g1,g2,g3⟩:=AQ FR hps hvs hc.1;have plain:∀ S1 fs,S1=S->fs=(vs.flatMap V.cells).map Fd.c->bq P base η Z S w (do pure (Next.value (<-Instr.buildSlice t ps.length (parts.map fun(x:Nat×Operand)=>(x.1,a.eval x.2))))) (.p (.c (.sl S1.next 0 ps.length k))) (S1.add ⟨el,fs⟩):=by
          rintro S1 fs rfl rfl;exact D5 R hu hk hz h3 h4 g1 g2 g3 (AZ hal)
         unfold litV at hlit;split at hlit;rename_i fs1 hone;cases hlit;exact(plain _ _ rfl rfl).alike (af.jT rfl (by
          show fs.flatMap Fd.cells=((vs.flatMap V.cells).map Fd.c).flatMap Fd.cells;rw[xC];exact KZ hone))
         split at hlit;rename_i d hd;split at hlit;rename_i c2 ys S2 hfz;cases hlit;have hk1:k=1:=by
          split at hd;assumption;cases hd
         subst hk1;obtain⟨Z1,mv,hr⟩:=IB R hfz hc.2 g1;refine bq.before mv ((D5 mv.st hu hk hz h3 h4 hr g2 g3 ?_).alike (af.jT rfl ?_));intro v hv;obtain⟨y,_,rfl⟩:=List.mem_map.1 hv;rfl;rw[Ob.ez,flat_w,gi];cases hlit;exact plain _ _ rfl rfl;cases hlit;exact plain _ _ rfl rfl
       cases e;cases e
     cases ht
   cases ht
 -- append
 . rename_i x y t ts;split at ht
   · rename_i el x' y' hu hx hy
     split at ht
     · rename_i i z d hi hz hd
       have main : ∀ td, P.underlying ts = some td → (∀ k, td ≠ .int k) → (i.size = 1 ∧ z.length = 1 ∧ 1 ≤ i.bytes) → l = .append el i.bytes d x' y' → bq P base η Z S w (do pure (Next.value (← Builtin.append_ #[t, ts] o.type #[a.eval x, a.eval y]))) v S' := by
        rintro td htd hnt ⟨hs,hzl,hby⟩ rfl;have second : ∀{Z : ar}{S : af}(_ : St base η Z S w)(_ : aT n η Z F a.tmps){yw : W}{c : Cd}{v : A}{S' : af}, QT F S el i.bytes d x' yw = some (c, v, S') → c → au η Z yw (a.eval y) → bq P base η Z S w (do pure (Next.value (← Builtin.append_ #[t, ts] o.type #[a.eval x, a.eval y]))) v S' := by
         intro Z S R FR yw c v S' e hc Dk;unfold QT at e;split at e
         · rename_i q ys hsrc
           split at e;rename_i r hxw;cases e;obtain⟨hq,hr,hb0⟩:=hc;have hb:ys.length*i.bytes<=140737488355328:=hb0;have s1:=yU (P:=P) R hsrc hq Dk;rw[(aC FR hx hxw hr).2.nil_eq];have bE:ys.length<=ys.length*i.bytes:=Nat.le_mul_of_pos_right _ hby;have g:=qT (base:=base) (S:=S) (ty:=o.type) R hu htd hnt hi hz (by omega) (by omega) (by rw[hs];exact s1) (by rw[hs,Nat.div_one];simpa using hb) (by rw[hs,Nat.div_one];simp;omega);rw[hs,Nat.div_one,List.length_map] at g;exact g.alike (af.jT rfl (by rw[Ob.ez,gi]));rename_i r m off len sz hxw;obtain⟨hs0,e1⟩:=ah.ay e;have hs1:=oW hs0;subst hs1;clear e;split at e1;rename_i o' ho';obtain⟨K6,e2⟩:=ah.ay e1;have hty:=Nat.eq_of_beq_eq_true K6;clear e1;split at e2;rename_i l' hl';cases e2;obtain⟨hq,hr,hcc⟩:=hc;have s1:=yU (P:=P) R hsrc hq Dk;have bK:o'.cells=l'.map d.w:=Fd.iE hl';have hcc2:(off+len<=l'.length/\(len+ys.length)*i.bytes<=140737488355328)/\(¬o'.bytes∨o'.cells=[]∨(off=0/\len*1=o'.cells.length/\∀ x∈ys.map d.w,∃ n,x=W.int .u8 n)):=by
            cases uN:d.qW with
            | false =>
              rw[uN] at hcc;have hcc:off+len<=l'.length/\(len+ys.length)*i.bytes<=140737488355328:=hcc;exact⟨hcc,(xL bK uN).imp id .inl⟩
            | true =>
              rw[uN] at hcc;have hcc:off=0/\len=l'.length/\(len+ys.length)*i.bytes<=140737488355328:=hcc;refine⟨⟨by omega,hcc.2.2⟩,.inr (.inr ⟨hcc.1,by rw[bK,List.length_map];omega,fun x hx=>?_⟩)⟩;obtain⟨y,_,rfl⟩:=List.mem_map.1 hx;exact D.w_u8 uN y
           obtain⟨⟨ox,hb⟩,hap⟩:=hcc2;have bE:len+ys.length<=(len+ys.length)*i.bytes:=Nat.le_mul_of_pos_right _ hby;have g:=vP (base:=base) (S:=S) (ty:=o.type) R hu htd hnt hi hz (by omega) (by omega) (by rw[hs];exact s1) (by rw[hs];exact(aC FR hx hxw hr).2) ho' (Ob.fY bK) (Ob.qu bK) hty (by rw[hs,bK];simp;exact ox) (by rw[hs];exact hap) (by rw[hs,Nat.div_one];simpa using hb) (by rw[hs,Nat.div_one];simp;omega);rw[hs,Nat.div_one,List.length_map] at g;exact g.alike (af.jT rfl (by rw[Ob.ez,gi,bK];simp[List.map_drop,List.map_take]));cases e2;cases e1;cases e
         cases e
        simp only[kx] at e;split at e;rename_i p yw E0;split at e;rename_i m k l0 n0 hrow;obtain⟨q,oq,om,ro,lw,rfl,hq,hqm,Dg,TH,hcm,hlw,hn0⟩:=QS hrow;subst hn0;split at e;rename_i r hxw;cases e;obtain⟨hp,hr,hl0,hk0,hb0⟩:=hc;have s0:=xK (P:=P) R (sz:=1) (aC FR hy E0 hp).2 hq hqm (by rw[Dg];simp);rw[Dg] at s0;rw[(aC FR hx hxw hr).2.nil_eq];exact Gw (ty:=o.type) R hu htd hnt hi hz (by omega) hs s0 TH hcm hlw hl0 hk0 hb0;rename_i r n' off len sz hxw;split at e;rename_i k' av hto;obtain⟨o1,lE,_,ht1⟩:=oU hto;obtain⟨hb1,e1⟩:=ah.ay e;clear e;simp only[Bool.and_eq_true,Bool.not_eq_true'] at hb1;have hs1:=oW hb1.1;subst hs1;split at e1;rename_i o2 ES;rw[lE] at ES;cases ES;obtain⟨K6,e⟩:=ah.ay e1;clear e1;have hty:=Nat.eq_of_beq_eq_true K6;cases e;obtain⟨hp,hr,ox,hln,hkk,hl0,hk0,hb0⟩:=hc;subst ox;subst hln;subst hkk;have s0:=xK (P:=P) R (sz:=1) (aC FR hy E0 hp).2 hq hqm (by rw[Dg];simp);rw[Dg] at s0;have bE:av.length+1<=(av.length+1)*i.bytes:=Nat.le_mul_of_pos_right _ hby;exact ET (ty:=o.type) R hu htd hnt hi hz (by omega) hs s0 TH hcm hlw hl0 hk0 (aC FR hx hxw hr).2 lE ht1 hty (fun e=>by subst e;exact Bool.noConfusion ((Nat.beq_refl _).symm.trans hb1.2)) hb0 (by omega);cases e1
        · split at e
          rename_i c2 v2 S2 happ;cases e;have Dk:=(aC FR hy E0 hc.1).2;have hc2:=hc.2;unfold appR at happ;simp only at happ;split at happ;rename_i c3 S3 hsh;split at happ;rename_i c4 v4 S4 happ2;cases happ;obtain⟨Z1,mv,_⟩:=Gx R hsh hc2.1;exact bq.before mv (second mv.st (FR.mono (Eta.le.refl _) mv.step.cN) happ2 hc2.2 (au.mono (Eta.le.refl _) mv.step.cN Dk));cases happ;cases happ;cases e
        cases e;split at e;rename_i c2 v2 S2 happ;cases e;exact second R FR happ hc.2 (aC FR hy E0 hc.1).2;cases e;cases e
       split at ht;rename_i htd;obtain⟨h1,ht⟩:=dA ht;exact bq.run (by simp[resolve,invoke,builtin]) (main _ htd (by simp) h1 (Option.some.inj ht).symm);rename_i htd;obtain⟨h1,ht⟩:=dA ht;exact bq.run (by simp[resolve,invoke,builtin]) (main _ htd (by simp) h1 (Option.some.inj ht).symm);rename_i kn htd;split at ht;rename_i zv hzv;obtain⟨⟨h1,h2,h3⟩,ht⟩:=dA ht;cases ht;clear main;simp only[kx] at e;split at e;rename_i p q k n hxe rN;cases e;obtain⟨hp,hq,h4,h5⟩:=hc;have g:=(QJ (ty:=o.type) (k:=k) R hu htd hi h1 hzv h3 h4 h2 h5).alike (xI:=S.add ⟨el,[.a 0 d (List.replicate n.toNat d.zero)]⟩) (af.jT rfl (by rw[Ob.ez,gi];simp));rw[<-cI FR hy rN hq,<-(aC FR hx hxe hp).2.nil_eq] at g;exact bq.run (by simp[resolve,invoke,builtin]) g;cases e;cases ht;cases ht
     · rename_i i z hi hz hd
       split at ht
       rotate_left
       rename_i kn htd;split at ht;rename_i zv hzv;obtain⟨⟨h1,h2,h3,h4⟩,ht⟩:=dA ht;cases ht;simp only[kx] at e;split at e;rename_i p q k n hxe rN;cases e;obtain⟨hp,hq,h5,h6⟩:=hc;obtain⟨g1,g2⟩:=Cw (η:=η) (Z:=Z) h4;have g:=(NM (ty:=o.type) (k:=k) R hu htd hi h1 hzv h3 g1 g2 h5 h2 h6).alike (xI:=S.add ⟨el,[.a 0 .pv (sP (shapes P el) i.size (n.toNat*i.size))]⟩) (af.jT rfl (by rw[Ob.ez,gi];rfl));rw[<-cI FR hy rN hq,<-(aC FR hx hxe hp).2.nil_eq] at g;exact bq.run (by simp[resolve,invoke,builtin]) g;cases e;cases ht;cases ht
       · rename_i htd
         obtain⟨⟨h1,h2,h3⟩,ht⟩:=dA ht;cases ht;have key : bq P base η Z S w (do pure (Next.value (← Builtin.append_ #[t, ts] o.type #[a.eval x, a.eval y]))) v S' := by
          simp only[kx] at e;split at e;rename_i p yw E0;split at e;rename_i q ys k hsrc;split at e;rename_i r hxw;cases e;obtain⟨hp,hq,hr,hb0⟩:=hc;have hb:k*i.bytes<=140737488355328:=hb0;obtain⟨s1,hk⟩:=K1 (P:=P) R h1 hsrc hq (aC FR hy E0 hp).2;have hdiv:(ys.map PV.w).length/i.size=k:=by rw[List.length_map,hk];exact Nat.mul_div_cancel _ (by omega)
          rw[(aC FR hx hxw hr).2.nil_eq];have bE:k<=k*i.bytes:=Nat.le_mul_of_pos_right _ h3;have g:=qT (base:=base) (S:=S) (ty:=o.type) R hu htd (by simp) hi hz h2 h1 s1 (by rw[hdiv];exact hb) (by rw[hdiv];omega);rw[hdiv] at g;exact g.alike (af.jT rfl (by rw[Ob.ez,gi];rfl));rename_i r m off len sz hxw;obtain⟨hs0,e1⟩:=ah.ay e;have hs1:=Nat.eq_of_beq_eq_true hs0;subst hs1;clear e;split at e1;rename_i o' ho';obtain⟨K6,e2⟩:=ah.ay e1;have hty:=Nat.eq_of_beq_eq_true K6;clear e1;split at e2;rename_i l' hl';cases e2;obtain⟨hp,hq,hr,hcc⟩:=hc;have hcc:off+len*i.size<=List.length (α:=PV) l'/\(len+k)*i.bytes<=140737488355328:=hcc;obtain⟨s1,hk⟩:=K1 (P:=P) R h1 hsrc hq (aC FR hy E0 hp).2;have hdiv:(ys.map PV.w).length/i.size=k:=by rw[List.length_map,hk];exact Nat.mul_div_cancel _ (by omega)
          have bK:o'.cells=l'.map (D.w .pv):=Fd.iE hl';have bE:len+k<=(len+k)*i.bytes:=Nat.le_mul_of_pos_right _ h3;have g:=vP (base:=base) (S:=S) (ty:=o.type) R hu htd (by simp) hi hz h2 h1 s1 (aC FR hx hxw hr).2 ho' (Ob.fY bK) (Ob.qu bK) hty (by rw[bK,List.length_map];exact hcc.1) ((xL bK rfl).imp id .inl) (by rw[hdiv];exact hcc.2) (by rw[hdiv];omega);rw[hdiv] at g;exact g.alike (af.jT rfl (by rw[Ob.ez,gi,bK,<-List.map_drop,<-List.map_take,List.map_append];rfl));cases e2;cases e1;cases e;cases e;cases e
         exact bq.run (by simp[resolve,invoke,builtin]) key
     cases ht
   cases ht
 -- copy
 rename_i x y t ts;split at ht
 · rename_i el x' y' hu hx hy
   split at ht;rename_i k d hk hd;obtain⟨hk1,ht⟩:=dA ht;subst hk1;cases ht;simp only[kx] at e;split at e;rename_i p yw E0;split at e;rename_i q ys hsrc;split at e;rename_i r m off len sz hxw;obtain⟨D9,e1⟩:=ah.ay e;simp only[Bool.and_eq_true,Bool.not_eq_true'] at D9;have hs1:=oW D9.1;subst hs1;clear e;split at e1;rename_i o' ho';split at e1;rename_i l' hl';cases e1;obtain⟨hp,hq,hr,Xl⟩:=hc;have ox:off+len<=l'.length:=Xl;have s1:=yU (P:=P) R hsrc hq (aC FR hy E0 hp).2;have bK:o'.cells=l'.map d.w:=Fd.iE hl';have g:=Tw (base:=base) (S:=S) (ty:=o.type) (ts:=#[t,ts]) R rfl hu hk s1 (by omega) (aC FR hx hxw hr).2 ho' (Ob.fY bK) (xL bK D9.2) (Ob.qu bK) (by rw[bK];simp;exact ox);rw[Nat.div_one,List.length_map,Nat.mul_one] at g;refine bq.run (by simp[resolve,invoke,builtin]) (g.alike (af.qv rfl ?_));rw[Ob.ez,gi,bK,<-List.map_take];exact IE (by simp;omega);cases e1;cases e1;cases e;cases e;cases e;cases ht
 cases ht
 -- clear
 rename_i x t;split at ht;rename_i el x' hu hx;split at ht;rename_i i d hi hd;split at ht;rename_i z hz;obtain⟨hzz,ht⟩:=dA ht;cases ht;simp only[kx] at e;split at e;rename_i p m off len sz hxw;obtain⟨D9,e1⟩:=ah.ay e;simp only[Bool.and_eq_true,Bool.not_eq_true'] at D9;have hs1:=oW D9.1;subst hs1;clear e;split at e1;rename_i o' ho';split at e1;rename_i l' hl';cases e1;obtain⟨hp,Xl⟩:=hc;have ox:off+len<=l'.length:=Xl;have bK:o'.cells=l'.map d.w:=Fd.iE hl';have g:=QM (base:=base) (S:=S) (ty:=o.type) (ts:=#[t]) R rfl hu hi hz hzz (aC FR hx hxw hp).2 ho' (Ob.fY bK) (xL bK D9.2) (Ob.qu bK) (by rw[bK];simp;exact ox);refine bq.run (by simp[resolve,invoke,builtin]) (g.alike (af.qv rfl ?_));rw[Ob.ez,gi,bK];have:=IE (d:=d) (l:=l') (ys:=List.replicate len d.zero) (off:=off) (by simp;omega);rw[this,List.map_replicate];cases e1;cases e1;cases e;cases ht;cases ht;cases ht
 -- convert
 rename_i s d x;split at ht;rename_i el x' hs hd hx;split at ht;rename_i he;cases ht;simp only[kx] at e;split at e
 . rename_i c' sv ZU;cases hn:Nat.blt S.next 2 with
   | true =>
     rw[hn] at e;cases e;rw[nN FR hx ZU hc];exact Xi R hs hd he sv
   | false =>
     rw[hn] at e;cases e;rw[nN FR hx ZU hc.1];exact Xj R hs hd he sv hc.2
 cases e;cases ht;rename_i el x' hs hd hx;split at ht;rename_i he;cases ht;simp only[kx] at e;split at e;rename_i p y rN;split at e;cases e;rename_i y' hns;split at e;rename_i q l hsrc;cases e;have hw:=(aC FR hx rN hc.1).2;obtain⟨hs0,h1,h2⟩:=QU (P:=P) R hsrc hc.2 hw;obtain⟨u,hu1,hu2⟩:=KR (P:=P) hs hd he hs0 h1 h2;exact⟨_,u,w,η,Z,hu1,.inl rfl,bL.refl R,hu2⟩;split at e;rename_i q l hsrc;cases e;have hw:=(aC FR hx rN hc.1).2;obtain⟨h1,h2⟩:=QV (S:=S) (fun s hh=>hns s hh) hsrc hw;obtain⟨u,hu1,hu2⟩:=KR (P:=P) hs hd he (yU (P:=P) R hsrc hc.2 hw) h1 h2;exact⟨_,u,w,η,Z,hu1,.inl rfl,bL.refl R,hu2⟩;cases e;cases e;cases ht;cases ht
 -- len of a map
 rename_i x t;split at ht;rename_i kd vd x' hd hx;cases ht;simp only[kx] at e;split at e;rename_i p n hxe;split at e;rename_i o1 lE;split at e;rename_i l hl;cases e;refine bq.run (by simp[resolve,invoke,builtin]) (TM (ty:=o.type) R hd lE hl (aC FR hx hxe hc).2);cases e;cases e;cases e;cases ht;cases ht
end
def Cy(k:Nat):List Ob->List (Nat×Ob)
 | []=>[]
 | o::l=>(k,o)::Cy (k+1) l
def af.ofList(l:List Ob):af:={ next:=l.length,ai:=Cy 0 l }
theorem IK:∀(l:List Ob)(k n:Nat),find (Cy k l) n=if n<k then none else l[n-k]?
 | [],k,n=>by simp[Cy,find]
 | o :: l, k, n => by
   simp only[Cy,find];by_cases h:k=n;subst h;simp;rw[if_neg h,IK l (k+1) n];by_cases h1:n<k;rw[if_pos (by omega),if_pos h1];rw[if_neg (by omega),if_neg h1];have:n-k=(n-(k+1))+1:=by omega
   rw[this];simp
theorem af.bH(l:List Ob)(n:Nat):(af.ofList l).get n=l[n]?:=by
 show find (Cy 0 l) n=_;rw[IK];simp
def xP(g:Nat->Option Nat):List (Nat×Nat)->Option (List (Nat×Nat))
 | []=>some []
 | (n,o)::l=>match g n,xP g l with|some m,some r=>some ((m,o)::r)|_,_=>none
def W.ren(g:Nat->Option Nat):W->Option W
 | .ptr n off=>match g n with|some m=>some (.ptr m off)|none=>none
 | .pe n off i=>match g n with|some m=>some (.pe m off i)|none=>none
 | .sl n off len sz=>match g n with|some m=>some (.sl m off len sz)|none=>none
 | .func f caps=>match xP g caps with|some r=>some (.func f r)|none=>none
 | .yield l=>some (.yield l)
 | .dm=>none
 | .mp n=>match g n with|some m=>some (.mp m)|none=>none
 | .ba n=>match g n with|some m=>some (.ba m)|none=>none
 | .pG f n off=>match g n with|some m=>some (.pG f m off)|none=>none
 | .row n i len=>match g n with|some m=>some (.row m i len)|none=>none
 | .qP n i j=>match g n with|some m=>some (.qP m i j)|none=>none
 | x=>some x
def E1(g:Nat->Option Nat):List W->Option (List W)
 | []=>some []
 | x::l=>match x.ren g,E1 g l with|some y,some r=>some (y::r)|_,_=>none
def V.ren(g:Nat->Option Nat):V->Option V
 | .c x=>match x.ren g with|some y=>some (.c y)|none=>none
 | .agg cs=>match E1 g cs with|some r=>some (.agg r)|none=>none
def vS(g:Nat->Option Nat):List V->Option (List V)
 | []=>some []
 | x::l=>match x.ren g,vS g l with|some y,some r=>some (y::r)|_,_=>none
def A.ren(g:Nat->Option Nat):A->Option A
 | .p v=>match v.ren g with|some y=>some (.p y)|none=>none
 | .bG vs=>match vS g vs with|some r=>some (.bG r)|none=>none
 | .cond _ _=>none
 | .dec b=>some (.dec b)
def Fd.ren(s:Bool)(g:Nat->Option Nat):Fd->Option Fd
 | .c x=>match x.ren g with|some y=>some (.c y)|none=>bif s then none else some (.c .dm)
 | .a n d l=>some (.a n d l)
 | .m kd vd l=>some (.m kd vd l)
 | .b l=>some (.b l)
def E2(s:Bool)(g:Nat->Option Nat):List Fd->Option (List Fd)
 | []=>some []
 | x::l=>match x.ren s g,E2 s g l with|some y,some r=>some (y::r)|_,_=>none
def Fd.tJ:Fd->Bool
 | .c .mh=>true
 | .m _ _ _=>true
 | _=>false
def Ob.ren(g:Nat->Option Nat)(o:Ob):Option Ob:=match E2 (o.fs.any Fd.tJ) g o.fs with|some fs=>some ⟨o.ty,fs⟩|none=>none
def iq(g:Nat->Option Nat):List Ob->Option (List Ob)
 | []=>some []
 | x::l=>match x.ren g,iq g l with|some y,some r=>some (y::r)|_,_=>none
def W.d9:W->Bool
 | .ro _ _ | .rp _ _ | .rd _ _ | .re _ _ _ | .rs _ _=>false
 | _=>true
def D.plain:D->Bool
 | .sl _=>false
 | .pv=>false
 | _=>true
def V.d9:V->Bool
 | .c x=>x.d9
 | .agg cs=>cs.all W.d9
def A.d9:A->Bool
 | .p v=>v.d9
 | .bG vs=>vs.all V.d9
 | .cond _ _=>false
 | .dec _=>true
def Fd.d9:Fd->Bool
 | .c x=>x.d9
 | .a _ d _=>d.plain
 | .m kd vd _=>kd.plain&&vd.plain
 | .b _=>true
def Ob.d9(o:Ob):Bool:=o.fs.all Fd.d9
section
variable {η aB:Eta} {Z Z':ar} {g:Nat->Option Nat}
theorem K7(h:∀ n m,g n=some m->∀ p,η n=some p->aB m=some p):∀{caps r:List (Nat×Nat)}{vs:List Value},xP g caps=some r->aI (dJ η) caps vs->aI (dJ aB) r vs
 | [],r,vs,e,hl=>by simp only[xP] at e;cases e;cases vs with|nil=>trivial|cons _ _=>exact hl.elim
 | (n, o) :: l, r, vs, e, hl => by
   simp only[xP] at e;split at e
   . rename_i m r' hm hr;cases e;cases vs with
     | nil=>exact hl.elim
     | cons v vs =>
       obtain⟨⟨p,hp,hv⟩,hl⟩:=hl;exact⟨⟨p,h n m hm p hp,hv⟩,K7 h hr hl⟩
   cases e
theorem W.lP(h:∀ n m,g n=some m->∀ p,η n=some p->aB m=some p){x y:W}(hz:x.d9=true∨Z.le Z')(e:x.ren g=some y){v:Value}(r:au η Z x v):au aB Z' y v:=by
 have frozen:∀ x:W,x.d9=false->x.ren g=some x:=by intro x hx;cases x<;>simp_all[W.d9,W.ren]
 cases x with
 | ptr n off =>
   simp only[W.ren] at e;split at e;rename_i m hm;cases e;obtain⟨p,hp,hv⟩:=r;exact⟨p,h n m hm p hp,hv⟩;cases e
 | pe n off i =>
   simp only[W.ren] at e;split at e;rename_i m hm;cases e;obtain⟨p,hp,hv⟩:=r;exact⟨p,h n m hm p hp,hv⟩;cases e
 | sl n off len sz =>
   simp only[W.ren] at e;split at e;rename_i m hm;cases e;rcases r with r|⟨p,c,a,hp,r⟩;exact .inl r;exact .inr ⟨p,c,a,h n m hm p hp,r⟩;cases e
 | func f caps =>
   simp only[W.ren] at e;split at e;rename_i r' hr;cases e;obtain⟨vs,hv,hl⟩:=r;exact⟨vs,hv,K7 h hr hl⟩;cases e
 | yield l=>cases e;exact r
 | dm=>cases e
 | mh=>cases e;exact r
 | mp n =>
   simp only[W.ren] at e;split at e;rename_i m hm;cases e;obtain⟨p,hp,hv⟩:=r;exact⟨p,h n m hm p hp,hv⟩;cases e
 | ba n =>
   simp only[W.ren] at e;split at e;rename_i m hm;cases e;obtain⟨p,hp,hv⟩:=r;exact⟨p,h n m hm p hp,hv⟩;cases e
 | pG f n off =>
   simp only[W.ren] at e;split at e;rename_i m hm;cases e;obtain⟨u,hu,p,hp,hv⟩:=r;exact⟨u,hu,p,h n m hm p hp,hv⟩;cases e
 | row n i len =>
   simp only[W.ren] at e;split at e;rename_i m hm;cases e;obtain⟨p,r0,c,ad,hp,hv⟩:=r;exact⟨p,r0,c,ad,h n m hm p hp,hv⟩;cases e
 | qP n i j =>
   simp only[W.ren] at e;split at e;rename_i m hm;cases e;obtain⟨p,r0,hp,hv⟩:=r;exact⟨p,r0,h n m hm p hp,hv⟩;cases e
 | th k av=>cases e;exact r
 | nC n=>cases e;exact r
 | bool b=>cases e;exact r
 | int k n=>cases e;exact r
 | str s=>cases e;exact r
 | dN=>cases e;exact r
 | nil=>cases e;exact r
 | nM=>cases e;exact r
 | lT=>cases e;exact r
 | val _=>cases e;exact r
 | ro _ _=>cases e;rcases hz with hz|hz;cases hz;exact aF.mono hz r
 | rp _ _=>cases e;rcases hz with hz|hz;cases hz;exact aF.mono hz r
 | rd _ _=>cases e;rcases hz with hz|hz;cases hz;exact aF.mono hz r
 | rs _ _=>cases e;rcases hz with hz|hz;cases hz;exact aF.mono hz r
 | Ay _=>cases e;exact r
 | re _ _ _=>cases e;rcases hz with hz|hz;cases hz;exact aF.mono hz r
theorem W.Ea{x y:W}(e:x.ren g=some y):y≠.dm:=by
 cases x<;>simp only[W.ren] at e<;>first
  | (cases e;done)
  | (cases e;simp;done)
  | (split at e<;>cases e;simp)
theorem W.ren_mh{x:W}(e:x.ren g=some .mh):x=.mh:=by
 cases x<;>simp only[W.ren] at e<;>first
  | rfl
  | (cases e;done)
  | (split at e<;>cases e)
theorem W.ren_th{x:W}{k:Nat}{av:List (List Int)}(e:x.ren g=some (.th k av)):x=.th k av:=by
 cases x<;>simp only[W.ren] at e<;>first
  | (cases e;rfl)
  | (cases e;done)
  | (split at e<;>cases e)
theorem IL(h:∀ n m,g n=some m->∀ p,η n=some p->aB m=some p):∀{l r:List W}{vs:List Value},(l.all W.d9=true∨Z.le Z')->E1 g l=some r->aI (au η Z) l vs->aI (au aB Z') r vs/\∀ x∈r,x≠.dm
 | [],r,vs,_,e,hl=>by simp only[E1] at e;cases e;cases vs with|nil=>exact⟨trivial,by simp⟩|cons _ _=>exact hl.elim
 | x :: l, r, vs, hz, e, hl => by
   simp only[E1] at e;split at e
   . rename_i y r' hy hr;cases e;cases vs with
     | nil=>exact hl.elim
     | cons v vs =>
       simp only[List.all_cons,Bool.and_eq_true] at hz;obtain⟨a,b⟩:=IL h (hz.imp (·.2) id) hr hl.2;refine⟨⟨W.lP h (hz.imp (·.1) id) hy hl.1,a⟩,fun z hz'=>?_⟩;rcases List.mem_cons.1 hz' with rfl|hz';exact W.Ea hy;exact b z hz'
   cases e
theorem V.lP(h:∀ n m,g n=some m->∀ p,η n=some p->aB m=some p){x y:V}(hz:x.d9=true∨Z.le Z')(e:x.ren g=some y){v:Value}(r:cZ η Z x v):cZ aB Z' y v:=by
 cases x with
 | c x =>
   simp only[V.ren] at e;split at e;rename_i y' hy;cases e;exact⟨W.Ea hy,W.lP h hz hy r.2⟩;cases e
 | agg cs =>
   simp only[V.ren] at e;split at e;rename_i r' hr;cases e;obtain⟨vs,hv,_,hl⟩:=r;obtain⟨a,b⟩:=IL h hz hr hl;exact⟨vs,hv,b,a⟩;cases e
theorem qy(h:∀ n m,g n=some m->∀ p,η n=some p->aB m=some p):∀{l r:List V}{vs:List Value},(l.all V.d9=true∨Z.le Z')->vS g l=some r->aI (cZ η Z) l vs->aI (cZ aB Z') r vs
 | [],r,vs,_,e,hl=>by simp only[vS] at e;cases e;cases vs with|nil=>trivial|cons _ _=>exact hl.elim
 | x :: l, r, vs, hz, e, hl => by
   simp only[vS] at e;split at e
   . rename_i y r' hy hr;cases e;cases vs with
     | nil=>exact hl.elim
     | cons v vs =>
       simp only[List.all_cons,Bool.and_eq_true] at hz;exact⟨V.lP h (hz.imp (·.1) id) hy hl.1,qy h (hz.imp (·.2) id) hr hl.2⟩
   cases e
theorem A.lP(h:∀ n m,g n=some m->∀ p,η n=some p->aB m=some p){x y:A}(hz:x.d9=true∨Z.le Z')(e:x.ren g=some y){v:Value}(r:cE η Z x v):cE aB Z' y v:=by
 cases x with
 | p x =>
   simp only[A.ren] at e;split at e;rename_i y' hy;cases e;exact V.lP h hz hy r;cases e
 | bG vs =>
   simp only[A.ren] at e;split at e;rename_i r' hr;cases e;obtain⟨us,hv,hl⟩:=r;exact⟨us,hv,qy h hz hr hl⟩;cases e
 | cond _ _=>cases e
 | dec b=>cases e;exact r
theorem D.Q0(d:D)(y:d.ty):(d.w y).ren g=some (d.w y):=by cases d<;>first|rfl|(cases y<;>rfl)
theorem D.Gz{d:D}(h:d.plain=true)(y:d.ty):(d.w y).d9=true:=by cases d<;>first|rfl|cases h
theorem K8{kd vd:D}:∀{l:List (kd.ty×vd.ty)}{i:Nat}{z:W},(pH kd vd l)[i]? = some z->z.ren g=some z/\(kd.plain=true->vd.plain=true->z.d9=true)
 | [],i,z,h=>by simp[pH] at h
 | (k,v)::l,0,z,h=>by simp[pH] at h;subst h;exact⟨D.Q0 _ _,fun h1 _=>D.Gz h1 _⟩
 | (k,v)::l,1,z,h=>by simp[pH] at h;subst h;exact⟨D.Q0 _ _,fun _ h2=>D.Gz h2 _⟩
 | (k,v)::l,i+2,z,h=>K8 (l:=l) (i:=i) (by simpa[pH] using h)
theorem Dt{s : Bool} : ∀{fs r : List Fd}, E2 s g fs = some r → (r.flatMap Fd.cells).length = (fs.flatMap Fd.cells).length ∧ ∀(i : Nat) y, (r.flatMap Fd.cells)[i]? = some y → ∃ x, (fs.flatMap Fd.cells)[i]? = some x ∧ (x.ren g = some y ∨ (s = false ∧ y = .dm ∧ x.ren g = none)) ∧ (fs.all Fd.d9 = true → x.d9 = true)
 | [],r,e=>by simp only[E2] at e;cases e;exact⟨rfl,by simp⟩
 | f :: fs, r, e => by
   simp only[E2] at e;split at e;rename_i f' r' hf hr;cases e;obtain⟨h1,h2⟩:=Dt hr;have h3 : f'.cells.length = f.cells.length ∧ ∀(i : Nat) y, f'.cells[i]? = some y → ∃ x, f.cells[i]? = some x ∧ (x.ren g = some y ∨ (s = false ∧ y = .dm ∧ x.ren g = none)) ∧ (f.d9 = true → x.d9 = true) := by
    cases f with
    | c x =>
      simp only[Fd.ren] at hf;split at hf
      . rename_i y hy;cases hf;refine⟨rfl,fun i z hz=>?_⟩;cases i with
        | zero=>simp[Fd.cells] at hz ⊢;subst hz;exact⟨.inl hy,fun h=>h⟩
        | succ i=>simp[Fd.cells] at hz
      rename_i hnone;cases s with
      | true=>cases hf
      | false =>
        cases hf;refine⟨rfl,fun i z hz=>?_⟩;cases i with
        | zero=>simp[Fd.cells] at hz ⊢;subst hz;exact⟨.inr ⟨rfl,hnone⟩,fun h=>h⟩
        | succ i=>simp[Fd.cells] at hz
    | a n d l =>
      simp only[Fd.ren] at hf;cases hf;refine⟨rfl,fun i z hz=>⟨z,hz,?_,?_⟩⟩
      . simp only[Fd.cells,List.getElem?_map] at hz;cases hh:l[i]? with
        | none=>rw[hh] at hz;cases hz
        | some y=>rw[hh] at hz;cases hz;exact .inl (D.Q0 _ _)
      intro hp;simp only[Fd.cells,List.getElem?_map] at hz;cases hh:l[i]? with
      | none=>rw[hh] at hz;cases hz
      | some y=>rw[hh] at hz;cases hz;exact D.Gz hp _
    | m kd vd l =>
      simp only[Fd.ren] at hf;cases hf;refine⟨rfl,fun i z hz=>⟨z,hz,?_⟩⟩;cases i with
      | zero=>simp[Fd.cells] at hz;subst hz;exact⟨.inl rfl,fun _=>rfl⟩
      | succ i =>
        have hz':(pH kd vd l)[i]? = some z:=by simpa[Fd.cells] using hz
        obtain⟨h5,h6⟩:=K8 (g:=g) hz';exact⟨.inl h5,fun hp=>by simp only[Fd.d9,Bool.and_eq_true] at hp;exact h6 hp.1 hp.2⟩
    | b l =>
      simp only[Fd.ren] at hf;cases hf;refine⟨rfl,fun i z hz=>⟨z,hz,?_⟩⟩;simp only[Fd.cells,List.getElem?_map] at hz;cases hh:l[i]? with
      | none=>rw[hh] at hz;cases hz
      | some y=>rw[hh] at hz;cases hz;exact⟨.inl rfl,fun _=>rfl⟩
   simp only[List.flatMap_cons,List.length_append,List.all_cons,Bool.and_eq_true];refine⟨by omega,fun i y hy=>?_⟩;by_cases hi:i<f'.cells.length;rw[List.getElem?_append_left hi] at hy;rw[List.getElem?_append_left (by omega)];obtain⟨x,a,b,c⟩:=h3.2 i y hy;exact⟨x,a,b,fun hh=>c hh.1⟩;rw[List.getElem?_append_right (by omega)] at hy;rw[List.getElem?_append_right (by omega),<-h3.1];obtain⟨x,a,b,c⟩:=h2 _ y hy;exact⟨x,a,b,fun hh=>c hh.2⟩;cases e
theorem Ob.vT{o o':Ob}(e:o.ren g=some o'):o'.ty=o.ty/\o'.cells.length=o.cells.length/\∀(i:Nat) y,o'.cells[i]? = some y->∃ x,o.cells[i]? = some x/\(x.ren g=some y∨(o.fs.any Fd.tJ=false/\y=.dm/\x.ren g=none))/\(o.d9=true->x.d9=true):=by
 unfold Ob.ren at e;split at e;rename_i fs hfs;cases e;obtain⟨a,b⟩:=Dt hfs;exact⟨rfl,a,b⟩;cases e
theorem Q5{o:Ob}(h:o.isMap):o.fs.any Fd.tJ=true:=by
 have hm:W.mh∈o.fs.flatMap Fd.cells:=List.mem_of_getElem? h;obtain⟨f,hf,hx⟩:=List.mem_flatMap.1 hm;rw[List.any_eq_true];refine⟨f,hf,?_⟩;cases f with
 | c y=>simp[Fd.cells] at hx;subst hx;rfl
 | a n d l =>
   simp only[Fd.cells,List.mem_map] at hx;obtain⟨y,_,hy⟩:=hx;exact absurd hy (D.w_mh d y)
 | m kd vd l=>rfl
 | b l =>
   simp only[Fd.cells,List.mem_map] at hx;obtain⟨y,_,hy⟩:=hx;cases hy
theorem fk.ren(h:∀ n m,g n=some m->∀ p,η n=some p->aB m=some p){o o':Ob}(hz:o.d9=true∨Z.le Z')(e:o.ren g=some o'){p:ck}{w:World}(L:fk η Z o p w):fk aB Z' o' p w:=by
 obtain⟨e1,e2,e3⟩:=Ob.vT e;have hm1:o'.isMap->o.isMap:=fun hm=>by
  obtain⟨x,hx,hxy,_⟩:=e3 0 _ hm;rcases hxy with hxy|⟨_,hxy,_⟩;rw[W.ren_mh hxy] at hx;exact hx;cases hxy
 have ht1:∀ k av,o'.kQ k av->o.kQ k av:=fun k av hm=>by
  obtain⟨x,hx,hxy,_⟩:=e3 0 _ hm;rcases hxy with hxy|⟨_,hxy,_⟩;rw[W.ren_th hxy] at hx;exact hx;cases hxy
 have hi2:o.gF->o'.gF:=fun hm=>by
  obtain⟨s,hs,hsp⟩:=Ob.Tc hm;have h0:0<o'.cells.length:=by rw[e2];exact(List.getElem?_eq_some_iff.1 hs).1
  obtain⟨x,hx,hxy,_⟩:=e3 0 _ (List.getElem?_eq_getElem h0);have:x=s:=Option.some.inj (hx.symm.trans hs);subst this;rcases hm with hm|⟨k,av,hm⟩;have:x=.mh:=Option.some.inj (hx.symm.trans hm);subst this;have hxy:(W.mh).ren g=some o'.cells[0]:=hxy.elim id fun h=>by cases h.2.2
  have:o'.cells[0]=.mh:=(Option.some.inj hxy).symm;left;show o'.cells[0]? = some .mh;rw[List.getElem?_eq_getElem h0,this];have:x=.th k av:=Option.some.inj (hx.symm.trans hm);subst this;have hxy:(W.th k av).ren g=some o'.cells[0]:=hxy.elim id fun h=>by cases h.2.2
  have:o'.cells[0]=.th k av:=(Option.some.inj hxy).symm;refine .inr ⟨k,av,?_⟩;show o'.cells[0]? = some (.th k av);rw[List.getElem?_eq_getElem h0,this]
 refine⟨fun hm=>?_,fun hm=>by rw[e2];exact L.size fun h=>hm (hi2 h),fun k av hm=>by rw[e1];exact L.tabs k av (ht1 k av hm),fun hm=>?_⟩;obtain⟨c,fz,a,b,d,f⟩:=L.there fun h=>hm (hi2 h);have f':Az c.size o' p fz:=by
  rcases f with f|⟨hB,ht⟩|⟨hB,ht⟩;exact .inl f;refine .inr (.inl ⟨fun y hy=>?_,by rw[e2];exact ht⟩);obtain⟨i,hi⟩:=List.getElem?_of_mem hy;obtain⟨x,hx,hxy,_⟩:=e3 i y hi;obtain⟨n,rfl⟩:=hB x (List.mem_of_getElem? hx);have hxy:(W.int .u8 n).ren g=some y:=hxy.elim id fun h=>by cases h.2.2
  exact⟨n,(Option.some.inj hxy).symm⟩;refine .inr (.inr ⟨⟨fun h0=>hB.1 (List.eq_nil_of_length_eq_zero (by rw[<-e2,h0];rfl)),fun y hy=>?_⟩,ht⟩);obtain⟨i,hi⟩:=List.getElem?_of_mem hy;obtain⟨x,hx,hxy,_⟩:=e3 i y hi;obtain⟨n,rfl⟩:=hB.2 x (List.mem_of_getElem? hx);have hxy:(W.nC n).ren g=some y:=hxy.elim id fun h=>by cases h.2.2
  exact⟨n,(Option.some.inj hxy).symm⟩
 refine⟨c,fz,by rw[e1];exact a,b,fun i y hy=>?_,f'⟩;obtain⟨x,hx,hxy,hzf⟩:=e3 i y hy;obtain⟨v,hv,hr,h1⟩:=d i x hx;rcases hxy with hxy|⟨_,rfl,_⟩;exact⟨v,hv,W.lP h (hz.imp hzf id) hxy hr,h1⟩;exact⟨v,hv,trivial,h1⟩;obtain⟨es,k,a,b⟩:=L.maps (hm1 hm);refine⟨es,k,a,eW.map (g:=fun x y=>x.ren g=some y/\(o.d9=true->x.d9=true)) (fun x y v hxy hr=>⟨W.Ea hxy.1,W.lP h (hz.imp hxy.2 id) hxy.1 hr⟩) (by simp[e2]) (fun i y hy=>?_) b⟩;rw[<-List.drop_one,List.getElem?_drop] at hy;obtain⟨x,hx,hxy,hzf⟩:=e3 _ y hy;have hxy:x.ren g=some y:=hxy.elim id fun h=>by rw[Q5 (hm1 hm)] at h;cases h.1
 exact⟨x,by rw[<-List.drop_one,List.getElem?_drop];exact hx,hxy,hzf⟩
end
theorem kC{g:Nat->Option Nat}:∀{l r:List Ob},iq g l=some r->r.length=l.length/\∀(i:Nat) o',r[i]? = some o'->∃ o,l[i]? = some o/\o.ren g=some o'
 | [],r,e=>by simp only[iq] at e;cases e;exact⟨rfl,by simp⟩
 | x :: l, r, e => by
   simp only[iq] at e;split at e
   . rename_i y r' hy hr;cases e;obtain⟨a,b⟩:=kC hr;refine⟨by simp[a],fun i o' ho=>?_⟩;cases i with
     | zero=>simp at ho;subst ho;exact⟨x,rfl,hy⟩
     | succ i=>simp at ho ⊢;exact b i o' ho
   cases e
def ZV:List Int:=[0,1,56,2,57,49,28,3,61,58,42,50,38,29,17,4,62,47,59,36,45,43,51,22,53,39,33,30,24,18,12,5,63,55,48,27,60,41,37,16,46,35,44,21,52,32,23,11,54,26,40,15,34,20,31,10,25,14,19,9,13,8,7,6]
def ZW:List Int:=[0,1,28,2,29,14,24,3,30,22,20,15,25,17,4,8,31,27,13,23,21,19,16,7,26,12,18,6,11,5,10,9]
def Q6:List Int:=[1,10,100,1000,10000,100000,1000000,10000000,100000000,1000000000,10000000000,100000000000,1000000000000,10000000000000,100000000000000,1000000000000000,10000000000000000,100000000000000000,1000000000000000000,10000000000000000000]
def Q7:List (String×IntKind×List Int):=[("math/bits.deBruijn32tab",.u8,ZW),("math/bits.deBruijn64tab",.u8,ZV),("internal/strconv.uint64pow10",.u64,Q6)]
def gj (P:Program) (Z:ar):Prop:=(∀ x∈Q7,∀ g,P.globalNamed x.1=some g->Z g=some (x.2.2.map (Value.int x.2.1)).toArray)/\∀ g,P.globalNamed "strconv.ErrRange" = some g->∃ c t u,Z g=some c/\c[0]? = some (.iface t u)
theorem gj.mono{P:Program}{Z Z':ar}(h:gj P Z)(hz:Z.le Z'):gj P Z':=⟨fun x hx g hg=>hz _ _ (h.1 x hx g hg),fun g hg=>let ⟨c,t,u,a,b⟩:=h.2 g hg;⟨c,t,u,hz _ _ a,b⟩⟩
def K9(P:Program)(f:FuncId)(args:List A)(S:af)(r:A)(S':af):Prop :=
 ∀ base η Z w vs,St base η Z S w->aI (cE η Z) args vs->gj P Z->CallsIn Fence.wide 0 P f vs.toArray w fun e w'=>∃ u aB Z',e=.returned u/\bL base η Z S w aB Z' S' w'/\cE aB Z' r u
structure gY(aj base:Nat)(η:Eta)(Z:ar)(S:af)(w:World)(aB:Eta)(Z':ar)(S':af)(w':World):Prop where
 le:∀ n p,n<aj->η n=some p->aB n=some p
 st:St base aB Z' S' w'
 step:Step η Z S w aB Z' S' w'
def eX(P:Program)(f:FuncId)(aj:Nat)(args:List A)(ai:List Ob)(r:A)(aV:List Ob):Prop :=
 ∀ base η Z w vs,St base η Z (.ofList ai) w->aI (cE η Z) args vs->gj P Z->CallsIn Fence.wide 0 P f vs.toArray w fun e w'=>∃ u aB Z',e=.returned u/\gY aj base η Z (.ofList ai) w aB Z' (.ofList aV) w'/\cE aB Z' r u
def br(P:Program)(f:FuncId)(args:List A)(ai:List Ob)(r:A)(aV:List Ob):Prop:=eX P f ai.length args ai r aV
def idxOf:List Nat->Nat->Option Nat
 | [],_=>none
 | x::l,n=>if x=n then some 0 else match idxOf l n with|some i=>some (i+1)|none=>none
theorem iw:∀{l:List Nat}{n i:Nat},idxOf l n=some i->l[i]? = some n
 | [],_,_,e=>by cases e
 | x :: l, n, i, e => by
   simp only[idxOf] at e;split at e;rename_i h;cases e;subst h;rfl;split at e;rename_i j hj;cases e;simpa using iw hj;cases e
theorem uj:∀{l:List Nat}{n:Nat},idxOf l n=none->∀(i:Nat),l[i]?≠some n
 | [],_,_,i=>by simp
 | x :: l, n, e, i => by
   simp only[idxOf] at e;split at e;cases e;rename_i hne;split at e;cases e;rename_i hj;cases i with
   | zero=>simp;exact hne
   | succ i=>simpa using uj hj i
theorem Xm{l:List Nat}(hnd:l.Nodup){n i:Nat}(h:l[i]? = some n):idxOf l n=some i:=by
 cases e:idxOf l n with
 | none=>exact absurd h (uj e i)
 | some j =>
   have hj:=iw e;have h1:=(List.getElem?_eq_some_iff.1 h).1;have:=(List.getElem?_inj h1 hnd).1 (h.trans hj.symm);rw[this]
def uO(rs:List Nat)(nx:Nat)(i:Nat):Option Nat:=if i<rs.length then rs[i]? else some (nx+(i-rs.length))
def nD(S:af):List Nat->List Ob->af
 | n::rs,o::os=>nD (S.put n o) rs os
 | _,_=>S
def sQ(S:af):List Ob->af
 | []=>S
 | o::os=>sQ (S.add o) os
def af.fU(S:af)(rs:List Nat)(os:List Ob):af:=sQ (nD S rs (os.take rs.length)) (os.drop rs.length)
theorem A6:∀{rs:List Nat}{os:List Ob}{S:af},(nD S rs os).cL=S.cL
 | [],_,_=>by simp[nD]
 | _::_,[],_=>by simp[nD]
 | n::rs,o::os,S=>by rw[nD,A6];rfl
theorem A7:∀{os:List Ob}{S:af},(sQ S os).cL=S.cL
 | [],_=>rfl
 | o::os,S=>by rw[sQ,A7];rfl
theorem af.Q8{S:af}{rs:List Nat}{os:List Ob}:(S.fU rs os).cL=S.cL:=by unfold af.fU;rw[A7,A6]
theorem sG:∀{rs:List Nat}{os:List Ob}{S:af},(nD S rs os).next=S.next
 | [],_,_=>by cases ‹List Ob›<;>rfl
 | _::_,[],_=>rfl
 | n::rs,o::os,S=>by rw[nD,sG];rfl
theorem E3:∀{rs:List Nat}{os:List Ob}{S:af},rs.Nodup->os.length=rs.length->(∀ n∈rs,∃ o,S.get n=some o)->∀ n,(nD S rs os).get n=match idxOf rs n with|some i=>os[i]?|none=>S.get n
 | [],[],S,_,_,_,n=>rfl
 | [],_::_,S,_,h,_,n=>by simp at h
 | _::_,[],S,_,h,_,n=>by simp at h
 | k :: rs, o :: os, S, hnd, hl, hin, n => by
   rw[nD];have Q9:=List.nodup_cons.1 hnd;obtain⟨o0,uL⟩:=hin k (by simp);have hget:∀ m,(S.put k o).get m=if m=k then some o else S.get m:=fun m=>by rw[af.j3,uL];rfl
   rw[E3 Q9.2 (by simpa using hl) (fun m hm=>by
    obtain⟨x,hx⟩:=hin m (by simp[hm]);rw[hget];by_cases h:m=k;rw[if_pos h];exact⟨o,rfl⟩;rw[if_neg h];exact⟨x,hx⟩)]
   simp only[idxOf];by_cases h:k=n;subst h;rw[if_pos rfl];have:idxOf rs k=none:=by
    cases e:idxOf rs k with
    | none=>rfl
    | some i=>exact absurd (List.mem_of_getElem? (iw e)) Q9.1
   rw[this];simp[hget];rw[if_neg h];cases idxOf rs n with
   | none=>simp[hget,Ne.symm h]
   | some i=>simp
theorem Du:∀{os:List Ob}{S:af},(sQ S os).next=S.next+os.length
 | [],_=>rfl
 | o::os,S=>by rw[sQ,Du];show S.next+1+_=_;simp;omega
theorem E4:∀{os:List Ob}{S:af},(∀ n,S.next<=n->S.get n=none)->∀ n,(sQ S os).get n=if S.next<=n then os[n-S.next]? else S.get n
 | [],S,hf,n=>by
   show S.get n=_;by_cases h:S.next<=n
   rw[if_pos h,hf n h];simp;rw[if_neg h]
 | o :: os, S, hf, n => by
   have hadd:∀ m,(S.add o).get m=if m=S.next then some o else S.get m:=fun m=>af.fH (hf _ (Nat.le_refl _))
   rw[sQ,E4 (S:=S.add o) (fun m hm=>by
    have:(S.add o).next=S.next+1:=rfl
    rw[hadd,if_neg (by omega)];exact hf m (by omega))]
   have hn:(S.add o).next=S.next+1:=rfl
   rw[hn,hadd];by_cases h:S.next<=n
   . rw[if_pos h];by_cases h1:n=S.next
     subst h1;rw[if_neg (by omega),if_pos rfl];simp
     . rw[if_pos (by omega)];have:n-S.next=(n-(S.next+1))+1:=by omega
       rw[this];simp
   rw[if_neg (by omega),if_neg h,if_neg (by omega)]
theorem Xn{S:af}{rs:List Nat}{os:List Ob}(hnd:rs.Nodup)(hl:rs.length<=os.length)(hin:∀ n∈rs,∃ o,S.get n=some o)(hf:∀ n o,S.get n=some o->n<S.next)(n:Nat) :
 (S.fU rs os).get n=match idxOf rs n with|some i=>os[i]?|none=>if S.next<=n then os[rs.length+(n-S.next)]? else S.get n:=by
 have hp:=E3 (os:=os.take rs.length) hnd (by simp;omega) hin;have Oe:∀ n i,idxOf rs n=some i->n<S.next/\i<rs.length:=by
  intro n i e;have:=iw e;obtain⟨o,ho⟩:=hin n (List.mem_of_getElem? this);exact⟨hf n o ho,(List.getElem?_eq_some_iff.1 this).1⟩
 have hnone:∀ m,(nD S rs (os.take rs.length)).next<=m->(nD S rs (os.take rs.length)).get m=none:=by
  intro m hm;rw[sG] at hm;rw[hp];cases e:idxOf rs m with
  | some i=>have:=Oe m i e;omega
  | none =>
    simp only;cases e':S.get m with
    | none=>rfl
    | some o=>have:=hf m o e';omega
 unfold af.fU;rw[E4 hnone,sG,hp];cases e:idxOf rs n with
 | some i =>
   obtain⟨h1,h2⟩:=Oe n i e;simp only;rw[if_neg (by omega),List.getElem?_take,if_pos h2]
 | none =>
   simp only;split;rw[List.getElem?_drop];rfl
theorem TT{S:af}{rs:List Nat}{os:List Ob}:(S.fU rs os).next=S.next+(os.length-rs.length):=by
 unfold af.fU;rw[Du,sG];simp
def iI(S:af):List Nat->Option (List Ob)
 | []=>some []
 | n::l=>match S.get n,iI S l with|some o,some r=>some (o::r)|_,_=>none
theorem lV:∀{S:af}{rs:List Nat}{l:List Ob},iI S rs=some l->l.length=rs.length/\∀(i:Nat) n,rs[i]? = some n->∃ o,S.get n=some o/\l[i]? = some o
 | S,[],l,e=>by simp only[iI] at e;cases e;exact⟨rfl,by simp⟩
 | S,k::rs,l,e=>by
   simp only[iI] at e;split at e
   . rename_i o r ho hr;cases e;obtain⟨a,b⟩:=lV hr;refine⟨by simp[a],fun i n hi=>?_⟩;cases i with
     | zero=>simp at hi;subst hi;exact⟨o,ho,rfl⟩
     | succ i=>simpa using b i n (by simpa using hi)
   cases e
def fW(S:af):List Nat->af
 | []=>S
 | m::ms=>fW (S.del m) ms
theorem yV:∀{ms:List Nat}{S:af}{n:Nat}{o:Ob},(fW S ms).get n=some o->S.get n=some o/\n ∉ ms
 | [],_,_,_,h=>⟨h,by simp⟩
 | m::ms,S,n,o,h=>by
   obtain⟨a,b⟩:=yV (S:=S.del m) h;rw[af.iN] at a;split at a;cases a;rename_i hne;exact⟨a,by simp[hne,b]⟩
theorem qz:∀{ms:List Nat}{S:af},(fW S ms).next=S.next
 | [],_=>rfl
 | m::ms,S=>by rw[fW,qz];rfl
theorem A8:∀{ms:List Nat}{S:af}{n:Nat},n ∉ ms->(fW S ms).get n=S.get n
 | [],_,_,_=>rfl
 | m::ms,S,n,h=>by
   simp only[List.mem_cons,not_or] at h;rw[fW,A8 h.2,af.iN,if_neg h.1]
theorem yX:∀{ms:List Nat}{S:af},(fW S ms).cL=S.cL
 | [],_=>rfl
 | m::ms,S=>by rw[fW,yX];rfl
section
variable {P:Program}
def Seen(η:Eta)(S:af)(ms:List Nat)(b:Nat):Prop:=∃ m,m∈ms/\∃ o p,S.get m=some o/\η m=some p/\p.has b
open Classical in
noncomputable def mE(η:Eta)(Z:ar)(S:af)(w:World)(ms:List Nat):ar:=fun b=>if Seen η S ms b then(match w.heap[b]? with|some (.cells c _ _)=>some c|_=>none) else Z b
theorem uq{base:Nat}{η:Eta}{Z:ar}{S:af}{w:World}(R:St base η Z S w)(ms:List Nat):Z.le (mE η Z S w ms):=by
 intro b c h;unfold mE;rw[if_neg];exact h;rintro⟨m,_,o,p,ho,hp,hb⟩;rw[(R.all ho hp hb).2.1] at h;cases h
def cP(η:Eta)(rs:List Nat):Eta:=fun i=>match rs[i]? with|some n=>η n|none=>none
open Classical in
theorem yY{S:af}{rs ms:List Nat}{eN bI eB kD:List Ob}{r0 r:A}{aj:Nat}(hnd:rs.Nodup)(tK:∀ m∈ms,m ∉ rs)
 (fB:iI S rs=some eN) (iF:iq (idxOf rs) eN=some bI) (hkr:aj<=rs.length) (bE:aj<=eB.length) (hr:r0.ren (uO (rs.take aj) S.next)=some r) (hos:iq (uO (rs.take aj) S.next) eB=some kD)
 (hz:ms=[]∨(r0.d9=true/\eB.all Ob.d9=true))
 {base:Nat} {η:Eta} {Z:ar} {w:World} (R:St base η Z S w):St base (cP η rs) (mE η Z S w ms) (.ofList bI) w/\∀ w' eM Z1 u,gY aj base (cP η rs) (mE η Z S w ms) (.ofList bI) w eM Z1 (.ofList eB) w'->cE eM Z1 r0 u->∃ aB Z',bL base η Z S w aB Z' ((fW S (rs.drop aj)).fU (rs.take aj) kD) w'/\cE aB Z' r u:=by
 obtain⟨hl1,IQ⟩:=lV fB;obtain⟨hl2,vU⟩:=kC iF;obtain⟨hl3,hg3⟩:=kC hos;have hin:∀ n∈rs,∃ o,S.get n=some o:=fun n hn=>by
  obtain⟨i,hi⟩:=List.getElem?_of_mem hn;obtain⟨o,ho,_⟩:=IQ i n hi;exact⟨o,ho⟩
 have hnext:∀ n∈rs,n<S.next:=fun n hn=>let ⟨o,ho⟩:=hin n hn;R.known n o ho
 have hZle:=uq R ms;have hidx:∀ n m,idxOf rs n=some m->∀ p,η n=some p->cP η rs m=some p:=by
  intro n m e p hp;unfold cP;rw[iw e];exact hp
 -- an object that is handed over
 have hand:∀(i:Nat) o,bI[i]? = some o->∃ n oS,rs[i]? = some n/\S.get n=some oS/\oS.ren (idxOf rs)=some o:=by
  intro i o ho;obtain⟨oS,h1,h2⟩:=vU i o ho;have hi:i<rs.length:=by have:=(List.getElem?_eq_some_iff.1 h1).1;omega
  obtain⟨o',h3,h4⟩:=IQ i rs[i] (List.getElem?_eq_getElem hi);have:oS=o':=Option.some.inj (h1.symm.trans h4);subst this;exact⟨rs[i],oS,List.getElem?_eq_getElem hi,h3,h2⟩
 have ZX:∀ n o p b,n∈rs->S.get n=some o->η n=some p->p.has b->¬Seen η S ms b:=by
  rintro n o p b hn ho hp hb0 ⟨m,hm,o',p',ho',hp',hb⟩;exact R.kR m n o' o p' p b ho' ho (fun h=>tK m hm (h▸hn)) hp' hp hb hb0
 have R0 : St base (cP η rs) (mE η Z S w ms) (.ofList bI) w := by
  refine⟨?_,?_,?_,?_,?_,?_,R.iR,?_⟩;intro i o p ho hp;rw[af.bH] at ho;obtain⟨n,oS,h1,h2,h3⟩:=hand i o ho;unfold cP at hp;rw[h1] at hp;obtain⟨a,b,L⟩:=R.ai n oS p h2 hp;refine⟨a,?_,L.ren hidx (.inr hZle) h3⟩;unfold mE;rw[if_neg (ZX n oS p _ (List.mem_of_getElem? h1) h2 hp p.jf)];exact b;intro i o ho hp;rw[af.bH] at ho;obtain⟨n,oS,h1,h2,h3⟩:=hand i o ho;unfold cP at hp;rw[h1] at hp;have:=R.cL n oS h2 hp;have h4:=(Ob.vT h3).2.1;rw[this] at h4;exact List.eq_nil_of_length_eq_zero h4;intro i o ho;rw[af.bH] at ho;exact(List.getElem?_eq_some_iff.1 ho).1;intro i j o o' p p' b ho ho' hne hp hp';rw[af.bH] at ho ho';obtain⟨n,oS,h1,h2,h3⟩:=hand i o ho;obtain⟨n',oS',h1',h2',h3'⟩:=hand j o' ho';unfold cP at hp hp';rw[h1] at hp;rw[h1'] at hp';refine R.kR n n' oS oS' p p' b h2 h2' ?_ hp hp';rintro rfl;exact hne ((List.getElem?_inj (List.getElem?_eq_some_iff.1 h1).1 hnd).1 (h1.trans h1'.symm));intro b c hb;unfold mE at hb;split at hb;split at hb;rename_i hh;cases hb;exact⟨_,_,hh⟩;cases hb;exact R.zs b c hb
  . intro i hi;unfold cP;have:rs[i]? = none:=List.getElem?_eq_none (by have:(af.ofList bI).next=bI.length:=rfl;omega);rw[this]
  intro i o p ho hp b hb;rw[af.bH] at ho;obtain⟨n,oS,h1,h2,h3⟩:=hand i o ho;unfold cP at hp;rw[h1] at hp;obtain⟨q1,q2,q3⟩:=R.sat n oS p h2 hp b hb;refine⟨q1,?_,q3⟩;unfold mE;rw[if_neg (ZX n oS p b (List.mem_of_getElem? h1) h2 hp (.inr hb))];exact q2
 refine⟨R0,?_⟩
 intro w' yZ Ab u mv La
  -- names turned back
 generalize ZY:rs.take aj=rk at *;have hrkl:rk.length=aj:=by rw[<-ZY];simp;omega
 have hrkn:rk.Nodup:=by rw[<-ZY];exact hnd.sublist (List.take_sublist _ _)
 have hrkm:∀(i:Nat) n,rk[i]? = some n->i<aj/\rs[i]? = some n:=by
  intro i n h;have hi:=(List.getElem?_eq_some_iff.1 h).1;rw[<-ZY,List.getElem?_take] at h;split at h;rename_i hh;exact⟨hh,h⟩;cases h
 have II:∀ n o,(fW S (rs.drop aj)).get n=some o->S.get n=some o/\n ∉ rs.drop aj:=fun n o h=>yV h;have hnrs : ∀ n o, (fW S (rs.drop aj)).get n = some o → idxOf rk n = none → idxOf rs n = none := by
  intro n o ho e;cases e':idxOf rs n with
  | none=>rfl
  | some i =>
    have hi:=iw e';exfalso;rcases Nat.lt_or_ge i aj with hh|hh;refine uj e i ?_;rw[<-ZY,List.getElem?_take,if_pos hh];exact hi;refine(II n o ho).2 ?_;refine List.mem_of_getElem? (i:=i-aj) ?_;rw[List.getElem?_drop,show aj+(i-aj)=i by omega];exact hi
 have Oz:∀ n∈rk,∃ o,(fW S (rs.drop aj)).get n=some o:=by
  intro n hn;obtain⟨i,hi⟩:=List.getElem?_of_mem hn;obtain⟨hik,hi'⟩:=hrkm i n hi;obtain⟨o,ho⟩:=hin n (List.mem_of_getElem? hi');refine⟨o,?_⟩;rw[A8];exact ho;intro hd;obtain⟨j,hj⟩:=List.getElem?_of_mem hd;rw[List.getElem?_drop] at hj;have:=(List.getElem?_inj (List.getElem?_eq_some_iff.1 hi').1 hnd).1 (hi'.trans hj.symm);omega
 have TU:∀ n∈rk,n<S.next:=fun n hn=>by
  obtain⟨o,ho⟩:=Oz n hn;exact R.known n o (II n o ho).1
 let aB:Eta:=fun n=>match idxOf rk n with|some i=>yZ i|none=>if S.next<=n then yZ (rk.length+(n-S.next)) else η n
 let Z':ar:=fun b=>if Seen η S ms b then none else Ab b;have Xo:∀(i:Nat) n,rk[i]? = some n->aB n=yZ i:=by
  intro i n h;show (match idxOf rk n with|some i=>yZ i|none=>_)=_;rw[Xm hrkn h]
 have hidxN:∀ n,S.next<=n->idxOf rk n=none:=by
  intro n hn;cases e:idxOf rk n with
  | none=>rfl
  | some i=>have:=TU n (List.mem_of_getElem? (iw e));omega
 have Xp:∀ n,S.next<=n->aB n=yZ (rk.length+(n-S.next)):=by
  intro n hn;show (match idxOf rk n with|some i=>yZ i|none=>_)=_;rw[hidxN n hn];simp only[if_pos hn]
 have hη3:∀ n,n<S.next->idxOf rk n=none->aB n=η n:=by
  intro n hn e;show (match idxOf rk n with|some i=>yZ i|none=>_)=_;rw[e];simp only[if_neg (Nat.not_le.2 hn)]
 have hup:∀ n m,uO rk S.next n=some m->∀ p,yZ n=some p->aB m=some p:=by
  intro n m e p hp;unfold uO at e;split at e;rw[Xo n m e];exact hp
  . rename_i hn;cases e;rw[Xp _ (by omega),show rk.length+(S.next+(n-rk.length)-S.next)=n by omega];exact hp
 have hzz:r0.d9=true∨Ab.le Z':=by
  rcases hz with rfl|hz;right;intro b c h;show (if Seen η S [] b then none else Ab b)=_;rw[if_neg (by rintro⟨m,hm,_⟩;simp at hm)];exact h;exact .inl hz.1
 have hzo:∀(i:Nat) o,eB[i]? = some o->o.d9=true∨Ab.le Z':=by
  intro i o ho;rcases hz with rfl|hz;right;intro b c h;show (if Seen η S [] b then none else Ab b)=_;rw[if_neg (by rintro⟨m,hm,_⟩;simp at hm)];exact h;exact .inl (List.all_eq_true.1 hz.2 o (List.mem_of_getElem? ho))
 have Xq:∀ b,Own (cP η rs) (.ofList bI) b->Own η S b:=by
  rintro b ⟨i,o,p,ho,hp,hb⟩;rw[af.bH] at ho;obtain⟨n,oS,h1,h2,h3⟩:=hand i o ho;unfold cP at hp;rw[h1] at hp;exact⟨n,oS,p,h2,hp,hb⟩
 have hget:=Xn (S:=fW S (rs.drop aj)) (os:=kD) hrkn (by omega) Oz (fun n o h=>by rw[qz];exact R.known n o (II n o h).1);rw[qz] at hget;have TV:((fW S (rs.drop aj)).fU rk kD).next=S.next+(eB.length-rk.length):=by rw[TT,hl3,qz]
 -- where an object of the new store comes from
 have src : ∀ n o, ((fW S (rs.drop aj)).fU rk kD).get n = some o → (∃(i : Nat)(o1 : Ob), eB[i]? = some o1 ∧ o1.ren (uO rk S.next) = some o ∧ aB n = yZ i ∧ uO rk S.next i = some n) ∨ (idxOf rs n = none ∧ n < S.next ∧ S.get n = some o ∧ aB n = η n) := by
  intro n o ho;rw[hget] at ho;cases e:idxOf rk n with
  | some i =>
    rw[e] at ho;obtain⟨o1,h1,h2⟩:=hg3 i o ho;have hi:=iw e;refine .inl ⟨i,o1,h1,h2,Xo i n hi,?_⟩;unfold uO;rw[if_pos (List.getElem?_eq_some_iff.1 hi).1];exact hi
  | none =>
    rw[e] at ho;simp only at ho;split at ho;rename_i hn;obtain⟨o1,h1,h2⟩:=hg3 _ o ho;refine .inl ⟨_,o1,h1,h2,Xp n hn,?_⟩;unfold uO;rw[if_neg (by omega)];congr 1;omega;rename_i hn;exact .inr ⟨hnrs n o ho e,by omega,(II n o ho).1,hη3 n (by omega) e⟩
 have xQ:∀ n o p b,idxOf rs n=none->S.get n=some o->η n=some p->p.has b->¬Own (cP η rs) (.ofList bI) b:=by
  rintro n o p b e ho hp hb0 ⟨i,o',q,ho',hq,hb⟩;rw[af.bH] at ho';obtain⟨k,oS,h1,h2,h3⟩:=hand i o' ho';unfold cP at hq;rw[h1] at hq;exact R.kR k n oS o q p b h2 ho (fun hh=>by subst hh;exact uj e i h1) hq hp hb hb0
 have hle':η.le aB:=by
  intro n p hp;cases e:idxOf rk n with
  | some i =>
    have hi:=iw e;rw[Xo i n hi];obtain⟨hik,hi'⟩:=hrkm i n hi;refine mv.le i p hik ?_;unfold cP;rw[hi'];exact hp
  | none=>rw[hη3 n (R.lt hp) e];exact hp
 have Z4:Z.le Z':=by
  intro b c h;show (if Seen η S ms b then none else Ab b)=_;rw[if_neg (by
   rintro⟨m,_,o,p,ho,hp,hb⟩;rw[(R.all ho hp hb).2.1] at h;cases h)]
  exact mv.step.cN b c (hZle b c h)
 have old : ∀ n o p, idxOf rs n = none → S.get n = some o → η n = some p → ∀ b, p.has b → Z' b = none := by
  intro n o p e hS hp b hb;have hlt:=R.kq hS hp hb;have hno:=xQ n o p b e hS hp hb;show (if Seen η S ms b then none else Ab b)=_;split;rfl;rename_i hns;cases hc:Ab b with
  | none=>rfl
  | some c =>
    rcases mv.step.ja _ c hc with hh|hh|hh;unfold mE at hh;rw[if_neg hns,(R.all hS hp hb).2.1] at hh;cases hh;exact absurd hh hno;omega
 refine⟨aB,Z',⟨hle',⟨?_,?_,?_,?_,?_,?_,mv.st.iR,?_⟩,⟨mv.step.os,mv.step.tape,mv.step.output,mv.step.size,?_,?_,Z4,?_,af.Q8.trans yX⟩⟩,A.lP hup hzz hr La⟩;intro n o p ho hp;rcases src n o ho with ⟨i,o1,h1,h2,h3,_⟩|⟨e,hn,hS,h3⟩;rw[h3] at hp;obtain⟨a,b,L⟩:=mv.st.ai i o1 p (by rw[af.bH];exact h1) hp;refine⟨a,?_,L.ren hup (hzo i o1 h1) h2⟩;show (if Seen η S ms p.block then none else Ab p.block)=_;rw[b];split<;>rfl;rw[h3] at hp;obtain⟨a,b,L⟩:=R.ai n o p hS hp;exact⟨a,old n o p e hS hp _ p.jf,L.mono hle' Z4 fun b hb=>mv.step.block b (R.kq hS hp hb) (xQ n o p b e hS hp hb)⟩;intro n o ho hp;rcases src n o ho with ⟨i,o1,h1,h2,h3,_⟩|⟨e,hn,hS,h3⟩;rw[h3] at hp;have h4:=mv.st.cL i o1 (by rw[af.bH];exact h1) hp;have h5:=(Ob.vT h2).2.1;rw[h4] at h5;exact List.eq_nil_of_length_eq_zero h5;rw[h3] at hp;exact R.cL n o hS hp;intro n o ho;rw[TV];rcases src n o ho with ⟨i,o1,h1,h2,h3,h4⟩|⟨e,hn,hS,h3⟩;have hi:=(List.getElem?_eq_some_iff.1 h1).1;unfold uO at h4;split at h4;have:=TU n (List.mem_of_getElem? h4);omega;cases h4;omega;omega;intro n n' o o' p p' b ho ho' hne hp hp' hb hb';rcases src n o ho with ⟨i,o1,h1,h2,h3,h4⟩|⟨e,hn,hS,h3⟩;rw[h3] at hp;rcases src n' o' ho' with ⟨i',o1',h1',h2',h3',h4'⟩|⟨e',hn',Z5,h3'⟩;rw[h3'] at hp';refine mv.st.kR i i' o1 o1' p p' b (by rw[af.bH];exact h1) (by rw[af.bH];exact h1') ?_ hp hp' hb hb';rintro rfl;rw[h4] at h4';cases h4';exact hne rfl;rw[h3'] at hp';rcases mv.step.own b ⟨i,o1,p,by rw[af.bH];exact h1,hp,hb⟩ with hh|hh;exact xQ n' o' p' b e' Z5 hp' hb' hh;have:=R.kq Z5 hp' hb';omega;rw[h3] at hp;rcases src n' o' ho' with ⟨i',o1',h1',h2',h3',h4'⟩|⟨e',hn',Z5,h3'⟩;rw[h3'] at hp';rcases mv.step.own b ⟨i',o1',p',by rw[af.bH];exact h1',hp',hb'⟩ with hh|hh;exact xQ n o p b e hS hp hb hh;have:=R.kq hS hp hb;omega;rw[h3'] at hp';exact R.kR n n' o o' p p' b hS Z5 hne hp hp' hb hb';intro b c hb;have hb':(if Seen η S ms b then none else Ab b)=some c:=hb;split at hb';cases hb';exact mv.st.zs b c hb';intro n hn;rw[TV] at hn;rw[Xp n (by omega)];refine mv.st.fresh _ ?_;show eB.length<=_;omega;intro n o p ho hp b hb;rcases src n o ho with ⟨i,o1,h1,h2,h3,_⟩|⟨e,hn,hS,h3⟩;rw[h3] at hp;obtain⟨q1,q2,q3⟩:=mv.st.sat i o1 p (by rw[af.bH];exact h1) hp b hb;refine⟨q1,?_,q3⟩;show (if Seen η S ms b then none else Ab b)=_;rw[q2];split<;>rfl;rw[h3] at hp;obtain⟨q1,q2,ob,q3,q4⟩:=R.sat n o p hS hp b hb;exact⟨q1,old n o p e hS hp b (.inr hb),ob,(mv.step.block b (R.kq hS hp (.inr hb)) (xQ n o p b e hS hp (.inr hb))).trans q3,q4⟩;intro b hb hno;exact mv.step.block b hb fun hh=>hno (Xq b hh);rintro b ⟨n,o,p,ho,hp,hb⟩;rcases src n o ho with ⟨i,o1,h1,h2,h3,_⟩|⟨e,hn,hS,h3⟩;rw[h3] at hp;rcases mv.step.own b ⟨i,o1,p,by rw[af.bH];exact h1,hp,hb⟩ with hh|hh;exact .inl (Xq _ hh);exact .inr hh;rw[h3] at hp;exact .inl ⟨n,o,p,hS,hp,hb⟩;intro b c hb;have hb':(if Seen η S ms b then none else Ab b)=some c:=hb;split at hb';cases hb';rename_i hns;rcases mv.step.ja b c hb' with hh|hh|hh;unfold mE at hh;rw[if_neg hns] at hh;exact .inl hh;exact .inr (.inl (Xq b hh));exact .inr (.inr hh)
open Classical in
theorem E5{f:FuncId}{S:af}{rs ms:List Nat}{args ul:List A}{eN bI eB kD:List Ob}{r0 r:A}{aj:Nat}(y4:eX P f aj ul bI r0 eB)(hnd:rs.Nodup)(tK:∀ m∈ms,m ∉ rs)
 (fB:iI S rs=some eN) (iF:iq (idxOf rs) eN=some bI) (hkr:aj<=rs.length) (bE:aj<=eB.length) (hr:r0.ren (uO (rs.take aj) S.next)=some r) (hos:iq (uO (rs.take aj) S.next) eB=some kD)
 (hz:ms=[]∨(r0.d9=true/\eB.all Ob.d9=true))
 (hargs:∀ base η Z w vs,St base η Z S w->aI (cE η Z) args vs->aI (cE (cP η rs) (mE η Z S w ms)) ul vs):K9 P f args S r ((fW S (rs.drop aj)).fU (rs.take aj) kD):=by
 intro base η Z w vs R hvs hK;obtain⟨R0,hgo⟩:=yY hnd tK fB iF hkr bE hr hos hz R;refine(y4 base _ _ w vs R0 (hargs base η Z w vs R hvs) (hK.mono (uq R ms))).mono ?_;rintro e w' ⟨u,eM,Z1,rfl,mv,La⟩;obtain⟨aB,Z',a,b⟩:=hgo w' eM Z1 u mv La;exact⟨u,aB,Z',rfl,a,b⟩
end
structure cV where
 cC:List Bool
 aj:Option Nat:=none
 f:List A->List Ob->Option (Cd×A×List Ob)
 roots:Option (List Bool):=none
 rev:Bool:=false
abbrev bX:=List (FuncId×cV)
def look:bX->FuncId->Option cV
 | [],_=>none
 | (g,c)::l,f=>bif Nat.beq g f then some c else look l f
def enters (P:Program) (f:FuncId):Bool:=match P.funcs[f]? with|some fn=>fn.body.isSome&&!(fn.name == "runtime.NumGoroutine")|none=>false
structure bt(P:Program)(f:FuncId)(con:cV):Prop where
 enters:enters P f=true
 sem:∀ args ai c r aV,con.f args ai=some (c,r,aV)->c->eX P f (con.aj.getD ai.length) args ai r aV
def bh(P:Program)(Γ:bX):Prop:=∀ f con,look Γ f=some con->bt P f con
theorem aD{P:Program}:bh P []:=fun _ _ h=>by cases h
theorem aq{P:Program}{f:FuncId}{con:cV}{Γ:bX}(h:bt P f con)(cD:bh P Γ):bh P ((f,con)::Γ):=by
 intro g con' e;simp only[look] at e;cases hb:Nat.beq f g with
 | true=>rw[hb] at e;cases e;have:=Nat.eq_of_beq_eq_true hb;subst this;exact h
 | false=>rw[hb] at e;exact cD g con' e
noncomputable def Cz(S:af):W->Option (Cd×List Int×List Nat)
 | .sl m off len sz=>bif Nat.beq sz 1 then match S.get m with
  | some o=>match Fd.list (.int .i64) o.fs with
    | some l=>some (.p (off+len<=List.length (α:=Int) l),(List.drop (α:=Int) off l).take len,[m])
    | none=>none
  | none=>none
   else none
 | .row n i len=>match vM S n with
   | some (k,av)=>some (.p (i<av.length/\len=k),av.getD i [],[n])
   | none=>none
 | .rd (.int .i64) l=>some (.t,l,[])
 | _=>none
noncomputable def Lb(S:af):W->Option (Cd×W×List Nat)
 | .sl m off len sz=>bif Nat.beq sz 1 then match S.get m with
  | some o=>match o.fs with
    | [.a _ d l]=>some (.p (off+len<=l.length),.rd d ((l.drop off).take len),[m])
    | [.c x,.c y]=>bif Nat.beq off 0&&Nat.beq len 2 then match Cz S x,Cz S y with
      | some (c1,l1,E6),some (c2,l2,OA)=>some (.and c1 c2,.rd (.sl (.int .i64)) [l1,l2],m::(E6++OA))
      | _,_=>none
      else none
    | _=>none
  | none=>none
   else none
 | .row n i len=>match vM S n with
   | some (k,av)=>some (.p (i<av.length/\len=k),.rd (.int .i64) (av.getD i []),[n])
   | none=>none
 | x=>bif x.clean then some (.t,x,[]) else none
noncomputable def Z6(S:af):W->Option (Cd×W×List Nat)
 | .sl m off len sz=>match S.get m with
   | some o=>match Fd.list .pv o.fs with
     | some l=>some (.p (off+len*sz<=List.length (α:=PV) l),.rs sz ((List.drop (α:=PV) off l).take (len*sz)),[m])
     | none=>none
   | none=>none
 | _=>none
noncomputable def JX(S:af)(x:W):Option (Cd×W×List Nat):=match Lb S x with
 | some r=>some r
 | none=>Z6 S x
noncomputable def A9(S:af):List W->Option (Cd×List W×List Nat)
 | []=>some (.t,[],[])
 | x::l=>match JX S x,A9 S l with|some (c,y,ms),some (c',ys,ms')=>some (.and c c',y::ys,ms++ms')|_,_=>none
noncomputable def E7(S:af):V->Option (Cd×V×List Nat)
 | .c x=>match JX S x with|some (c,y,ms)=>some (c,.c y,ms)|none=>none
 | .agg cs=>match A9 S cs with|some (c,ys,ms)=>some (c,.agg ys,ms)|none=>none
noncomputable def sH(S:af):List Bool->List V->Option (Cd×List V×List Nat)
 | _,[]=>some (.t,[],[])
 | true::bs,v::vs=>match sH S bs vs with|some (c,ys,ms)=>some (c,v::ys,ms)|none=>none
 | false::bs,v::vs=>match E7 S v,sH S bs vs with|some (c,y,ms),some (c',ys,ms')=>some (.and c c',y::ys,ms++ms')|_,_=>none
 | [],v::vs=>match E7 S v,sH S [] vs with|some (c,y,ms),some (c',ys,ms')=>some (.and c c',y::ys,ms++ms')|_,_=>none
def pI(η:Eta)(S:af)(w:World)(ms:List Nat)(Z':ar):Prop:=∀ m∈ms,∀ o p,S.get m=some o->η m=some p->(¬o.gF->∃ c ty fz,w.heap[p.block]? = some (.cells c ty fz)/\Z' p.block=some c)/\∀ k av,o.kQ k av->∀ b∈p.sats,∃ c ty fz,w.heap[b]? = some (.cells c ty fz)/\Z' b=some c
section
variable {P:Program} {base:Nat} {η:Eta} {Z Z':ar} {S:af} {w:World}
theorem pI.left{ms ms':List Nat}(h:pI η S w (ms++ms') Z'):pI η S w ms Z':=fun m hm=>h m (by simp[hm])
theorem pI.right{ms ms':List Nat}(h:pI η S w (ms++ms') Z'):pI η S w ms' Z':=fun m hm=>h m (by simp[hm])
theorem IU(R : St base η Z S w)(hle : Z.le Z'){x : W}{c : Cd}{l : List Int}{ms : List Nat}(e : Cz S x = some (c, l, ms))(hc : c)(hs : pI η S w ms Z'){v : Value}(r : au η Z x v) : cG Z' (.sl (.int .i64)) l v := by
 unfold Cz at e;split at e
 · rename_i m off len sz
   obtain⟨h1,e1⟩:=ah.ay e;have h1':sz=1:=Nat.eq_of_beq_eq_true h1;subst h1';clear e;split at e1
   · rename_i o ho
     split at e1
     · rename_i l hfs
       cases e1;have hc':off+len<=List.length (α:=Int) l:=hc;have bK:o.cells=l.map (D.int .i64).w:=Fd.iE hfs;simp only[au] at r;rcases r with ⟨h0,rfl⟩|⟨p,cap,ad,hp,rfl,hcap,hroom,had⟩;subst h0;exact⟨none,0,0,rfl,by simp,Nat.le_refl _,.inl (by simp)⟩;by_cases h0:len=0;subst h0;exact⟨some ad,0,cap,rfl,by simp,Nat.zero_le _,.inl (by simp)⟩;obtain⟨cs,ty,fz,hh,hz⟩:=(hs m (by simp) o p ho hp).1 (Ob.fY bK);obtain⟨_,_,L⟩:=R.ai m o p ho hp;obtain⟨c',AL,hc1,_,hv,_⟩:=L.there (Ob.fY bK);rw[hh] at hc1;cases hc1;refine⟨some ad,len,cap,rfl,by simp;omega,hcap,.inr ⟨p.block,p.off+off,cs,?_,hz,?_⟩⟩;rcases had with h|h;omega;rw[h];intro i x hx;have hx':o.cells[off+i]? = some ((D.int .i64).w x):=by
        have hx:(List.take len (List.drop (α:=Int) off l))[i]? = some x:=hx;rw[List.getElem?_take] at hx;split at hx;rw[List.getElem?_drop] at hx;rw[bK,List.getElem?_map];have hx:(show List Int from l)[off+i]? = some x:=hx;exact congrArg (Option.map (D.int .i64).w) hx;cases hx
       obtain⟨u,h1,h2,_⟩:=hv _ _ hx';exact⟨u,by rw[<-h1];congr 1;omega,cG.mono hle (.int .i64) ((D.eV (.int .i64)).1 h2)⟩
     cases e1
   cases e1
 rename_i m i len;split at e;rename_i k av hk;obtain⟨o,ho,_,hto⟩:=oU hk;cases e;obtain⟨hi,rfl⟩:=(hc:i<av.length/\len=k);obtain⟨p,r0,cap,ad,hp,hr,rfl,hcap,had⟩:=r;obtain⟨_,_,L⟩:=R.ai m o p ho hp;have T:=L.tabs _ av hto;have TR:av.getD i []=av[i]:=by rw[List.getD_eq_getElem?_getD,List.getElem?_eq_getElem hi];rfl
 obtain⟨hl,c1,t1,fz1,q1,_,q3,_⟩:=T.row i r0 av[i] hr (List.getElem?_eq_getElem hi);obtain⟨c2,t2,fz2,q4,q5⟩:=(hs m (by simp) o p ho hp).2 _ av hto r0.1 (List.mem_map.2 ⟨r0,List.mem_of_getElem? hr,rfl⟩);rw[q1] at q4;cases q4;rw[TR];rcases Nat.eq_zero_or_pos len with h0|h0;exact⟨_,len,cap,rfl,hl,hcap,.inl (List.eq_nil_of_length_eq_zero (hl.trans h0))⟩;have had:=had h0;subst had;refine⟨_,len,cap,rfl,hl,hcap,.inr ⟨r0.1,r0.2,c1,rfl,q5,fun j x hx=>⟨_,q3 j x hx,?_⟩⟩⟩;simp only[cG];cases e;cases e;simp only[au,aF] at r;exact cG.mono hle _ r;cases e
theorem Lc{x:W}{c:Cd}{l:List Int}{ms:List Nat}(e:Cz S x=some (c,l,ms)):x≠.mh/\∀ k av,x≠.th k av:=by
 refine⟨?_,fun k av=>?_⟩<;>rintro rfl<;>simp only[Cz] at e<;>cases e
theorem Ra(R : St base η Z S w)(hle : Z.le Z'){x y : W}{c : Cd}{ms : List Nat}(e : Lb S x = some (c, y, ms))(hc : c)(hs : pI η S w ms Z'){v : Value}(r : au η Z x v)(hx : x ≠ .dm) : au η Z' y v ∧ y ≠ .dm := by
 unfold Lb at e;split at e
 · rename_i m off len sz
   obtain⟨h1,e1⟩:=ah.ay e;have h1':sz=1:=Nat.eq_of_beq_eq_true h1;subst h1';clear e;split at e1
   · rename_i o ho
     split at e1;rename_i k d l hfs;cases e1;have hc':off+len<=l.length:=hc;refine⟨?_,by simp⟩;have bK:o.cells=l.map d.w:=by unfold Ob.cells;rw[hfs];simp[Fd.cells]
     simp only[au,aF];rcases r with ⟨h0,rfl⟩|⟨p,cap,ad,hp,rfl,hcap,hroom,had⟩;subst h0;exact⟨none,0,0,rfl,by simp,Nat.le_refl _,.inl (by simp)⟩;by_cases h0:len=0;subst h0;exact⟨some ad,0,cap,rfl,by simp,Nat.zero_le _,.inl (by simp)⟩;obtain⟨cs,ty,fz,hh,hz⟩:=(hs m (by simp) o p ho hp).1 (Ob.fY bK);obtain⟨_,_,L⟩:=R.ai m o p ho hp;obtain⟨c',AL,hc1,_,hv,_⟩:=L.there (Ob.fY bK);rw[hh] at hc1;cases hc1;refine⟨some ad,len,cap,rfl,by simp;omega,hcap,.inr ⟨p.block,p.off+off,cs,?_,hz,?_⟩⟩;rcases had with h|h;omega;rw[h];intro i x hx;have hx':o.cells[off+i]? = some (d.w x):=by
      rw[List.getElem?_take] at hx;split at hx;rw[List.getElem?_drop] at hx;rw[bK];simp[hx];cases hx
     obtain⟨u,h1,h2,_⟩:=hv _ _ hx';exact⟨u,by rw[<-h1];congr 1;omega,cG.mono hle d ((D.eV d).1 h2)⟩;rename_i x y hfs;obtain⟨h2,e2⟩:=ah.ay e1;clear e1;simp only[Bool.and_eq_true] at h2;have hoff:=Nat.eq_of_beq_eq_true h2.1;have bE:=Nat.eq_of_beq_eq_true h2.2;subst hoff bE;split at e2;rename_i c1 l1 E6 c2 l2 OA g1 g2;cases e2;refine⟨?_,by simp⟩;have bK:o.cells=[x,y]:=by unfold Ob.cells;rw[hfs];rfl
     have hnm:¬o.gF:=by
      rintro (hm|⟨k,av,hm⟩);unfold Ob.isMap at hm;rw[bK] at hm;cases hm;exact(Lc g1).1 rfl;unfold Ob.kQ at hm;rw[bK] at hm;cases hm;exact(Lc g1).2 _ _ rfl
     simp only[au,aF];rcases r with ⟨h0,rfl⟩|⟨p,cap,ad,hp,rfl,hcap,hroom,had⟩;cases h0;obtain⟨cs,ty,fz,hh,hz⟩:=(hs m (by simp) o p ho hp).1 hnm;obtain⟨_,_,L⟩:=R.ai m o p ho hp;obtain⟨c',AL,hc1,_,hv,_⟩:=L.there hnm;rw[hh] at hc1;cases hc1;have hs1:pI η S w E6 Z':=fun q hq=>hs q (by simp[hq]);have hs2:pI η S w OA Z':=fun q hq=>hs q (by simp[hq]);refine⟨some ad,2,cap,rfl,rfl,hcap,.inr ⟨p.block,p.off+0,cs,?_,hz,?_⟩⟩;rcases had with h|h;omega;rw[h]
     . intro i z hz'
       match i,hz' with
       | 0,hz' =>
         cases hz';obtain⟨u,h1,h2,_⟩:=hv 0 x (by rw[bK];rfl);exact⟨u,h1,IU R hle g1 hc.1 hs1 h2⟩
       | 1,hz' =>
         cases hz';obtain⟨u,h1,h2,_⟩:=hv 1 y (by rw[bK];rfl);exact⟨u,h1,IU R hle g2 hc.2 hs2 h2⟩
       | i+2,hz'=>cases hz'
     cases e2;cases e1
   cases e1
 rename_i m i len;split at e;rename_i k av hk;obtain⟨o,ho,_,hto⟩:=oU hk;cases e;obtain⟨hi,rfl⟩:=(hc:i<av.length/\len=k);obtain⟨p,r0,cap,ad,hp,hr,rfl,hcap,had⟩:=r;obtain⟨_,_,L⟩:=R.ai m o p ho hp;have T:=L.tabs _ av hto;have TR:av.getD i []=av[i]:=by rw[List.getD_eq_getElem?_getD,List.getElem?_eq_getElem hi];rfl
 obtain⟨hl,c1,t1,fz1,q1,_,q3,_⟩:=T.row i r0 av[i] hr (List.getElem?_eq_getElem hi);obtain⟨c2,t2,fz2,q4,q5⟩:=(hs m (by simp) o p ho hp).2 _ av hto r0.1 (List.mem_map.2 ⟨r0,List.mem_of_getElem? hr,rfl⟩);rw[q1] at q4;cases q4;refine⟨?_,by simp⟩;simp only[au,aF];rw[TR];rcases Nat.eq_zero_or_pos len with h0|h0;exact⟨_,len,cap,rfl,hl,hcap,.inl (List.eq_nil_of_length_eq_zero (hl.trans h0))⟩;have had:=had h0;subst had;refine⟨_,len,cap,rfl,hl,hcap,.inr ⟨r0.1,r0.2,c1,rfl,q5,fun j x hx=>⟨_,q3 j x hx,?_⟩⟩⟩;simp only[cG];cases e;obtain⟨h1,e1⟩:=ah.ay e;cases e1;exact⟨r.mono (Eta.le.refl _) hle,hx⟩
theorem IV(R : St base η Z S w)(hle : Z.le Z'){x y : W}{c : Cd}{ms : List Nat}(e : JX S x = some (c, y, ms))(hc : c)(hs : pI η S w ms Z'){v : Value}(r : au η Z x v)(hx : x ≠ .dm) : au η Z' y v ∧ y ≠ .dm := by
 unfold JX at e;split at e;rename_i r' hr;cases e;exact Ra R hle hr hc hs r hx;unfold Z6 at e;split at e
 · rename_i m off len sz _
   split at e
   · rename_i o ho
     split at e
     · rename_i l hfs
       cases e;have hc':off+len*sz<=List.length (α:=PV) l:=hc;have bK:o.cells=l.map (D.w .pv):=Fd.iE hfs;refine⟨au.ZI ?_,by simp⟩;rcases r with ⟨h0,rfl⟩|⟨p,cap,ad,hp,rfl,hcap,hroom,had⟩;subst h0;exact⟨none,0,0,rfl,by simp,Nat.le_refl _,.inl (by simp)⟩;by_cases h0:len=0;subst h0;exact⟨some ad,0,cap,rfl,by simp,Nat.zero_le _,.inl (by simp)⟩;obtain⟨cs,ty,fz,hh,hz⟩:=(hs m (by simp) o p ho hp).1 (Ob.fY bK);obtain⟨_,_,L⟩:=R.ai m o p ho hp;obtain⟨c',AL,hc1,_,hv,_⟩:=L.there (Ob.fY bK);rw[hh] at hc1;cases hc1;refine⟨some ad,len,cap,rfl,by rw[List.length_take,List.length_drop];omega,hcap,.inr ⟨p.block,p.off+off,cs,?_,hz,?_⟩⟩;rcases had with h|h;omega;rw[h];intro i x hx;have hx':o.cells[off+i]? = some (D.w .pv x):=by
        rw[List.getElem?_take] at hx;split at hx;rw[List.getElem?_drop] at hx;rw[bK,List.getElem?_map];exact congrArg (Option.map (D.w .pv)) hx;cases hx
       obtain⟨u,h1,h2,_⟩:=hv _ _ hx';exact⟨u,by rw[<-h1];congr 1;omega,cG.mono hle .pv ((D.eV .pv).1 h2)⟩
     cases e
   cases e
 cases e
theorem E8(R:St base η Z S w)(hle:Z.le Z'):∀{l r:List W}{c:Cd}{ms:List Nat}{vs:List Value},A9 S l=some (c,r,ms)->c->pI η S w ms Z'->aI (au η Z) l vs->(∀ x∈l,x≠.dm)->aI (au η Z') r vs/\∀ x∈r,x≠.dm
 | [],r,c,ms,vs,e,_,_,hl,_=>by simp only[A9] at e;cases e;cases vs with|nil=>exact⟨trivial,by simp⟩|cons _ _=>exact hl.elim
 | x :: l, r, c, ms, vs, e, hc, hs, hl, hd => by
   simp only[A9] at e;split at e
   . rename_i c1 y E6 c2 ys OA h1 h2;cases e;cases vs with
     | nil=>exact hl.elim
     | cons v vs =>
       obtain⟨a,b⟩:=IV R hle h1 hc.1 hs.left hl.1 (hd x (by simp));obtain⟨a',b'⟩:=E8 R hle h2 hc.2 hs.right hl.2 (fun z hz=>hd z (by simp[hz]));refine⟨⟨a,a'⟩,fun z hz=>?_⟩;rcases List.mem_cons.1 hz with rfl|hz;exact b;exact b' z hz
   cases e
theorem IW(R:St base η Z S w)(hle:Z.le Z'){x y:V}{c:Cd}{ms:List Nat}(e:E7 S x=some (c,y,ms))(hc:c)(hs:pI η S w ms Z'){v:Value}(r:cZ η Z x v):cZ η Z' y v:=by
 cases x with
 | c x =>
   simp only[E7] at e;split at e;rename_i c1 y' E6 h1;cases e;obtain⟨a,b⟩:=IV R hle h1 hc hs r.2 r.1;exact⟨b,a⟩;cases e
 | agg cs =>
   simp only[E7] at e;split at e;rename_i c1 ys E6 h1;cases e;obtain⟨vs,hv,hd,hl⟩:=r;obtain⟨a,b⟩:=E8 R hle h1 hc hs hl hd;exact⟨vs,hv,b,a⟩;cases e
theorem qB(R:St base η Z S w)(hle:Z.le Z'):∀{bs:List Bool}{l r:List V}{c:Cd}{ms:List Nat}{vs:List Value},sH S bs l=some (c,r,ms)->c->pI η S w ms Z'->aI (cZ η Z) l vs->aI (cZ η Z') r vs
 | bs,[],r,c,ms,vs,e,_,_,hl=>by
   have:(c,r,ms)=(.t,[],[]):=by cases bs<;>(simp only[sH] at e;cases e;rfl)
   cases this;cases vs with
   | nil=>trivial
   | cons _ _=>exact hl.elim
 | true::bs,x::l,r,c,ms,vs,e,hc,hs,hl=>by
   simp only[sH] at e;split at e
   . rename_i c1 ys E6 h1;cases e;cases vs with
     | nil=>exact hl.elim
     | cons v vs=>exact⟨hl.1.mono (Eta.le.refl _) hle,qB R hle h1 hc hs hl.2⟩
   cases e
 | false::bs,x::l,r,c,ms,vs,e,hc,hs,hl=>by
   simp only[sH] at e;split at e
   . rename_i c1 y E6 c2 ys OA h1 h2;cases e;cases vs with
     | nil=>exact hl.elim
     | cons v vs=>exact⟨IW R hle h1 hc.1 hs.left hl.1,qB R hle h2 hc.2 hs.right hl.2⟩
   cases e
 | [],x::l,r,c,ms,vs,e,hc,hs,hl=>by
   simp only[sH] at e;split at e
   . rename_i c1 y E6 c2 ys OA h1 h2;cases e;cases vs with
     | nil=>exact hl.elim
     | cons v vs=>exact⟨IW R hle h1 hc.1 hs.left hl.1,qB R hle h2 hc.2 hs.right hl.2⟩
   cases e
theorem TW(R:St base η Z S w)(ms:List Nat):pI η S w ms (mE η Z S w ms):=by
 intro m hm o p ho hp;obtain⟨_,_,L⟩:=R.ai m o p ho hp;refine⟨fun hmo=>?_,fun k av ht b hb=>?_⟩;obtain⟨c,fz,hc,_⟩:=L.there hmo;refine⟨c,o.ty,fz,hc,?_⟩;unfold mE;rw[if_pos ⟨m,hm,o,p,ho,hp,.inl rfl⟩,hc];obtain⟨c,t,fz,hc⟩:=(L.tabs k av ht).sat hb;refine⟨c,t,fz,hc,?_⟩;unfold mE;rw[if_pos ⟨m,hm,o,p,ho,hp,.inr hb⟩,hc]
theorem Ba : ∀{ms : List Nat}{S : af}{Z : ar}, St base η Z S w → ∃ Z', bL base η Z S w η Z' (fW S ms) w ∧ pI η S w ms Z'
 | [],S,Z,R=>⟨Z,bL.refl R,fun m hm=>by simp at hm⟩
 | m :: ms, S, Z, R => by
   have key : ∃ Z1, bL base η Z S w η Z1 (S.del m) w ∧ ∀ o p, S.get m = some o → η m = some p → (¬o.gF → ∃ c ty fz, w.heap[p.block]? = some (.cells c ty fz) ∧ Z1 p.block = some c) ∧ ∀ k av, o.kQ k av → ∀ b ∈ p.sats, ∃ c ty fz, w.heap[b]? = some (.cells c ty fz) ∧ Z1 b = some c := by
    cases ho:S.get m with
    | none=>exact⟨Z,⟨Eta.le.refl _,R.del m,Step.del m⟩,fun o p h=>by cases h⟩
    | some o =>
      cases hp:η m with
      | none=>exact⟨Z,⟨Eta.le.refl _,R.del m,Step.del m⟩,fun o p _ h=>by cases h⟩
      | some p =>
        by_cases hmo:o.gF;rcases id hmo with hmp|⟨k,av,ht⟩;exact⟨Z,⟨Eta.le.refl _,R.del m,Step.del m⟩,fun o' p' h1 _=>by cases h1;exact⟨fun h3=>absurd hmo h3,fun k av ht=>(Ob.Gq hmp ht).elim⟩⟩;obtain⟨Z1,mv,hs⟩:=R.Tm ho hp ht;refine⟨Z1,mv,fun o' p' h1 h2=>?_⟩;cases h1;cases h2;exact⟨fun h3=>absurd hmo h3,fun _ _ _=>hs⟩;obtain⟨c,ty,fz,hh,mv,_⟩:=R.freeze ho hp hmo;refine⟨_,mv,fun o' p' h1 h2=>?_⟩;cases h1;cases h2;exact⟨fun _=>⟨c,ty,fz,hh,by unfold ar.add;rw[if_pos rfl]⟩,fun k av ht=>absurd (.inr ⟨k,av,ht⟩) hmo⟩
   obtain⟨Z1,Iw,s1⟩:=key;obtain⟨Z2,ij,s2⟩:=Ba (ms:=ms) Iw.st;refine⟨Z2,Iw.trans ij,fun k hk o p ho hp=>?_⟩;by_cases hkm:k=m;subst hkm;obtain⟨t1,t2⟩:=s1 o p ho hp;exact⟨fun hmo=>let ⟨c,ty,fz,h1,h2⟩:=t1 hmo;⟨c,ty,fz,h1,ij.step.cN _ _ h2⟩,fun k' av ht b hb=>let ⟨c,ty,fz,h1,h2⟩:=t2 k' av ht b hb;⟨c,ty,fz,h1,ij.step.cN _ _ h2⟩⟩;rcases List.mem_cons.1 hk with h|h;exact absurd h hkm;exact s2 k h o p (by rw[af.iN,if_neg hkm];exact ho) hp
end
def W.names:W->List Nat
 | .ptr n _=>[n]
 | .pe n _ _=>[n]
 | .sl n _ _ _=>[n]
 | .func _ caps=>caps.map (·.1)
 | .mp n=>[n]
 | .ba n=>[n]
 | .pG _ n _=>[n]
 | .row n _ _=>[n]
 | .qP n _ _=>[n]
 | _=>[]
def V.names:V->List Nat
 | .c x=>x.names
 | .agg cs=>cs.flatMap W.names
def Ld(l:List Nat)(n:Nat):List Nat:=bif l.any (Nat.beq n ·) then l else l++[n]
def rY:List Bool->List V->List Nat->List Nat
 | true::bs,v::vs,acc=>rY bs vs (v.names.foldl Ld acc)
 | false::bs,_::vs,acc=>rY bs vs acc
 | _,_,acc=>acc
def refsOf(rev:Bool)(bs:List Bool)(vs:List V):List Nat:=bif rev then rY bs.reverse vs.reverse [] else rY bs vs []
def Fd.names:Fd->List Nat
 | .c x=>x.names
 | .a _ _ _=>[]
 | .m _ _ _=>[]
 | .b _=>[]
def xR(S:af):Nat->List Nat->List Nat
 | 0,rs=>rs
 | k+1,rs=>xR S k (rs.foldl (fun acc n=>match S.get n with|some o=>(o.fs.flatMap Fd.names).foldl Ld acc|none=>acc) rs)
def sR:List Nat->Bool
 | []=>true
 | x::l=>!(l.any (Nat.beq x ·))&&sR l
theorem jU:∀{l:List Nat},sR l=true->l.Nodup
 | [],_=>List.nodup_nil
 | x::l,h=>by
   simp only[sR,Bool.and_eq_true,Bool.not_eq_true',List.any_eq_false,Nat.beq_eq] at h;exact List.nodup_cons.2 ⟨fun hx=>h.1 x hx rfl,jU h.2⟩
def E9(ms rs:List Nat):Bool:=ms.all fun m=>!(rs.any (Nat.beq m ·))
theorem Bb{ms rs:List Nat}(h:E9 ms rs=true):∀ m∈ms,m ∉ rs:=by
 intro m hm hr;simp only[E9,List.all_eq_true,Bool.not_eq_true',List.any_eq_false,Nat.beq_eq] at h;exact h m hm m hr rfl
def Fa(S:af)(n:Nat):Bool:=match S.get n with|some _=>true|none=>false
noncomputable def JY(Γ:bX)(S:af)(g:FuncId)(args:List V):Option (Cd×A×af×Bool) :=
 match look Γ g with
 | some con =>
   match sH S con.cC args with
   | some (c1, y5, ms) =>
     let rs:=(xR S 2 (refsOf con.rev (con.roots.getD con.cC) args)).filter (Fa S)
     bif sR rs && E9 ms rs then
      match iI S rs with
      | some eN => match iq (idxOf rs) eN, vS (idxOf rs) y5 with
        | some bI,some ul=>match con.f (ul.map A.p) bI with
          | some (c2,r0,eB) =>
            let k:=con.aj.getD rs.length
            bif Nat.ble k rs.length&&Nat.ble k eB.length then
             match r0.ren (uO (rs.take k) S.next),iq (uO (rs.take k) S.next) eB with
             | some r,some kD=>some (.and c1 c2,r,(fW (bif ms.isEmpty||(r0.d9&&eB.all Ob.d9) then S else fW S ms) (rs.drop k)).fU (rs.take k) kD,rs.isEmpty&&(eB.isEmpty&&(ms.isEmpty||(r0.d9&&eB.all Ob.d9))))
             | _,_=>none
            else none
          | none=>none
        | _,_=>none
      | none=>none
     else none
   | none=>none
 | none=>none
section
variable {P:Program} {S:af}
theorem kO{η:Eta}{Z:ar}:∀{l:List V}{vs:List Value},aI (cE η Z) (l.map A.p) vs↔aI (cZ η Z) l vs
 | [],[]=>Iff.rfl
 | [],_::_=>Iff.rfl
 | _::_,[]=>Iff.rfl
 | x::l,v::vs=>by
   show (cE η Z (.p x) v/\_)↔(cZ η Z x v/\_);rw[show aI (cE η Z) (List.map A.p l) vs↔aI (cZ η Z) l vs from kO];rfl
theorem wV{ms:List Nat}:∀{rs:List Nat},(∀ m∈ms,m ∉ rs)->iI (fW S ms) rs=iI S rs
 | [],_=>rfl
 | n::rs,h=>by
   simp only[iI];rw[A8 (fun hh=>h n hh (by simp)),wV (fun m hm hr=>h m hm (by simp[hr]))]
theorem Le{Γ : bX}(cD : bh P Γ){g : FuncId}{args : List V}{c : Cd}{r : A}{S' : af}{b : Bool}(e : JY Γ S g args = some (c, r, S', b))(hc : c) : K9 P g (args.map A.p) S r S' ∧ enters P g = true ∧ (b = true → S' = S) := by
 unfold JY at e;split at e
 . rename_i con hcon;split at e
   · rename_i c1 y5 ms JZ
     simp only at e;generalize (xR S 2 (refsOf con.rev (con.roots.getD con.cC) args)).filter (Fa S)=rs at e;obtain⟨hb,e⟩:=ah.ay e;simp only[Bool.and_eq_true] at hb;split at e;rename_i eN fB;split at e;rename_i bI ul iF hargs;split at e;rename_i c2 r0 eB hf;generalize hk:con.aj.getD rs.length=k at e;obtain⟨bE,e⟩:=ah.ay e;simp only[Bool.and_eq_true,Nat.ble_eq] at bE;split at e
     . rename_i r' kD hr hos;cases e;have y4:=(cD g con hcon).sem _ _ _ _ _ hf hc.2;have hol:bI.length=rs.length:=(kC iF).1.trans (lV fB).1;rw[hol,hk] at y4;refine⟨?_,(cD g con hcon).enters,fun hb'=>?_⟩
       rotate_left
       simp only[Bool.and_eq_true,List.isEmpty_iff] at hb';obtain⟨h1,h2,h3⟩:=hb';subst h1;subst h2;have:kD=[]:=List.eq_nil_of_length_eq_zero (kC hos).1;subst this;rw[h3,List.drop_nil,List.take_nil];rfl;have tK:=Bb hb.2;have hnd:=jU hb.1;have hidx:∀(η:Eta) n m,idxOf rs n=some m->∀ p,η n=some p->cP η rs m=some p:=by
        intro η n m e p hp;unfold cP;rw[iw e];exact hp
       cases hm:(ms.isEmpty||(r0.d9&&eB.all Ob.d9)) with
       | true =>
         simp only[cond_true];refine E5 y4 hnd tK fB iF bE.1 bE.2 hr hos ?_ ?_;simp only[Bool.or_eq_true,List.isEmpty_iff,Bool.and_eq_true] at hm;exact hm;intro base η Z w vs R hvs;refine kO.2 (qy (hidx η) (.inr (ar.le.refl _)) hargs ?_);exact qB R (uq R ms) JZ hc.1 (TW R ms) (kO.1 hvs)
       | false =>
         simp only[cond_false];have hcall:K9 P g (y5.map A.p) (fW S ms) r ((fW (fW S ms) (rs.drop k)).fU (rs.take k) kD):=by
          refine E5 (ms:=[]) y4 hnd (by simp) (by rw[wV tK];exact fB) iF bE.1 bE.2 (by rw[qz];exact hr) (by rw[qz];exact hos) (.inl rfl) ?_;intro base η Z w vs R hvs;refine kO.2 (qy (hidx η) (.inr (uq R [])) hargs (kO.1 hvs))
         intro base η Z w vs R hvs hK;obtain⟨Z1,mv,sees⟩:=Ba (ms:=ms) R;refine(hcall base η Z1 w vs mv.st (kO.2 (qB R mv.step.cN JZ hc.1 sees (kO.1 hvs))) (hK.mono mv.step.cN)).mono ?_;rintro e1 w1 ⟨u,aB,Z',rfl,Iw,hr1⟩;exact⟨u,aB,Z',rfl,mv.trans Iw,hr1⟩
     cases e;cases e;cases e;cases e
   cases e
 cases e
end
end Go.aN
namespace Go.aN
open Go.RowKit
open Go.ah (T WF)
inductive O where
 | q (q:Q)
 | l (l:L)
 | call (f:bO) (args:List bO)
 | Bc (neg:Bool) (x:bO)
structure jV where
 dst:Option Nat
 guard:Option (Nat×Bool)
 o:O
def OB(P:Program)(o:Op):Option O :=
 match o with
 | .binOp .eql t x (.const (.slice none 0 0)) _=>match P.underlying t with|some (.slice _)=>(bV x).map (.Bc false)|_=>none
 | .binOp .neq t x (.const (.slice none 0 0)) _=>match P.underlying t with|some (.slice _)=>(bV x).map (.Bc true)|_=>none
 | _=>none
def Bd(P:Program)(sq:Bool)(o:Oper):Option O :=
 match o.op with
 | .call { callee:=.value x,args,.. }=>match bV x,p8 args.toList with|some f,some l=>some (.call f l)|_,_=>none
 | _=>match OB P o.op with|some k=>some k|none=>bif sq then(match K0 P o with|some l=>some (.l l)|none=>match vN P o.op with|some q=>some (.q q)|none=>none)
   else(match vN P o.op with|some q=>some (.q q)|none=>bif ah.cK o.op then(match K0 P o with|some l=>some (.l l)|none=>none) else none)
def Z7(ops:Array Oper)(o:Oper):Option (Option (Nat×Bool)) :=
 match o.guard with
 | none=>some none
 | some (j,want)=>match (ops[j]?).bind (·.dst) with|some d=>some (some (d,want))|none=>none
def GA(nt:Nat):Option Nat->Bool
 | none=>true
 | some d=>Nat.blt d nt
def qZ(P:Program)(sq:Bool)(nt:Nat)(ops:Array Oper)(o:Oper):Option jV :=
 match Z7 ops o,Bd P sq o with
 | some g,some k=>bif GA nt o.dst then some ⟨o.dst,g,k⟩ else none
 | _,_=>none
def j5(P:Program)(sq:Bool)(nt:Nat)(ops:Array Oper):List Oper->Option (List jV)
 | []=>some []
 | o::l=>match qZ P sq nt ops o,j5 P sq nt ops l with|some x,some r=>some (x::r)|_,_=>none
inductive R1 where
 | pure (c:Cd) (v:A)
 | Lf (c:Cd) (v:A) (S:af)
noncomputable def Be(F:Fr):bO->Option A
 | .tmp t=>match F.get t with|some (.p v)=>some (.p v)|some (.dec b)=>some (.dec b)|some (.bG vs)=>some (.bG vs)|_=>none
 | .w (.bool b)=>some (.dec b)
 | .w x=>some (.p (.c x))
 | .agg cs=>some (.p (.agg cs))
noncomputable def known(F:Fr):bO->Option Bool
 | .tmp t=>match F.get t with|some (.dec b)=>some b|_=>none
 | .w (.bool b)=>some b
 | _=>none
noncomputable def qA(F:Fr)(S:af)(q:Q):Option (Cd×A) :=
 match q with
 | .move x=>match Be F x with
   | some v=>some (.t,v)
   | none=>match ou F x with|some (c,v)=>some (c,.p v)|none=>none
 | .pick b x y=>match known F b with
   | some true=>match Be F x with|some v=>some (.t,v)|none=>none
   | some false=>match Be F y with|some v=>some (.t,v)|none=>none
   | none=>match dY F S (.pick b x y) with|some (c,v)=>some (c,.p v)|none=>none
 | .not x=>match known F x with
   | some b=>some (.t,.dec (!b))
   | none=>match dY F S (.not x) with|some (c,v)=>some (c,.p v)|none=>none
 | q=>match dY F S q with|some (c,v)=>some (c,.p v)|none=>none
noncomputable def rO(Γ:bX)(F:Fr)(S:af):O->Option R1
 | .q q=>match qA F S q with|some (c,v)=>some (.pure c v)|none=>none
 | .l l=>match kx F S l with
   | some (c,v,S')=>match l with
     | .b2s _=>some (.pure c v)
     | _=>some (.Lf c v S')
   | none=>none
 | .call f args=>match fP F f,nP F args with
   | some (p,.func g caps),some (q,vs)=>match JY Γ S g (vs++caps.map fun x=>.c (.ptr x.1 x.2)) with
     | some (c,r,S',b)=>bif b then some (.pure (.and p (.and q c)) r) else some (.Lf (.and p (.and q c)) r S')
     | none=>none
   | some (p,.pG g n off),some (q,vs)=>match JY Γ S g (.c (.ptr n off)::vs) with
     | some (c,r,S',b)=>bif b then some (.pure (.and p (.and q c)) r) else some (.Lf (.and p (.and q c)) r S')
     | none=>none
   | _,_=>none
 | .Bc _ _=>none
noncomputable def Lg(F:Fr):O->Option (Cd×(Bool->Prop))
 | .Bc neg x=>match fP F x with
   | some (c,.nil)=>some (c,fun b=>b=!neg)
   | some (c,.sl _ _ len _)=>some (c,fun b=>(b=!neg)->len=0)
   | some (c,.rd _ l)=>some (c,fun b=>(b=!neg)->l=[])
   | _=>none
 | _=>none
section
variable {P:Program} {base nt:Nat} {η:Eta} {Z:ar} {S:af} {w:World} {F:Fr} {a:Act}
theorem CA(FR:aT nt η Z F a.tmps){t:Nat}{x:A}(h:F.get t=some x):cE η Z x (a.eval (.tmp t)):=by
 obtain⟨u,hu,hr⟩:=FR.2 t _ h;have:a.eval (.tmp t)=u:=by simp[Act.eval,Array.getD_eq_getD_getElem?,hu]
 rw[this];exact hr
theorem y6(FR:aT nt η Z F a.tmps){x':Operand}{x:bO}(hx:bV x'=some x){v:A}(e:Be F x=some v):cE η Z v (a.eval x'):=by
 cases x with
 | tmp t =>
   have hx':x'=.tmp t:=by
    cases x' with
    | tmp t'=>cases hx;rfl
    | const u=>simp only[bV] at hx;split at hx<;>cases hx
    | global g=>cases hx
    | func f=>cases hx
   subst hx';simp only[Be] at e;split at e;rename_i v' hv;cases e;exact CA FR hv;rename_i b hv;cases e;exact CA FR hv;rename_i vs hv;cases e;exact CA FR hv;cases e
 | w y =>
   have:=ew FR hx (c:=.t) (v:=.c y) rfl trivial;cases y with
   | bool b =>
     simp only[Be] at e;cases e;have h2:=this.2;simp only[au,aF] at h2;exact h2
   | _=>simp only[Be] at e;cases e;exact this
 | agg cs =>
   have:=ew FR hx (c:=.t) (v:=.agg cs) rfl trivial;simp only[Be] at e;cases e;exact this
theorem vV(FR:aT nt η Z F a.tmps){x':Operand}{x:bO}(hx:bV x'=some x){b:Bool}(e:known F x=some b):a.eval x'=.bool b:=by
 unfold known at e;split at e;rename_i t;split at e;rename_i b' hv;cases e;have hx':x'=.tmp t:=by
  cases x' with
  | tmp t'=>cases hx;rfl
  | const u=>simp only[bV] at hx;split at hx<;>cases hx
  | global g=>cases hx
  | func f=>cases hx
 subst hx';exact CA FR hv;cases e;rename_i b';cases e;have:=ew FR hx (c:=.t) (v:=.c (.bool b)) rfl trivial;simpa[au,aF] using this.2;cases e
def um(P:Program)(η:Eta)(Z:ar)(w:World)(s:Sem Next)(v:A):Prop:=∃ u,s.run P w=.ok (.value u) w/\cE η Z v u
theorem qA_ok(R : St base η Z S w)(FR : aT nt η Z F a.tmps){o : Oper}{q : Q}(ht : vN P o.op = some q){c : Cd}{v : A}(e : qA F S q = some (c, v))(hc : c) : um P η Z w (execOp a.eval o) v := by
 have plain:∀{c:Cd}{v':V},dY F S q=some (c,v')->c->um P η Z w (execOp a.eval o) (.p v'):=by
  intro c v' e hc;obtain⟨u,h1,h2⟩:=Tj R FR ht e hc;exact⟨u,h1,h2⟩
 unfold qA at e;split at e;rename_i x;split at e
 . rename_i v' hv;cases e
   -- a move
   unfold vN at ht;unfold execOp;split at ht<;>rename_i hop<;>simp only[hop];obtain⟨y,hy,e2⟩:=map_some ht;cases e2;exact⟨_,rfl,y6 FR hy hv⟩;obtain⟨y,hy,e2⟩:=map_some ht;cases e2;exact⟨_,rfl,y6 FR hy hv⟩
   all_goals exfalso
   all_goals first
    | (obtain⟨y,hy,e2⟩:=map_some ht;cases e2;done)
    | (repeat' (split at ht))<;>first|(cases ht;done)|(obtain⟨y,hy,e2⟩:=map_some ht;cases e2;done)
 split at e;rename_i c' v' hv;cases e;exact plain (by simp only[dY];exact hv) hc;cases e;rename_i b x y;have hpick : ∃ b' x' y', o.op = .pick b' x' y' ∧ bV b' = some b ∧ bV x' = some x ∧ bV y' = some y := by
  unfold vN at ht;split at ht
  all_goals first
   | (rename_i b' x' y' hop
      split at ht;rename_i h1 h2 h3;cases ht;exact⟨b',x',y',hop,h1,h2,h3⟩;cases ht)
   | (exfalso
      first
      | (obtain⟨y,hy,e2⟩:=map_some ht;cases e2;done)
      | (repeat' (split at ht))<;>first|(cases ht;done)|(obtain⟨y,hy,e2⟩:=map_some ht;cases e2;done))
 obtain⟨b',x',y',hop,hb,hx,hy⟩:=hpick;have hrun:∀ t:Bool,a.eval b'=.bool t->(execOp a.eval o).run P w=.ok (.value (if t then a.eval x' else a.eval y')) w:=by
  intro t ht';unfold execOp;rw[hop];cases t<;>simp[ht',asBool]
 split at e;rename_i hk;have:=hrun true (vV FR hb hk);split at e;rename_i v' hv;cases e;exact⟨_,this,y6 FR hx hv⟩;cases e;rename_i hk;have:=hrun false (vV FR hb hk);split at e;rename_i v' hv;cases e;exact⟨_,this,y6 FR hy hv⟩;cases e;split at e;rename_i c' v' hv;cases e;exact plain hv hc;cases e;rename_i x;split at e;rename_i b hk;cases e;have hq:dY F S (.not x)=some (match xE F x with|some (p,a)=>(p,.c (.bool (!a)))|none=>(.t,.c (.bool false)))->True:=fun _=>trivial
 -- the operand is known: the same answer by the plain way
 have hev:xE F x=some (.t,b):=by
  unfold known at hk;split at hk;split at hk;rename_i b' hv;cases hk;simp[xE,ou,hv];cases hk;cases hk;rfl;cases hk
 have h2:=plain (c:=.t) (v':=.c (.bool (!b))) (by simp only[dY,hev]) trivial;obtain⟨u,h3,h4⟩:=h2;refine⟨u,h3,?_⟩;have h5:=h4.2;simp only[au,aF] at h5;exact h5;split at e;rename_i c' v' hv;cases e;exact plain hv hc;cases e;split at e;rename_i c' v' hv;cases e;exact plain hv hc;cases e
theorem CB{o:Op}{k:O}(h:OB P o=some k):∃ neg x,k=.Bc neg x:=by
 unfold OB at h;split at h;split at h
 . cases hx:bV _ with
   | none=>rw[hx] at h;cases h
   | some y=>rw[hx] at h;cases h;exact⟨_,_,rfl⟩
 cases h;split at h
 . cases hx:bV _ with
   | none=>rw[hx] at h;cases h
   | some y=>rw[hx] at h;cases h;exact⟨_,_,rfl⟩
 cases h;cases h
theorem TX{t el:TypeId}(hu:P.underlying t=some (.slice el)){v:Value}{a:Option Addr}{len cap:Nat}(hv:v=.slice a len cap):(Op.equal t v (.slice none 0 0)).run P w=.ok a.isNone w:=by
 subst hv;have key:(Op.equalIn (9999+1) t (.slice a len cap) (.slice none 0 0)).run P w=.ok a.isNone w:=by
  rw[Op.equalIn];simp only[Sem.run_bind,run_underlying hu,Result.andThen_ok];cases a<;>rfl
 exact key
theorem nilE_ok(FR:aT nt η Z F a.tmps){o:Oper}{k:O}(ht:OB P o.op=some k){c:Cd}{p:Bool->Prop}(e:Lg F k=some (c,p))(hc:c):∃ b,p b/\um P η Z w (execOp a.eval o) (.p (.c (.bool b))):=by
 have key : ∀(neg : Bool)(x : bO)(x' : Operand)(t el : TypeId), bV x' = some x → P.underlying t = some (.slice el) → (execOp a.eval o).run P w = (do pure (Next.value (.bool ((← Op.equal t (a.eval x') (.slice none 0 0)) != neg))) : Sem Next).run P w → Lg F (.Bc neg x) = some (c, p) → ∃ b, p b ∧ um P η Z w (execOp a.eval o) (.p (.c (.bool b))) := by
  intro neg x x' t el hx hu hrun e;have fin:∀(ad:Option Addr)(len cap:Nat),a.eval x'=.slice ad len cap->p (ad.isNone != neg)->∃ b,p b/\um P η Z w (execOp a.eval o) (.p (.c (.bool b))):=by
   intro ad len cap hev hp;refine⟨_,hp,.bool (ad.isNone != neg),?_,⟨by simp,by simp[au,aF]⟩⟩;rw[hrun];simp[TX hu hev]
  simp only[Lg] at e;split at e;rename_i c' hv;cases e;have:=(aC FR hx hv hc).2;simp only[au,aF] at this;exact fin _ _ _ this (by cases neg<;>rfl);rename_i c' m off len sz hv;cases e;rcases (aC FR hx hv hc).2 with ⟨h0,hev⟩|⟨pl,cap,ad,_,hev,_⟩;exact fin _ _ _ hev (fun _=>h0);exact fin _ _ _ hev (fun h=>by cases neg<;>simp at h);rename_i c' d l hv;cases e;have:=(aC FR hx hv hc).2;simp only[au,aF,cG] at this;obtain⟨ad,len,cap,hev,_,_,h4⟩:=this;rcases h4 with h4|⟨b,off,cells,h4,_⟩;exact fin _ _ _ hev (fun _=>h4);refine fin _ _ _ hev (fun h=>?_);rw[h4] at h;cases neg<;>simp at h;cases e
 unfold OB at ht;split at ht;rename_i t x _ hop;split at ht
 . rename_i el hu;cases hx:bV x with
   | none=>rw[hx] at ht;cases ht
   | some y =>
     rw[hx] at ht;cases ht;refine key false y x t el hx hu ?_ e;unfold execOp;rw[hop];have hb:binOp .eql t (a.eval x) (.slice none 0 0)=(do pure (.bool (<-Op.equal t (a.eval x) (.slice none 0 0)))):=by
      cases a.eval x<;>rfl
     have hg:eqGuard .eql t x (.const (.slice none 0 0)) (a.eval x) (.slice none 0 0)=pure ():=by
      unfold eqGuard;cases a.eval x<;>rfl
     have hev:a.eval (.const (.slice none 0 0))=.slice none 0 0:=rfl;simp[hev,hb,hg]
 cases ht;rename_i t x _ hop;split at ht
 . rename_i el hu;cases hx:bV x with
   | none=>rw[hx] at ht;cases ht
   | some y =>
     rw[hx] at ht;cases ht;refine key true y x t el hx hu ?_ e;unfold execOp;rw[hop];have hb:binOp .neq t (a.eval x) (.slice none 0 0)=(do pure (.bool (!(<-Op.equal t (a.eval x) (.slice none 0 0))))):=by
      cases a.eval x<;>rfl
     have hg:eqGuard .neq t x (.const (.slice none 0 0)) (a.eval x) (.slice none 0 0)=pure ():=by
      unfold eqGuard;cases a.eval x<;>rfl
     have hev:a.eval (.const (.slice none 0 0))=.slice none 0 0:=rfl;simp[hev,hb,hg]
 cases ht;cases ht
end
section
variable {P:Program} {base nt:Nat} {η:Eta} {Z:ar} {S:af} {w:World} {F:Fr} {a:Act}
def TY(base:Nat)(η:Eta)(Z:ar)(S:af)(w:World)(v:A)(S':af)(o:Oper)(a:Act)(next:Act->World->Prop):Prop :=
 ∀ u w' aB Z',bL base η Z S w aB Z' S' w'->cE aB Z' v u->next (a.put o.dst u) w'
def Bf(P:Program)(base:Nat)(η:Eta)(Z:ar)(S:af)(w:World)(o:Oper)(a:Act)(v:A)(S':af):Prop :=
 ∀ Fc,WF Fc->∀(next:Act->World->Prop)(Q:Exit->Act->World->Prop),TY base η Z S w v S' o a next->o.wpIn Fc 0 P a w next Q
theorem um.does{o:Oper}{v:A}(R:St base η Z S w)(hd:∀ c,o.op≠.defer c)(h:um P η Z w (execOp a.eval o) v):Bf P base η Z S w o a v S:=by
 intro Fc hF next Q hn
 refine⟨fun f _=>hF.fn f,?_⟩;rw[Oper.semAt_eq _ _ _ hd];obtain⟨u,h1,h2⟩:=h;rw[h1];exact hn u w η Z (bL.refl R) h2
theorem bq.does{o:Oper}{v:A}{S':af}(hd:∀ c,o.op≠.defer c)(h:bq P base η Z S w (execOp a.eval o) v S'):Bf P base η Z S w o a v S':=by
 intro Fc hF next Q hn
 refine⟨fun f _=>hF.fn f,?_⟩;rw[Oper.semAt_eq _ _ _ hd];obtain⟨nx,u,w',aB,Z',h1,h2,h3,h4⟩:=h;rw[h1];rcases h2 with rfl|⟨rfl,rfl⟩;exact hn u w' aB Z' h3 h4;exact hn _ w' aB Z' h3 h4
theorem T9{o:Op}{q:Q}(h:vN P o=some q):∀ c,o≠.defer c:=by
 rintro c rfl;simp[vN] at h
theorem IX{o:Oper}{l:L}(h:K0 P o=some l):∀ c,o.op≠.defer c:=by
 intro c hc;unfold K0 at h;rw[hc] at h;cases h
theorem lW {f:FuncId} (h:enters P f=true):∃ fn c,P.funcs[f]? = some fn/\fn.body=some c/\fn.name≠ "runtime.NumGoroutine" := by
 unfold enters at h;split at h;rename_i fn hf;simp only[Bool.and_eq_true,Bool.not_eq_true',beq_eq_false_iff_ne] at h;obtain⟨c,hc⟩:=Option.isSome_iff_exists.1 h.1;exact⟨fn,c,hf,hc,h.2⟩;cases h
theorem rf(FR : aT nt η Z F a.tmps) : ∀{l' : List Operand}{l : List bO}, p8 l' = some l → ∀{c : Cd}{vs : List V}, nP F l = some (c, vs) → c → aI (cZ η Z) vs (l'.map a.eval)
 | [],l,hl,c,vs,e,_=>by
   simp only[p8] at hl;cases hl;simp only[nP] at e;cases e;trivial
 | x :: l', l, hl, c, vs, e, hc => by
   simp only[p8] at hl;split at hl;rename_i y hy;split at hl;rename_i r hr;cases hl;simp only[nP] at e;split at e;rename_i p v hv;split at e;rename_i q vs' hvs;cases e;exact⟨ew FR hy hv hc.1,rf FR hr hvs hc.2⟩;cases e;cases e;cases hl;cases hl
theorem IY{caps:List (Nat×Nat)}{cs:List Value}(h:aI (dJ η) caps cs):aI (cZ η Z) (caps.map fun x=>V.c (.ptr x.1 x.2)) cs:=by
 induction caps generalizing cs with
 | nil=>cases cs with|nil=>trivial|cons _ _=>exact h.elim
 | cons x l ih=>cases cs with|nil=>exact h.elim|cons y m=>exact⟨⟨by simp,h.1⟩,ih h.2⟩
def R1.cd:R1->Cd
 | .pure c _=>c
 | .Lf c _ _=>c
def R1.v:R1->A
 | .pure _ v=>v
 | .Lf _ v _=>v
def R1.st(S:af):R1->af
 | .pure _ _=>S
 | .Lf _ _ S'=>S'
theorem Fb{Γ : bX}(cD : bh P Γ)(hT : gj P Z){sq : Bool}(R : St base η Z S w)(FR : aT nt η Z F a.tmps){o : Oper}{k : O}(ht : Bd P sq o = some k){r : R1}(e : rO Γ F S k = some r)(hc : r.cd) : Bf P base η Z S w o a r.v (r.st S) := by
 have hq:∀ q,vN P o.op=some q->k=.q q->Bf P base η Z S w o a r.v (r.st S):=by
  rintro q hq rfl;simp only[rO] at e;split at e;rename_i c v hv;cases e;exact um.does R (T9 hq) (qA_ok R FR hq hv hc);cases e
 have hl : ∀ l, K0 P o = some l → k = .l l → Bf P base η Z S w o a r.v (r.st S) := by
  rintro l hl rfl;simp only[rO] at e;split at e;rename_i c v S' hv;split at e;rename_i x;cases e;have hS : S' = S := by
   simp only[kx] at hv;split at hv;split at hv;cases hv;split at hv;cases hv;rfl;split at hv;cases hv;rfl;cases hv;cases hv
  subst hS;exact bq.does (IX hl) (TS R FR hl hv hc);cases e;exact bq.does (IX hl) (TS R FR hl hv hc);cases e
 unfold Bd at ht;split at ht;rename_i x args ts hop;split at ht;rename_i f l hf hal;cases ht;simp only[rO] at e;split at e;rename_i p g caps q vs Bg mD;split at e
 . rename_i c r0 S' b hcall;have hcd:r.cd=.and p (.and q c)/\r.v=r0/\r.st S=(if b=true then S else S'):=by
    cases b with
    | true=>simp only[cond_true] at e;cases e;exact⟨rfl,rfl,rfl⟩
    | false=>simp only[cond_false] at e;cases e;exact⟨rfl,rfl,rfl⟩
   rw[hcd.1] at hc;obtain⟨hp,hq',hc'⟩:=hc;obtain⟨xA,hent,hsame⟩:=Le cD hcall hc';have hst:r.st S=S':=by
    rw[hcd.2.2];split;rename_i hb;exact(hsame hb).symm;rfl
   rw[hst,hcd.2.1];intro Fc hF next Q hn
   refine⟨fun f _=>hF.fn f,?_⟩;have hd:∀ c,o.op≠.defer c:=fun c hc=>by rw[hop] at hc;cases hc
   rw[Oper.semAt_eq _ _ _ hd];obtain⟨_,cs,Bh,hcs⟩:=aC FR hf Bg hp;have hvs:=rf FR hal mD hq';obtain⟨fn,body,h1,h2,h3⟩:=lW hent;have y7:(execOp a.eval o).run P w=.ok (.enter g ((args.toList.map a.eval).toArray++cs.toArray)) w:=by
    unfold execOp;rw[hop];have hargs:(args.toList.map a.eval).toArray=args.map a.eval:=by apply Array.ext';simp
    simp only[resolve,Bh,Deferred.ofValue,pure_bind,invoke,hargs];have:(#[]:Array Value)++args.map a.eval=args.map a.eval:=by simp
    rw[this];simp[callFunc,h1,h3,h2]
   rw[y7];refine⟨hF.depth,hF.calls ?_⟩;have happ:(args.toList.map a.eval).toArray++cs.toArray=(args.toList.map a.eval++cs).toArray:=by simp
   rw[happ];refine(xA base η Z w _ R (kO.2 (hvs.append (IY hcs))) hT).mono ?_;rintro e1 w1 ⟨u,aB,Z',rfl,mv,hr1⟩;exact hn u w1 aB Z' mv hr1
 cases e;rename_i p g n off q vs Bg mD;split at e
 . rename_i c r0 S' b hcall;have hcd:r.cd=.and p (.and q c)/\r.v=r0/\r.st S=(if b=true then S else S'):=by
    cases b with
    | true=>simp only[cond_true] at e;cases e;exact⟨rfl,rfl,rfl⟩
    | false=>simp only[cond_false] at e;cases e;exact⟨rfl,rfl,rfl⟩
   rw[hcd.1] at hc;obtain⟨hp,hq',hc'⟩:=hc;obtain⟨xA,hent,hsame⟩:=Le cD hcall hc';have hst:r.st S=S':=by
    rw[hcd.2.2];split;rename_i hb;exact(hsame hb).symm;rfl
   rw[hst,hcd.2.1];intro Fc hF next Q hn
   refine⟨fun f _=>hF.fn f,?_⟩;have hd:∀ c,o.op≠.defer c:=fun c hc=>by rw[hop] at hc;cases hc
   rw[Oper.semAt_eq _ _ _ hd];obtain⟨_,pu,Bh,Oy⟩:=aC FR hf Bg hp;have hvs:=rf FR hal mD hq';obtain⟨fn,body,h1,h2,h3⟩:=lW hent;have y7:(execOp a.eval o).run P w=.ok (.enter g (pu::args.toList.map a.eval).toArray) w:=by
    unfold execOp;rw[hop];have hargs:#[pu]++args.map a.eval=(pu::args.toList.map a.eval).toArray:=by apply Array.ext';simp
    simp only[resolve,Bh,Deferred.ofValue,pure_bind,invoke,hargs];have:(pu::args.toList.map a.eval).toArray++(#[]:Array Value)=(pu::args.toList.map a.eval).toArray:=by simp
    first|rw[this]|skip
    simp[callFunc,h1,h3,h2]
   rw[y7];refine⟨hF.depth,hF.calls ?_⟩;refine(xA base η Z w (pu::args.toList.map a.eval) R (kO.2 ⟨⟨by simp,Oy⟩,hvs⟩) hT).mono ?_;rintro e1 w1 ⟨u,aB,Z',rfl,mv,hr1⟩;exact hn u w1 aB Z' mv hr1
 cases e;cases e;cases ht;split at ht;rename_i k' hk';cases ht;obtain⟨neg,x,rfl⟩:=CB hk';simp only[rO] at e;cases e;cases sq with
 | true =>
   simp only[cond_true] at ht;split at ht;rename_i l hl';cases ht;exact hl l hl' rfl;split at ht;rename_i q hq';cases ht;exact hq q hq' rfl;cases ht
 | false =>
   simp only[cond_false] at ht;split at ht;rename_i q hq';cases ht;exact hq q hq' rfl;obtain⟨_,ht⟩:=ah.ay ht;split at ht;rename_i l hl';cases ht;exact hl l hl' rfl;cases ht
end
inductive Gd where
 | run
 | skip
 | cond (g:Prop)
 | bool (d:Nat) (b want:Bool)
noncomputable def guardE(F:Fr):Option (Nat×Bool)->Option Gd
 | none=>some .run
 | some (d,want)=>match F.get d with
   | some (.dec b)=>bif b==want then some .run else some .skip
   | some (.p (.c (.bool b)))=>some (.bool d b want)
   | some (.cond c (.c (.bool b)))=>some (.cond (c/\b=want))
   | some (.bG [])=>some .skip
   | _=>none
noncomputable def lJ(F:Fr):Option Nat->A->Fr
 | none,_=>F
 | some d,v=>ah.T.set F d v
section
variable {P:Program} {base nt:Nat} {η:Eta} {Z:ar} {S:af} {w:World} {F:Fr} {a:Act}
theorem rZ(FR:aT nt η Z F a.tmps){dst:Option Nat}(hd:GA nt dst=true){v:A}{u:Value}(h:cE η Z v u):aT nt η Z (lJ F dst v) (a.put dst u).tmps:=by
 cases dst with
 | none=>exact FR
 | some d=>exact FR.set (by simpa[GA,Nat.blt_eq] using hd) h
def Gd.when:Gd->Prop
 | .run=>True
 | .skip=>False
 | .cond g=>g
 | .bool _ b want=>b=want
theorem jR(FR:aT nt η Z F a.tmps){ops:Array Oper}{o:Oper}{g:Option (Nat×Bool)}(hg:Z7 ops o=some g){k:Gd}(e:guardE F g=some k):(Region.wanted o (yielded ops a.tmps)=true)↔k.when:=by
 unfold Z7 at hg;unfold Region.wanted;split at hg;rename_i hn;cases hg;simp only[guardE] at e;cases e;rw[hn];simp[Gd.when];rename_i j want hn;split at hg;rename_i d hd;cases hg;rw[hn];simp only;unfold yielded;rw[hd];simp only[Option.bind_some];simp only[guardE] at e;split at e;rename_i b hb;obtain⟨v,hv,hr⟩:=FR.2 d _ hb;have hr':v=.bool b:=hr;subst hr';rw[hv];cases b<;>cases want<;>(cases e;simp[Gd.when]);rename_i b hb;cases e;obtain⟨v,hv,hr⟩:=FR.2 d _ hb;have hr':v=.bool b:=by have:=hr.2;simpa[au,aF] using this
 subst hr';rw[hv];simp[Gd.when];rename_i c b hb;cases e;obtain⟨v,hv,hr⟩:=FR.2 d _ hb;by_cases hc:c;have hr':v=.bool b:=by have:=(hr.1 hc).2;simpa[au,aF] using this
 subst hr';rw[hv];simp[Gd.when,hc];have hr':v=undef:=hr.2 hc;subst hr';rw[hv];simp[Gd.when,hc,undef];rename_i hb;cases e;obtain⟨v,hv,hr⟩:=FR.2 d _ hb;obtain⟨vs,hvv,hl⟩:=hr;rw[hv,hvv];simp[Gd.when];cases e;cases hg
end
section
variable {P:Program} {base nt:Nat} {η:Eta} {Z:ar} {S:af} {w:World} {F:Fr} {a:Act}
theorem iG{sq:Bool}{ops:Array Oper}{o:Oper}{x:jV}(h:qZ P sq nt ops o=some x):x.dst=o.dst/\Z7 ops o=some x.guard/\Bd P sq o=some x.o/\GA nt o.dst=true:=by
 unfold qZ at h;split at h;rename_i g k hg hk;obtain⟨hd,h⟩:=ah.ay h;cases h;exact⟨rfl,hg,hk,hd⟩;cases h
theorem put_defers(a:Act)(dst:Option Nat)(u:Value):(a.put dst u).defers=a.defers:=by cases dst<;>rfl
theorem IZ:cE η Z (.bG []) undef:=⟨[],rfl,trivial⟩
theorem cd_imp{c:Cd}{g:Prop}{k:Prop}(h:iD (c.list.map (g->·)) k):(g->c)/\k:=by
 have:=iO (c:=.imp g c) (k:=k) h;exact this
end
end Go.aN
