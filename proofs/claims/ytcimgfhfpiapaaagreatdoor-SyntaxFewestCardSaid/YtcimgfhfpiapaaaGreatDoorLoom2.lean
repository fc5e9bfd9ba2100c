/- The walk by values, second part: operations that write; calls by contracts. It holds for every program and every world, under the hypotheses that each theorem names. -/
import Derived.Test.YtcimgfhfpiapaaaGreatDoorLoom1
import Derived.RangeFuncCalls
import Derived.Test.YtcimgfhfpiapaaaGreatDoorMill2
namespace Go.aU
open Go.RowKit
open Go.ah (T)
section
variable {P:Program} {base n:Nat} {η:Eta} {Z:ar} {S:af} {w:World} {F:Fr} {a:Act}
theorem aL.takeN{α β:Type}{R:α->β->Prop}{l:List α}{m:List β}(h:aL R l m)(k:Nat):aL R (l.take k) (m.take k):=aL.take k h
theorem Ru(R:St base η Z S w){t ty el:TypeId}{ts:Array TypeId}{sz:Nat}(ht:ts[0]? = some t)(hu:P.underlying t=some (.slice el))(hs:gE P el=some sz)
 {uy:Value} {cs:List W} (hsrc:Src P η Z w uy sz cs) (hsz:sz≠0) {u:Value} {m off len:Nat} (hx:au η Z (.sl m off len sz) u) {o:Ob} (ho:S.get m=some o) (hmo:¬o.gj) (hnb:¬o.bytes∨o.cells=[]) (hnw:¬o.wb) (hb:off+len*sz<=o.cells.length) :
 br P base η Z S w (do pure (Next.value (<-Builtin.copy_ ts ty #[u,uy]))) (.p (.c (.int .i64 ((Nat.min (cs.length/sz) len:Nat):Int)))) (S.put m (Ob.of o.ty (jE o.cells off (cs.take (len*sz))))):=by
 obtain⟨k,vs,h1,h2,h3,h4,h5,h6⟩:=hsrc;have hdiv:cs.length/sz=k:=by rw[h1];exact Nat.mul_div_cancel _ (by omega)
 rw[hdiv];have hmin:∃ j,Nat.min k len=j/\j<=k/\j<=len:=⟨_,rfl,Nat.min_le_left _ _,Nat.min_le_right _ _⟩;obtain⟨j,hj,hjk,hjl⟩:=hmin;rw[hj];have hcs:cs.take (len*sz)=cs.take (j*sz):=by
  by_cases hkl:k<=len;have:j=k:=by rw[<-hj];exact Nat.min_eq_left hkl
  subst this;rw[List.take_of_length_le (by rw[h1];exact Nat.mul_le_mul_right _ hkl),List.take_of_length_le (by omega)];have:j=len:=by rw[<-hj];exact Nat.min_eq_right (by omega)
  rw[this]
 rw[hcs];have hrun:=h6 w j rfl hjk;have hjs:j*sz<=len*sz:=Nat.mul_le_mul_right _ hjl;have hjs2:j*sz<=k*sz:=Nat.mul_le_mul_right _ hjk;rcases hx with ⟨rfl,rfl⟩|⟨pl,cap,ad,hpl,rfl,hcap,hroom,had⟩;have hj0:j=0:=by omega
 subst hj0;refine br.alike (S':=S) (br.of (u:=goInt 0) ?_ (bJ.refl R) eK) ?_;have hmin0:k.min 0=0:=hj;simp only[Builtin.copy_,ht,Sem.run_bind,List.getElem?_toArray,List.getElem?_cons_zero,List.getElem?_cons_succ,run_underlying hu,Result.andThen_ok,h5,dI hs,hmin0,hrun,Sem.run_pure];rfl;refine⟨⟨rfl,rfl⟩,fun i=>?_⟩;rw[af.jo];by_cases hi:i=m;subst hi;rw[if_pos rfl,ho];exact⟨rfl,by simp[jE]⟩
 . rw[if_neg hi];cases S.get i with
   | none=>trivial
   | some x=>exact⟨rfl,rfl⟩
 by_cases h0:j=0;subst h0;refine br.alike (S':=S) (br.of (u:=goInt 0) ?_ (bJ.refl R) eK) ?_;simp only[Nat.zero_mul,List.take_zero] at hrun;simp only[Builtin.copy_,ht,Sem.run_bind,List.getElem?_toArray,List.getElem?_cons_zero,List.getElem?_cons_succ,run_underlying hu,Result.andThen_ok,h5,dI hs,hj,hrun,Sem.run_pure,storeCells];rfl;refine⟨⟨rfl,rfl⟩,fun i=>?_⟩;rw[af.jo];by_cases hi:i=m;subst hi;rw[if_pos rfl,ho];exact⟨rfl,by simp[jE]⟩
 . rw[if_neg hi];cases S.get i with
   | none=>trivial
   | some x=>exact⟨rfl,rfl⟩
 have hca:ad=⟨pl.block,pl.off+off,none⟩:=by
  rcases had with rfl|rfl;omega;rfl
 subst hca;have hlt:=(h3.takeN (j*sz)).length;have bM:(cs.take (j*sz)).length=j*sz:=by simp;omega
 have hn0:¬o.bytes:=by
  rcases hnb with h|h;exact h;exfalso;rw[h] at hb;have hb:off+len*sz<=0:=hb;have:1*1<=j*sz:=Nat.mul_le_mul (by omega) (by omega);omega
 obtain⟨hst,g⟩:=R.store (P:=P) ho hpl hmo hn0 hnw (h3.takeN (j*sz)) (fun v hv=>h4 v (List.mem_of_mem_take hv)) (off:=off) (by omega) (o':=Ob.of o.ty (jE o.cells off (cs.take (j*sz)))) rfl (by simp);refine br.of (u:=goInt j) ?_ g.up eK;simp only[Builtin.copy_,ht,Sem.run_bind,List.getElem?_toArray,List.getElem?_cons_zero,List.getElem?_cons_succ,run_underlying hu,Result.andThen_ok,h5,dI hs,hj,hrun,hst,Sem.run_pure]
theorem Ph(R : St base η Z S w){t ty el : TypeId}{ts : Array TypeId}{i : TypeInfo}{z : W}{zv : Value}(ht : ts[0]? = some t)(hu : P.underlying t = some (.slice el))(hi : P.info? el = some i)(hzv : i.zero = some zv)(hz : zo z zv = true)
 {u:Value} {m off len:Nat} (hx:au η Z (.sl m off len 1) u) {o:Ob} (ho:S.get m=some o) (hmo:¬o.gj) (hnb:¬o.bytes∨o.cells=[]) (hnw:¬o.wb) (hb:off+len<=o.cells.length) :
 br P base η Z S w (do pure (Next.value (<-Builtin.clear_ ts ty #[u]))) (.bF []) (S.put m (Ob.of o.ty (jE o.cells off (List.replicate len z)))):=by
 have sD:∀{u:Value},(Builtin.clear_ ts ty #[u]).run P w=.ok (.tuple #[]) w->len=0->br P base η Z S w (do pure (Next.value (<-Builtin.clear_ ts ty #[u]))) (.bF []) (S.put m (Ob.of o.ty (jE o.cells off (List.replicate len z)))):=by
  rintro u hr rfl;refine br.alike (S':=S) (br.of (u:=.tuple #[]) hr (bJ.refl R) ⟨[],rfl,trivial⟩) ⟨⟨rfl,rfl⟩,fun i=>?_⟩;rw[af.jo];by_cases hi:i=m;subst hi;rw[if_pos rfl,ho];exact⟨rfl,by simp[jE]⟩;rw[if_neg hi];cases S.get i with
  | none=>trivial
  | some x=>exact⟨rfl,rfl⟩
 rcases hx with ⟨rfl,rfl⟩|⟨pl,cap,ad,hpl,rfl,hcap,hroom,had⟩;exact sD (by simp[Builtin.clear_,ht,run_underlying hu]) rfl;by_cases h0:len=0;subst h0;exact sD (by simp[Builtin.clear_,ht,run_underlying hu]) rfl
 · have hca : ad = ⟨pl.block, pl.off + off, none⟩ := by
    rcases had with rfl|rfl;omega;rfl
   subst hca;obtain⟨hr,_,hone,hy⟩:=vP (η:=η) (Z:=Z) hz;have hrel : aL (au η Z) (List.replicate len z) (List.replicate len zv) := by
    apply aL.nT;simp;intro j x v hx hv;rw[List.getElem?_replicate] at hx hv;split at hx;rename_i hj;rw[if_pos hj] at hv;cases hx;cases hv;exact hr;cases hx
   have hn0:¬o.bytes:=by
    rcases hnb with h|h;exact h;exfalso;rw[h] at hb;have hb:off+len<=0:=hb;omega
   obtain⟨hst,g⟩:=R.store (P:=P) ho hpl hmo hn0 hnw hrel (fun v hv=>by rw[(List.mem_replicate.1 hv).2];exact hone) (off:=off) (by simp;omega) (o':=Ob.of o.ty (jE o.cells off (List.replicate len z))) rfl (by simp);have hzc:(Builtin.zeroCells zv.cells len).toList=List.replicate len zv:=by
    rw[hy];unfold Builtin.zeroCells;apply List.ext_getElem?;intro j;rw[List.getElem?_replicate];by_cases hj:j<len;simp[hj,Nat.mod_one];simp[hj]
   have B0:(zeroValue el).run P w=.ok zv w:=by simp[zeroValue,typeInfo,hi,hzv]
   refine br.of (u:=.tuple #[]) ?_ g.up ⟨[],rfl,trivial⟩;simp only[Builtin.clear_,ht,Sem.run_bind,List.getElem?_toArray,List.getElem?_cons_zero,run_underlying hu,Result.andThen_ok];cases len with
   | zero=>exact absurd rfl h0
   | succ n=>simp only[B0,Result.andThen_ok,hzc,hst,Sem.run_pure]
def qJ(l:List Int):ByteArray:=⟨(l.map fun n=>UInt8.ofNat n.toNat).toArray⟩
theorem Jp(l:List Int):qJ l=l.foldl (fun r n=>r.push (UInt8.ofNat n.toNat)) ByteArray.empty:=ah.OY l
theorem CZ{k:IntKind}:∀{l:List Int}{vs:List Value},aL (au η Z) (l.map (D.int k).w) vs->vs=l.map (Value.int k)
 | [],[],_=>rfl
 | n::l,v::vs,⟨a,b⟩=>by
   have:v=.int k n:=by simpa[D.w,au,aH] using a
   subst this;simp only[List.map_cons];rw[<-CZ b]
theorem Jq{src dst el:TypeId}(hs:P.underlying src=some (.slice el))(hd:P.underlying dst=some .string)(he:P.underlying el=some (.int .u8)){u:Value}{l:List Int}(hsrc:Src P η Z w u 1 (l.map (D.int .u8).w))(hu:∃ ad len c,u=.slice ad len c)(hnil:∀ len c,u=.slice none len c->l=[]) :
 bU P η Z w (do pure (Next.value (<-convert src dst u))) (.c (.str (qJ l))):=by
 obtain⟨ad,len,c,rfl⟩:=hu;obtain⟨m,vs,h1,h2,h3,h4,h5,h6⟩:=hsrc;have bO:len=m:=by
  have:=h5 w;simp[Builtin.lenOf] at this;exact this
 subst bO;have hvs:=CZ h3;cases ad with
 | none =>
   have:=hnil len c rfl;subst this;refine bU.of (u:=.string (qJ [])) ?_ qp;simp[convert,run_underlying hs,run_underlying hd,run_underlying he,Conv.bytesToString];rfl
 | some ad =>
   have xq:=h6 w len rfl (Nat.le_refl _);rw[List.take_of_length_le (by omega),hvs] at xq;simp only[Builtin.firstCells,Nat.mul_one] at xq;have:=run_bytesToString (P:=P) w ad len c l xq;refine bU.of (u:=.string (qJ l)) ?_ qp;simp only[convert,Sem.run_bind,run_underlying hs,run_underlying hd,run_underlying he,Result.andThen_ok,this,Jp]
end
def r7(P:Program):Nat->TypeId->Option D
 | 0,_=>none
 | k+1,t=>match P.underlying t with
   | some (.int k)=>some (.int k)
   | some .bool=>some .bool
   | some .string=>some .str
   | some (.slice el)=>match r7 P k el with|some d=>some (.sl d)|none=>none
   | _=>none
def Rv(P:Program):Nat->TypeId->Option (List Fd)
 | 0,_=>none
 | k+1,t=>match P.underlying t with
   | some (.struct fs)=>fs.toList.foldr (fun f r=>match Rv P k f.type,r with|some a,some b=>some (a++b)|_,_=>none) (some [])
   | some (.array n el)=>match r7 P 4 el with|some d=>some [.a n d (List.replicate n d.zero)]|none=>none
   | some _=>match O3 P t with|some z=>some [.c z]|none=>none
   | none=>none
def sE:List PV->List Fd->List Fd
 | .aZ n _::zs,.c .nil::l=>.c (.rs n [])::sE zs l
 | _::zs,.c x::l=>.c x::sE zs l
 | _,l=>l
def Yb(P:Program)(k:Nat)(t:TypeId):Option (List Fd):=match Rv P k t with
 | some fs=>(match P.underlying t with|some (.struct _)=>some (sE (shapes P t) fs)|_=>some fs)
 | none=>none
def Jr:List W->List Value->Bool
 | [],[]=>true
 | x::l,v::m=>zo x v&&Jr l m
 | _,_=>false
theorem A7{η:Eta}{Z:ar}:∀{l:List W}{m:List Value},Jr l m=true->aL (au η Z) l m/\∀ v∈m,v.oneCell'=true
 | [],[],_=>⟨trivial,by simp⟩
 | x::l,v::m,h=>by
   simp only[Jr,Bool.and_eq_true] at h;obtain⟨a,b⟩:=A7 (η:=η) (Z:=Z) h.2;obtain⟨c,_,d,_⟩:=vP (η:=η) (Z:=Z) h.1;refine⟨⟨c,a⟩,fun u hu=>?_⟩;rcases List.mem_cons.1 hu with rfl|hu;exact d;exact b u hu
 | [],_::_,h=>by cases h
 | _::_,[],h=>by cases h
def pq:List Fd->Nat->Fd->Option (List Fd)
 | [],_,_=>none
 | .c x::fs,k,f=>match k with
   | 0=>some (f::fs)
   | k+1=>match pq fs k f with|some r=>some (.c x::r)|none=>none
 | .a n d l::fs,k,f=>match k with
   | 0=>some (f::fs)
   | k+1=>bif Nat.blt (k+1) n then none else match pq fs (k+1-n) f with|some r=>some (.a n d l::r)|none=>none
 | .m _ _ _::_,_,_=>none
 | .b _::_,_,_=>none
theorem xu:∀{fs:List Fd}{off:Nat}{c:Cd}{f f':Fd}{fs':List Fd},iT fs off=some (c,f)->c->pq fs off f'=some fs'->∃ pre post,fs=pre++f::post/\fs'=pre++f'::post/\(pre.flatMap Fd.cells).length=off
 | [],_,_,_,_,_,e,_,_=>by cases e
 | .c x::fs,0,c,f,f',fs',e,_,h=>by
   simp only[iT] at e;simp only[pq] at h;cases e;cases h;exact⟨[],fs,rfl,rfl,rfl⟩
 | .c x::fs,k+1,c,f,f',fs',e,hc,h=>by
   simp only[iT] at e;simp only[pq] at h;split at h;rename_i r hr;cases h;obtain⟨pre,post,rfl,rfl,hl⟩:=xu e hc hr;exact⟨.c x::pre,post,rfl,rfl,by rw[List.flatMap_cons,List.length_append,hl];simp only[Fd.cells,List.length_singleton];omega⟩;cases h
 | .a n d l::fs,0,c,f,f',fs',e,_,h=>by
   simp only[iT] at e;simp only[pq] at h;cases e;cases h;exact⟨[],fs,rfl,rfl,rfl⟩
 | .a n d l :: fs, k + 1, c, f, f', fs', e, hc, h => by
   simp only[iT] at e;simp only[pq] at h;cases hb:Nat.blt (k+1) n with
   | true=>rw[hb] at e;cases e
   | false =>
     rw[hb] at e h;simp only[cond_false] at e h;have hn:n<=k+1:=by
      rcases Nat.lt_or_ge (k+1) n with h|h;rw[(Nat.blt_eq (x:=k+1) (y:=n)).mpr h] at hb;cases hb;exact h
     split at e;rename_i c' f'' he;cases e;split at h;rename_i r hr;cases h;obtain⟨pre,post,rfl,rfl,hl⟩:=xu he hc.2 hr;exact⟨.a n d l::pre,post,rfl,rfl,by rw[List.flatMap_cons,List.length_append,hl];simp only[Fd.cells,List.length_map];have:l.length=n:=hc.1;omega⟩;cases h;cases e
theorem Mc{fs fs':List Fd}{off:Nat}{c:Cd}{x y:W}(e:iT fs off=some (c,.c x))(hc:c)(h:pq fs off (.c y)=some fs'):fs'.flatMap Fd.cells=(fs.flatMap Fd.cells).set off y/\off<(fs.flatMap Fd.cells).length:=by
 obtain⟨pre,post,rfl,rfl,hl⟩:=xu e hc h;rw[List.flatMap_append,List.flatMap_append,List.flatMap_cons,List.flatMap_cons];refine⟨?_,by simp only[List.length_append,Fd.cells,List.length_singleton];omega⟩;rw[List.set_append_right _ _ (by omega),hl,Nat.sub_self];rfl
theorem Md{fs fs':List Fd}{off n n':Nat}{d:D}{l l':List d.ty}{c:Cd}(e:iT fs off=some (c,.a n d l))(hc:c)(h:pq fs off (.a n' d l')=some fs') :
 ∃ pre post,fs.flatMap Fd.cells=pre++l.map d.w++post/\fs'.flatMap Fd.cells=pre++l'.map d.w++post/\pre.length=off:=by
 obtain⟨pre,post,rfl,rfl,hl⟩:=xu e hc h;exact⟨pre.flatMap Fd.cells,post.flatMap Fd.cells,by simp[List.flatMap_append,Fd.cells],by simp[List.flatMap_append,Fd.cells],hl⟩
def DW(fs : List Fd)(off : Nat) : List W → Option (Cd × List Fd)
 | []=>some (.t,fs)
 | y :: cs => match iT fs off with
   | some (c,.c _)=>match pq fs off (.c y) with
     | some fs'=>match DW fs' (off+1) cs with
       | some (c',r)=>some (.and c c',r)
       | none=>none
     | none=>none
   | _=>none
theorem Cc : ∀{cs : List W}{fs fs' : List Fd}{off : Nat}{c : Cd}, DW fs off cs = some (c, fs') → c → fs'.flatMap Fd.cells = jE (fs.flatMap Fd.cells) off cs ∧ (cs ≠ [] → off + cs.length ≤ (fs.flatMap Fd.cells).length)
 | [],fs,fs',off,c,e,_=>by
   simp only[DW] at e;cases e;exact⟨rfl,fun h=>absurd rfl h⟩
 | y :: cs, fs, fs', off, c, e, hc => by
   simp only[DW] at e;split at e;rename_i c1 x hg;split at e;rename_i fs1 hp;split at e;rename_i c2 r hr;cases e;obtain⟨h1,h2⟩:=Mc hg hc.1 hp;obtain⟨h3,h4⟩:=Cc hr hc.2;rw[h1] at h3 h4;refine⟨h3,fun _=>?_⟩;by_cases h0:cs=[];subst h0;rw[List.length_singleton];omega;have:=h4 h0;rw[List.length_set] at this;rw[List.length_cons];omega;cases e;cases e;cases e
def Fd.list(d:D):List Fd->Option (List d.ty)
 | [.a _ d' l]=>if h:d'=d then some (h▸l) else none
 | _=>none
theorem Fd.gP{d:D}{fs:List Fd}{l:List d.ty}(h:Fd.list d fs=some l):fs.flatMap Fd.cells=l.map d.w:=by
 unfold Fd.list at h;split at h;split at h;rename_i hd;subst hd;cases h;simp[Fd.cells];cases h;cases h
noncomputable def Js(S:af):(d:D)->W->Option (Cd×d.ty×af)
 | .sl e,.sl m off len sz=>bif Nat.beq sz 1 then match S.get m with
  | some o=>match Fd.list e o.fs with
    | some l=>some (.p (off+len<=l.length),((l.drop off).take len:List e.ty),S.del m)
    | none=>none
  | none=>none
   else none
 | d,x=>match d.of x with|some y=>some (.t,y,S)|none=>none
section
variable {P:Program} {base n:Nat} {η:Eta} {Z:ar} {S:af} {w:World} {F:Fr} {a:Act}
theorem mz{d:D}{x:W}{y:d.ty}(e:d.of x=some y){v:Value}(h:au η Z x v):cA Z d y v:=D.of_rel e (au.frel (D.Vf e) h)
theorem nA{sz:Nat}(h:Nat.beq sz 1=true):sz=1:=Nat.eq_of_beq_eq_true h
theorem Rx(R : St base η Z S w){m off len : Nat}{o : Ob}(ho : S.get m = some o){e : D}{l : List e.ty}(hl : Fd.list e o.fs = some l)(hb : off + len ≤ l.length){v : Value}(h : au η Z (.sl m off len 1) v) :
 ∃ Z',bJ base η Z S w η Z' (S.del m) w/\cA Z' (.sl e) ((l.drop off).take len) v:=by
 have hc:=Fd.gP hl;have hz:len=0->∀ ad cap Z',v=.slice ad 0 cap->cA Z' (.sl e) ((l.drop off).take len) v:=by
  rintro rfl ad cap Z' rfl;exact⟨ad,0,cap,rfl,by simp,Nat.zero_le _,.inl (by simp)⟩
 rcases h with ⟨h0,rfl⟩|⟨p,c,ad,hp,rfl,hcap,hroom,had⟩;exact⟨Z,⟨Eta.le.refl _,R.del m,Step.del m⟩,hz h0 _ _ _ rfl⟩;by_cases h0:len=0;subst h0;exact⟨Z,⟨Eta.le.refl _,R.del m,Step.del m⟩,hz rfl _ _ _ rfl⟩;obtain⟨cs,ty,fz,hh,mv,hv⟩:=R.freeze ho hp (Ob.gG (o:=o) hc);refine⟨_,mv,some ad,len,c,rfl,by simp;omega,hcap,.inr ⟨p.block,p.off+off,cs,?_,?_,?_⟩⟩;rcases had with h|h;omega;rw[h];unfold ar.add;rw[if_pos rfl];intro i x hx;have hx':(l.map e.w)[off+i]? = some (e.w x):=by
  rw[List.getElem?_take] at hx;split at hx;rw[List.getElem?_drop] at hx;simp[hx];cases hx
 obtain⟨u,h1,h2⟩:=hv (off+i) _ (by unfold Ob.cells;rw[hc];exact hx');exact⟨u,by rw[<-h1];congr 1;omega,cA.mono mv.step.cI e ((D.fe e).1 h2)⟩
noncomputable def Vv(S:af):W->Option (Cd×W×af)
 | .sl m off len sz=>match S.get m with
   | some o=>match Fd.list .pv o.fs with
     | some l=>some (.p (off+len*sz<=List.length (α:=PV) l),.rs sz ((List.drop (α:=PV) off l).take (len*sz)),S.del m)
     | none=>none
   | none=>none
 | _=>none
theorem Ry(R : St base η Z S w){m off len sz : Nat}{o : Ob}(ho : S.get m = some o)(hM : ¬o.gj){l : List PV}(hc : o.cells = l.map PV.w)(hb : off + len * sz ≤ l.length){v : Value}(h : au η Z (.sl m off len sz) v) :
 ∃ Z',bJ base η Z S w η Z' (S.del m) w/\dw Z' (.aZ sz ((l.drop off).take (len*sz))) v:=by
 have hz:len=0->∀ ad cap Z',v=.slice ad 0 cap->dw Z' (.aZ sz ((l.drop off).take (len*sz))) v:=by
  rintro rfl ad cap Z' rfl;simp only[dw];exact⟨ad,0,cap,rfl,by simp,Nat.zero_le _,.inl (by simp)⟩
 rcases h with ⟨h0,rfl⟩|⟨p,c,ad,hp,rfl,hcap,hroom,had⟩;exact⟨Z,⟨Eta.le.refl _,R.del m,Step.del m⟩,hz h0 _ _ _ rfl⟩;by_cases h0:len=0;subst h0;exact⟨Z,⟨Eta.le.refl _,R.del m,Step.del m⟩,hz rfl _ _ _ rfl⟩;obtain⟨cs,ty,fz,hh,mv,hv⟩:=R.freeze ho hp hM;refine⟨_,mv,?_⟩;simp only[dw];refine⟨some ad,len,c,rfl,by simp;omega,hcap,.inr ⟨p.block,p.off+off,cs,?_,?_,?_⟩⟩;rcases had with h|h;omega;rw[h];unfold ar.add;rw[if_pos rfl];rw[iV.iff];intro i x hx;have hx':(l.map PV.w)[off+i]? = some (PV.w x):=by
  rw[List.getElem?_take] at hx;split at hx;rw[List.getElem?_drop] at hx;simp[hx];cases hx
 obtain⟨u,h1,h2⟩:=hv (off+i) _ (by rw[hc];exact hx');exact⟨u,by rw[<-h1];congr 1;omega,dw.mono mv.step.cI (PV.fe.1 h2)⟩
theorem Rz(R:St base η Z S w){x y:W}{c:Cd}{S':af}(e:Vv S x=some (c,y,S'))(hc:c){v:Value}(h:au η Z x v):∃ Z',bJ base η Z S w η Z' S' w/\au η Z' y v/\y≠.cX:=by
 unfold Vv at e;split at e;split at e;rename_i o ho;split at e;rename_i l hl;cases e;have bM:=Fd.gP hl;obtain⟨Z',a,b⟩:=Ry R ho (Ob.gG (o:=o) bM) (l:=l) bM hc h;exact⟨Z',a,by simpa only[au,aH] using b,by intro h;cases h⟩;cases e;cases e;cases e
theorem zu(R:St base η Z S w){d:D}{x:W}{c:Cd}{y:d.ty}{S':af}(e:Js S d x=some (c,y,S'))(hc:c){v:Value}(h:au η Z x v) :
 ∃ Z',bJ base η Z S w η Z' S' w/\cA Z' d y v/\(S'=S∨∃ m,S'=S.del m):=by
 unfold Js at e;split at e;rename_i d m off len sz;obtain⟨hs,e⟩:=ah.aA e;have hs1:=nA hs;subst hs1;split at e;rename_i o ho;split at e;rename_i l hl;cases e;obtain⟨Z',a,b⟩:=Rx R ho hl hc h;exact⟨Z',a,b,.inr ⟨m,rfl⟩⟩;cases e;cases e;split at e;rename_i y' hy;cases e;exact⟨Z,bJ.refl R,mz hy h,.inl rfl⟩;cases e
def Fd.hole:List Fd->Option ((d:D)×(List d.ty×W×List d.ty))
 | [.a k d l,.c x,.a k' d' l']=>bif Nat.beq k 1&&Nat.beq k' 1 then(if h:d'=d then some ⟨d,l,x,h▸l'⟩ else none) else none
 | _=>none
theorem Fd.MN{fs:List Fd}{d:D}{l l':List d.ty}{x:W}(h:Fd.hole fs=some ⟨d,l,x,l'⟩):∃ k k',fs=[.a k d l,.c x,.a k' d l']:=by
 unfold Fd.hole at h;split at h;rename_i k d1 l1 x1 k' d2 l2;obtain⟨_,h⟩:=ah.aA h;split at h;rename_i hd;subst hd;cases h;exact⟨k,k',rfl⟩;cases h;cases h
def D.pz:D->Bool
 | .int .u8=>true
 | _=>false
theorem D.w_u8{d:D}(h:d.pz=true)(x:d.ty):∃ n,d.w x=.int .u8 n:=by
 unfold D.pz at h;split at h;exact⟨x,rfl⟩;cases h
theorem D.DX{d:D}(h:d.pz=false)(x:d.ty)(n:Int):d.w x≠.int .u8 n:=by
 intro e;cases d with
 | int k =>
   have e:W.int k x=.int .u8 n:=e;cases e;cases h
 | bool=>cases e
 | str=>cases e
 | sl d=>cases e
 | pv =>
   have e:PV.w x=.int .u8 n:=e;cases x<;>cases e
theorem Yc{Z:ar}{y:D.ty .pv}{n:Int}(h:cA Z .pv y (.int .u8 n)):D.w .pv y=.int .u8 n:=by
 have h:dw Z y (.int .u8 n):=h;cases y<;>simp only[dw] at h<;>first|(cases h;done)|(obtain⟨_,_,_,h,_⟩:=h;cases h)
noncomputable def shut(S:af)(m:Nat):Option (Cd×af):=match S.rN m with
 | some o=>match Fd.hole o.fs with
   | some ⟨d,l,x,l'⟩=>bif d.pz then none else(match Js S d x with
     | some (c,y,S1)=>match S1.get m with
       | some _=>some (c,S1.put m ⟨o.ty,[.a 1 d (l++y::l')]⟩)
       | none=>none
     | none=>none)
   | none=>none
 | none=>none
theorem Fb(R : St base η Z S w){m : Nat}{c : Cd}{S' : af}(e : shut S m = some (c, S'))(hc : c) : ∃ Z', bJ base η Z S w η Z' S' w ∧ ∀ i, i ≠ m → S'.get i = none ∨ S'.get i = S.get i := by
 unfold shut at e;split at e
 · rename_i o ho
   obtain⟨ho,hmo⟩:=jO ho;split at e
   · rename_i d l x l' hh
     cases sY:d.pz with
     | true=>rw[sY] at e;cases e
     | false =>
     rw[sY] at e;simp only[cond_false] at e;split at e;rename_i c1 y S1 hf;split at e
     . rename_i o1 jW;cases e;obtain⟨k,k',hfs⟩:=Fd.MN hh;have bM:o.cells=l.map d.w++x::l'.map d.w:=by unfold Ob.cells;rw[hfs];simp[Fd.cells]
       have hx:o.cells[l.length]? = some x:=by rw[bM,List.getElem?_append_right (by simp)];simp
       cases hp:η m with
       | none=>rw[R.cG m o ho hp] at hx;simp at hx
       | some p =>
         obtain⟨_,_,L⟩:=R.aj m o p ho hp;obtain⟨cs,fz,h1,h2,h3,p6⟩:=L.there hmo;obtain⟨v,hv,hr,hone⟩:=h3 _ _ hx;obtain⟨Z1,mv,hd,hS⟩:=zu R hf hc hr;have h4:=p6.plain (hw:=Ob.sR (List.mem_of_getElem? hx) (fun n e=>by subst e;have hr:v=.int .u8 n:=hr;subst hr;exact(by
          cases d with
          | int k=>have hd:Value.int .u8 n=.int k y:=hd;cases hd;cases sY
          | bool=>have hd:Value.int .u8 n=.bool y:=hd;cases hd
          | str=>have hd:Value.int .u8 n=.string y:=hd;cases hd
          | sl d=>obtain⟨_,_,_,hd,_⟩:=hd;cases hd
          | pv=>exact D.DX sY y n (Yc hd)))) fun hB=>by
          obtain⟨n,e⟩:=hB x (List.mem_of_getElem? hx);subst e;have hr:v=.int .u8 n:=by simpa only[au,aH] using hr
          subst hr;cases d with
          | int k =>
            have hd:Value.int .u8 n=.int k y:=hd;cases hd;cases sY
          | bool=>have hd:Value.int .u8 n=.bool y:=hd;cases hd
          | str=>have hd:Value.int .u8 n=.string y:=hd;cases hd
          | sl d=>obtain⟨_,_,_,hd,_⟩:=hd;cases hd
          | pv=>exact D.DX sY y n (Yc hd)
         have hget:∀ i,S1.get i=none∨S1.get i=S.get i:=by
          intro i;rcases hS with rfl|⟨m',rfl⟩;exact .inr rfl;rw[af.ia];by_cases hi:i=m';rw[if_pos hi];exact .inl rfl;rw[if_neg hi];exact .inr rfl
         have Vw:S1.get m=some o:=by
          rcases hget m with h|h;rw[h] at jW;cases jW;rw[h];exact ho
         have g : qm base η Z1 S1 w η (S1.put m ⟨o.ty, [.a 1 d (l ++ y :: l')]⟩) w := by
          refine mv.st.write Vw hp rfl rfl rfl rfl (fun _ _=>rfl) (fk.plain (Ob.gG (d:=d) (l:=l++y::l') (by unfold Ob.cells;simp[Fd.cells])) ⟨cs,fz,h1,h2,?_,h4⟩ ?_);intro i z hz;have hz':(l.map d.w++d.w y::l'.map d.w)[i]? = some z:=by
           rw[<-hz];unfold Ob.cells;simp[Fd.cells]
          by_cases hi:i=l.length;subst hi;rw[List.getElem?_append_right (by simp)] at hz';simp at hz';subst hz';exact⟨v,hv,(D.fe d).2 hd,hone⟩;obtain⟨v',a,b,e⟩:=h3 i z (by
           rw[bM,<-hz'];rcases Nat.lt_or_gt_of_ne hi with hi|hi;rw[List.getElem?_append_left (by simpa using hi),List.getElem?_append_left (by simpa using hi)];rw[List.getElem?_append_right (by simp;omega),List.getElem?_append_right (by simp;omega)];simp only[List.length_map];obtain⟨j,hj⟩:∃ j,i-l.length=j+1:=⟨i-l.length-1,by omega⟩;rw[hj];rfl)
          exact⟨v',a,b.mono (Eta.le.refl _) mv.step.cI,e⟩;have:=L.size hmo;rw[bM] at this;unfold Ob.cells;simp[Fd.cells] at this ⊢;omega
         refine⟨Z1,mv.trans g.up,fun i hi=>?_⟩;rw[af.jo,if_neg hi];exact hget i
     cases e;cases e
   cases e
 cases e
noncomputable def Gm(S:af)(d:D)(x:W):Option (Cd×d.ty×af) :=
 match Js S d x with
 | some r=>some r
 | none=>match x with
   | .sl m off len sz=>match shut S m with
     | some (c,S1)=>match Js S1 d (.sl m off len sz) with
       | some (c',y,S2)=>some (.and c c',y,S2.del m)
       | none=>none
     | none=>none
   | _=>none
theorem oy(R : St base η Z S w){d : D}{x : W}{c : Cd}{y : d.ty}{S' : af}(e : Gm S d x = some (c, y, S'))(hc : c){v : Value}(h : au η Z x v) :
 ∃ Z',bJ base η Z S w η Z' S' w/\cA Z' d y v/\∀ i,S'.get i=none∨S'.get i=S.get i:=by
 have fO:∀{S S':af},(S'=S∨∃ m,S'=S.del m)->∀ i,S'.get i=none∨S'.get i=S.get i:=by
  intro S S' hS i;rcases hS with rfl|⟨m',rfl⟩;exact .inr rfl;rw[af.ia];by_cases hi:i=m';rw[if_pos hi];exact .inl rfl;rw[if_neg hi];exact .inr rfl
 unfold Gm at e;split at e;rename_i r hr;cases e;obtain⟨Z',a,b,hS⟩:=zu R hr hc h;exact⟨Z',a,b,fO hS⟩
 · split at e
   rename_i m off len sz _;split at e;rename_i c1 S1 hs;split at e;rename_i c2 y2 S2 hf;cases e;obtain⟨Z1,Gn,g1⟩:=Fb R hs hc.1;obtain⟨Z2,gF,hd,hS⟩:=zu Gn.st hf hc.2 (h.mono (Eta.le.refl _) Gn.step.cI);refine⟨Z2,(Gn.trans gF).trans ⟨Eta.le.refl _,gF.st.del m,Step.del m⟩,hd,fun i=>?_⟩;rw[af.ia];by_cases hi:i=m;rw[if_pos hi];exact .inl rfl;rw[if_neg hi];rcases fO hS i with h|h;exact .inl h;rw[h];exact g1 i hi;cases e;cases e;cases e
end
noncomputable def Fe(S:af)(d:D):List V->Option (Cd×List d.ty×af)
 | []=>some (.t,[],S)
 | .c x::l=>match Gm S d x with
   | some (c,y,S1)=>match Fe S1 d l with
     | some (c',ys,S2)=>some (.and c c',y::ys,S2)
     | none=>none
   | none=>none
 | _=>none
def jA(s:ByteArray):List Int:=s.data.toList.map fun b=>(b.toNat:Int)
def strD:(d:D)->ByteArray->Option (Cd×List d.ty)
 | .int .u8,s=>some (.t,jA s)
 | _,_=>none
noncomputable def C0(S:af)(d:D)(x:W):Option (Cd×List d.ty) :=
 match x with
 | .nil=>some (.t,[])
 | .rd d' l=>if h:d'=d then some (.t,h▸l) else none
 | .sl m off len sz=>bif Nat.beq sz 1 then match S.get m with
  | some o=>match Fd.list d o.fs with
    | some l=>some (.p (off+len<=l.length),(l.drop off).take len)
    | none=>none
  | none=>none
   else none
 | .str s=>strD d s
 | _=>none
def PV.conv:PV->W->Option PV
 | .strs _,.nil=>some (.strs [])
 | .aZ n _,.nil=>some (.aZ n [])
 | _,x=>PV.of x
def kV(z0:List PV):List PV->List W->Option (List PV)
 | _,[]=>some []
 | z::zs,x::l=>match z.conv x,kV z0 zs l with|some y,some r=>some (y::r)|_,_=>none
 | [],x::l=>match z0 with
   | z::zs=>match z.conv x,kV z0 zs l with|some y,some r=>some (y::r)|_,_=>none
   | []=>none
theorem PV.C3{η:Eta}{Z:ar}{z y:PV}{x:W}{v:Value}(e:z.conv x=some y)(h:au η Z x v):au η Z y.w v:=by
 unfold PV.conv at e
 split at e;cases e;have h:v=.slice none 0 0:=h.nil_eq;subst h;exact PV.fe.2 (by simp only[dw];exact⟨none,0,0,rfl,rfl,Nat.le_refl _,.inl trivial⟩);cases e;have h:v=.slice none 0 0:=h.nil_eq;subst h;exact PV.fe.2 (by simp only[dw];exact⟨none,0,0,rfl,by simp,Nat.le_refl _,.inl trivial⟩);rw[<-PV.of_eq e];exact h
theorem zw{η:Eta}{Z:ar}{z0:List PV}:∀{l:List W}{zs ys:List PV}{vs:List Value},kV z0 zs l=some ys->aL (au η Z) l vs->aL (au η Z) (ys.map PV.w) vs/\ys.length=l.length
 | [],zs,ys,vs,e,h=>by
   simp only[kV] at e;cases e;cases vs with
   | nil=>exact⟨trivial,rfl⟩
   | cons _ _=>exact h.elim
 | x :: l, z :: zs, ys, vs, e, h => by
   simp only[kV] at e;split at e
   . rename_i y r hy hr;cases e;cases vs with
     | nil=>exact h.elim
     | cons v vs =>
       obtain⟨a,b⟩:=zw hr h.2;exact⟨⟨PV.C3 hy h.1,a⟩,by simp[b]⟩
   cases e
 | x :: l, [], ys, vs, e, h => by
   simp only[kV] at e;split at e;split at e
   . rename_i y r hy hr;cases e;cases vs with
     | nil=>exact h.elim
     | cons v vs =>
       obtain⟨a,b⟩:=zw hr h.2;exact⟨⟨PV.C3 hy h.1,a⟩,by simp[b]⟩
   cases e;cases e
def Vx(S : af)(zs : List PV)(sz : Nat)(y : W) : Option (Cd × List PV × Nat) :=
 match y with
 | .nil=>some (.t,[],0)
 | .rs sz' l=>bif Nat.beq sz' sz then some (.t,l,l.length/sz) else none
 | .sl m off len sz'=>bif Nat.beq sz' sz then match S.rN m with
  | some o=>match Fd.list .pv o.fs with
    | some l=>some (.p (off+len*sz<=List.length (α:=PV) l),(List.drop (α:=PV) off l).take (len*sz),len)
    | none=>match kV zs [] o.cells with
      | some ys=>bif Nat.beq off 0&&Nat.beq ys.length (len*sz) then some (.t,ys,len) else none
      | none=>none
  | none=>none
   else none
 | _=>none
def elK(P:Program)(el:TypeId):Option (D×Nat):=match r7 P 4 el with
 | some d=>some (d,1)
 | none=>match P.underlying el,gE P el with
   | some (.struct _),some n=>if n=0 then none else some (.pv,n)
   | some (.array _ _),some n=>if n=0 then none else some (.pv,n)
   | _,_=>none
def Jt(S : af)(x : W) : Option (Cd × List Int) :=
 match x with
 | .sl m off len sz=>bif Nat.beq sz 1 then match S.get m with
  | some o=>match I5 o.fs with
    | some l=>some (.p (off+len<=l.length),(l.drop off).take len)
    | none=>none
  | none=>none
   else none
 | _=>none
def D.same:(d:D)->W->Option d.ty
 | .int k,.int k' n=>if k'=k then some n else none
 | .bool,.bool b=>some b
 | .str,.str s=>some s
 | _,_=>none
theorem D.same_w{d:D}{x:W}{y:d.ty}(e:d.same x=some y):d.w y=x:=by
 cases d<;>cases x<;>simp only[D.same] at e<;>try cases e
 rename_i k k' n;split at e;rename_i hk;subst hk;cases e;rfl;cases e;rfl;rfl
def A8(d:D):Nat->List W->Option (List d.ty×List W)
 | 0,l=>some ([],l)
 | n+1,x::l=>match d.same x,A8 d n l with|some y,some (ys,r)=>some (y::ys,r)|_,_=>none
 | _+1,[]=>none
theorem Ju{d:D}:∀{n:Nat}{l r:List W}{ys:List d.ty},A8 d n l=some (ys,r)->l=ys.map d.w++r
 | 0,l,r,ys,e=>by simp only[A8] at e;cases e;rfl
 | n+1,[],r,ys,e=>by simp only[A8] at e;cases e
 | n + 1, x :: l, r, ys, e => by
   simp only[A8] at e;split at e;rename_i y ys' r' h1 h2;cases e;rw[Ju h2,List.map_cons,D.same_w h1];rfl;cases e
def nB:List Fd->List W->Option (List Fd)
 | [],[]=>some []
 | .c _::fs,x::l=>match nB fs l with|some r=>some (.c x::r)|none=>none
 | .a n d _::fs,l=>match A8 d n l with
   | some (ys,r)=>(match nB fs r with|some q=>some (.a n d ys::q)|none=>none)
   | none=>none
 | _,_=>none
theorem xw:∀{fs:List Fd}{l:List W}{r:List Fd},nB fs l=some r->r.flatMap Fd.cells=l
 | [],[],r,e=>by simp only[nB] at e;cases e;rfl
 | [],_::_,r,e=>by simp only[nB] at e;cases e
 | .c _::fs,[],r,e=>by simp only[nB] at e;cases e
 | .c _::fs,x::l,r,e=>by
   simp only[nB] at e;split at e;rename_i q h;cases e;rw[List.flatMap_cons,xw h];rfl;cases e
 | .a n d _::fs,l,r,e=>by
   simp only[nB] at e;split at e;rename_i ys q h;split at e;rename_i q' h';cases e;rw[List.flatMap_cons,xw h',Ju h];rfl;cases e;cases e
def Jv(fs:Option (List Fd))(l:List W):List Fd :=
 match fs with
 | some fs=>(match nB fs l with|some r=>r|none=>l.map .c)
 | none=>l.map .c
theorem Jw{fs:Option (List Fd)}{l:List W}:(Jv fs l).flatMap Fd.cells=l:=by
 unfold Jv;split;split;rename_i h;exact xw h;exact vH l;exact vH l
def Vy:List W->Bool
 | [.dH,.nil]=>true
 | _=>false
theorem ZU{l:List W}(h:Vy l=true):l=[.dH,.nil]:=by
 unfold Vy at h;split at h;rfl;cases h
def D.kD:(d:D)->d.ty->d.ty->Bool
 | .int _,a,b=>decide ((show Int from a)=b)
 | .str,a,b=>decide ((show ByteArray from a)=b)
 | _,_,_=>false
def D.isKey:D->Bool
 | .int _=>true
 | .str=>true
 | _=>false
theorem D.Gp{d:D}(h:d.isKey=true){a b:d.ty}:d.kD a b=true↔a=b:=by
 cases d<;>simp only[D.isKey] at h<;>first|(cases h;done)|(simp only[D.kD];exact decide_eq_true_iff)
def bI(kd vd:D)(k:kd.ty)(v:vd.ty):List (kd.ty×vd.ty)->List (kd.ty×vd.ty)
 | []=>[(k,v)]
 | (k',v')::l=>bif kd.kD k k' then(k,v)::l else(k',v')::bI kd vd k v l
def mH(kd vd:D)(k:kd.ty):List (kd.ty×vd.ty)->Option vd.ty
 | []=>none
 | (k',v')::l=>bif kd.kD k k' then some v' else mH kd vd k l
def dz(kd vd:D)(l:List (kd.ty×vd.ty))(k:kd.ty):vd.ty:=match mH kd vd k l with|some v=>v|none=>vd.zero
def Pj(kd vd:D)(l:List (kd.ty×vd.ty))(k:kd.ty):Bool:=(mH kd vd k l).isSome
inductive L where
 | Yd (ty:TypeId) (kd vd:D)
 | bI (kd vd:D) (m k v:bR)
 | dz (kd vd:D) (m k:bR) (ok:Bool)
 | RB (ty:TypeId)
 | Pk (kd:D) (m k v:bR)
 | Ye (kd:D) (m k:bR)
 | alloc (ty:TypeId) (fs:List Fd)
 | RD (ty el:TypeId)
 | boxB (ty el:TypeId) (x:bR)
 | ustr (el:TypeId) (x n:bR)
 | nil (el:TypeId) (d:D) (sz:Nat)
 | box (ty:TypeId) (fs:Option (List Fd)) (x:bR)
 | store (n:Nat) (x v:bR)
 | make (el:TypeId) (bytes:Nat) (d:D) (l c:bR)
 | lit (el:TypeId) (sz:Nat) (d:Option D) (h:Bool) (zs:List PV) (parts:List bR)
 | append (el:TypeId) (bytes:Nat) (d:D) (x y:bR)
 | MO (el:TypeId) (bytes sz:Nat) (zs:List PV) (x y:bR)
 | zeros (el:TypeId) (bytes:Nat) (d:D) (x y:bR)
 | RE (el:TypeId) (bytes sz:Nat) (zs:List PV) (x y:bR)
 | copy (d:D) (x y:bR)
 | clear (d:D) (x:bR)
 | b2s (x:bR)
 | mki (t:TypeId) (x:bR)
 | tas (t:TypeId) (z:V) (x:bR)
 | p7 (x v:bR)
 | s2b (el:TypeId) (x:bR)
 | mlen (kd vd:D) (x:bR)
def H9(sz:Nat):List V->Bool
 | []=>true
 | v::l=>Nat.beq v.cells.length sz&&H9 sz l
def spl{α:Type}(l:List α)(off:Nat)(ys:List α):List α:=l.take off++ys++l.drop (off+ys.length)
def Jy(d:Option D)(h:Bool)(vs:List V):Option (List Fd):=match d,vs with
 | some d,[.c (.sl m off len sz)]=>bif h&&Nat.beq sz 1 then some [.a 1 d [],.c (.sl m off len sz),.a 1 d []] else none
 | _,_=>none
theorem Jz{d:Option D}{h:Bool}{vs:List V}{fs:List Fd}(e:Jy d h vs=some fs):fs.flatMap Fd.cells=vs.flatMap V.cells:=by
 unfold Jy at e;split at e;obtain⟨_,e⟩:=ah.aA e;cases e;rfl;cases e
def Fd.one:List Fd->Option W
 | [.a _ _ l,.c x,.a _ _ l']=>match l,l' with
   | [],[]=>some x
   | _,_=>none
 | _=>none
theorem Fd.Gq{fs:List Fd}{x:W}(e:Fd.one fs=some x):fs.flatMap Fd.cells=[x]:=by
 unfold Fd.one at e;split at e;split at e;cases e;rfl;cases e;cases e
def rowOf(S:af)(d:D):W->Option (Nat×Nat×List Int×Nat)
 | .sl q off len sz => match d, S.rN q with
   | .sl (.int .i64),some o=>match Fd.one o.fs with
     | some (.sl m off' k sz')=>bif Nat.beq off 0&&Nat.beq len 1&&Nat.beq sz 1&&Nat.beq sz' 1 then match S.get m with
      | some om=>match Fd.list (.int .i64) om.fs with
        | some l=>(match off' with|0=>some (m,k,(l:List Int),List.length (α:=Int) l)|j+1=>some (m,k,List.drop (α:=Int) (j+1) l,List.length (α:=Int) l))
        | none=>none
      | none=>none
       else none
     | _=>none
   | _,_=>none
 | _=>none
theorem Pm{S : af}{d : D}{y : W}{m k n0 : Nat}{l : List Int}(e : rowOf S d y = some (m, k, l, n0)) : ∃(q : Nat)(o om : Ob)(ro : Nat)(l0 : List Int), y = .sl q 0 1 1 ∧ S.get q = some o ∧ ¬o.gj ∧ o.cells = [.sl m ro k 1] ∧ S.get m = some om ∧ om.cells = l0.map (W.int .i64) ∧ l = l0.drop ro ∧ n0 = l0.length := by
 unfold rowOf at e;split at e;rename_i q off len sz;split at e;rename_i o ho;obtain⟨ho,hmo⟩:=jO ho;split at e;rename_i m' off' k' sz' h1;obtain⟨hb,e⟩:=ah.aA e;simp only[Bool.and_eq_true] at hb;obtain⟨⟨⟨b1,b2⟩,b3⟩,b5⟩:=hb;have b1:=Nat.eq_of_beq_eq_true b1;have b2:=Nat.eq_of_beq_eq_true b2;have b3:=Nat.eq_of_beq_eq_true b3;have b5:=Nat.eq_of_beq_eq_true b5;subst b1;subst b2;subst b3;subst b5;split at e;rename_i om RF;split at e
 . rename_i l' hl;cases off' with
   | zero =>
     cases e;exact⟨q,o,om,0,_,rfl,ho,hmo,Fd.Gq h1,RF,Fd.gP hl,rfl,rfl⟩
   | succ j =>
     cases e;exact⟨q,o,om,j+1,l',rfl,ho,hmo,Fd.Gq h1,RF,Fd.gP hl,rfl,rfl⟩
 cases e;cases e;cases e;cases e;cases e
def Vz(zs:List PV)(vs:List V):Option (List PV):=match zs with
 | []=>none
 | z::zs=>kV (z::zs) [] (vs.flatMap V.cells)
noncomputable def litV(S:af)(d:Option D)(h:Bool)(vs:List V):Option (Cd×List Fd×af) :=
 match Jy d h vs with
 | some fs=>some (.t,fs,S)
 | none=>match d with
 | some d=>match Fe S d vs with
   | some (c,ys,S1)=>some (c,[.a 0 d ys],S1)
   | none=>some (.t,(vs.flatMap V.cells).map .c,S)
 | none=>some (.t,(vs.flatMap V.cells).map .c,S)
def Fd.nb:Fd->Bool
 | .c (.int .u8 _)=>false
 | .c (.lZ _)=>false
 | .c _=>true
 | _=>false
def RG(fs:List Fd):Bool:=fs.any Fd.nb||(match fs with | [.a _ d _]=>!d.pz|_=>false)
theorem nbF_ok{o:Ob}(h:RG o.fs=true)(h0:o.cells≠[]):¬o.bytes:=by
 intro hB;unfold RG at h;rw[Bool.or_eq_true] at h;rcases h with h|h
 . obtain⟨f,hf,hn⟩:=List.any_eq_true.1 h;cases f with
   | c x =>
     obtain⟨n,e⟩:=hB x (by unfold Ob.cells;exact List.mem_flatMap.2 ⟨_,hf,by simp[Fd.cells]⟩);subst e;cases hn
   | a _ _ _=>cases hn
   | m _ _ _=>cases hn
   | b _=>cases hn
 split at h
 . rename_i k d l hfs;have bM:o.cells=l.map d.w:=by unfold Ob.cells;rw[hfs];simp[Fd.cells]
   cases l with
   | nil=>exact h0 (by rw[bM];rfl)
   | cons x l =>
     obtain⟨n,e⟩:=hB (d.w x) (by rw[bM];simp);exact D.DX (by simpa using h) x n e
 cases h
theorem nbF_wb{o:Ob}(h:RG o.fs=true):¬o.wb:=by
 unfold RG at h;rw[Bool.or_eq_true] at h;rcases h with h|h
 . obtain⟨f,hf,hn⟩:=List.any_eq_true.1 h;cases f with
   | c x =>
     refine Ob.sR (x:=x) (by unfold Ob.cells;exact List.mem_flatMap.2 ⟨_,hf,by simp[Fd.cells]⟩) fun n e=>?_;subst e;cases hn
   | a _ _ _=>cases hn
   | m _ _ _=>cases hn
   | b _=>cases hn
 split at h;rename_i k d l hfs;exact Ob.ql (d:=d) (l:=l) (by unfold Ob.cells;rw[hfs];simp[Fd.cells]);cases h
theorem vR{o:Ob}{d:D}{l:List d.ty}(bM:o.cells=l.map d.w)(h:d.pz=false):¬o.bytes∨o.cells=[]:=by
 cases l with
 | nil=>right;rw[bM];rfl
 | cons x l =>
   left;intro hB;obtain⟨n,e⟩:=hB (d.w x) (by rw[bM];simp);exact D.DX h x n e
noncomputable def opn(S:af)(m i:Nat)(y:W):Option (Cd×af):=match S.rN m with
 | some o=>match o.fs with
   | [.a k d l]=>bif Nat.beq k 1&&!d.pz then some (.p (i<l.length),S.put m ⟨o.ty,[.a 1 d (l.take i),.c y,.a 1 d (l.drop (i+1))]⟩) else none
   | _=>none
 | none=>none
noncomputable def again(S:af)(m i:Nat)(y:W):Option (Cd×af):=match S.rN m with
 | some o=>match Fd.hole o.fs with
   | some ⟨d,l,.sl k _ _ _,l'⟩=>match S.get k with
     | none=>some (.p (i=l.length),S.put m ⟨o.ty,[.a 1 d l,.c y,.a 1 d l']⟩)
     | some _=>none
   | _=>none
 | none=>none
noncomputable def VA(S:af)(m i:Nat)(y:W):Option (Cd×af):=match y with
 | .sl _ _ _ _ => match opn S m i y with
   | some r=>some r
   | none=>match again S m i y with
     | some r=>some r
     | none=>match shut S m with
       | some (c,S1)=>match opn S1 m i y with
         | some (c',S')=>some (.and c c',S')
         | none=>none
       | none=>none
 | _=>none
def D.isSl:D->Bool
 | .sl _=>true
 | _=>false
def Ob.qq(kd vd:D)(o:Ob):Option (List (kd.ty×vd.ty)):=match o.fs with
 | [.m Yf vd' l]=>if h:Yf=kd/\vd'=vd then some (h.1▸h.2▸l) else none
 | _=>none
theorem Ob.ZV{kd vd:D}{o:Ob}{l:List (kd.ty×vd.ty)}(h:o.qq kd vd=some l):o.fs=[.m kd vd l]:=by
 unfold Ob.qq at h;split at h;rename_i Yf vd' l' hfs;split at h;rename_i hd;obtain⟨rfl,rfl⟩:=hd;cases h;exact hfs;cases h;cases h
def pE(kd:D):List Fd->Option (List (kd.ty×W))
 | []=>some []
 | .c k::.c v::r=>match kd.of k,pE kd r with
   | some x,some l=>bif v.aQ then some ((x,v)::l) else none
   | _,_=>none
 | _=>none
def vS(kd:D):List Fd->Option (List (kd.ty×W))
 | .c .mh::r=>pE kd r
 | _=>none
def zx(kd:D)(k:kd.ty):List (kd.ty×W)->Option W
 | []=>none
 | (k',v)::l=>bif kd.kD k k' then some v else zx kd k l
def W.ud:W->Option Value
 | .bool b=>some (.bool b)
 | .int k n=>some (.int k n)
 | .str s=>some (.string s)
 | .kC=>some .nilIface
 | .val v=>some v
 | _=>none
def DY:List W->Option (List Value)
 | []=>some []
 | x::l=>match x.ud,DY l with|some u,some r=>some (u::r)|_,_=>none
def V.ud:V->Option Value
 | .c x=>x.ud
 | .agg cs=>match DY cs with|some us=>some (.agg us.toArray)|none=>none
theorem W.uf{η:Eta}{Z:ar}{x:W}{u v:Value}(e:x.ud=some u)(h:au η Z x v):v=u:=by
 cases x<;>simp only[W.ud] at e<;>first
  | (cases e;done)
  | (cases e;simp only[au,aH] at h;exact h)
  | (cases e;simp only[au,aH] at h;exact h.1)
theorem DZ{η:Eta}{Z:ar}:∀{cs:List W}{us vs:List Value},DY cs=some us->aL (au η Z) cs vs->vs=us
 | [],us,vs,e,h=>by
   cases e;cases vs with
   | nil=>rfl
   | cons _ _=>exact h.elim
 | x :: l, us, vs, e, h => by
   simp only[DY] at e;split at e
   . rename_i u r hu hr;cases e;cases vs with
     | nil=>exact h.elim
     | cons v vs=>rw[W.uf hu h.1,DZ hr h.2]
   cases e
theorem V.uf{η:Eta}{Z:ar}{x:V}{u v:Value}(e:x.ud=some u)(h:cV η Z x v):v=u:=by
 cases x with
 | c x=>exact W.uf e h.2
 | agg cs =>
   simp only[V.ud] at e;split at e;rename_i us zh;cases e;obtain⟨ws,hw,_,hl⟩:=h;rw[hw,DZ zh hl];cases e
noncomputable def Pn(F:Fr)(S:af)(el:TypeId)(bytes:Nat)(d:D)(x:bR)(y:W):Option (Cd×A×af) :=
 match C0 S d y with
  | some (q,ys)=>match fG F x with
    | some (r,.nil)=>some (.and q (.and r (.p (ys.length*bytes<=140737488355328))),.p (.c (.sl S.next 0 ys.length 1)),S.add ⟨el,[.a 0 d ys]⟩)
    | some (r,.sl n off len sz)=>bif Nat.beq sz 1 then match S.get n with
     | some o=>bif Nat.beq o.ty el then match Fd.list d o.fs with
      | some l=>some (.and q (.and r (bif d.pz then .p (off=0/\len=l.length/\(len+ys.length)*bytes<=140737488355328) else .p (off+len<=l.length/\(len+ys.length)*bytes<=140737488355328))),.p (.c (.sl S.next 0 (len+ys.length) 1)),(S.del n).add ⟨el,[.a 0 d ((l.drop off).take len++ys)]⟩)
      | none=>none
       else none
     | none=>none
      else none
    | _=>none
  | none=>none
noncomputable def appR(F:Fr)(S:af)(el:TypeId)(bytes:Nat)(d:D)(x:bR)(y:W):Option (Cd×A×af):=match y with
 | .sl q _ _ _=>match shut S q with
   | some (c,S1)=>match Pn F S1 el bytes d x y with
     | some (c2,v,S2)=>some (.and c c2,v,S2)
     | none=>none
   | none=>none
 | _=>none
noncomputable def jB(F:Fr)(S:af):L->Option (Cd×A×af)
 | .mki t x=>match mO F x with
   | some (c,v)=>match v.ud with
     | some u=>some (c,.p (.c (.val (.iface t u))),S)
     | none=>none
   | none=>none
 | .tas t z x=>match fG F x with
   | some (c,.kC)=>some (c,.bF [z,.c (.bool false)],S)
   | some (c,.val (.iface t' v))=>bif Nat.beq t' t then(match ME v with|some y=>some (c,.bF [y,.c (.bool true)],S)|none=>none) else some (c,.bF [z,.c (.bool false)],S)
   | _=>none
 | .p7 x v=>match fG F x,mO F v with
   | some (p,.ptr _ _),some (q,.agg [])=>some (.and p q,.bF [],S)
   | _,_=>none
 | .s2b el x=>match za F x with
   | some (c,s)=>bif Nat.blt S.next 2 then some (c,.p (.c (.rd (.int .u8) (jA s))),S) else some (.and c (.p (0<s.size)),.p (.c (.sl S.next 0 s.size 1)),S.add ⟨el,[.b (jA s)]⟩)
   | none=>none
 | .mlen kd vd x=>match fG F x with
   | some (p,.mp n)=>match S.get n with
     | some o=>match o.qq kd vd with
       | some l=>some (p,.p (.c (.int .i64 (l.length:Nat))),S)
       | none=>none
     | none=>none
   | _=>none
 | .RB ty=>some (.t,.p (.c (.mp S.next)),S.add ⟨ty,[.c .mh]⟩)
 | .Pk kd m k v => match fG F m, fG F k, fG F v with
   | some (p,.mp n),some (q,x),some (r,y)=>match kd.of x,S.get n with
     | some k,some o=>match vS kd o.fs with
       | some l=>match zx kd k l with
         | none=>bif y.aQ then some (.and p (.and q r),.bF [],S.put n ⟨o.ty,o.fs++[.c (kd.w k),.c y]⟩) else none
         | some _=>none
       | none=>none
     | _,_=>none
   | _,_,_=>none
 | .Ye kd m k => match fG F m, fG F k with
   | some (p,.mp n),some (q,x)=>match kd.of x,S.get n with
     | some k,some o=>match vS kd o.fs with
       | some l=>match zx kd k l with
         | some v=>some (.and p q,.p (.c v),S)
         | none=>none
       | none=>none
     | _,_=>none
   | _,_=>none
 | .Yd ty kd vd=>some (.t,.p (.c (.mp S.next)),S.add ⟨ty,[.m kd vd []]⟩)
 | .bI kd vd m k v => match fG F m, fG F k, fG F v with
   | some (p,.mp n),some (q,x),some (r,y)=>match kd.of x,Gm S vd y with
     | some k,some (c,z,S1)=>match S1.get n with
       | some o=>match o.qq kd vd with
         | some l=>some (.and p (.and q (.and r c)),.bF [],S1.put n ⟨o.ty,[.m kd vd (aU.bI kd vd k z l)]⟩)
         | none=>none
       | none=>none
     | _,_=>none
   | _,_,_=>none
 | .dz kd vd m k ok => match fG F m, fG F k with
   | some (p,.mp n),some (q,x)=>match kd.of x,S.get n with
     | some k,some o=>match o.qq kd vd with
       | some l=>bif ok
         then some (.and p q,.bF [.c (vd.w (aU.dz kd vd l k)),.c (.bool (Pj kd vd l k))],S)
         else some (.and p q,.p (.c (vd.w (aU.dz kd vd l k))),S)
       | none=>none
     | _,_=>none
   | _,_=>none
 | .alloc ty fs=>some (.t,.p (.c (.ptr S.next 0)),S.add ⟨ty,fs⟩)
 | .RD ty el=>some (.t,.p (.c (.ptr S.next 0)),(S.add ⟨ty,[.c (.ba S.next),.c (.sl (S.next+1) 0 0 1)]⟩).add ⟨el,[.a 0 (.int .u8) []]⟩)
 | .boxB ty el x=>match mO F x with
   | some (p,v)=>bif Vy v.cells then some (p,.p (.c (.ptr S.next 0)),(S.add ⟨ty,[.c (.ba S.next),.c (.sl (S.next+1) 0 0 1)]⟩).add ⟨el,[.a 0 (.int .u8) []]⟩) else none
   | none=>none
 | .ustr el x n=>match fG F x,jP F n with
   | some (p,.pe m off i),some (q,_,k)=>match S.get m with
     | some o=>bif Nat.beq off 0&&Nat.beq o.ty el then match Fd.list (.int .u8) o.fs with
      | some l=>some (.and p (.and q (.p (0<k/\i+k<=l.length/\k<=9223372036854775807))),.p (.c (.str (qJ ((l.drop i).take k.toNat)))),S)
      | none=>none
       else none
     | none=>none
   | _,_=>none
 | .nil el d sz=>some (.t,.p (.c (.sl S.next 0 0 sz)),S.add ⟨el,[.a 0 d []]⟩)
 | .box ty fs x=>match mO F x with
   | some (p,v)=>some (p,.p (.c (.ptr S.next 0)),S.add ⟨ty,Jv fs v.cells⟩)
   | none=>none
 | .store n x v => match fG F x, mO F v with
   | some (p,.ptr m off),some (q,v)=>bif Nat.beq v.cells.length n then match S.rN m with
    | some o=>bif RG o.fs then(match DW o.fs off v.cells with
      | some (c,fs')=>some (.and p (.and q c),.bF [],S.put m ⟨o.ty,fs'⟩)
      | none=>none) else none
    | none=>none
     else none
   | some (p,.o6 m i j),some (q,.c (.int .i64 y))=>bif Nat.beq n 1 then match tZ S m with
     | some (k,av)=>match S.get m with
       | some o=>some (.and p (.and q (.p (i<av.length/\j<k))),.bF [],S.put m ⟨o.ty,[.c (.th k (av.set i ((av.getD i []).set j y)))]⟩)
       | none=>none
     | none=>none
     else none
   | some (p, .pe m off i), some (q, .c y) => bif Nat.beq n 1 then match (bif Nat.beq off 0 then VA S m i y else none) with
     | some (c,S1)=>some (.and p (.and q c),.bF [],S1)
     | none=>match S.rN m with
       | some o=>match I5 o.fs with
        | some l=>match y with
          | .int .u8 z=>bif Nat.beq off 0 then some (.and p (.and q (.p (i<l.length))),.bF [],S.put m ⟨o.ty,[.b (l.set i z)]⟩) else none
          | _=>none
        | none=>match iT o.fs off with
         | some (c,.a k d l)=>bif d.pz then none else match Gm S d y with
           | some (c2,z,S1)=>match S1.get m,pq o.fs off (.a k d (l.set i z)) with
             | some _,some fs'=>some (.and p (.and q (.and c (.and c2 (.p (i<l.length))))),.bF [],S1.put m ⟨o.ty,fs'⟩)
             | _,_=>none
           | none=>none
         | _=>none
       | none=>none
     else none
   | _,_=>none
 | .make el bytes d l c=>match jP F l,jP F c with
   | some (p,_,l),some (q,_,c)=>bif d.isSl
     then some (.and p (.and q (.p (0<=l/\l<=c/\(bytes:Int)*c<=140737488355328))),.p (.c (.sl S.next 0 l.toNat 1)),S.add ⟨el,[.a 1 d (List.replicate c.toNat d.zero)]⟩)
     else some (.and p (.and q (.p (0<=l/\l<=c/\(bytes:Int)*c<=140737488355328))),.p (.c (.sl S.next 0 l.toNat 1)),S.add ⟨el,[.a 0 d (List.replicate c.toNat d.zero)]⟩)
   | _,_=>none
 | .lit el sz d h zs parts=>match mw F parts with
   | some (p,vs)=>bif H9 sz vs then(match Vz zs vs with
     | some ys=>some (p,.p (.c (.rs sz ys)),S.skip)
     | none=>match litV S d h vs with
       | some (c,fs,S1)=>some (.and p c,.p (.c (.sl S1.next 0 parts.length sz)),S1.add ⟨el,fs⟩)
       | none=>none)
     else none
   | none=>none
 | .RE el bytes sz zs x y=>match fG F x,jP F y with
   | some (p,.nil),some (q,_,n)=>some (.and p (.and q (.p (0<n/\(bytes:Int)*n<=140737488355328))),.p (.c (.sl S.next 0 n.toNat sz)),S.add ⟨el,[.a 0 .pv (qR zs sz (n.toNat*sz))]⟩)
   | _,_=>none
 | .zeros el bytes d x y=>match fG F x,jP F y with
   | some (p,.nil),some (q,_,n)=>some (.and p (.and q (.p (0<n/\(bytes:Int)*n<=140737488355328))),.p (.c (.sl S.next 0 n.toNat 1)),S.add ⟨el,[.a 0 d (List.replicate n.toNat d.zero)]⟩)
   | _,_=>none
 | .append el bytes d x y=>match fG F y with
   | some (p, y) => match rowOf S d y with
    | some (m,k,l,n0)=>match fG F x with
      | some (r,.nil)=>some (.and p (.and r (.p (l.length=k/\(0<k∨0<n0)/\bytes<=140737488355328))),.p (.c (.sl S.next 0 1 1)),(S.del m).add ⟨el,[.c (.th k [l])]⟩)
      | some (r,.sl n off len sz)=>match tZ S n with
        | some (k',av)=>bif Nat.beq sz 1&&!(Nat.beq n m) then(match S.get n with
         | some o=>bif Nat.beq o.ty el then some (.and p (.and r (.p (off=0/\len=av.length/\k'=k/\l.length=k/\(0<k∨0<n0)/\(av.length+1)*bytes<=140737488355328))),.p (.c (.sl S.next 0 (av.length+1) 1)),((S.del n).del m).add ⟨el,[.c (.th k (av++[l]))]⟩) else none
         | none=>none) else none
        | none=>match appR F S el bytes d x y with
          | some (c,v,S1)=>some (.and p c,v,S1)
          | none=>none
      | _=>none
    | none=>match Pn F S el bytes d x y with
     | some (c,v,S1)=>some (.and p c,v,S1)
     | none=>none
   | none=>none
 | .MO el bytes sz zs x y => match fG F y with
   | some (p, y) => match Vx S zs sz y with
     | some (q,ys,k)=>match fG F x with
       | some (r,.nil)=>some (.and p (.and q (.and r (.p (k*bytes<=140737488355328)))),.p (.c (.sl S.next 0 k sz)),S.add ⟨el,[.a 0 .pv ys]⟩)
       | some (r,.sl n off len sz')=>bif Nat.beq sz' sz then match S.get n with
        | some o=>bif Nat.beq o.ty el then match Fd.list .pv o.fs with
         | some l=>some (.and p (.and q (.and r (.p (off+len*sz<=List.length (α:=PV) l/\(len+k)*bytes<=140737488355328)))),.p (.c (.sl S.next 0 (len+k) sz)),(S.del n).add ⟨el,[.a 0 .pv ((List.drop (α:=PV) off l).take (len*sz)++ys)]⟩)
         | none=>none
          else none
        | none=>none
         else none
       | _=>none
     | none=>none
   | none=>none
 | .copy d x y => match fG F y with
   | some (p, y) => match C0 S d y with
     | some (q,ys)=>match fG F x with
       | some (r,.sl n off len sz)=>bif Nat.beq sz 1&&!d.pz then match S.get n with
        | some o=>match Fd.list d o.fs with
          | some l=>some (.and p (.and q (.and r (.p (off+len<=l.length)))),.p (.c (.int .i64 ((Nat.min ys.length len:Nat):Int))),S.put n ⟨o.ty,[.a 0 d (spl l off (ys.take len))]⟩)
          | none=>none
        | none=>none
         else none
       | _=>none
     | none=>none
   | none=>none
 | .clear d x=>match fG F x with
   | some (p,.sl n off len sz)=>bif Nat.beq sz 1&&!d.pz then match S.get n with
    | some o=>match Fd.list d o.fs with
      | some l=>some (.and p (.p (off+len<=l.length)),.bF [],S.put n ⟨o.ty,[.a 0 d (spl l off (List.replicate len d.zero))]⟩)
      | none=>none
    | none=>none
     else none
   | _=>none
 | .b2s x=>match fG F x with
   | some (p,y)=>match y with
     | .str _=>none
     | y => match Jt S y with
       | some (q,l)=>some (.and p q,.p (.c (.str (qJ l))),S)
       | none=>match C0 S (.int .u8) y with
         | some (q,l)=>some (.and p q,.p (.c (.str (qJ l))),S)
         | none=>none
   | none=>none
def pF:TypeDesc->D->Bool
 | .int k,.int k'=>decide (k=k')
 | .string,.str=>true
 | _,_=>false
def uX(P:Program)(t:TypeId):Option (D×D):=match P.underlying t with
 | some (.map kt et)=>match P.underlying kt,r7 P 4 kt,P.info? et,r7 P 4 et with
   | some td,some kd,some i,some vd=>match i.zero with
     | some z=>if pF td kd=true/\zo (vd.w vd.zero) z=true then some (kd,vd) else none
     | none=>none
   | _,_,_,_=>none
 | _=>none
def rQ(P:Program)(t:TypeId):Option D:=match P.underlying t with
 | some (.map kt _)=>match P.underlying kt,r7 P 4 kt with
   | some td,some kd=>if pF td kd=true then some kd else none
   | _,_=>none
 | _=>none
def Ia(P:Program)(t:TypeId):Option TypeId:=match P.underlying t with
 | some (.struct ⟨[f,g]⟩)=>match P.underlying f.type,P.underlying g.type,P.info? t with
   | some (.pointer t'),some (.slice el),some i=>match P.underlying el,i.zero with
     | some (.int .u8),some z=>if t'=t/\Jr [.dH,.nil] z.cells.toList=true then some el else none
     | _,_=>none
   | _,_,_=>none
 | _=>none
def unnamed(P:Program)(t:TypeId):Bool:=match P.info? t with
 | some { desc:=.slice _,.. }=>true
 | _=>false
def JA(P : Program)(o : Oper) : Option L :=
 match o.op with
 | .makeMap t none=>match uX P t with|some (kd,vd)=>some (.Yd t kd vd)|none=>match rQ P t with|some _=>some (.RB t)|none=>none
 | .mapUpdate t m k v=>match uX P t,bY m,bY k,bY v with|some (kd,vd),some m,some k,some v=>some (.bI kd vd m k v)|none,some m,some k,some v=>(match rQ P t with|some kd=>some (.Pk kd m k v)|none=>none)|_,_,_,_=>none
 | .insert t m k v=>match uX P t,bY m,bY k,bY v with|some (kd,vd),some m,some k,some v=>some (.bI kd vd m k v)|none,some m,some k,some v=>(match rQ P t with|some kd=>some (.Pk kd m k v)|none=>none)|_,_,_,_=>none
 | .lookup t m k ok=>match uX P t,bY m,bY k with|some (kd,vd),some m,some k=>some (.dz kd vd m k ok)|none,some m,some k=>(bif ok then none else match rQ P t with|some kd=>some (.Ye kd m k)|none=>none)|_,_,_=>none
 | .assign (.const (.slice none 0 0))=>match P.underlying o.type with
   | some (.slice el)=>match elK P el with|some (d,n)=>some (.nil el d n)|none=>none
   | _=>none
 | .move (.const (.slice none 0 0))=>match P.underlying o.type with
   | some (.slice el)=>match elK P el with|some (d,n)=>some (.nil el d n)|none=>none
   | _=>none
 | .alloc t=>match Ia P t with
   | some el=>some (.RD t el)
   | none=>match Yb P 8 t,P.info? t with
     | some fs,some i=>match i.zero with
       | some z=>if Jr (fs.flatMap Fd.cells) z.cells.toList then some (.alloc t fs) else none
       | none=>none
     | _,_=>none
 | .call { callee:=.builtin .unsafeString,args:=⟨[x,y]⟩,argTypes:=⟨[pt,_]⟩ }=>match P.underlying pt,bY x,bY y with
   | some (.pointer el),some x,some y=>if P.cellsOf el=1 then some (.ustr el x y) else none
   | _,_,_=>none
 | .box t x=>match bY x with|some x=>(match Ia P t with|some el=>some (.boxB t el x)|none=>some (.box t (Yb P 8 t) x))|none=>none
 | .store t x v=>match gE P t,bY x,bY v with|some n,some x,some v=>if n=0 then some (.p7 x v) else some (.store n x v)|_,_,_=>none
 | .makeInterface t x=>match P.underlying t,bY x with
   | some (.interface _),_=>none
   | some _,some x=>some (.mki t x)
   | _,_=>none
 | .typeAssert x _ t true=>match P.underlying t,P.info? t,bY x with
   | some (.interface _),_,_=>none
   | some _,some i,some x=>(match i.zero with
     | some z=>(match ME z with|some z=>some (.tas t z x)|none=>none)
     | none=>none)
   | _,_,_=>none
 | .makeSlice t l c=>match P.underlying t,bY l,bY c with
   | some (.slice el),some l,some c=>match P.info? el,r7 P 4 el with
     | some i,some d=>match i.zero with
       | some z=>if i.size=1/\1<=i.bytes/\zo (d.w d.zero) z=true then some (.make el i.bytes d l c) else none
       | none=>none
     | _,_=>none
   | _,_,_=>none
 | .buildSlice t len parts=>match P.underlying t with
   | some (.slice el)=>match gE P el,DT 0 parts.toList,jz P el with
     | some n,some ps,some z=>if n≠0/\ps.length=len/\len*n<=16777216/\z.length=n then some (.lit el n (if n=1 then r7 P 4 el else none) (unnamed P el) (match r7 P 4 el with|none=>shapes P el|some _=>[]) ps) else none
     | _,_,_=>none
   | _=>none
 | .call { callee := .builtin .append, args := ⟨[x, y]⟩, argTypes := ⟨[t, ts]⟩ } => match P.underlying t, bY x, bY y with
   | some (.slice el),some x,some y=>match P.info? el,jz P el,r7 P 4 el with
     | some i,some z,some d=>match P.underlying ts with
       | some (.slice _)=>if i.size=1/\z.length=1/\1<=i.bytes then some (.append el i.bytes d x y) else none
       | some .string=>if i.size=1/\z.length=1/\1<=i.bytes then some (.append el i.bytes d x y) else none
       | some (.int _)=>match i.zero with
         | some zv=>if i.size=1/\1<=i.bytes/\zo (d.w d.zero) zv=true then some (.zeros el i.bytes d x y) else none
         | none=>none
       | _=>none
     | some i,some z,none=>match P.underlying ts with
       | some (.slice _)=>if i.size≠0/\z.length=i.size/\1<=i.bytes then some (.MO el i.bytes i.size (shapes P el) x y) else none
       | some (.int _)=>match i.zero with
         | some zv=>if 0<i.size/\1<=i.bytes/\zv.cells.size=i.size/\Jr ((shapes P el).map PV.w) zv.cells.toList=true then some (.RE el i.bytes i.size (shapes P el) x y) else none
         | none=>none
       | _=>none
     | _,_,_=>none
   | _,_,_=>none
 | .call { callee:=.builtin .copy,args:=⟨[x,y]⟩,argTypes:=⟨[t,_]⟩ }=>match P.underlying t,bY x,bY y with
   | some (.slice el),some x,some y=>match gE P el,r7 P 4 el with|some n,some d=>if n=1 then some (.copy d x y) else none|_,_=>none
   | _,_,_=>none
 | .call { callee:=.builtin .clear,args:=⟨[x]⟩,argTypes:=⟨[t]⟩ }=>match P.underlying t,bY x with
   | some (.slice el),some x=>match P.info? el,r7 P 4 el with
     | some i,some d=>match i.zero with
       | some z=>if zo (d.w d.zero) z=true then some (.clear d x) else none
       | none=>none
     | _,_=>none
   | _,_=>none
 | .convert s d x=>match P.underlying s,P.underlying d,bY x with
   | some .string,some (.slice el),some x=>match P.underlying el with|some (.int .u8)=>some (.s2b el x)|_=>none
   | some (.slice el),some .string,some x=>match P.underlying el with|some (.int .u8)=>some (.b2s x)|_=>none
   | _,_,_=>none
 | .call { callee:=.builtin .len,args:=⟨[x]⟩,argTypes:=⟨[t]⟩ }=>match uX P t,bY x with
   | some (kd,vd),some x=>some (.mlen kd vd x)
   | _,_=>none
 | _=>none
section
variable {P:Program} {base n:Nat} {η:Eta} {Z:ar} {S:af} {w:World} {F:Fr} {a:Act}
theorem VB(s:ByteArray):(jA s).map (D.int .u8).w=zn s.data.toList:=by
 simp[jA,zn,D.w]
theorem PV.zy{z y:PV}{x:W}(e:z.conv x=some y):¬x.special:=by
 unfold PV.conv at e
 split at e;simp[W.special];simp[W.special];rw[PV.of_eq e];exact D.y9 .pv y
theorem zA{z0:List PV}:∀{l:List W}{zs ys:List PV},kV z0 zs l=some ys->ys.length=l.length/\(∀(i:Nat) y,ys[i]? = some y->∃ x z,l[i]? = some x/\PV.conv z x=some y)/\∀ x∈l,¬x.special
 | [],zs,ys,e=>by
   simp only[kV] at e;cases e;exact⟨rfl,by simp,by simp⟩
 | x :: l, z :: zs, ys, e => by
   simp only[kV] at e;split at e;rename_i y r hy hr;cases e;obtain⟨a,b,c⟩:=zA hr;refine⟨by simp[a],fun i y' hi=>?_,fun x' hx=>?_⟩
   . cases i with
     | zero=>simp at hi;subst hi;exact⟨x,z,rfl,hy⟩
     | succ i=>simpa using b i y' (by simpa using hi)
   rcases List.mem_cons.1 hx with rfl|hx;exact PV.zy hy;exact c _ hx;cases e
 | x :: l, [], ys, e => by
   simp only[kV] at e;split at e;rename_i z zs;split at e;rename_i y r hy hr;cases e;obtain⟨a,b,c⟩:=zA hr;refine⟨by simp[a],fun i y' hi=>?_,fun x' hx=>?_⟩
   . cases i with
     | zero=>simp at hi;subst hi;exact⟨x,z,rfl,hy⟩
     | succ i=>simpa using b i y' (by simpa using hi)
   rcases List.mem_cons.1 hx with rfl|hx;exact PV.zy hy;exact c _ hx;cases e;cases e
theorem RH(R:St base η Z S w){t el:TypeId}{sz:Nat}{parts:Array (Nat×Operand)}{ps:List bR}{z:List W}(hu:P.underlying t=some (.slice el))(hs:gE P el=some sz)(hz:jz P el=some z)(hbig:ps.length*sz<=16777216)(hzl:z.length=sz)
 {vs:List V} {us:List Value} (h1:aL (cV η Z) vs us) (h2:parts.toList.map (fun x=>(x.1,a.eval x.2))=(us.zipIdx 0).map (fun x=>(x.2,x.1))) (h3:us.length=ps.length) (hv:∀ v∈vs,v.cells.length=sz) {zs ys:List PV} (e:Vz zs vs=some ys) :
 br P base η Z S w (do pure (Next.value (<-Instr.buildSlice t ps.length (parts.map fun(i,x)=>(i,a.eval x))))) (.p (.c (.rs sz ys))) S.skip:=by
 obtain⟨nx,u,w',aC,Z',ha,hb,mv,hr⟩:=CY R hu hs hz hbig hzl h1 h2 h3 hv;unfold Vz at e;split at e;cases e;obtain⟨bO,hget,hsp⟩:=zA e;have bM:(vs.flatMap V.cells).length=ps.length*sz:=by
  have key:∀ l:List V,(∀ v∈l,v.cells.length=sz)->(l.flatMap V.cells).length=l.length*sz:=by
   intro l
   induction l with
   | nil=>simp
   | cons v l ih =>
     intro h;simp only[List.flatMap_cons,List.length_append,List.length_cons,ih (fun x hx=>h x (by simp[hx])),Nat.succ_mul];have:=h v (by simp);omega
  rw[key vs hv,h1.length,h3]
 have hal:((S.add (Ob.of el (vs.flatMap V.cells))).del S.next).Alike S.skip:=by
  refine⟨⟨rfl,rfl⟩,fun n=>?_⟩;rw[af.ia];show match (if n=S.next then none else(S.add (Ob.of el (vs.flatMap V.cells))).get n),S.get n with|none,none=>True|some o,some o'=>o'.ty=o.ty/\o'.cells=o.cells|_,_=>False
  by_cases hn:n=S.next
  subst hn;rw[if_pos rfl,R.eX];trivial;rw[if_neg hn,af.xh R,if_neg hn];cases S.get n with
  | none=>trivial
  | some o=>exact⟨rfl,rfl⟩
 obtain⟨_,hr⟩:=hr;rcases hr with ⟨h0,rfl⟩|⟨p,c,ad,hp,rfl,hcap,hroom,had⟩;have hy:ys=[]:=List.eq_nil_of_length_eq_zero (by rw[bO,bM,h0];simp);subst hy;exact⟨nx,_,w',aC,Z',ha,hb,(mv.trans ⟨Eta.le.refl _,mv.st.del _,Step.del _⟩).alike hal,(by intro h;cases h),Jd⟩
 . have ho:(S.add (Ob.of el (vs.flatMap V.cells))).get S.next=some (Ob.of el (vs.flatMap V.cells)):=by rw[af.xh R,if_pos rfl]
   obtain⟨cs,ty,fz,hh,gF,hv2⟩:=mv.st.freeze ho hp (Ob.qo fun x hx=>hsp x (by simpa using hx));refine⟨nx,_,w',aC,_,ha,hb,(mv.trans gF).alike hal,(by intro h;cases h),?_⟩;simp only[au,aH,dw];refine⟨some ad,ps.length,c,rfl,by rw[bO,bM],hcap,?_⟩;by_cases h0:ys=[];exact .inl h0;refine .inr ⟨p.block,p.off,cs,?_,?_,?_⟩;have hy:0<ys.length:=List.length_pos_iff.2 h0;rcases had with h|h;rw[bO,bM] at hy;have h0:ps.length=0:=by omega
   rw[h0] at hy;simp at hy;rw[h];simp;unfold ar.add;rw[if_pos rfl];rw[iV.iff];intro i y hy;obtain⟨x,z',hx,hcv⟩:=hget i y hy;obtain⟨u,g1,g2⟩:=hv2 i x (by simpa using hx);exact⟨u,g1,dw.mono (ar.le.refl _) (PV.fe.1 (PV.C3 hcv (g2.mono (Eta.le.refl _) gF.step.cI)))⟩
theorem br.run{s s':Sem Next}{v:A}{S':af}(h:s.run P w=s'.run P w)(g:br P base η Z S w s' v S'):br P base η Z S w s v S':=by
 unfold br at g ⊢;rw[h];exact g
theorem Src.map{u:Value}{sz:Nat}{cs cs':List W}(h:Src P η Z w u sz cs)(k:∀ vs,aL (au η Z) cs vs->aL (au η Z) cs' vs):Src P η Z w u sz cs':=by
 obtain⟨m,vs,h1,h2,h3,h4,h5,h6⟩:=h;have:=(k vs h3).length;exact⟨m,vs,by omega,h2,k vs h3,h4,h5,h6⟩
theorem src_rs(R:St base η Z S w){sz:Nat}(hsz:sz≠0){l:List PV}{u:Value}(h:au η Z (.rs sz l) u):Src P η Z w u sz (l.map PV.w)/\l.length=l.length/sz*sz:=by
 obtain⟨ad,len,cap,hev,bO,hcap,hcs⟩:=h.rs;refine⟨?_,by rw[bO,Nat.mul_div_cancel _ (by omega)]⟩;rw[hev];rcases hcs with rfl|⟨b,off,cells,rfl,hz,hf⟩;have hl0:len=0:=by
  rcases Nat.mul_eq_zero.1 bO.symm with h|h;exact h;exact absurd h hsz
 subst hl0;exact oL _;obtain⟨vs,h1,h2,h3,h4⟩:=xj (η:=η) (o:=off) (off:=0) hf;obtain⟨ty,fz,hc⟩:=R.zs b cells hz;exact Jk h1 (by omega) h3 (fun j v hv=>by simp[World.cell?,hc];simpa using h4 j v hv)
theorem JB(R : St base η Z S w){zs : List PV}{sz : Nat}(hsz : sz ≠ 0){x : W}{c : Cd}{ys : List PV}{k : Nat}(e : Vx S zs sz x = some (c, ys, k))(hc : c){u : Value}(h : au η Z x u) : Src P η Z w u sz (ys.map PV.w) ∧ ys.length = k * sz := by
 unfold Vx at e;split at e;cases e;rw[h.nil_eq];exact⟨oL _,by simp⟩;rename_i sz' l;obtain⟨hs,e⟩:=ah.aA e;have hs:=Nat.eq_of_beq_eq_true hs;subst hs;cases e;exact src_rs R hsz h;rename_i m off len sz';obtain⟨hs,e⟩:=ah.aA e;have hs:=Nat.eq_of_beq_eq_true hs;subst hs;split at e;rename_i o ho;obtain⟨ho,hmo⟩:=jO ho;split at e;rename_i l hl;cases e;have bM:o.cells=l.map (D.w .pv):=Fd.gP hl;have hc:off+k*sz'<=List.length (α:=PV) l:=hc;have s:=vQ (P:=P) R (sz:=sz') h ho hmo (by rw[bM,List.length_map];exact hc);rw[bM,<-List.map_drop,<-List.map_take] at s;exact⟨s,by rw[List.length_take,List.length_drop];omega⟩
 · split at e
   rename_i ys0 hp;obtain⟨hb,e2⟩:=ah.aA e;clear e;simp only[Bool.and_eq_true] at hb;have h1:=Nat.eq_of_beq_eq_true hb.1;have h2:=Nat.eq_of_beq_eq_true hb.2;subst h1;cases e2;have hl : ys.length = o.cells.length := by
    have : ∀{l : List W}{zs' ys : List PV}, kV zs zs' l = some ys → ys.length = l.length := by
     intro l
     induction l with
     | nil=>intro zs' ys e;simp only[kV] at e;cases e;rfl
     | cons x l ih =>
       intro zs' ys e;cases zs' with
       | cons z zs' =>
         simp only[kV] at e;split at e;rename_i hr;cases e;simp[ih hr];cases e
       | nil =>
         simp only[kV] at e;split at e;split at e;rename_i hr;cases e;simp[ih hr];cases e;cases e
    exact this hp
   have s:=vQ (P:=P) R (sz:=sz') h ho hmo (by omega);rw[List.drop_zero,List.take_of_length_le (by omega)] at s;exact⟨s.map fun vs hv=>(zw hp hv).1,h2⟩;cases e
 cases e;cases e
theorem xA(R:St base η Z S w){d:D}{x:W}{c:Cd}{ys:List d.ty}(e:C0 S d x=some (c,ys))(hc:c){u:Value}(h:au η Z x u):Src P η Z w u 1 (ys.map d.w):=by
 unfold C0 at e;split at e;cases e;rw[h.nil_eq];exact oL _;rename_i d' l;split at e;rename_i hd;subst hd;cases e;exact src_rd R h;cases e;rename_i m off len sz;obtain⟨hs,e1⟩:=ah.aA e;have hs1:=nA hs;subst hs1;split at e1;rename_i o ho;split at e1;rename_i l hl;cases e1;have bM:o.cells=l.map d.w:=Fd.gP hl;have:=vQ (P:=P) R h ho (Ob.gG bM) (by rw[bM];simp;exact hc);rw[bM,Nat.mul_one,<-List.map_drop,<-List.map_take] at this;exact this;cases e1;cases e1;rename_i s;have:u=.string s:=by simpa only[au,aH] using h
 subst this;unfold strD at e;split at e;cases e;have h1:=ZT (P:=P) (η:=η) (Z:=Z) (w:=w) (s:=s);rw[<-VB] at h1;exact h1;cases e;cases e
theorem src_by{u:Value}:∀{l:List Int},Src P η Z w u 1 (l.map W.lZ)->Src P η Z w u 1 (l.map (D.int .u8).w):=by
 intro l ⟨m,vs,h1,h2,h3,h4⟩;refine⟨m,vs,by simpa using h1,h2,?_,h4⟩;clear h1 h2 h4
 induction l generalizing vs with
 | nil=>exact h3
 | cons x l ih =>
   cases vs with
   | nil=>exact h3.elim
   | cons v vs=>exact⟨by have h:v=.int .u8 x:=h3.1;simp[D.w,au,aH,h],ih vs h3.2⟩
theorem Po(R:St base η Z S w){x:W}{c:Cd}{ys:List Int}(e:Jt S x=some (c,ys))(hc:c){u:Value}(h:au η Z x u):Src P η Z w u 1 (ys.map (D.int .u8).w)/\(∃ ad len cap,u=.slice ad len cap)/\∀ len cap,u=.slice none len cap->ys=[]:=by
 unfold Jt at e;split at e;rename_i m off len sz;obtain⟨hs,e1⟩:=ah.aA e;have hs1:=nA hs;subst hs1;split at e1;rename_i o ho;split at e1;rename_i l hl;cases e1;have bM:o.cells=l.map W.lZ:=by unfold Ob.cells;rw[E7 hl];simp[Fd.cells]
 have hm:¬o.gj:=Ob.qo fun x hx=>by rw[bM,List.mem_map] at hx;obtain⟨y,_,rfl⟩:=hx;exact id
 refine⟨src_by ?_,?_⟩;have:=vQ (P:=P) R h ho hm (by rw[bM];simp;exact hc);rw[bM,Nat.mul_one,<-List.map_drop,<-List.map_take] at this;exact this;rcases h with ⟨h0,rfl⟩|⟨p,cap,ad,hp,rfl,_⟩;subst h0;exact⟨⟨none,0,0,rfl⟩,fun _ _ _=>by simp⟩;exact⟨⟨some ad,len,cap,rfl⟩,fun _ _ hh=>by cases hh⟩;cases e1;cases e1;cases e
theorem Pp{x:W}{c:Cd}{ys:List Int}(hx:∀ s,x≠.str s)(e:C0 S (.int .u8) x=some (c,ys)){u:Value}(h:au η Z x u):(∃ ad len cap,u=.slice ad len cap)/\∀ len cap,u=.slice none len cap->ys=[]:=by
 unfold C0 at e;split at e;cases e;rw[h.nil_eq];exact⟨⟨none,0,0,rfl⟩,fun _ _ _=>rfl⟩;rename_i d' l;split at e;rename_i hd;subst hd;cases e;obtain⟨ad,len,cap,rfl,hl,hcap,hcs⟩:=h.rd;refine⟨⟨ad,len,cap,rfl⟩,fun len' cap' hh=>?_⟩;cases hh;rcases hcs with hcs|⟨b,off,cells,hh,_⟩;exact hcs;cases hh;cases e;rename_i m off len sz;obtain⟨hs,e1⟩:=ah.aA e;split at e1;rename_i o ho;split at e1;rename_i l hl;cases e1;rcases h with ⟨h0,rfl⟩|⟨p,cap,ad,hp,rfl,_⟩;subst h0;exact⟨⟨none,0,0,rfl⟩,fun _ _ _=>by simp⟩;exact⟨⟨some ad,len,cap,rfl⟩,fun _ _ hh=>by cases hh⟩;cases e1;cases e1;rename_i s;exact absurd rfl (hx s);cases e
theorem Gs:∀{vs:List V}{us:List Value}{S S':af}{Z:ar}{d:D}{c:Cd}{ys:List d.ty},St base η Z S w->Fe S d vs=some (c,ys,S')->c->aL (cV η Z) vs us->
 ∃ Z',bJ base η Z S w η Z' S' w/\aL (cV η Z') (ys.map fun y=>V.c (d.w y)) us
 | [],[],S,S',Z,d,c,ys,R,e,_,_=>by
   simp only[Fe] at e;cases e;exact⟨Z,bJ.refl R,trivial⟩
 | .c x::vs,u::us,S,S',Z,d,c,ys,R,e,hc,⟨h1,h2⟩=>by
   simp only[Fe] at e;split at e;rename_i c1 y S1 hf;split at e;rename_i c2 ys' S2 hfs;cases e;obtain⟨Z1,m1,r1,_⟩:=oy R hf hc.1 h1.2;obtain⟨Z2,m2,r2⟩:=Gs m1.st hfs hc.2 (h2.mono fun _ _=>cV.mono (Eta.le.refl _) m1.step.cI);exact⟨Z2,m1.trans m2,⟨D.jg _ _,(D.fe d).2 (cA.mono m2.step.cI d r1)⟩,r2⟩;cases e;cases e
 | .agg _::_,_::_,_,_,_,_,_,_,_,e,_,_=>by simp only[Fe] at e;cases e
theorem flat_w{d:D}(ys:List d.ty):(ys.map fun y=>V.c (d.w y)).flatMap V.cells=ys.map d.w:=by
 induction ys with
 | nil=>rfl
 | cons y ys ih=>simp[V.cells,ih]
theorem zB{sz:Nat}:∀{vs:List V},H9 sz vs=true->∀ v∈vs,v.cells.length=sz
 | [],_=>by simp
 | v::vs,h=>by
   simp only[H9,Bool.and_eq_true] at h;intro x hx;rcases List.mem_cons.1 hx with rfl|hx;exact Nat.eq_of_beq_eq_true h.1;exact zB h.2 x hx
theorem fU(ty:TypeId){d:D}(k:Nat)(l:List d.ty):(Ob.mk ty [.a k d l]).cells=l.map d.w:=by
 unfold Ob.cells;simp[Fd.cells]
theorem Gt{d:D}{l ys:List d.ty}{off:Nat}(h:off+ys.length<=l.length):(spl l off ys).map d.w=jE (l.map d.w) off (ys.map d.w):=by
 apply List.ext_getElem?;intro i;rw[CX (by simpa using h)];unfold spl;simp only[List.getElem?_map,List.length_map];have h1:(l.take off).length=off:=by simp;omega
 by_cases hi:i<off;rw[if_neg (by omega),List.append_assoc,List.getElem?_append_left (by omega),List.getElem?_take,if_pos hi];by_cases hi2:i<off+ys.length;rw[if_pos (by omega),List.append_assoc,List.getElem?_append_right (by omega),h1,List.getElem?_append_left (by omega)];rw[if_neg (by omega),List.getElem?_append_right (by simp;omega),List.getElem?_drop];congr 2;simp;omega
theorem JC(R:St base η Z S w){t:TypeId}(hk:gE P t=some 1){m i:Nat}{y:W}{c:Cd}{S':af}(e:opn S m i y=some (c,S'))(hc:c){vx vy:Value}(hx:au η Z (.ptr m i) vx)(hy:cV η Z (.c y) vy) :
 br P base η Z S w (do Instr.storeAt t vx vy;pure Next.skip) (.bF []) S':=by
 unfold opn at e;split at e;rename_i o ho;obtain⟨ho,hmo⟩:=jO ho;split at e;rename_i k d l hfs;obtain⟨hb1,e⟩:=ah.aA e;cases e;simp only[Bool.and_eq_true,Bool.not_eq_true'] at hb1;have hc:i<l.length:=hc;have bM:o.cells=l.map d.w:=by unfold Ob.cells;rw[hfs];simp[Fd.cells]
 have hnb:¬o.bytes:=(vR bM hb1.2).resolve_right fun h0=>by
  rw[bM,List.map_eq_nil_iff] at h0;rw[h0] at hc;exact absurd hc (Nat.not_lt_zero _)
 refine(sC R hk ho hmo hnb (Ob.ql bM) (v:=.c y) hx hy rfl (by rw[bM];simp;omega)).alike (af.oJ rfl ?_);rw[Ob.d9];show List.flatMap Fd.cells [.a 1 d (l.take i),.c y,.a 1 d (l.drop (i+1))]=(o.cells).set i y;rw[bM];simp only[List.flatMap_cons,List.flatMap_nil,Fd.cells,List.append_nil,List.map_take,List.map_drop];rw[List.set_eq_take_append_cons_drop,if_pos (by simpa using hc)];rfl;cases e;cases e
theorem Pq(R : St base η Z S w){t : TypeId}(hk : gE P t = some 1){m i : Nat}{y : W}{c : Cd}{S' : af}(e : again S m i y = some (c, S'))(hc : c){vx vy : Value}(hx : au η Z (.ptr m i) vx)(hy : cV η Z (.c y) vy) :
 br P base η Z S w (do Instr.storeAt t vx vy;pure Next.skip) (.bF []) S':=by
 unfold again at e;split at e;rename_i o ho;obtain⟨ho,hmo⟩:=jO ho;split at e;rename_i d l k off len sz l' hh;split at e;cases e;have hc:i=l.length:=hc;subst hc;obtain⟨k1,k2,hfs⟩:=Fd.MN hh;have bM:o.cells=l.map d.w++W.sl k off len sz::l'.map d.w:=by unfold Ob.cells;rw[hfs];simp[Fd.cells]
 have hnb:¬o.bytes:=fun hB=>by
  obtain⟨n,e⟩:=hB (W.sl k off len sz) (by rw[bM];simp);cases e
 refine(sC R hk ho hmo hnb (Ob.sR (x:=W.sl k off len sz) (by rw[bM];simp) (by intro n h;cases h)) (v:=.c y) hx hy rfl (by rw[bM];simp)).alike (af.oJ rfl ?_);rw[Ob.d9];show List.flatMap Fd.cells [.a 1 d l,.c y,.a 1 d l']=(o.cells).set l.length y;rw[bM,List.set_append_right _ _ (by simp)];simp[Fd.cells];cases e;cases e;cases e
theorem RI(R : St base η Z S w){t : TypeId}(hk : gE P t = some 1){m i : Nat}{y : W}{c : Cd}{S' : af}(e : VA S m i y = some (c, S'))(hc : c){vx vy : Value}(hx : au η Z (.ptr m i) vx)(hy : cV η Z (.c y) vy) :
 br P base η Z S w (do Instr.storeAt t vx vy;pure Next.skip) (.bF []) S':=by
 unfold VA at e;split at e
 · split at e
   rename_i r hr;cases e;exact JC R hk hr hc hx hy
   · split at e
     rename_i r hr;cases e;exact Pq R hk hr hc hx hy;split at e;rename_i c1 S1 hs;split at e;rename_i c2 S2 hr;cases e;obtain⟨Z1,mv,_⟩:=Fb R hs hc.1;exact br.before mv (JC mv.st hk hr hc.2 (hx.mono (Eta.le.refl _) mv.step.cI) (hy.mono (Eta.le.refl _) mv.step.cI));cases e;cases e
 cases e
def jR(Z:ar)(kd vd:D):List (kd.ty×vd.ty)->List MapEntry->Prop
 | [],[]=>True
 | (k,v)::l,e::es=>cA Z kd k e.key/\cA Z vd v e.val/\jR Z kd vd l es
 | _,_=>False
theorem uY{kd vd:D}:∀{l:List (kd.ty×vd.ty)}{es:List MapEntry},eO η Z (nO kd vd l) es↔jR Z kd vd l es
 | [],[]=>by simp[nO,eO,jR]
 | [],_::_=>by simp[nO,eO,jR]
 | (_,_)::_,[]=>by simp[nO,eO,jR]
 | (k,v)::l,e::es=>by
   simp only[nO,eO,jR,D.fe,uY (l:=l)];exact⟨fun⟨⟨_,a⟩,⟨_,b⟩,c⟩=>⟨a,b,c⟩,fun⟨a,b,c⟩=>⟨⟨D.jg _ _,a⟩,⟨D.jg _ _,b⟩,c⟩⟩
theorem bytes_beq{a b:ByteArray}:(a==b)=true↔a=b:=by
 rw[<-ah.Ve];constructor;intro h;have:=Array.toList_inj.1 (ah.yZ h);exact ByteArray.ext this;intro h;rw[h];exact ah.uS _
theorem uZ{td:TypeDesc}{kd:D}(h:pF td kd=true){k k':kd.ty}{u u':Value}(hu:cA Z kd k u)(hu':cA Z kd k' u'):Instr.sameNow td u u'=some (kd.kD k k')/\(kd.kD k k'=true->∀ n,Instr.sameBits n u' u=true):=by
 unfold pF at h;split at h;rename_i a b;have hab:=of_decide_eq_true h;subst hab;simp only[cA] at hu hu';subst hu;subst hu';refine⟨by simp[Instr.sameNow,D.kD];rfl,fun hk n=>?_⟩;have:=of_decide_eq_true hk;cases n<;>simp[Instr.sameBits]<;>exact this.symm;simp only[cA] at hu hu';subst hu;subst hu';refine⟨by simp only[Instr.sameNow,D.kD];exact congrArg some (Bool.eq_iff_iff.2 (bytes_beq.trans decide_eq_true_iff.symm)),fun hk n=>?_⟩;have h1:(show ByteArray from k)=k':=of_decide_eq_true hk;have h2:((show ByteArray from k')==k)=true:=bytes_beq.2 h1.symm;cases n<;>simp only[Instr.sameBits]<;>exact h2;cases h
theorem Ce{td:TypeDesc}{kd vd:D}(h:pF td kd=true){k:kd.ty}{u:Value}(hu:cA Z kd k u):∀{l:List (kd.ty×vd.ty)}{es:List MapEntry}(i:Nat),jR Z kd vd l es->
 (mH kd vd k l=none->Instr.findNow td u es i=some none)/\(∀ v,mH kd vd k l=some v->∃ j v',Instr.findNow td u es i=some (some (j,v'))/\cA Z vd v v')
 | [],[],i,_=>⟨fun _=>rfl,fun v e=>by cases e⟩
 | (k',v')::l,e::es,i,⟨h1,h2,h3⟩=>by
   obtain⟨s1,_⟩:=uZ h hu h1;simp only[mH,Instr.findNow,s1];cases hb:kd.kD k k' with
   | true=>exact⟨fun e=>(by cases e),fun v hv=>(by cases hv;exact⟨i,_,rfl,h2⟩)⟩
   | false=>exact Ce h hu (i+1) h3
 | [],_::_,_,h=>h.elim
 | _::_,[],_,h=>h.elim
theorem Cg{td:TypeDesc}{kd vd:D}(h:pF td kd=true){k:kd.ty}{u:Value}(hu:cA Z kd k u){v:vd.ty}{y:Value}(hv:cA Z vd v y):∀{l:List (kd.ty×vd.ty)}{es:List MapEntry}(i:Nat),jR Z kd vd l es->
 (Instr.findNow td u es i=some none/\∀ c,jR Z kd vd (bI kd vd k v l) (es++[{ key:=u,val:=y,born:=c }]))∨
 (∃ j v' e,i<=j/\Instr.findNow td u es i=some (some (j,v'))/\es[j-i]? = some e/\(∀ n,Instr.sameBits n e.key u=true)/\jR Z kd vd (bI kd vd k v l) (es.set (j-i) { e with key:=u,val:=y }))
 | [],[],i,_=>.inl ⟨rfl,fun c=>⟨hu,hv,trivial⟩⟩
 | (k',v')::l,e::es,i,⟨h1,h2,h3⟩=>by
   obtain⟨s1,s2⟩:=uZ h hu h1;simp only[bI,Instr.findNow,s1];cases hb:kd.kD k k' with
   | true =>
     refine .inr ⟨i,e.val,e,Nat.le_refl _,rfl,by simp,s2 hb,?_⟩;simp only[Nat.sub_self,List.set_cons_zero,cond_true];exact⟨hu,hv,h3⟩
   | false =>
     rcases Cg h hu hv (i+1) h3 with ⟨a,b⟩|⟨j,v2,e2,a,b,c,d,f⟩;exact .inl ⟨a,fun c=>⟨h1,h2,b c⟩⟩;have hj:j-i=(j-(i+1))+1:=by omega
     refine .inr ⟨j,v2,e2,by omega,b,?_,d,?_⟩;rw[hj,List.getElem?_cons_succ];exact c;rw[hj,List.set_cons_succ];exact⟨h1,h2,f⟩
 | [],_::_,_,h=>h.elim
 | _::_,[],_,h=>h.elim
theorem zC{t:TypeId}{kd vd:D}(h:uX P t=some (kd,vd)):∃ kt et td z,P.underlying t=some (.map kt et)/\P.underlying kt=some td/\pF td kd=true/\ah.plainKey td=true/\(∀ w,(zeroValue et).run P w=.ok z w)/\zo (vd.w vd.zero) z=true:=by
 unfold uX at h;split at h;rename_i kt et hu;split at h;rename_i td Yf i vd' h1 h2 h3 h4;split at h;rename_i z hz;obtain⟨⟨h5,h6⟩,h⟩:=dm h;cases h;refine⟨kt,et,td,z,hu,h1,h5,?_,fun w=>?_,h6⟩;unfold pF at h5;split at h5;rfl;rfl;cases h5;simp[zeroValue,typeInfo,h3,hz];cases h;cases h;cases h
theorem St.qq(R:St base η Z S w){n:Nat}{o:Ob}{kd vd:D}{l:List (kd.ty×vd.ty)}(ho:S.get n=some o)(hl:o.qq kd vd=some l){u:Value}(hu:au η Z (.mp n) u) :
 ∃ p es clock,η n=some p/\u=.map (some p.block)/\base<=p.block/\Z p.block=none/\w.heap[p.block]? = some (.map es clock)/\jR Z kd vd l es.toList:=by
 obtain⟨p,hp,rfl⟩:=hu;obtain⟨h1,h2,L⟩:=R.aj n o p ho hp;have hfs:=Ob.ZV hl;have bM:o.cells=.mh::nO kd vd l:=by unfold Ob.cells;rw[hfs];simp[Fd.cells]
 obtain⟨es,k,h3,h4⟩:=L.maps (by unfold Ob.isMap;rw[bM];rfl);rw[bM] at h4;exact⟨p,es,k,hp,rfl,h1,h2,h3,uY.1 h4⟩
theorem Pr(R:St base η Z S w){t:TypeId}(kd vd:D):br P base η Z S w (do pure (Next.value (<-Instr.makeMap t none))) (.p (.c (.mp S.next))) (S.add ⟨t,[.m kd vd []]⟩):=by
 obtain⟨g,hn⟩:=R.Q8 (w':={ w with heap:=w.heap.push (.map #[] 0) }) (Ob.mk t [.m kd vd []]) (by unfold Ob.cells;simp[Fd.cells,nO]) rfl rfl rfl rfl;exact br.of (u:=.map (some w.heap.size)) (by simp[Instr.makeMap,newObj,Sem.run]) g.up ⟨by simp,_,hn,rfl⟩
theorem RJ(R:St base η Z S w){t:TypeId}{kd vd:D}(hd:uX P t=some (kd,vd)){n:Nat}{o:Ob}{l:List (kd.ty×vd.ty)}(ho:S.get n=some o)(hl:o.qq kd vd=some l){u uk:Value}(hu:au η Z (.mp n) u){k:kd.ty}(hk:cA Z kd k uk)(ok:Bool) :
 br P base η Z S w (do pure (Next.value (<-Instr.lookup t u uk ok))) (bif ok then .bF [.c (vd.w (dz kd vd l k)),.c (.bool (Pj kd vd l k))] else .p (.c (vd.w (dz kd vd l k)))) S:=by
 obtain⟨kt,et,td,z,ht,hkt,hkey,hpk,hz,hz'⟩:=zC hd;obtain⟨p,es,clock,hp,rfl,_,_,vT,hes⟩:=R.qq ho hl hu;have hg:(getObj p.block).run P w=.ok (.map es clock) w:=by simp[getObj,Sem.run,vT]
 obtain⟨f1,f2⟩:=Ce hkey hk 0 hes;obtain⟨zr,zl,z1,_⟩:=vP (η:=η) (Z:=Z) hz';have key:∃ y b,(Instr.lookup t (.map (some p.block)) uk ok).run P w=.ok (if ok then .tuple #[y,.bool b] else y) w/\au η Z (vd.w (dz kd vd l k)) y/\Pj kd vd l k=b:=by
  unfold dz Pj;cases hm:mH kd vd k l with
  | none =>
    exact⟨z,false,by simp[Instr.lookup,run_underlying ht,ah.kX w hkt hpk,hg,ah.l9 w hkt (f1 hm),hz],zr,rfl⟩
  | some v =>
    obtain⟨j,v',g1,g2⟩:=f2 v hm;exact⟨v',true,by simp[Instr.lookup,run_underlying ht,ah.kX w hkt hpk,hg,ah.l9 w hkt g1],(D.fe vd).2 g2,rfl⟩
 obtain⟨y,b,hrun,hy,hb⟩:=key;refine br.of hrun (bJ.refl R) ?_;cases ok;exact⟨D.jg _ _,hy⟩;exact⟨[y,.bool b],rfl,⟨D.jg _ _,hy⟩,⟨by simp,by simp[au,aH,hb]⟩,trivial⟩
theorem JD{Z:ar}{kd vd:D}:∀{l:List (kd.ty×vd.ty)}{es:List MapEntry},jR Z kd vd l es->es.length=l.length
 | [],[],_=>rfl
 | _::l,_::es,⟨_,_,h⟩=>by rw[List.length_cons,List.length_cons,JD h]
 | [],_::_,h=>h.elim
 | _::_,[],h=>h.elim
theorem RL(R:St base η Z S w){t ty:TypeId}{kd vd:D}(hd:uX P t=some (kd,vd)){n:Nat}{o:Ob}{l:List (kd.ty×vd.ty)}(ho:S.get n=some o)(hl:o.qq kd vd=some l){u:Value}(hu:au η Z (.mp n) u) :
 br P base η Z S w (do pure (Next.value (<-Builtin.len_ #[t] ty #[u]))) (.p (.c (.int .i64 (l.length:Nat)))) S:=by
 obtain⟨kt,et,td,z,ht,hkt,hkey,hpk,hz,hz'⟩:=zC hd;obtain⟨p,es,clock,hp,rfl,_,_,vT,hes⟩:=R.qq ho hl hu;have hg:(getObj p.block).run P w=.ok (.map es clock) w:=by simp[getObj,Sem.run,vT]
 have hsz:es.size=l.length:=by rw[<-Array.length_toList];exact JD hes
 refine br.of (u:=.int .i64 (l.length:Nat)) ?_ (bJ.refl R) ⟨by simp,by simp[au,aH]⟩;simp[Builtin.len_,run_underlying ht,hg,hsz,goInt]
theorem Gu(R:St base η Z S w){t:TypeId}{kd vd:D}(hd:uX P t=some (kd,vd)){n:Nat}{o:Ob}{l:List (kd.ty×vd.ty)}(ho:S.get n=some o)(hl:o.qq kd vd=some l){u uk uv:Value}(hu:au η Z (.mp n) u){k:kd.ty}(hk:cA Z kd k uk){v:vd.ty}(hv:cA Z vd v uv) :
 br P base η Z S w (do Instr.mapUpdate t u uk uv;pure Next.skip) (.bF []) (S.put n ⟨o.ty,[.m kd vd (bI kd vd k v l)]⟩):=by
 obtain⟨kt,et,td,z,ht,hkt,hkey,hpk,hz,hz'⟩:=zC hd;obtain⟨p,es,clock,hp,rfl,hb,hZ,vT,hes⟩:=R.qq ho hl hu;have hg:(getObj p.block).run P w=.ok (.map es clock) w:=by simp[getObj,Sem.run,vT]
 have hset:∀ o,(setObj p.block o).run P w=.ok () (w.putObj p.block o):=fun o=>by simp[setObj,Sem.run,vT,World.putObj]
 have fin:∀(RM:Array MapEntry)(c:Nat),jR Z kd vd (bI kd vd k v l) RM.toList->(Instr.mapUpdate t (.map (some p.block)) uk uv).run P w=.ok () (w.putObj p.block (.map RM c))->
  br P base η Z S w (do Instr.mapUpdate t (.map (some p.block)) uk uv;pure Next.skip) (.bF []) (S.put n ⟨o.ty,[.m kd vd (bI kd vd k v l)]⟩):=by
  intro RM c h2 hrun;have bM:(Ob.mk o.ty [.m kd vd (bI kd vd k v l)]).cells=.mh::nO kd vd (bI kd vd k v l):=by unfold Ob.cells;simp[Fd.cells]
  have hm:(Ob.mk o.ty [.m kd vd (bI kd vd k v l)]).isMap:=by unfold Ob.isMap;rw[bM];rfl
  have g:=R.write (w':=w.putObj p.block (.map RM c)) ho hp (o':=Ob.mk o.ty [.m kd vd (bI kd vd k v l)]) rfl rfl rfl (by simp[World.putObj]) (fun b hb=>by simp only[World.putObj];rw[Array.getElem?_setIfInBounds_ne (Ne.symm hb)])
   (fk.map hm ⟨RM,c,ah.uR (cS vT),by rw[bM];exact uY.2 h2⟩)
  exact br.MH hrun g.up
 rcases Cg hkey hk hv 0 hes with ⟨a,b⟩|⟨j,v2,e2,_,h1,h4,h5,f⟩;refine fin (es.push { key:=uk,val:=uv,born:=clock }) (clock+1) (by simpa using b clock) ?_;simp[Instr.mapUpdate,run_underlying ht,hg,ah.kX w hkt hpk,ah.l9 w hkt a,hset]
 · rw[Nat.sub_zero] at h4 f
   have hj:j<es.size:=by have:=(List.getElem?_eq_some_iff.1 h4).1;simpa using this
   have hmod:es.modify j (fun e=>{ e with key:=uk,val:=uv })=(es.toList.set j { e2 with key:=uk,val:=uv }).toArray:=by
    apply Array.ext';rw[Array.toList_modify];apply List.ext_getElem?;intro i;rw[List.getElem?_modify,List.getElem?_set];by_cases hij:j=i;subst hij;simp only[if_pos,Array.length_toList,hj];rw[h4];rfl;simp[hij]
   have h4':es[j]? = some e2:=by rw[<-Array.getElem?_toList];exact h4
   refine fin (es.toList.set j { e2 with key:=uk,val:=uv }).toArray clock (by simpa using f) ?_;simp[Instr.mapUpdate,run_underlying ht,hg,ah.kX w hkt hpk,ah.l9 w hkt h1,Instr.keyThatStays,h4',h5,hset,hmod]
set_option maxHeartbeats 1000000 in
theorem liesAt_bytes'{e:TypeId}(hc:P.cellsOf e=1)(count off n:Nat)(hn:off+n<=count):liesAt P P.depth e count off e n=true:=by
 have hd:P.depth=(2*(P.types.size+Made.depth)+1)+1:=rfl;rw[hd];simp only[liesAt,Bool.or_eq_true];left;rw[hd];simp[rowAt,hc,hn,sameLayout,Nat.mod_one]
theorem Me(R : St base η Z S w){t el : TypeId}(h : Ia P t = some el) :
 br P base η Z S w (do pure (Next.value (<-Instr.alloc t true (.tuple #[])))) (.p (.c (.ptr S.next 0))) ((S.add ⟨t,[.c (.ba S.next),.c (.sl (S.next+1) 0 0 1)]⟩).add ⟨el,[.a 0 (.int .u8) []]⟩):=by
 obtain⟨i, z, hi, hz, hzs⟩ : ∃ i z, P.info? t = some i ∧ i.zero = some z ∧ Jr [.dH, .nil] z.cells.toList = true := by
  unfold Ia at h;split at h;split at h;rename_i hi;split at h;rename_i hz;obtain⟨⟨_,h2⟩,_⟩:=dm h;exact⟨_,_,hi,hz,h2⟩;cases h;cases h;cases h
 obtain⟨h1,h3⟩:=A7 (η:=η) (Z:=Z) hzs;have hz':(zeroValue t).run P w=.ok z w:=by simp[zeroValue,typeInfo,hi,hz]
 obtain⟨w',hr,g,hn⟩:=oK (P:=P) R t h1 h3;generalize η.add S.next ⟨w.heap.size,0,z.cells.size,[]⟩=eU at g hn
 have Gv:(S.add (Ob.of t [.dH,.nil])).get S.next=some (Ob.of t [.dH,.nil]):=by rw[af.fB R.eX,if_pos rfl]
 have m2:=g.st.mP (o:=⟨el,[.a 0 (.int .u8) []]⟩) (by rw[fU];rfl);have JE:((S.add (Ob.of t [.dH,.nil])).add ⟨el,[.a 0 (.int .u8) []]⟩).get S.next=some (Ob.of t [.dH,.nil]):=by
  rw[af.fB g.st.eX,if_neg (by show S.next≠S.next+1;omega)];exact Gv
 obtain⟨_,_,L⟩:=m2.st.aj _ _ _ JE hn;have hm1:¬(Ob.of t [.dH,.nil]).gj:=by simp[Ob.gj,Ob.isMap,Ob.jT]
 have hm2:¬(Ob.mk t [.c (.ba S.next),.c (.sl (S.next+1) 0 0 1)]).gj:=by simp[Ob.gj,Ob.isMap,Ob.jT,Ob.cells,Fd.cells]
 obtain⟨c,fz,c1,c2,c3,c4⟩:=L.there hm1
 have g3:=m2.st.write (w':=w') JE hn (o':=⟨t,[.c (.ba S.next),.c (.sl (S.next+1) 0 0 1)]⟩) rfl rfl rfl rfl (fun _ _=>rfl)
  (fk.plain hm2 ⟨c,fz,c1,c2,fun i x hx=>by
   have e:(Ob.mk t [.c (.ba S.next),.c (.sl (S.next+1) 0 0 1)]).cells=[.ba S.next,.sl (S.next+1) 0 0 1]:=rfl;rw[e] at hx
   match i,hx with
   | 0,hx =>
     cases hx;obtain⟨v,hv,hr,ho⟩:=c3 0 .dH (by simp);have:v=.pointer none:=by simpa only[au,aH] using hr
     exact⟨v,hv,⟨_,hn,rfl,.inl this⟩,ho⟩
   | 1,hx =>
     cases hx;obtain⟨v,hv,hr,ho⟩:=c3 1 .nil (by simp);have:v=.slice none 0 0:=by simpa only[au,aH] using hr
     exact⟨v,hv,.inl ⟨rfl,this⟩,ho⟩
   | i+2,hx=>simp at hx,c4.plain (fun hB=>by obtain⟨q,e⟩:=hB .dH (by simp);cases e) (Ob.sR (x:=.dH) (by simp) (by intro n h;cases h))⟩ (by
     have:=L.size hm1;rw[Ob.d9] at this;exact this))
 have gd:br P base η Z S w (do pure (Next.value (<-Instr.alloc t true (.tuple #[])))) (.p (.c (.ptr S.next 0))) _:=br.of (u:=.pointer (some ⟨w.heap.size,0,none⟩)) (by simp[Instr.alloc,hz',newVar,hr]) ((g.up.trans m2).trans g3.up) ⟨by simp,_,hn,by simp⟩;refine gd.alike ⟨⟨rfl,rfl⟩,fun n=>?_⟩;have hA:∀ k,((S.add ⟨t,[.c (.ba S.next),.c (.sl (S.next+1) 0 0 1)]⟩).add ⟨el,[.a 0 (.int .u8) []]⟩).get k=if k=S.next+1 then some ⟨el,[.a 0 (.int .u8) []]⟩ else if k=S.next then some ⟨t,[.c (.ba S.next),.c (.sl (S.next+1) 0 0 1)]⟩ else S.get k:=by
  intro k;have h0:(S.add ⟨t,[.c (.ba S.next),.c (.sl (S.next+1) 0 0 1)]⟩).get (S.next+1)=none:=by
   rw[af.fB R.eX,if_neg (by omega)];cases hk:S.get (S.next+1) with
   | none=>rfl
   | some o=>have:=R.known _ _ hk;omega
  rw[af.fB (S:=S.add _) h0];show (if k=S.next+1 then _ else _)=_;rw[af.fB R.eX]
 have hB:∀ k,(((S.add (Ob.of t [.dH,.nil])).add ⟨el,[.a 0 (.int .u8) []]⟩).put S.next ⟨t,[.c (.ba S.next),.c (.sl (S.next+1) 0 0 1)]⟩).get k=if k=S.next then some ⟨t,[.c (.ba S.next),.c (.sl (S.next+1) 0 0 1)]⟩ else if k=S.next+1 then some ⟨el,[.a 0 (.int .u8) []]⟩ else S.get k:=by
  intro k;rw[af.jo,JE,af.fB g.st.eX];by_cases h1:k=S.next
  rw[if_pos h1,if_pos h1];rfl
  . rw[if_neg h1,if_neg h1];by_cases h2:k=S.next+1
    rw[if_pos h2];exact if_pos h2;rw[if_neg h2,af.fB R.eX,if_neg h1];exact if_neg h2
 rw[hA,hB];by_cases h1:n=S.next
 subst h1;rw[if_pos rfl,if_neg (by omega),if_pos rfl];exact⟨rfl,rfl⟩
 . rw[if_neg h1];by_cases h2:n=S.next+1
   subst h2;rw[if_pos rfl,if_pos rfl];exact⟨rfl,rfl⟩;rw[if_neg h2,if_neg h2,if_neg h1];cases S.get n with
   | none=>trivial
   | some o=>exact⟨rfl,rfl⟩
theorem RN(R:St base η Z S w){t el:TypeId}{v:V}{u:Value}(h:cV η Z v u)(hv:v.cells=[.dH,.nil]) :
 br P base η Z S w (do pure (Next.value (<-Instr.box t u))) (.p (.c (.ptr S.next 0))) ((S.add ⟨t,[.c (.ba S.next),.c (.sl (S.next+1) 0 0 1)]⟩).add ⟨el,[.a 0 (.int .u8) []]⟩):=by
 obtain⟨h1,_,h3⟩:=h.cells;rw[hv] at h1;obtain⟨w',hr,g,hn⟩:=oK (P:=P) R t h1 h3;generalize η.add S.next ⟨w.heap.size,0,u.cells.size,[]⟩=eU at g hn
 have Gv:(S.add (Ob.of t [.dH,.nil])).get S.next=some (Ob.of t [.dH,.nil]):=by rw[af.fB R.eX,if_pos rfl]
 have m2:=g.st.mP (o:=⟨el,[.a 0 (.int .u8) []]⟩) (by rw[fU];rfl);have JE:((S.add (Ob.of t [.dH,.nil])).add ⟨el,[.a 0 (.int .u8) []]⟩).get S.next=some (Ob.of t [.dH,.nil]):=by
  rw[af.fB g.st.eX,if_neg (by show S.next≠S.next+1;omega)];exact Gv
 obtain⟨_,_,L⟩:=m2.st.aj _ _ _ JE hn;have hm1:¬(Ob.of t [.dH,.nil]).gj:=by simp[Ob.gj,Ob.isMap,Ob.jT]
 have hm2:¬(Ob.mk t [.c (.ba S.next),.c (.sl (S.next+1) 0 0 1)]).gj:=by simp[Ob.gj,Ob.isMap,Ob.jT,Ob.cells,Fd.cells]
 obtain⟨c,fz,c1,c2,c3,c4⟩:=L.there hm1
 have g3:=m2.st.write (w':=w') JE hn (o':=⟨t,[.c (.ba S.next),.c (.sl (S.next+1) 0 0 1)]⟩) rfl rfl rfl rfl (fun _ _=>rfl)
  (fk.plain hm2 ⟨c,fz,c1,c2,fun i x hx=>by
   have e:(Ob.mk t [.c (.ba S.next),.c (.sl (S.next+1) 0 0 1)]).cells=[.ba S.next,.sl (S.next+1) 0 0 1]:=rfl;rw[e] at hx
   match i,hx with
   | 0,hx =>
     cases hx;obtain⟨v,hv,hr,ho⟩:=c3 0 .dH (by simp);have:v=.pointer none:=by simpa only[au,aH] using hr
     exact⟨v,hv,⟨_,hn,rfl,.inl this⟩,ho⟩
   | 1,hx =>
     cases hx;obtain⟨v,hv,hr,ho⟩:=c3 1 .nil (by simp);have:v=.slice none 0 0:=by simpa only[au,aH] using hr
     exact⟨v,hv,.inl ⟨rfl,this⟩,ho⟩
   | i+2,hx=>simp at hx,c4.plain (fun hB=>by obtain⟨q,e⟩:=hB .dH (by simp);cases e) (Ob.sR (x:=.dH) (by simp) (by intro n h;cases h))⟩ (by
     have:=L.size hm1;rw[Ob.d9] at this;exact this))
 have gd:br P base η Z S w (do pure (Next.value (<-Instr.box t u))) (.p (.c (.ptr S.next 0))) _:=br.of (u:=.pointer (some ⟨w.heap.size,0,none⟩)) (by simp[Instr.box,newVar,hr]) ((g.up.trans m2).trans g3.up) ⟨by simp,_,hn,by simp⟩;refine gd.alike ⟨⟨rfl,rfl⟩,fun n=>?_⟩;have hA:∀ k,((S.add ⟨t,[.c (.ba S.next),.c (.sl (S.next+1) 0 0 1)]⟩).add ⟨el,[.a 0 (.int .u8) []]⟩).get k=if k=S.next+1 then some ⟨el,[.a 0 (.int .u8) []]⟩ else if k=S.next then some ⟨t,[.c (.ba S.next),.c (.sl (S.next+1) 0 0 1)]⟩ else S.get k:=by
  intro k;have h0:(S.add ⟨t,[.c (.ba S.next),.c (.sl (S.next+1) 0 0 1)]⟩).get (S.next+1)=none:=by
   rw[af.fB R.eX,if_neg (by omega)];cases hk:S.get (S.next+1) with
   | none=>rfl
   | some o=>have:=R.known _ _ hk;omega
  rw[af.fB (S:=S.add _) h0];show (if k=S.next+1 then _ else _)=_;rw[af.fB R.eX]
 have hB:∀ k,(((S.add (Ob.of t [.dH,.nil])).add ⟨el,[.a 0 (.int .u8) []]⟩).put S.next ⟨t,[.c (.ba S.next),.c (.sl (S.next+1) 0 0 1)]⟩).get k=if k=S.next then some ⟨t,[.c (.ba S.next),.c (.sl (S.next+1) 0 0 1)]⟩ else if k=S.next+1 then some ⟨el,[.a 0 (.int .u8) []]⟩ else S.get k:=by
  intro k;rw[af.jo,JE,af.fB g.st.eX];by_cases h1:k=S.next
  rw[if_pos h1,if_pos h1];rfl
  . rw[if_neg h1,if_neg h1];by_cases h2:k=S.next+1
    rw[if_pos h2];exact if_pos h2;rw[if_neg h2,af.fB R.eX,if_neg h1];exact if_neg h2
 rw[hA,hB];by_cases h1:n=S.next
 subst h1;rw[if_pos rfl,if_neg (by omega),if_pos rfl];exact⟨rfl,rfl⟩
 . rw[if_neg h1];by_cases h2:n=S.next+1
   subst h2;rw[if_pos rfl,if_pos rfl];exact⟨rfl,rfl⟩;rw[if_neg h2,if_neg h2,if_neg h1];cases S.get n with
   | none=>trivial
   | some o=>exact⟨rfl,rfl⟩
theorem RO(R:St base η Z S w){pt it ty el:TypeId}(hp:P.underlying pt=some (.pointer el))(hc:P.cellsOf el=1){m i:Nat}{o:Ob}{l:List Int}(ho:S.get m=some o)(hty:o.ty=el)(hl:Fd.list (.int .u8) o.fs=some l)
 {u:Value} (hu:au η Z (.pe m 0 i) u) {kk:IntKind} {k:Nat} (h0:0<k) (hk:i+k<=l.length) (h63:k<=9223372036854775807) :
 br P base η Z S w (do pure (Next.value (<-Builtin.unsafeString_ #[pt,it] ty #[u,.int kk k]))) (.p (.c (.str (qJ ((l.drop i).take k))))) S:=by
 obtain⟨pl,hpl,rfl⟩:=hu;have bM:=Fd.gP hl;have hmo:¬o.gj:=Ob.gG (o:=o) bM;obtain⟨hb,hz,L⟩:=R.aj m o pl ho hpl;obtain⟨c,fz,c1,c2,c3,c4⟩:=L.there hmo;have hroom:=L.size hmo;have bO:o.cells.length=l.length:=by unfold Ob.cells;rw[bM];simp
 obtain⟨vs,v1,v2,v3,v4⟩:=R.reads ho hpl hmo (off:=i) (k:=k) (by omega);have hvs:vs=(((l.drop i).take k).map fun n=>Value.int .u8 n):=by
  have e:(o.cells.drop i).take k=((l.drop i).take k).map (D.int .u8).w:=by
   unfold Ob.cells;rw[bM];simp[List.map_drop,List.map_take]
  rw[e] at v1;exact CZ v1
 have xq : ∀(l : List Int)(a : Addr)(acc : ByteArray), (∀ j x, l[j]? = some x → w.cell? (a.add j) = some (.int .u8 x)) → (loadBytes a acc l.length).run P w = .ok (l.foldl (fun r n => r.push (UInt8.ofNat n.toNat)) acc) w := by
  intro l
  induction l with
  | nil=>intro a acc _;simp[loadBytes]
  | cons x l ih =>
    intro a acc h;have h0:w.cell? a=some (.int .u8 x):=by
     have:=h 0 x rfl;simpa[Addr.add] using this
    have ih:=ih (a.add 1) (acc.push (UInt8.ofNat x.toNat)) (fun j y hy=>by
     have:=h (j+1) y (by simpa using hy);have e:(a.add 1).add j=a.add (j+1):=by
      unfold Addr.add;by_cases hj:j=0;subst hj;simp;simp[hj];omega
     rw[e];exact this)
    simp only[List.length_cons,loadBytes,Sem.run_bind,run_load,h0,Result.andThen];exact ih
 have hkl:((l.drop i).take k).length=k:=by simp;omega
 have hrd:=xq ((l.drop i).take k) ⟨pl.block,pl.off+i,none⟩ .empty (fun j x hx=>by
  rw[Addr.add_lit];refine v4 j _ ?_;rw[hvs,List.getElem?_map,hx];rfl)
 rw[hkl,<-Jp] at hrd;have hsh:w.shape? pl.block=some (el,c.size):=by rw[<-hty];simp[World.shape?,c1]
 have hlies:=liesAt_bytes' (P:=P) hc (c.size/P.cellsOf el) (pl.off+i) k (by rw[hc,Nat.div_one];omega);have hrun:(Builtin.unsafeString_ #[pt,it] ty #[.pointer (some ⟨pl.block,pl.off+i,none⟩),.int kk k]).run P w=.ok (.string (qJ ((l.drop i).take k))) (w.freeze ⟨pl.block,pl.off+i,none⟩ k):=by
  have hdef:Builtin.unsafeString_ #[pt,it] ty #[.pointer (some ⟨pl.block,pl.off+i,none⟩),.int kk k] =
   (do
    let n <-asInt (.int kk k)
    if n<0 then runtimePanic (.error "unsafe.String: len out of range")
    if n>IntKind.i64.max then unsupported (.unsafePointer "String: a length above the largest int")
    if n=0 then pure (.string .empty)
    else if <-variablesAt ⟨pl.block,pl.off+i,none⟩ (<-elemOf pt) n.toNat then do
     let s <-loadBytes ⟨pl.block,pl.off+i,none⟩ .empty n.toNat
     freeze ⟨pl.block,pl.off+i,none⟩ n.toNat
     pure (.string s)
    else unsupported (.unsafePointer "String: not so many bytes at ptr")):=rfl
  rw[hdef];have hmax:IntKind.i64.max=9223372036854775807:=rfl;have e1:¬((k:Int)<0):=by omega
  have e2:¬((9223372036854775807:Int)<(k:Int)):=by omega
  have e3:k≠0:=by omega
  simp[asInt,asIntOf,hmax,e2,e3,variablesAt,elemOf,run_underlying hp,hsh,hlies,hrd,freeze,Sem.run];intro h;omega
 have gC:∀ q,q≠pl.block->(w.freeze ⟨pl.block,pl.off+i,none⟩ k).heap[q]? = w.heap[q]?:=by
  intro q hq;unfold World.freeze;rw[if_neg (by omega)];simp[Array.getElem?_modify,Ne.symm hq]
 have hsz:(w.freeze ⟨pl.block,pl.off+i,none⟩ k).heap.size=w.heap.size:=by
  unfold World.freeze;rw[if_neg (by omega)];simp
 have Jm : ∃ zm, (w.freeze ⟨pl.block, pl.off + i, none⟩ k).heap[pl.block]? = some (.cells c o.ty zm) ∧ y8 c.size o pl zm := by
  have hB:o.bytes:=by
   intro x hx;unfold Ob.cells at hx;rw[bM] at hx;obtain⟨y,_,rfl⟩:=List.mem_map.1 hx;exact⟨y,rfl⟩
  have hNW:¬o.wb:=Ob.ql (d:=.int .u8) (l:=l) (by unfold Ob.cells;rw[bM]);refine⟨if fz.1==fz.2 then(pl.off+i,pl.off+i+k) else(min fz.1 (pl.off+i),max fz.2 (pl.off+i+k)),?_,?_⟩;unfold World.freeze;rw[if_neg (by omega)];simp only[Array.getElem?_modify,if_true,c1,Option.map_some];refine .inr (.inl ⟨hB,?_⟩);rw[bO];split;show pl.off+i+k<=_;omega;rename_i hne;show max fz.2 (pl.off+i+k)<=_;rcases c4.tail with h|h|h;exact absurd (by simpa using h) hne;rw[bO] at h;omega;exact absurd h.1 hNW
 obtain⟨zm,hb1,hb2⟩:=Jm;simp only[Nat.zero_add]
 have g:=R.write (w':=w.freeze ⟨pl.block,pl.off+i,none⟩ k) ho hpl (o':=o) (by unfold World.freeze;rw[if_neg (by omega)]) (by unfold World.freeze;rw[if_neg (by omega)]) (by unfold World.freeze;rw[if_neg (by omega)]) hsz gC
  (fk.DN hmo ⟨c,zm,hb1,c2,c3,hb2⟩ hroom)
 refine(show br P base η Z S w (do pure (Next.value (<-Builtin.unsafeString_ #[pt,it] ty #[.pointer (some ⟨pl.block,pl.off+i,none⟩),.int kk k]))) (.p (.c (.str (qJ ((l.drop i).take k))))) (S.put m o) from br.of hrun g.up qp).alike ⟨⟨rfl,rfl⟩,fun q=>?_⟩;rw[af.jo];by_cases hq:q=m;subst hq;rw[if_pos rfl,ho];exact⟨rfl,rfl⟩;rw[if_neg hq];cases S.get q with
 | none=>trivial
 | some x=>exact⟨rfl,rfl⟩
theorem H8(R:St base η Z S w){t:TypeId}(hs:gE P t=some 1){m i j k:Nat}{av:List (List Int)}{o:Ob}(ho:S.get m=some o)(hto:o.jT k av){u:Value}(hx:au η Z (.o6 m i j) u)(hi:i<av.length)(hj:j<k){y:Int} :
 br P base η Z S w (do Instr.storeAt t u (.int .i64 y);pure Next.skip) (.bF []) (S.put m ⟨o.ty,[.c (.th k (av.set i ((av.getD i []).set j y)))]⟩):=by
 obtain⟨p,r,hp,hr,rfl⟩:=hx;obtain⟨_,_,L⟩:=R.aj m o p ho hp;have T:=L.tabs k av hto;have RP:av.getD i []=av[i]:=by rw[List.getD_eq_getElem?_getD,List.getElem?_eq_getElem hi];rfl
 obtain⟨hl,c,ty,fz,hc,hsz,hv,hfz⟩:=T.row i r av[i] hr (List.getElem?_eq_getElem hi)
 have hst:=run_storeCells_cells (P:=P) r.1 (r.2+j) [Value.int .i64 y] 0 w
  (fun q hq=>by
   have JF:q=0:=by simpa using hq
   subst JF;have:r.2+j+0<c.size:=by omega
   simp[World.cell?,hc];simpa using this)
  (fun q hq=>by
   have JF:q=0:=by simpa using hq
   subst JF;have:=hfz (r.2+j+0) (by omega) (by omega);simp only[World.frozen?,hc];simpa using this) (by intro x hx;rw[List.mem_singleton] at hx;subst hx;rfl)
 simp only[Nat.add_zero] at hst;obtain⟨c',g1,g2,g3,g4⟩:=ah.ku [Value.int .i64 y] (r.2+j) w c hc;have r5:=ah.iG (base:=0) (bk:=r.1) (Nat.zero_le _) [Value.int .i64 y] (r.2+j) w;have hnd:=T.nodup;rw[List.nodup_cons] at hnd;have hrb:r.1∈p.sats:=List.mem_map.2 ⟨r,List.mem_of_getElem? hr,rfl⟩;have hpb:p.block≠r.1:=fun e=>hnd.1 (e▸hrb);have gC:∀ b,b≠r.1->(w.setCells r.1 (r.2+j) [Value.int .i64 y]).heap[b]? = w.heap[b]?:=fun b hb=>ah.gA hb _ _ _
 have g := R.Ra (w' := w.setCells r.1 (r.2 + j) [Value.int .i64 y]) ho hp (o' := ⟨o.ty, [.c (.th k (av.set i ((av.getD i []).set j y)))]⟩) (cn.MB hr) r5.os r5.tape r5.output (ah.kx _ _ _) gC ⟨_, g1, rfl⟩
  (fk.tab (k:=k) (av:=av.set i ((av.getD i []).set j y)) (I6 rfl) ⟨by
   obtain⟨co,fo,q1,q2⟩:=T.outer;exact⟨co,fo,(gC _ hpb).trans q1,q2⟩,by rw[List.length_set];exact T.len,by rw[List.length_set];exact T.room,by
   intro i' r' l' hr' hl';by_cases hii:i'=i;subst hii;rw[hr] at hr';cases hr';rw[List.getElem?_set,if_pos rfl,if_pos hi,RP] at hl';cases hl';refine⟨by rw[List.length_set];exact hl,c',ty,fz,g1,by omega,?_,by rw[g2];exact hfz⟩;intro j' x hx;rw[List.getElem?_set] at hx;by_cases hjj:j=j';subst hjj;rw[if_pos rfl,if_pos (by omega)] at hx;cases hx;have:=g4 0 (by simp) (by omega);simpa using this;rw[if_neg hjj] at hx;rw[g3 _ (by simp;omega)];exact hv j' x hx;rw[List.getElem?_set,if_neg (Ne.symm hii)] at hl';obtain⟨q0,cq,tq,fq,q1,q2⟩:=T.row i' r' l' hr' hl';refine⟨q0,cq,tq,fq,(gC _ fun e=>?_).trans q1,q2⟩;have h1:i'<p.sats.length:=by unfold cn.sats;rw[List.length_map];exact(List.getElem?_eq_some_iff.1 hr').1
   have h2:=(List.getElem?_inj h1 hnd.2 (j:=i)).1 (by
    show p.sats[i']? = p.sats[i]?;unfold cn.sats;rw[List.getElem?_map,List.getElem?_map,hr,hr'];show some r'.1=some r.1;rw[e])
   exact hii h2,T.nodup⟩)
 refine br.MH ?_ g.up;simp[Instr.storeAt,Instr.sureAddr,storeVar,dI hs,Value.cells,hst]
theorem Gw{t:TypeId}{kd:D}(h:rQ P t=some kd):∃ kt et td,P.underlying t=some (.map kt et)/\P.underlying kt=some td/\pF td kd=true/\ah.plainKey td=true:=by
 unfold rQ at h;split at h;rename_i kt et hu;split at h;rename_i td Yf h1 h2;obtain⟨h5,h⟩:=dm h;cases h;refine⟨kt,et,td,hu,h1,h5,?_⟩;unfold pF at h5;split at h5;rfl;rfl;cases h5;cases h;cases h
theorem zD{td:TypeDesc}{kd:D}(h:pF td kd=true){k:kd.ty}{u:Value}(hu:cA Z kd k u):∀{fs:List Fd}{l:List (kd.ty×W)}{es:List MapEntry}(i:Nat),pE kd fs=some l->eO η Z (fs.flatMap Fd.cells) es->
 (zx kd k l=none->Instr.findNow td u es i=some none)/\(∀ v,zx kd k l=some v->∃ j v',Instr.findNow td u es i=some (some (j,v'))/\v≠.cX/\au η Z v v')
 | [],l,es,i,e,r=>by
   simp only[pE] at e;cases e;cases es with
   | nil=>exact⟨fun _=>rfl,fun v e=>by cases e⟩
   | cons _ _=>simp[eO] at r
 | .c kw::.c vw::fs,l,es,i,e,r=>by
   simp only[pE] at e;split at e
   . rename_i x l' hx hl;obtain⟨_,e⟩:=ah.aA e;cases e;cases es with
     | nil=>simp[eO,Fd.cells] at r
     | cons e0 es =>
       have r:(kw≠.cX/\au η Z kw e0.key)/\(vw≠.cX/\au η Z vw e0.val)/\eO η Z (fs.flatMap Fd.cells) es:=r;obtain⟨r1,r2,r3⟩:=r;obtain⟨s1,_⟩:=uZ h hu (mz hx r1.2);simp only[zx,Instr.findNow,s1];cases hb:kd.kD k x with
       | true=>exact⟨fun e=>(by cases e),fun v hv=>(by cases hv;exact⟨i,_,rfl,r2.1,r2.2⟩)⟩
       | false=>exact zD h hu (i+1) hl r3
   cases e
 | [.c _],_,_,_,e,_=>by simp[pE] at e
 | .a _ _ _::_,_,_,_,e,_=>by simp[pE] at e
 | .m _ _ _::_,_,_,_,e,_=>by simp[pE] at e
 | .c _::.a _ _ _::_,_,_,_,e,_=>by simp[pE] at e
 | .c _::.m _ _ _::_,_,_,_,e,_=>by simp[pE] at e
theorem Ch{kd:D}{fs:List Fd}{l:List (kd.ty×W)}(e:vS kd fs=some l):∃ r,fs=.c .mh::r/\pE kd r=some l:=by
 unfold vS at e;split at e;exact⟨_,rfl,e⟩;cases e
theorem St.Yg(R:St base η Z S w){n:Nat}{o:Ob}{r:List Fd}(ho:S.get n=some o)(hl:o.fs=.c .mh::r){u:Value}(hu:au η Z (.mp n) u) :
 ∃ p es clock,η n=some p/\u=.map (some p.block)/\base<=p.block/\Z p.block=none/\w.heap[p.block]? = some (.map es clock)/\eO η Z (r.flatMap Fd.cells) es.toList:=by
 obtain⟨p,hp,rfl⟩:=hu;obtain⟨h1,h2,L⟩:=R.aj n o p ho hp;have bM:o.cells=.mh::r.flatMap Fd.cells:=by unfold Ob.cells;rw[hl];rfl
 obtain⟨es,k,h3,h4⟩:=L.maps (by unfold Ob.isMap;rw[bM];rfl);rw[bM] at h4;exact⟨p,es,k,hp,rfl,h1,h2,h3,h4⟩
theorem Mf(R:St base η Z S w){t:TypeId}:br P base η Z S w (do pure (Next.value (<-Instr.makeMap t none))) (.p (.c (.mp S.next))) (S.add ⟨t,[.c .mh]⟩):=by
 obtain⟨g,hn⟩:=R.Q8 (w':={ w with heap:=w.heap.push (.map #[] 0) }) (Ob.mk t [.c .mh]) (by unfold Ob.cells;simp[Fd.cells]) rfl rfl rfl rfl;exact br.of (u:=.map (some w.heap.size)) (by simp[Instr.makeMap,newObj,Sem.run]) g.up ⟨by simp,_,hn,rfl⟩
theorem Pt(R:St base η Z S w){t:TypeId}{kd:D}(hd:rQ P t=some kd){n:Nat}{o:Ob}{l:List (kd.ty×W)}(ho:S.get n=some o)(hl:vS kd o.fs=some l){u uk:Value}(hu:au η Z (.mp n) u){k:kd.ty}(hk:cA Z kd k uk){v:W}(hv:zx kd k l=some v) :
 br P base η Z S w (do pure (Next.value (<-Instr.lookup t u uk false))) (.p (.c v)) S:=by
 obtain⟨kt,et,td,ht,hkt,hkey,hpk⟩:=Gw hd;obtain⟨r,hfs,hr⟩:=Ch hl;obtain⟨p,es,clock,hp,rfl,_,_,vT,hes⟩:=R.Yg ho hfs hu;have hg:(getObj p.block).run P w=.ok (.map es clock) w:=by simp[getObj,Sem.run,vT]
 obtain⟨j,v',g1,g2,g3⟩:=(zD hkey hk 0 hr hes).2 v hv;have hrun:(Instr.lookup t (.map (some p.block)) uk false).run P w=.ok v' w:=by simp[Instr.lookup,run_underlying ht,ah.kX w hkt hpk,hg,ah.l9 w hkt g1]
 exact br.of hrun (bJ.refl R) ⟨g2,g3⟩
theorem Ci{k v:W}{e:MapEntry}(h1:k≠.cX/\au η Z k e.key)(h2:v≠.cX/\au η Z v e.val):∀{l:List W}{es:List MapEntry},eO η Z l es->eO η Z (l++[k,v]) (es++[e])
 | [],[],_=>⟨h1,h2,trivial⟩
 | _::_::l,_::es,⟨a,b,c⟩=>⟨a,b,Ci h1 h2 c⟩
 | [],_::_,h=>by simp[eO] at h
 | [_],_,h=>by simp[eO] at h
 | _::_::_,[],h=>by simp[eO] at h
theorem D1(R:St base η Z S w){t:TypeId}{kd:D}(hd:rQ P t=some kd){n:Nat}{o:Ob}{l:List (kd.ty×W)}(ho:S.get n=some o)(hl:vS kd o.fs=some l){u uk uv:Value}(hu:au η Z (.mp n) u){k:kd.ty}(hk:cA Z kd k uk){v:W}(hv:v≠.cX/\au η Z v uv)(hno:zx kd k l=none) :
 br P base η Z S w (do Instr.mapUpdate t u uk uv;pure Next.skip) (.bF []) (S.put n ⟨o.ty,o.fs++[.c (kd.w k),.c v]⟩):=by
 obtain⟨kt,et,td,ht,hkt,hkey,hpk⟩:=Gw hd;obtain⟨r,hfs,hr⟩:=Ch hl;obtain⟨p,es,clock,hp,rfl,hb,hZ,vT,hes⟩:=R.Yg ho hfs hu;have hg:(getObj p.block).run P w=.ok (.map es clock) w:=by simp[getObj,Sem.run,vT]
 have hset:∀ o,(setObj p.block o).run P w=.ok () (w.putObj p.block o):=fun o=>by simp[setObj,Sem.run,vT,World.putObj]
 have a:=(zD hkey hk 0 hr hes).1 hno;have bM:(Ob.mk o.ty (o.fs++[.c (kd.w k),.c v])).cells=.mh::(r.flatMap Fd.cells++[kd.w k,v]):=by unfold Ob.cells;rw[hfs];simp[Fd.cells]
 have hm:(Ob.mk o.ty (o.fs++[.c (kd.w k),.c v])).isMap:=by unfold Ob.isMap;rw[bM];rfl
 have g:=R.write (w':=w.putObj p.block (.map (es.push { key:=uk,val:=uv,born:=clock }) (clock+1))) ho hp (o':=Ob.mk o.ty (o.fs++[.c (kd.w k),.c v])) rfl rfl rfl (by simp[World.putObj]) (fun b hb=>by simp only[World.putObj];rw[Array.getElem?_setIfInBounds_ne (Ne.symm hb)])
  (fk.map hm ⟨es.push { key:=uk,val:=uv,born:=clock },clock+1,ah.uR (cS vT),by
   rw[bM,List.tail_cons,Array.toList_push];exact Ci ⟨D.jg _ _,(D.fe kd).2 hk⟩ hv hes⟩)
 refine br.MH ?_ g.up;simp[Instr.mapUpdate,run_underlying ht,hg,ah.kX w hkt hpk,ah.l9 w hkt a,hset]
theorem VD(R:St base η Z S w){t:TypeId}{d:TypeDesc}(hu:P.underlying t=some d)(hd:∀ ms,d≠.interface ms){x:Value}:br P base η Z S w (do pure (Next.value (<-Instr.makeInterface t x))) (.p (.c (.val (.iface t x)))) S:=by
 refine br.of (u:=.iface t x) ?_ (bJ.refl R) ⟨by simp,by simp only[au,aH];exact⟨trivial,rfl⟩⟩;unfold Instr.makeInterface;simp only[Sem.run_bind,run_underlying hu,Result.andThen_ok];cases d<;>first|exact absurd rfl (hd _)|rfl
theorem VE(R:St base η Z S w){src dst el:TypeId}(hs:P.underlying src=some .string)(hd:P.underlying dst=some (.slice el))(he:P.underlying el=some (.int .u8))(s:ByteArray):br P base η Z S w (do pure (Next.value (<-convert src dst (.string s)))) (.p (.c (.rd (.int .u8) (jA s)))) S:=by
 have hge:=grownCap_ge w s.size 0 el;generalize hcap:grownCap w s.size 0 el=cap at hge;have Pu:(Question.appendCap s.size 0 el).cut (w.tape w.drawn (Question.appendCap s.size 0 el))=cap:=hcap;let c:Array Value:=s.data.map (fun b=>Value.int .u8 b.toNat)++Array.replicate (cap-s.size) (.int .u8 0);have hsz:s.data.size=s.size:=rfl;have hcs:c.size=cap:=by
  simp only[c,Array.size_append,Array.size_map,Array.size_replicate];omega
 let w':World:={ w with heap:=w.heap.push (.cells c el (cap,cap+1)),drawn:=w.drawn+1 };have hrun:(convert src dst (.string s)).run P w=.ok (.slice (some ⟨w.heap.size,0,none⟩) s.size cap) w':=by
  simp only[convert,Sem.run_bind,run_underlying hs,run_underlying hd,run_underlying he,Result.andThen_ok];simp only[Conv.stringToBytes,Sem.run_bind,run_choose,Question.forced,Bool.false_eq_true,if_false,Result.andThen_ok,newRow,newObj,Sem.run,Sem.run_pure,Pu,markStringish,shape,World.shape?,freeze];have hc0:Array.map (fun b=>Value.int IntKind.u8 (b.toNat:Int)) s.data++Array.replicate (cap-s.size) (Value.int IntKind.u8 0)=c:=rfl;rw[hc0];have e1:((w.heap.push (Obj.cells c el))[w.heap.size]?)=some (Obj.cells c el):=by simp
  simp only[e1,Sem.run,Result.andThen_ok,World.freeze,Nat.one_ne_zero,if_false,hcs];have e2:(w.heap.push (Obj.cells c el)).modify w.heap.size (fun x=>match x with
   | .cells c elem (lo,hi)=>.cells c elem (if lo==hi then(cap,cap+1) else(min lo cap,max hi (cap+1)))
   | o=>o)=w.heap.push (Obj.cells c el (cap,cap+1)):=by
   apply Array.ext_getElem?;intro i;rw[Array.getElem?_modify,Array.getElem?_push,Array.getElem?_push];by_cases hi:w.heap.size=i;subst hi;simp;rw[if_neg hi,if_neg (by omega),if_neg (by omega)]
  exact congrArg (fun hp=>Result.ok (Value.slice (some { block:=w.heap.size,off:=0 }) s.size cap) { w with heap:=hp,drawn:=w.drawn+1 }) e2
 have hfree:Z w.heap.size=none:=by
  cases h:Z w.heap.size with
  | none=>rfl
  | some x=>have:=R.Vj h;omega
 have hzle:Z.le (Z.add w.heap.size c):=fun b x hb=>by
  unfold ar.add;split;rename_i h;subst h;rw[hfree] at hb;cases hb;exact hb
 have hold:∀ b,b<w.heap.size->w'.heap[b]? = w.heap[b]?:=fun b hb=>by
  show (w.heap.push _)[b]? = _;rw[Array.getElem?_push,if_neg (by omega)]
 have hown:∀ b,Own η S b->b<w.heap.size:=fun b ⟨n,o,p,h1,h2,hb⟩=>R.jV h1 h2 hb;have hst : St base η (Z.add w.heap.size c) S w' := by
  refine R.vO hzle (fun b cs hb=>?_) (by show _<=(w.heap.push _).size;simp) (fun b ho=>hold b (hown b ho)) (fun b ho=>?_);unfold ar.add at hb;split at hb;rename_i h;cases hb;subst h;exact⟨el,(cap,cap+1),by show (w.heap.push _)[w.heap.size]? = _;simp⟩;obtain⟨ty,fz,e⟩:=R.zs b cs hb;exact⟨ty,fz,(hold b (cS e)).trans e⟩;unfold ar.add;have:=hown b ho;rw[if_neg (by omega)];obtain⟨n,o,p,h1,h2,hb⟩:=ho;exact(R.all h1 h2 hb).2.1
 refine br.of hrun ⟨Eta.le.refl _,hst,⟨rfl,rfl,rfl,(by show _<=(w.heap.push _).size;simp),fun b hb _=>hold b hb,fun _ h=>.inl h,hzle,fun b cs hb=>?_,rfl⟩⟩ ⟨by simp,?_⟩;unfold ar.add at hb;split at hb;rename_i h;exact .inr (.inr (by omega));exact .inl hb;simp only[au,aH,cA];have hl:(jA s).length=s.size:=by simp[jA]
 refine⟨_,_,_,rfl,hl,hge,.inr ⟨w.heap.size,0,c,rfl,by unfold ar.add;rw[if_pos rfl],fun i x hx=>?_⟩⟩;simp only[jA,List.getElem?_map,Array.getElem?_toList] at hx;cases hb:s.data[i]? with
 | none=>rw[hb] at hx;cases hx
 | some b =>
   rw[hb] at hx;cases hx;refine⟨.int .u8 (b.toNat:Int),?_,rfl⟩;have hi:=(Array.getElem?_eq_some_iff.1 hb).1;have hi2:i<(s.data.map (fun b=>Value.int IntKind.u8 (b.toNat:Int))).size:=by simpa using hi
   show c[0+i]? = _;rw[Nat.zero_add,Array.getElem?_append_left hi2];simp[hb]
theorem VF(R:St base η Z S w){src dst el:TypeId}(hs:P.underlying src=some .string)(hd:P.underlying dst=some (.slice el))(he:P.underlying el=some (.int .u8))(s:ByteArray)(h0:0<s.size):br P base η Z S w (do pure (Next.value (<-convert src dst (.string s)))) (.p (.c (.sl S.next 0 s.size 1))) (S.add ⟨el,[.b (jA s)]⟩):=by
 have hge:=grownCap_ge w s.size 0 el;generalize hcap:grownCap w s.size 0 el=cap at hge;have Pu:(Question.appendCap s.size 0 el).cut (w.tape w.drawn (Question.appendCap s.size 0 el))=cap:=hcap;let c:Array Value:=s.data.map (fun b=>Value.int .u8 b.toNat)++Array.replicate (cap-s.size) (.int .u8 0);have hsz:s.data.size=s.size:=rfl;have hcs:c.size=cap:=by
  simp only[c,Array.size_append,Array.size_map,Array.size_replicate];omega
 let w':World:={ w with heap:=w.heap.push (.cells c el (cap,cap+1)),drawn:=w.drawn+1 };have hrun:(convert src dst (.string s)).run P w=.ok (.slice (some ⟨w.heap.size,0,none⟩) s.size cap) w':=by
  simp only[convert,Sem.run_bind,run_underlying hs,run_underlying hd,run_underlying he,Result.andThen_ok];simp only[Conv.stringToBytes,Sem.run_bind,run_choose,Question.forced,Bool.false_eq_true,if_false,Result.andThen_ok,newRow,newObj,Sem.run,Sem.run_pure,Pu,markStringish,shape,World.shape?,freeze];have hc0:Array.map (fun b=>Value.int IntKind.u8 (b.toNat:Int)) s.data++Array.replicate (cap-s.size) (Value.int IntKind.u8 0)=c:=rfl;rw[hc0];have e1:((w.heap.push (Obj.cells c el))[w.heap.size]?)=some (Obj.cells c el):=by simp
  simp only[e1,Sem.run,Result.andThen_ok,World.freeze,Nat.one_ne_zero,if_false,hcs];have e2:(w.heap.push (Obj.cells c el)).modify w.heap.size (fun x=>match x with
   | .cells c elem (lo,hi)=>.cells c elem (if lo==hi then(cap,cap+1) else(min lo cap,max hi (cap+1)))
   | o=>o)=w.heap.push (Obj.cells c el (cap,cap+1)):=by
   apply Array.ext_getElem?;intro i;rw[Array.getElem?_modify,Array.getElem?_push,Array.getElem?_push];by_cases hi:w.heap.size=i;subst hi;simp;rw[if_neg hi,if_neg (by omega),if_neg (by omega)]
  exact congrArg (fun hp=>Result.ok (Value.slice (some { block:=w.heap.size,off:=0 }) s.size cap) { w with heap:=hp,drawn:=w.drawn+1 }) e2
 have bM:(Ob.mk el [.b (jA s)]).cells=(jA s).map W.lZ:=by unfold Ob.cells;simp[Fd.cells]
 have hl:(jA s).length=s.size:=by simp[jA]
 obtain⟨g,hn⟩:=R.newF (w':=w') ⟨el,[.b (jA s)]⟩ c (fz:=(cap,cap+1)) rfl rfl rfl rfl (by rw[bM,List.length_map,hl,hcs];exact hge)
  (fun i x hx=>by
   rw[bM,List.getElem?_map] at hx;simp only[jA,List.getElem?_map,Array.getElem?_toList] at hx;cases hb:s.data[i]? with
   | none=>rw[hb] at hx;cases hx
   | some b =>
     rw[hb] at hx;cases hx;refine⟨.int .u8 (b.toNat:Int),?_,rfl,rfl⟩;have hi:=(Array.getElem?_eq_some_iff.1 hb).1;have hi2:i<(s.data.map (fun b=>Value.int IntKind.u8 (b.toNat:Int))).size:=by simpa using hi
     show c[i]? = _;rw[Array.getElem?_append_left hi2];simp[hb])
  ⟨by rw[bM];intro h;have h9:=congrArg List.length h;rw[List.length_map,hl,List.length_nil] at h9;omega,fun x hx=>by rw[bM] at hx;obtain⟨y,_,rfl⟩:=List.mem_map.1 hx;exact⟨y,rfl⟩⟩ (by rw[hcs];exact Nat.le_refl _)
 exact br.of hrun g.up ⟨by simp,.inr ⟨_,cap,_,hn,rfl,hge,by rw[hcs];simp,.inr rfl⟩⟩
theorem Mg(R:St base η Z S w){t:TypeId}(hs:gE P t=some 1){m i:Nat}{l:List Int}{o:Ob}(ho:S.get m=some o)(hfs:o.fs=[.b l])(hm:¬o.gj){u:Value}(hx:au η Z (.ptr m i) u)(hi:i<l.length){y:Int} :
 br P base η Z S w (do Instr.storeAt t u (.int .u8 y);pure Next.skip) (.bF []) (S.put m ⟨o.ty,[.b (l.set i y)]⟩):=by
 obtain⟨p,hp,rfl⟩:=hx;obtain⟨_,_,L⟩:=R.aj m o p ho hp;have bM:o.cells=l.map W.lZ:=by unfold Ob.cells;rw[hfs];simp[Fd.cells]
 have VG:(Ob.mk o.ty [.b (l.set i y)]).cells=(l.set i y).map W.lZ:=by unfold Ob.cells;simp[Fd.cells]
 have hsize:=L.size hm;rw[bM,List.length_map] at hsize;obtain⟨c,fz,hc,hsz,hv,p6⟩:=L.there hm;have hnb:¬o.bytes:=fun hB=>by
  obtain⟨n,e⟩:=hB (.lZ l[i]) (by rw[bM];exact List.mem_map.2 ⟨_,List.getElem_mem hi,rfl⟩);cases e
 have Q7:∀ l':List Int,l'.length=l.length->(Ob.mk o.ty [.b l']).wb:=fun l' hl'=>by
  have e:(Ob.mk o.ty [.b l']).cells=l'.map W.lZ:=by unfold Ob.cells;simp[Fd.cells]
  refine⟨by rw[e];intro h;have:=congrArg List.length h;simp at this;rw[this] at hl';simp at hl';omega,fun x hx=>?_⟩;rw[e] at hx;obtain⟨y,_,rfl⟩:=List.mem_map.1 hx;exact⟨y,rfl⟩
 have hfz:=p6.strong hnb
 have hst:=run_storeCells_cells (P:=P) p.block (p.off+i) [Value.int .u8 y] 0 w
  (fun q hq=>by
   have JF:q=0:=by simpa using hq
   subst JF;have:p.off+i+0<c.size:=by omega
   simp[World.cell?,hc];simpa using this)
  (fun q hq=>by
   have JF:q=0:=by simpa using hq
   subst JF;have:=hfz (p.off+i+0) (by omega) (by omega);simp only[World.frozen?,hc];simpa using this) (by intro x hx;rw[List.mem_singleton] at hx;subst hx;rfl)
 simp only[Nat.add_zero] at hst;obtain⟨c',g1,g2,g3,g4⟩:=ah.ku [Value.int .u8 y] (p.off+i) w c hc;have r5:=ah.iG (base:=0) (bk:=p.block) (Nat.zero_le _) [Value.int .u8 y] (p.off+i) w;have hm':¬(Ob.mk o.ty [.b (l.set i y)]).gj:=Ob.qo fun x hx=>by rw[VG,List.mem_map] at hx;obtain⟨y,_,rfl⟩:=hx;exact id
 have g:=R.write (w':=w.setCells p.block (p.off+i) [Value.int .u8 y]) ho hp (o':=⟨o.ty,[.b (l.set i y)]⟩) r5.os r5.tape r5.output (ah.kx _ _ _) (fun b hb=>ah.gA hb _ _ _)
  (fk.DN hm' ⟨c',fz,g1,by rw[g2];exact hsz,fun j x hx=>by
   rw[VG,List.getElem?_map,List.getElem?_set] at hx;by_cases hj:i=j;subst hj;rw[if_pos rfl,if_pos hi] at hx;cases hx;have:=g4 0 (by simp) (by omega);exact⟨.int .u8 y,by simpa using this,rfl,rfl⟩;rw[if_neg hj] at hx;obtain⟨v,a,b,d⟩:=hv j x (by rw[bM,List.getElem?_map];exact hx);exact⟨v,(g3 (p.off+j) (by simp;omega)).trans a,b,d⟩,by
   rw[g2];rcases p6 with h|h|h;exact .inl h;exact absurd h.1 hnb;exact .inr (.inr ⟨Q7 _ (by simp),h.2⟩)⟩ (by rw[VG,List.length_map,List.length_set];exact hsize))
 refine br.MH ?_ g.up;simp[Instr.storeAt,Instr.sureAddr,storeVar,dI hs,Value.cells,hst]
theorem RQ(R : St base η Z S w)(FR : aW n η Z F a.tmps){o : Oper}{l : L}(ht : JA P o = some l){c : Cd}{v : A}{S' : af}(e : jB F S l = some (c, v, S'))(hc : c) : br P base η Z S w (execOp a.eval o) v S' := by
 unfold JA at ht;unfold execOp;split at ht<;>rename_i hop<;>simp only[hop]
 -- maps
 rename_i t;split at ht;rename_i kd vd hd;cases ht;simp only[jB] at e;cases e;exact Pr R kd vd;split at ht;cases ht;simp only[jB] at e;cases e;exact Mf R;cases ht;rename_i t m' k' v';split at ht;rename_i kd vd m k v' hd hm hk hv;cases ht;simp only[jB] at e;split at e;rename_i p n q x r y hme hke kZ;split at e;rename_i kk c2 z S1 mQ hfz;split at e;rename_i o1 jW;split at e;rename_i l hl;cases e;obtain⟨hp,hq,hr,hc2⟩:=hc;have hy:=(aE FR hv kZ hr).2;obtain⟨Z1,mv,hrz,hS⟩:=oy R hfz hc2 hy;have hkr:cA Z1 kd kk (a.eval k'):=cA.mono mv.step.cI _ (mz mQ (aE FR hk hke hq).2);exact br.before mv (Gu mv.st hd jW hl ((aE FR hm hme hp).2.mono (Eta.le.refl _) mv.step.cI) hkr hrz);cases e;cases e;cases e;cases e;rename_i m k v _ hm hk hv;split at ht;rename_i kd hd;cases ht;simp only[jB] at e;split at e;rename_i p n q x r y hme hke kZ;split at e;rename_i kk o1 mQ jW;split at e;rename_i l hl;split at e;rename_i hno;obtain⟨_,e⟩:=ah.aA e;cases e;obtain⟨hp,hq,hr⟩:=hc;have hy:=aE FR hv kZ hr;exact D1 R hd jW hl (aE FR hm hme hp).2 (mz mQ (aE FR hk hke hq).2) ⟨hy.1,hy.2⟩ hno;cases e;cases e;cases e;cases e;cases ht;cases ht;rename_i t m' k' v';split at ht;rename_i kd vd m k v' hd hm hk hv;cases ht;simp only[jB] at e;split at e;rename_i p n q x r y hme hke kZ;split at e;rename_i kk c2 z S1 mQ hfz;split at e;rename_i o1 jW;split at e;rename_i l hl;cases e;obtain⟨hp,hq,hr,hc2⟩:=hc;have hy:=(aE FR hv kZ hr).2;obtain⟨Z1,mv,hrz,hS⟩:=oy R hfz hc2 hy;have hkr:cA Z1 kd kk (a.eval k'):=cA.mono mv.step.cI _ (mz mQ (aE FR hk hke hq).2);exact br.before mv (Gu mv.st hd jW hl ((aE FR hm hme hp).2.mono (Eta.le.refl _) mv.step.cI) hkr hrz);cases e;cases e;cases e;cases e;rename_i m k v _ hm hk hv;split at ht;rename_i kd hd;cases ht;simp only[jB] at e;split at e;rename_i p n q x r y hme hke kZ;split at e;rename_i kk o1 mQ jW;split at e;rename_i l hl;split at e;rename_i hno;obtain⟨_,e⟩:=ah.aA e;cases e;obtain⟨hp,hq,hr⟩:=hc;have hy:=aE FR hv kZ hr;exact D1 R hd jW hl (aE FR hm hme hp).2 (mz mQ (aE FR hk hke hq).2) ⟨hy.1,hy.2⟩ hno;cases e;cases e;cases e;cases e;cases ht;cases ht;rename_i t m' k' ok;split at ht;rename_i kd vd m k hd hm hk;cases ht;simp only[jB] at e;split at e;rename_i p n q x hme hke;split at e;rename_i kk o1 mQ jW;split at e;rename_i l hl;have g:=fun(hc:Cd.and p q)=>RJ (P:=P) R hd jW hl (aE FR hm hme hc.1).2 (mz mQ (aE FR hk hke hc.2).2) ok;cases ok<;>simp only[cond_true,cond_false] at e g<;>cases e<;>exact g hc;cases e;cases e;cases e
 . rename_i m k _ hm hk;cases ok with
   | true=>cases ht
   | false =>
   simp only[cond_false] at ht;split at ht;rename_i kd hd;cases ht;simp only[jB] at e;split at e;rename_i p n q x hme hke;split at e;rename_i kk o1 mQ jW;split at e;rename_i l hl;split at e;rename_i v hv;cases e;exact Pt R hd jW hl (aE FR hm hme hc.1).2 (mz mQ (aE FR hk hke hc.2).2) hv;cases e;cases e;cases e;cases e;cases ht
 cases ht
 -- nil
 split at ht;split at ht;cases ht;simp only[jB] at e;cases e;exact⟨.value (.slice none 0 0),_,w,η,Z,rfl,.inl rfl,R.mP (by rw[fU];rfl),by simp,.inl ⟨rfl,rfl⟩⟩;cases ht;cases ht;split at ht;split at ht;cases ht;simp only[jB] at e;cases e;exact⟨.value (.slice none 0 0),_,w,η,Z,rfl,.inl rfl,R.mP (by rw[fU];rfl),by simp,.inl ⟨rfl,rfl⟩⟩;cases ht;cases ht
 -- alloc
 split at ht;rename_i el hel;cases ht;simp only[jB] at e;cases e;exact Me R hel;split at ht;rename_i fs i hfs hi;split at ht;rename_i z hz;obtain⟨hzs,ht⟩:=dm ht;cases ht;simp only[jB] at e;cases e;obtain⟨h1,h2⟩:=A7 (η:=η) (Z:=Z) hzs;exact(Pa R hi hz h1 h2).alike (af.jh rfl (by simp[Ob.cells,Ob.of,vH]));cases ht;cases ht
 -- bytes as a text
 rename_i x y pt it;split at ht;rename_i el x' y' hpt hx hy;obtain⟨hc1,ht⟩:=dm ht;cases ht;simp only[jB] at e;split at e;rename_i p m off i q kk k hxe p5;split at e;rename_i o1 jW;obtain⟨hb,e1⟩:=ah.aA e;clear e;simp only[Bool.and_eq_true] at hb;have hoff:=Nat.eq_of_beq_eq_true hb.1;have hty:=Nat.eq_of_beq_eq_true hb.2;subst hoff;split at e1;rename_i l hl;cases e1;obtain⟨hp,hq,hb3⟩:=hc;obtain⟨h0,hk,h63⟩:=(show 0<k/\i+k<=l.length/\k<=9223372036854775807 from hb3);obtain⟨k',rfl⟩:∃ k':Nat,k=k':=⟨k.toNat,by omega⟩;have h1:=(aE FR hx hxe hp).2;have h2:=cE FR hy p5 hq;have hk':i+k'<=List.length (α:=Int) l:=Int.ofNat_le.1 hk;have g:=RO (P:=P) (base:=base) (pt:=pt) (it:=it) (ty:=o.type) (kk:=kk) (k:=k') R hpt hc1 jW hty hl h1 (by omega) hk' (by omega);rw[Int.toNat_natCast];exact br.run (by simp[resolve,invoke,builtin,h2]) g;cases e1;cases e;cases e;cases ht
 -- box
 · split at ht
   rename_i x hx;split at ht;rename_i el hel;cases ht;simp only[jB] at e;split at e;rename_i p v hv;obtain⟨hb,e1⟩:=ah.aA e;clear e;cases e1;exact RN R (dZ FR hx hv hc) (ZU hb);cases e;cases ht;simp only[jB] at e;split at e;rename_i p v hv;cases e;exact(Vt R (dZ FR hx hv hc)).alike (af.jh rfl (by simp[Ob.cells,Ob.of,vH,Jw]));cases e;cases ht
 -- store
 · split at ht
   · rename_i k x' v' hk hx hv
     split at ht;rename_i hk0;subst hk0;cases ht;simp only[jB] at e;split at e;rename_i p m off q hxe kZ;cases e;obtain⟨_,pl,_,hpv⟩:=aE FR hx hxe hc.1;obtain⟨ws,hvv,_,hwl⟩:=dZ FR hv kZ hc.2;have hw0:ws=[]:=by cases ws with|nil=>rfl|cons _ _=>exact hwl.elim
     subst hw0;refine br.MH ?_ (bJ.refl R);rw[hpv,hvv];simp[Instr.storeAt,Instr.sureAddr,storeVar,dI hk,Value.cells,storeCells];cases e;rename_i hk0;cases ht;simp only[jB] at e;split at e;rename_i p m off q v hxe kZ;obtain⟨hl,e⟩:=ah.aA e;have hl:=Nat.eq_of_beq_eq_true hl;split at e;rename_i o ho;obtain⟨ho,hmo⟩:=jO ho;obtain⟨hnf,e⟩:=ah.aA e;split at e;rename_i c' fs' hput;cases e;obtain⟨hp,hq,hc'⟩:=hc;obtain⟨h1,h2⟩:=Cc hput hc';have hle:=h2 (by rintro h0;rw[h0] at hl;simp at hl;omega);have hnb:¬o.bytes:=nbF_ok hnf fun h0=>by
      have hle:off+v.cells.length<=o.cells.length:=hle;rw[h0] at hle;have hle:off+v.cells.length<=0:=hle;omega
     refine(sC R hk ho hmo hnb (nbF_wb hnf) (aE FR hx hxe hp).2 (dZ FR hv kZ hq) hl ?_).alike (af.oJ rfl ?_);rw[<-hl];exact h2 (by rintro h0;rw[h0] at hl;simp at hl;omega);rw[Ob.d9];exact h1;cases e;cases e;rename_i p m i j q y hxe kZ;obtain⟨hl,e⟩:=ah.aA e;have hl:=nA hl;subst hl;split at e;rename_i k' av hto;obtain⟨o1,jW,_,zE⟩:=nu hto;split at e;rename_i o2 Cb;rw[jW] at Cb;cases Cb;cases e;obtain⟨hp,hq,hi,hj⟩:=hc;have hy:=(dZ FR hv kZ hq).2;simp only[au,aH] at hy;rw[hy];exact H8 R hk jW zE (aE FR hx hxe hp).2 hi hj;cases e;cases e;rename_i p m off i q y hxe kZ;obtain⟨hl,e9⟩:=ah.aA e;clear e;have e:=e9;clear e9;have hl:=nA hl;subst hl;split at e;rename_i c1 S1 MP;cases e;obtain⟨hp,hq,hc1⟩:=hc;obtain⟨mQ,hpu1⟩:=ah.aA MP;clear MP;have mQ:=Nat.eq_of_beq_eq_true mQ;subst mQ;have hy:=dZ FR hv kZ hq;have hx1:au η Z (.ptr m (0+i)) _:=(aE FR hx hxe hp).2;rw[Nat.zero_add] at hx1;exact RI R hk hpu1 hc1 hx1 hy;split at e;rename_i o ho;obtain⟨ho,hmo⟩:=jO ho;split at e;rename_i l hl;split at e;rename_i z;obtain⟨sX,e⟩:=ah.aA e;have sX:=Nat.eq_of_beq_eq_true sX;subst sX;cases e;obtain⟨hp,hq,hi⟩:=hc;have hx1:au η Z (.ptr m (0+i)) _:=(aE FR hx hxe hp).2;rw[Nat.zero_add] at hx1;have hy:=(dZ FR hv kZ hq).2;simp only[au,aH] at hy;rw[hy];exact Mg R hk ho (E7 hl) hmo hx1 hi;cases e;split at e
     . rename_i c' k d l hg;cases sY:d.pz with
       | true=>rw[sY] at e;cases e
       | false =>
       rw[sY] at e;simp only[cond_false] at e;split at e;rename_i c2 z S1 hfz;split at e;rename_i o1 fs' jW hput;cases e;obtain⟨hp,hq,hc',hc2,hi0⟩:=hc;have hi:i<l.length:=hi0;have hy:=dZ FR hv kZ hq;obtain⟨Z1,mv,hr,hS⟩:=oy R hfz hc2 hy.2;have Vw:S1.get m=some o:=by
        rcases hS m with h|h;rw[h] at jW;cases jW;rw[h];exact ho
       obtain⟨pre,post,g1,g2,g3⟩:=Md hg hc' hput;have bM:o.cells.length=pre.length+l.length+post.length:=by unfold Ob.cells;rw[g1];simp;omega
       have hnb:¬o.bytes:=fun hB=>by
        obtain⟨n,e⟩:=hB (d.w l[i]) (by unfold Ob.cells;rw[g1];exact List.mem_append_left _ (List.mem_append_right _ (List.mem_map.2 ⟨_,List.getElem_mem hi,rfl⟩)));exact D.DX sY _ _ e
       have hnw:¬o.wb:=Ob.sR (x:=d.w l[i]) (by unfold Ob.cells;rw[g1];exact List.mem_append_left _ (List.mem_append_right _ (List.mem_map.2 ⟨_,List.getElem_mem hi,rfl⟩))) (fun n e=>D.w_by d _ e);refine br.before mv ((sC mv.st hk Vw hmo hnb hnw (v:=.c (d.w z)) ((aE FR hx hxe hp).2.mono (Eta.le.refl _) mv.step.cI:au η Z1 (.ptr m (off+i)) _) ⟨D.jg _ _,(D.fe d).2 hr⟩ rfl (by omega)).alike (af.oJ rfl ?_));rw[Ob.d9];show fs'.flatMap Fd.cells=(o.cells).set (off+i) (d.w z);unfold Ob.cells;rw[g1,g2,List.map_set,List.append_assoc,List.append_assoc,List.set_append_right _ _ (by omega),List.set_append_left _ _ (by simp;omega)];congr 3;omega;cases e;cases e
     cases e;cases e;cases e
   cases ht
 -- makeInterface
 rename_i t x;split at ht;cases ht;rename_i d x' hu hd hx;cases ht;simp only[jB] at e;split at e;rename_i c' v' kZ;split at e;rename_i u hu';cases e;have:=V.uf hu' (dZ FR hx kZ hc);rw[this];exact VD R hd fun ms h=>hu ms (by rw[<-h]);cases e;cases e;cases ht
 -- typeAssert
 rename_i x xt t;split at ht;cases ht;rename_i d i x' hu hd hi hx;split at ht;rename_i z hz;split at ht;rename_i zv hzv;cases ht;have B0:(zeroValue t).run P w=.ok z w:=by simp[zeroValue,typeInfo,hi,hz]
 obtain⟨r1,r2,r3⟩:=ah.OZ (P:=P) (w:=w) hd (fun ms h=>hu ms (by rw[<-h])) xt true;have Yh:cV η Z zv z:=A3 hzv;have bF:∀{y:V}{u:Value}{b:Bool},cV η Z y u->cw η Z (.bF [y,.c (.bool b)]) (.tuple #[u,.bool b]):=fun h=>⟨[_,_],rfl,h,⟨by simp,by simp only[au,aH]⟩,trivial⟩;simp only[jB] at e;split at e;rename_i c' hxe;cases e;have Cj:a.eval x=.nilIface:=by have:=(aE FR hx hxe hc).2;simpa only[au,aH] using this
 rw[Cj];exact br.of (r3 z B0) (bJ.refl R) (bF Yh)
 . rename_i c' t' v' hxe;have Cj:∀ hc:c',a.eval x=.iface t' v':=fun hc=>by have:=(aE FR hx hxe hc).2;simp only[au,aH] at this;exact this.1
   cases hb:Nat.beq t' t with
   | true =>
     have ht':=Nat.eq_of_beq_eq_true hb;subst ht';simp only[hb,cond_true] at e;split at e;rename_i y hy;cases e;rw[Cj hc];exact br.of (r1 v') (bJ.refl R) (bF (A3 hy));cases e
   | false =>
     simp only[hb,cond_false] at e;cases e;rw[Cj hc];exact br.of (r2 t' v' z (fun h=>by subst h;rw[Nat.beq_refl] at hb;cases hb) B0) (bJ.refl R) (bF Yh)
 cases e;cases ht;cases ht;cases ht
 -- makeSlice
 · split at ht
   rename_i el l' c' hu hl hc';split at ht;rename_i i d hi hd;split at ht;rename_i z hz;obtain⟨⟨h1,h2,h3⟩,ht⟩:=dm ht;cases ht;simp only[jB] at e;split at e
   . rename_i p kl l q kc c hle hce;cases hd0:d.isSl<;>rw[hd0] at e<;>simp only[cond_true,cond_false] at e<;>cases e
     all_goals
      obtain⟨hp,hq,h4,h5,h6⟩:=hc;rw[cE FR hl hle hp,cE FR hc' hce hq];have h7:c<=140737488355328:=by
       have:(1:Int)*c<=(i.bytes:Int)*c:=Int.mul_le_mul_of_nonneg_right (by omega) (by omega);omega
      exact(Rl R hu hi h1 hz h3 h4 h5 h6 h7).alike (af.jh rfl (by rw[Ob.d9,fU];simp))
   cases e;cases ht;cases ht;cases ht
 -- buildSlice
 · rename_i t len parts
   split at ht
   · rename_i el hu
     split at ht
     · rename_i k ps z hk hps hz
       obtain⟨⟨h1,h2,h3,h4⟩,ht⟩:=dm ht;cases ht;subst h2;simp only[jB] at e;split at e;rename_i p vs hvs;obtain⟨hal,e⟩:=ah.aA e;split at e;rename_i ys hys;cases e;obtain⟨us,g1,g2,g3⟩:=zq FR hps hvs hc;exact RH R hu hk hz h3 h4 g1 g2 g3 (zB hal) hys;split at e
       . rename_i c' fs S1 hlit;cases e;obtain⟨us,g1,g2,g3⟩:=zq FR hps hvs hc.1;have plain:∀ S1 fs,S1=S->fs=(vs.flatMap V.cells).map Fd.c->br P base η Z S w (do pure (Next.value (<-Instr.buildSlice t ps.length (parts.map fun(x:Nat×Operand)=>(x.1,a.eval x.2))))) (.p (.c (.sl S1.next 0 ps.length k))) (S1.add ⟨el,fs⟩):=by
          rintro S1 fs rfl rfl;exact CY R hu hk hz h3 h4 g1 g2 g3 (zB hal)
         unfold litV at hlit;split at hlit;rename_i fs1 hone;cases hlit;exact(plain _ _ rfl rfl).alike (af.jh rfl (by
          show fs.flatMap Fd.cells=((vs.flatMap V.cells).map Fd.c).flatMap Fd.cells;rw[vH];exact Jz hone))
         split at hlit;rename_i d hd;split at hlit;rename_i c2 ys S2 hfz;cases hlit;have hk1:k=1:=by
          split at hd;assumption;cases hd
         subst hk1;obtain⟨Z1,mv,hr⟩:=Gs R hfz hc.2 g1;refine br.before mv ((CY mv.st hu hk hz h3 h4 hr g2 g3 ?_).alike (af.jh rfl ?_));intro v hv;obtain⟨y,_,rfl⟩:=List.mem_map.1 hv;rfl;rw[Ob.d9,flat_w,fU];cases hlit;exact plain _ _ rfl rfl;cases hlit;exact plain _ _ rfl rfl
       cases e;cases e
     cases ht
   cases ht
 -- append
 . rename_i x y t ts;split at ht
   · rename_i el x' y' hu hx hy
     split at ht
     · rename_i i z d hi hz hd
       have main : ∀ td, P.underlying ts = some td → (∀ k, td ≠ .int k) → (i.size = 1 ∧ z.length = 1 ∧ 1 ≤ i.bytes) → l = .append el i.bytes d x' y' → br P base η Z S w (do pure (Next.value (← Builtin.append_ #[t, ts] o.type #[a.eval x, a.eval y]))) v S' := by
        rintro td htd hnt ⟨hs,hzl,hby⟩ rfl;have second : ∀{Z : ar}{S : af}(_ : St base η Z S w)(_ : aW n η Z F a.tmps){yw : W}{c : Cd}{v : A}{S' : af}, Pn F S el i.bytes d x' yw = some (c, v, S') → c → au η Z yw (a.eval y) → br P base η Z S w (do pure (Next.value (← Builtin.append_ #[t, ts] o.type #[a.eval x, a.eval y]))) v S' := by
         intro Z S R FR yw c v S' e hc B6;unfold Pn at e;split at e
         · rename_i q ys hsrc
           split at e;rename_i r hxw;cases e;obtain⟨hq,hr,hb0⟩:=hc;have hb:ys.length*i.bytes<=140737488355328:=hb0;have s1:=xA (P:=P) R hsrc hq B6;rw[(aE FR hx hxw hr).2.nil_eq];have bO:ys.length<=ys.length*i.bytes:=Nat.le_mul_of_pos_right _ hby;have g:=o8 (base:=base) (S:=S) (ty:=o.type) R hu htd hnt hi hz (by omega) (by omega) (by rw[hs];exact s1) (by rw[hs,Nat.div_one];simpa using hb) (by rw[hs,Nat.div_one];simp;omega);rw[hs,Nat.div_one,List.length_map] at g;exact g.alike (af.jh rfl (by rw[Ob.d9,fU]));rename_i r m off len sz hxw;obtain⟨hs0,e1⟩:=ah.aA e;have hs1:=nA hs0;subst hs1;clear e;split at e1;rename_i o' ho';obtain⟨JG,e2⟩:=ah.aA e1;have hty:=Nat.eq_of_beq_eq_true JG;clear e1;split at e2;rename_i l' hl';cases e2;obtain⟨hq,hr,hcc⟩:=hc;have s1:=xA (P:=P) R hsrc hq B6;have bM:o'.cells=l'.map d.w:=Fd.gP hl';have hcc2:(off+len<=l'.length/\(len+ys.length)*i.bytes<=140737488355328)/\(¬o'.bytes∨o'.cells=[]∨(off=0/\len*1=o'.cells.length/\∀ x∈ys.map d.w,∃ n,x=W.int .u8 n)):=by
            cases sY:d.pz with
            | false =>
              rw[sY] at hcc;have hcc:off+len<=l'.length/\(len+ys.length)*i.bytes<=140737488355328:=hcc;exact⟨hcc,(vR bM sY).imp id .inl⟩
            | true =>
              rw[sY] at hcc;have hcc:off=0/\len=l'.length/\(len+ys.length)*i.bytes<=140737488355328:=hcc;refine⟨⟨by omega,hcc.2.2⟩,.inr (.inr ⟨hcc.1,by rw[bM,List.length_map];omega,fun x hx=>?_⟩)⟩;obtain⟨y,_,rfl⟩:=List.mem_map.1 hx;exact D.w_u8 sY y
           obtain⟨⟨mQ,hb⟩,hap⟩:=hcc2;have bO:len+ys.length<=(len+ys.length)*i.bytes:=Nat.le_mul_of_pos_right _ hby;have g:=uc (base:=base) (S:=S) (ty:=o.type) R hu htd hnt hi hz (by omega) (by omega) (by rw[hs];exact s1) (by rw[hs];exact(aE FR hx hxw hr).2) ho' (Ob.gG bM) (Ob.ql bM) hty (by rw[hs,bM];simp;exact mQ) (by rw[hs];exact hap) (by rw[hs,Nat.div_one];simpa using hb) (by rw[hs,Nat.div_one];simp;omega);rw[hs,Nat.div_one,List.length_map] at g;exact g.alike (af.jh rfl (by rw[Ob.d9,fU,bM];simp[List.map_drop,List.map_take]));cases e2;cases e1;cases e
         cases e
        simp only[jB] at e;split at e;rename_i p yw D2;split at e;rename_i m k l0 n0 hrow;obtain⟨q,oq,om,ro,lw,rfl,hq,hqm,BW,RF,hcm,hlw,hn0⟩:=Pm hrow;subst hn0;split at e;rename_i r hxw;cases e;obtain⟨hp,hr,hl0,hk0,hb0⟩:=hc;have s0:=vQ (P:=P) R (sz:=1) (aE FR hy D2 hp).2 hq hqm (by rw[BW];simp);rw[BW] at s0;rw[(aE FR hx hxw hr).2.nil_eq];exact Fa (ty:=o.type) R hu htd hnt hi hz (by omega) hs s0 RF hcm hlw hl0 hk0 hb0;rename_i r n' off len sz hxw;split at e;rename_i k' av hto;obtain⟨o1,jW,_,zE⟩:=nu hto;obtain⟨hb1,e1⟩:=ah.aA e;clear e;simp only[Bool.and_eq_true,Bool.not_eq_true'] at hb1;have hs1:=nA hb1.1;subst hs1;split at e1;rename_i o2 Cb;rw[jW] at Cb;cases Cb;obtain⟨JG,e⟩:=ah.aA e1;clear e1;have hty:=Nat.eq_of_beq_eq_true JG;cases e;obtain⟨hp,hr,mQ,hln,hkk,hl0,hk0,hb0⟩:=hc;subst mQ;subst hln;subst hkk;have s0:=vQ (P:=P) R (sz:=1) (aE FR hy D2 hp).2 hq hqm (by rw[BW];simp);rw[BW] at s0;have bO:av.length+1<=(av.length+1)*i.bytes:=Nat.le_mul_of_pos_right _ hby;exact DV (ty:=o.type) R hu htd hnt hi hz (by omega) hs s0 RF hcm hlw hl0 hk0 (aE FR hx hxw hr).2 jW zE hty (fun e=>by subst e;exact Bool.noConfusion ((Nat.beq_refl _).symm.trans hb1.2)) hb0 (by omega);cases e1
        · split at e
          rename_i c2 v2 S2 happ;cases e;have B6:=(aE FR hy D2 hc.1).2;have hc2:=hc.2;unfold appR at happ;simp only at happ;split at happ;rename_i c3 S3 hsh;split at happ;rename_i c4 v4 S4 happ2;cases happ;obtain⟨Z1,mv,_⟩:=Fb R hsh hc2.1;exact br.before mv (second mv.st (FR.mono (Eta.le.refl _) mv.step.cI) happ2 hc2.2 (au.mono (Eta.le.refl _) mv.step.cI B6));cases happ;cases happ;cases e
        cases e;split at e;rename_i c2 v2 S2 happ;cases e;exact second R FR happ hc.2 (aE FR hy D2 hc.1).2;cases e;cases e
       split at ht;rename_i htd;obtain⟨h1,ht⟩:=dm ht;exact br.run (by simp[resolve,invoke,builtin]) (main _ htd (by simp) h1 (Option.some.inj ht).symm);rename_i htd;obtain⟨h1,ht⟩:=dm ht;exact br.run (by simp[resolve,invoke,builtin]) (main _ htd (by simp) h1 (Option.some.inj ht).symm);rename_i kn htd;split at ht;rename_i zv hzv;obtain⟨⟨h1,h2,h3⟩,ht⟩:=dm ht;cases ht;clear main;simp only[jB] at e;split at e;rename_i p q k n hxe p5;cases e;obtain⟨hp,hq,h4,h5⟩:=hc;have g:=(Pc (ty:=o.type) (k:=k) R hu htd hi h1 hzv h3 h4 h2 h5).alike (vN:=S.add ⟨el,[.a 0 d (List.replicate n.toNat d.zero)]⟩) (af.jh rfl (by rw[Ob.d9,fU];simp));rw[<-cE FR hy p5 hq,<-(aE FR hx hxe hp).2.nil_eq] at g;exact br.run (by simp[resolve,invoke,builtin]) g;cases e;cases ht;cases ht
     · rename_i i z hi hz hd
       split at ht
       rotate_left
       rename_i kn htd;split at ht;rename_i zv hzv;obtain⟨⟨h1,h2,h3,h4⟩,ht⟩:=dm ht;cases ht;simp only[jB] at e;split at e;rename_i p q k n hxe p5;cases e;obtain⟨hp,hq,h5,h6⟩:=hc;obtain⟨g1,g2⟩:=A7 (η:=η) (Z:=Z) h4;have g:=(Mb (ty:=o.type) (k:=k) R hu htd hi h1 hzv h3 g1 g2 h5 h2 h6).alike (vN:=S.add ⟨el,[.a 0 .pv (qR (shapes P el) i.size (n.toNat*i.size))]⟩) (af.jh rfl (by rw[Ob.d9,fU];rfl));rw[<-cE FR hy p5 hq,<-(aE FR hx hxe hp).2.nil_eq] at g;exact br.run (by simp[resolve,invoke,builtin]) g;cases e;cases ht;cases ht
       · rename_i htd
         obtain⟨⟨h1,h2,h3⟩,ht⟩:=dm ht;cases ht;have key : br P base η Z S w (do pure (Next.value (← Builtin.append_ #[t, ts] o.type #[a.eval x, a.eval y]))) v S' := by
          simp only[jB] at e;split at e;rename_i p yw D2;split at e;rename_i q ys k hsrc;split at e;rename_i r hxw;cases e;obtain⟨hp,hq,hr,hb0⟩:=hc;have hb:k*i.bytes<=140737488355328:=hb0;obtain⟨s1,hk⟩:=JB (P:=P) R h1 hsrc hq (aE FR hy D2 hp).2;have hdiv:(ys.map PV.w).length/i.size=k:=by rw[List.length_map,hk];exact Nat.mul_div_cancel _ (by omega)
          rw[(aE FR hx hxw hr).2.nil_eq];have bO:k<=k*i.bytes:=Nat.le_mul_of_pos_right _ h3;have g:=o8 (base:=base) (S:=S) (ty:=o.type) R hu htd (by simp) hi hz h2 h1 s1 (by rw[hdiv];exact hb) (by rw[hdiv];omega);rw[hdiv] at g;exact g.alike (af.jh rfl (by rw[Ob.d9,fU];rfl));rename_i r m off len sz hxw;obtain⟨hs0,e1⟩:=ah.aA e;have hs1:=Nat.eq_of_beq_eq_true hs0;subst hs1;clear e;split at e1;rename_i o' ho';obtain⟨JG,e2⟩:=ah.aA e1;have hty:=Nat.eq_of_beq_eq_true JG;clear e1;split at e2;rename_i l' hl';cases e2;obtain⟨hp,hq,hr,hcc⟩:=hc;have hcc:off+len*i.size<=List.length (α:=PV) l'/\(len+k)*i.bytes<=140737488355328:=hcc;obtain⟨s1,hk⟩:=JB (P:=P) R h1 hsrc hq (aE FR hy D2 hp).2;have hdiv:(ys.map PV.w).length/i.size=k:=by rw[List.length_map,hk];exact Nat.mul_div_cancel _ (by omega)
          have bM:o'.cells=l'.map (D.w .pv):=Fd.gP hl';have bO:len+k<=(len+k)*i.bytes:=Nat.le_mul_of_pos_right _ h3;have g:=uc (base:=base) (S:=S) (ty:=o.type) R hu htd (by simp) hi hz h2 h1 s1 (aE FR hx hxw hr).2 ho' (Ob.gG bM) (Ob.ql bM) hty (by rw[bM,List.length_map];exact hcc.1) ((vR bM rfl).imp id .inl) (by rw[hdiv];exact hcc.2) (by rw[hdiv];omega);rw[hdiv] at g;exact g.alike (af.jh rfl (by rw[Ob.d9,fU,bM,<-List.map_drop,<-List.map_take,List.map_append];rfl));cases e2;cases e1;cases e;cases e;cases e
         exact br.run (by simp[resolve,invoke,builtin]) key
     cases ht
   cases ht
 -- copy
 rename_i x y t ts;split at ht
 · rename_i el x' y' hu hx hy
   split at ht;rename_i k d hk hd;obtain⟨hk1,ht⟩:=dm ht;subst hk1;cases ht;simp only[jB] at e;split at e;rename_i p yw D2;split at e;rename_i q ys hsrc;split at e;rename_i r m off len sz hxw;obtain⟨C4,e1⟩:=ah.aA e;simp only[Bool.and_eq_true,Bool.not_eq_true'] at C4;have hs1:=nA C4.1;subst hs1;clear e;split at e1;rename_i o' ho';split at e1;rename_i l' hl';cases e1;obtain⟨hp,hq,hr,VH⟩:=hc;have mQ:off+len<=l'.length:=VH;have s1:=xA (P:=P) R hsrc hq (aE FR hy D2 hp).2;have bM:o'.cells=l'.map d.w:=Fd.gP hl';have g:=Ru (base:=base) (S:=S) (ty:=o.type) (ts:=#[t,ts]) R rfl hu hk s1 (by omega) (aE FR hx hxw hr).2 ho' (Ob.gG bM) (vR bM C4.2) (Ob.ql bM) (by rw[bM];simp;exact mQ);rw[Nat.div_one,List.length_map,Nat.mul_one] at g;refine br.run (by simp[resolve,invoke,builtin]) (g.alike (af.oJ rfl ?_));rw[Ob.d9,fU,bM,<-List.map_take];exact Gt (by simp;omega);cases e1;cases e1;cases e;cases e;cases e;cases ht
 cases ht
 -- clear
 rename_i x t;split at ht;rename_i el x' hu hx;split at ht;rename_i i d hi hd;split at ht;rename_i z hz;obtain⟨hzz,ht⟩:=dm ht;cases ht;simp only[jB] at e;split at e;rename_i p m off len sz hxw;obtain⟨C4,e1⟩:=ah.aA e;simp only[Bool.and_eq_true,Bool.not_eq_true'] at C4;have hs1:=nA C4.1;subst hs1;clear e;split at e1;rename_i o' ho';split at e1;rename_i l' hl';cases e1;obtain⟨hp,VH⟩:=hc;have mQ:off+len<=l'.length:=VH;have bM:o'.cells=l'.map d.w:=Fd.gP hl';have g:=Ph (base:=base) (S:=S) (ty:=o.type) (ts:=#[t]) R rfl hu hi hz hzz (aE FR hx hxw hp).2 ho' (Ob.gG bM) (vR bM C4.2) (Ob.ql bM) (by rw[bM];simp;exact mQ);refine br.run (by simp[resolve,invoke,builtin]) (g.alike (af.oJ rfl ?_));rw[Ob.d9,fU,bM];have:=Gt (d:=d) (l:=l') (ys:=List.replicate len d.zero) (off:=off) (by simp;omega);rw[this,List.map_replicate];cases e1;cases e1;cases e;cases ht;cases ht;cases ht
 -- convert
 rename_i s d x;split at ht;rename_i el x' hs hd hx;split at ht;rename_i he;cases ht;simp only[jB] at e;split at e
 . rename_i c' sv Yi;cases hn:Nat.blt S.next 2 with
   | true =>
     rw[hn] at e;cases e;rw[mq FR hx Yi hc];exact VE R hs hd he sv
   | false =>
     rw[hn] at e;cases e;rw[mq FR hx Yi hc.1];exact VF R hs hd he sv hc.2
 cases e;cases ht;rename_i el x' hs hd hx;split at ht;rename_i he;cases ht;simp only[jB] at e;split at e;rename_i p y p5;split at e;cases e;rename_i y' hns;split at e;rename_i q l hsrc;cases e;have hw:=(aE FR hx p5 hc.1).2;obtain⟨hs0,h1,h2⟩:=Po (P:=P) R hsrc hc.2 hw;obtain⟨u,hu1,hu2⟩:=Jq (P:=P) hs hd he hs0 h1 h2;exact⟨_,u,w,η,Z,hu1,.inl rfl,bJ.refl R,hu2⟩;split at e;rename_i q l hsrc;cases e;have hw:=(aE FR hx p5 hc.1).2;obtain⟨h1,h2⟩:=Pp (S:=S) (fun s hh=>hns s hh) hsrc hw;obtain⟨u,hu1,hu2⟩:=Jq (P:=P) hs hd he (xA (P:=P) R hsrc hc.2 hw) h1 h2;exact⟨_,u,w,η,Z,hu1,.inl rfl,bJ.refl R,hu2⟩;cases e;cases e;cases ht;cases ht
 -- len of a map
 rename_i x t;split at ht;rename_i kd vd x' hd hx;cases ht;simp only[jB] at e;split at e;rename_i p n hxe;split at e;rename_i o1 jW;split at e;rename_i l hl;cases e;refine br.run (by simp[resolve,invoke,builtin]) (RL (ty:=o.type) R hd jW hl (aE FR hx hxe hc).2);cases e;cases e;cases e;cases ht;cases ht
end
def A9(k:Nat):List Ob->List (Nat×Ob)
 | []=>[]
 | o::l=>(k,o)::A9 (k+1) l
def af.ofList(l:List Ob):af:={ next:=l.length,aj:=A9 0 l }
theorem Gx:∀(l:List Ob)(k n:Nat),find (A9 k l) n=if n<k then none else l[n-k]?
 | [],k,n=>by simp[A9,find]
 | o :: l, k, n => by
   simp only[A9,find];by_cases h:k=n;subst h;simp;rw[if_neg h,Gx l (k+1) n];by_cases h1:n<k;rw[if_pos (by omega),if_pos h1];rw[if_neg (by omega),if_neg h1];have:n-k=(n-(k+1))+1:=by omega
   rw[this];simp
theorem af.bG(l:List Ob)(n:Nat):(af.ofList l).get n=l[n]?:=by
 show find (A9 0 l) n=_;rw[Gx];simp
def vU(g:Nat->Option Nat):List (Nat×Nat)->Option (List (Nat×Nat))
 | []=>some []
 | (n,o)::l=>match g n,vU g l with|some m,some r=>some ((m,o)::r)|_,_=>none
def W.ren(g:Nat->Option Nat):W->Option W
 | .ptr n off=>match g n with|some m=>some (.ptr m off)|none=>none
 | .pe n off i=>match g n with|some m=>some (.pe m off i)|none=>none
 | .sl n off len sz=>match g n with|some m=>some (.sl m off len sz)|none=>none
 | .func f caps=>match vU g caps with|some r=>some (.func f r)|none=>none
 | .yield l=>some (.yield l)
 | .cX=>none
 | .mp n=>match g n with|some m=>some (.mp m)|none=>none
 | .ba n=>match g n with|some m=>some (.ba m)|none=>none
 | .nN f n off=>match g n with|some m=>some (.nN f m off)|none=>none
 | .row n i len=>match g n with|some m=>some (.row m i len)|none=>none
 | .o6 n i j=>match g n with|some m=>some (.o6 m i j)|none=>none
 | x=>some x
def D3(g:Nat->Option Nat):List W->Option (List W)
 | []=>some []
 | x::l=>match x.ren g,D3 g l with|some y,some r=>some (y::r)|_,_=>none
def V.ren(g:Nat->Option Nat):V->Option V
 | .c x=>match x.ren g with|some y=>some (.c y)|none=>none
 | .agg cs=>match D3 g cs with|some r=>some (.agg r)|none=>none
def ug(g:Nat->Option Nat):List V->Option (List V)
 | []=>some []
 | x::l=>match x.ren g,ug g l with|some y,some r=>some (y::r)|_,_=>none
def A.ren(g:Nat->Option Nat):A->Option A
 | .p v=>match v.ren g with|some y=>some (.p y)|none=>none
 | .bF vs=>match ug g vs with|some r=>some (.bF r)|none=>none
 | .cond _ _=>none
 | .dec b=>some (.dec b)
def Fd.ren(s:Bool)(g:Nat->Option Nat):Fd->Option Fd
 | .c x=>match x.ren g with|some y=>some (.c y)|none=>bif s then none else some (.c .cX)
 | .a n d l=>some (.a n d l)
 | .m kd vd l=>some (.m kd vd l)
 | .b l=>some (.b l)
def D4(s:Bool)(g:Nat->Option Nat):List Fd->Option (List Fd)
 | []=>some []
 | x::l=>match x.ren s g,D4 s g l with|some y,some r=>some (y::r)|_,_=>none
def Fd.rQ:Fd->Bool
 | .c .mh=>true
 | .m _ _ _=>true
 | _=>false
def Ob.ren(g:Nat->Option Nat)(o:Ob):Option Ob:=match D4 (o.fs.any Fd.rQ) g o.fs with|some fs=>some ⟨o.ty,fs⟩|none=>none
def gH(g:Nat->Option Nat):List Ob->Option (List Ob)
 | []=>some []
 | x::l=>match x.ren g,gH g l with|some y,some r=>some (y::r)|_,_=>none
def W.dQ:W->Bool
 | .ro _ _ | .rp _ _ | .rd _ _ | .re _ _ _ | .rs _ _=>false
 | _=>true
def D.plain:D->Bool
 | .sl _=>false
 | .pv=>false
 | _=>true
def V.dQ:V->Bool
 | .c x=>x.dQ
 | .agg cs=>cs.all W.dQ
def A.dQ:A->Bool
 | .p v=>v.dQ
 | .bF vs=>vs.all V.dQ
 | .cond _ _=>false
 | .dec _=>true
def Fd.dQ:Fd->Bool
 | .c x=>x.dQ
 | .a _ d _=>d.plain
 | .m kd vd _=>kd.plain&&vd.plain
 | .b _=>true
def Ob.dQ(o:Ob):Bool:=o.fs.all Fd.dQ
section
variable {η aC:Eta} {Z Z':ar} {g:Nat->Option Nat}
theorem JH(h:∀ n m,g n=some m->∀ p,η n=some p->aC m=some p):∀{caps r:List (Nat×Nat)}{vs:List Value},vU g caps=some r->aL (dB η) caps vs->aL (dB aC) r vs
 | [],r,vs,e,hl=>by simp only[vU] at e;cases e;cases vs with|nil=>trivial|cons _ _=>exact hl.elim
 | (n, o) :: l, r, vs, e, hl => by
   simp only[vU] at e;split at e
   . rename_i m r' hm hr;cases e;cases vs with
     | nil=>exact hl.elim
     | cons v vs =>
       obtain⟨⟨p,hp,hv⟩,hl⟩:=hl;exact⟨⟨p,h n m hm p hp,hv⟩,JH h hr hl⟩
   cases e
theorem W.kz(h:∀ n m,g n=some m->∀ p,η n=some p->aC m=some p){x y:W}(hz:x.dQ=true∨Z.le Z')(e:x.ren g=some y){v:Value}(r:au η Z x v):au aC Z' y v:=by
 have frozen:∀ x:W,x.dQ=false->x.ren g=some x:=by intro x hx;cases x<;>simp_all[W.dQ,W.ren]
 cases x with
 | ptr n off =>
   simp only[W.ren] at e;split at e;rename_i m hm;cases e;obtain⟨p,hp,hv⟩:=r;exact⟨p,h n m hm p hp,hv⟩;cases e
 | pe n off i =>
   simp only[W.ren] at e;split at e;rename_i m hm;cases e;obtain⟨p,hp,hv⟩:=r;exact⟨p,h n m hm p hp,hv⟩;cases e
 | sl n off len sz =>
   simp only[W.ren] at e;split at e;rename_i m hm;cases e;rcases r with r|⟨p,c,a,hp,r⟩;exact .inl r;exact .inr ⟨p,c,a,h n m hm p hp,r⟩;cases e
 | func f caps =>
   simp only[W.ren] at e;split at e;rename_i r' hr;cases e;obtain⟨vs,hv,hl⟩:=r;exact⟨vs,hv,JH h hr hl⟩;cases e
 | yield l=>cases e;exact r
 | cX=>cases e
 | mh=>cases e;exact r
 | mp n =>
   simp only[W.ren] at e;split at e;rename_i m hm;cases e;obtain⟨p,hp,hv⟩:=r;exact⟨p,h n m hm p hp,hv⟩;cases e
 | ba n =>
   simp only[W.ren] at e;split at e;rename_i m hm;cases e;obtain⟨p,hp,hv⟩:=r;exact⟨p,h n m hm p hp,hv⟩;cases e
 | nN f n off =>
   simp only[W.ren] at e;split at e;rename_i m hm;cases e;obtain⟨u,hu,p,hp,hv⟩:=r;exact⟨u,hu,p,h n m hm p hp,hv⟩;cases e
 | row n i len =>
   simp only[W.ren] at e;split at e;rename_i m hm;cases e;obtain⟨p,r0,c,ad,hp,hv⟩:=r;exact⟨p,r0,c,ad,h n m hm p hp,hv⟩;cases e
 | o6 n i j =>
   simp only[W.ren] at e;split at e;rename_i m hm;cases e;obtain⟨p,r0,hp,hv⟩:=r;exact⟨p,r0,h n m hm p hp,hv⟩;cases e
 | th k av=>cases e;exact r
 | lZ n=>cases e;exact r
 | bool b=>cases e;exact r
 | int k n=>cases e;exact r
 | str s=>cases e;exact r
 | dH=>cases e;exact r
 | nil=>cases e;exact r
 | mo=>cases e;exact r
 | kC=>cases e;exact r
 | val _=>cases e;exact r
 | ro _ _=>cases e;rcases hz with hz|hz;cases hz;exact aH.mono hz r
 | rp _ _=>cases e;rcases hz with hz|hz;cases hz;exact aH.mono hz r
 | rd _ _=>cases e;rcases hz with hz|hz;cases hz;exact aH.mono hz r
 | rs _ _=>cases e;rcases hz with hz|hz;cases hz;exact aH.mono hz r
 | y7 _=>cases e;exact r
 | re _ _ _=>cases e;rcases hz with hz|hz;cases hz;exact aH.mono hz r
theorem W.C5{x y:W}(e:x.ren g=some y):y≠.cX:=by
 cases x<;>simp only[W.ren] at e<;>first
  | (cases e;done)
  | (cases e;simp;done)
  | (split at e<;>cases e;simp)
theorem W.ren_mh{x:W}(e:x.ren g=some .mh):x=.mh:=by
 cases x<;>simp only[W.ren] at e<;>first
  | rfl
  | (cases e;done)
  | (split at e<;>cases e)
theorem W.ren_th{x:W}{k:Nat}{av:List (List Int)}(e:x.ren g=some (.th k av)):x=.th k av:=by
 cases x<;>simp only[W.ren] at e<;>first
  | (cases e;rfl)
  | (cases e;done)
  | (split at e<;>cases e)
theorem Gy(h:∀ n m,g n=some m->∀ p,η n=some p->aC m=some p):∀{l r:List W}{vs:List Value},(l.all W.dQ=true∨Z.le Z')->D3 g l=some r->aL (au η Z) l vs->aL (au aC Z') r vs/\∀ x∈r,x≠.cX
 | [],r,vs,_,e,hl=>by simp only[D3] at e;cases e;cases vs with|nil=>exact⟨trivial,by simp⟩|cons _ _=>exact hl.elim
 | x :: l, r, vs, hz, e, hl => by
   simp only[D3] at e;split at e
   . rename_i y r' hy hr;cases e;cases vs with
     | nil=>exact hl.elim
     | cons v vs =>
       simp only[List.all_cons,Bool.and_eq_true] at hz;obtain⟨a,b⟩:=Gy h (hz.imp (·.2) id) hr hl.2;refine⟨⟨W.kz h (hz.imp (·.1) id) hy hl.1,a⟩,fun z hz'=>?_⟩;rcases List.mem_cons.1 hz' with rfl|hz';exact W.C5 hy;exact b z hz'
   cases e
theorem V.kz(h:∀ n m,g n=some m->∀ p,η n=some p->aC m=some p){x y:V}(hz:x.dQ=true∨Z.le Z')(e:x.ren g=some y){v:Value}(r:cV η Z x v):cV aC Z' y v:=by
 cases x with
 | c x =>
   simp only[V.ren] at e;split at e;rename_i y' hy;cases e;exact⟨W.C5 hy,W.kz h hz hy r.2⟩;cases e
 | agg cs =>
   simp only[V.ren] at e;split at e;rename_i r' hr;cases e;obtain⟨vs,hv,_,hl⟩:=r;obtain⟨a,b⟩:=Gy h hz hr hl;exact⟨vs,hv,b,a⟩;cases e
theorem oN(h:∀ n m,g n=some m->∀ p,η n=some p->aC m=some p):∀{l r:List V}{vs:List Value},(l.all V.dQ=true∨Z.le Z')->ug g l=some r->aL (cV η Z) l vs->aL (cV aC Z') r vs
 | [],r,vs,_,e,hl=>by simp only[ug] at e;cases e;cases vs with|nil=>trivial|cons _ _=>exact hl.elim
 | x :: l, r, vs, hz, e, hl => by
   simp only[ug] at e;split at e
   . rename_i y r' hy hr;cases e;cases vs with
     | nil=>exact hl.elim
     | cons v vs =>
       simp only[List.all_cons,Bool.and_eq_true] at hz;exact⟨V.kz h (hz.imp (·.1) id) hy hl.1,oN h (hz.imp (·.2) id) hr hl.2⟩
   cases e
theorem A.kz(h:∀ n m,g n=some m->∀ p,η n=some p->aC m=some p){x y:A}(hz:x.dQ=true∨Z.le Z')(e:x.ren g=some y){v:Value}(r:cw η Z x v):cw aC Z' y v:=by
 cases x with
 | p x =>
   simp only[A.ren] at e;split at e;rename_i y' hy;cases e;exact V.kz h hz hy r;cases e
 | bF vs =>
   simp only[A.ren] at e;split at e;rename_i r' hr;cases e;obtain⟨us,hv,hl⟩:=r;exact⟨us,hv,oN h hz hr hl⟩;cases e
 | cond _ _=>cases e
 | dec b=>cases e;exact r
theorem D.Pv(d:D)(y:d.ty):(d.w y).ren g=some (d.w y):=by cases d<;>first|rfl|(cases y<;>rfl)
theorem D.Ff{d:D}(h:d.plain=true)(y:d.ty):(d.w y).dQ=true:=by cases d<;>first|rfl|cases h
theorem JI{kd vd:D}:∀{l:List (kd.ty×vd.ty)}{i:Nat}{z:W},(nO kd vd l)[i]? = some z->z.ren g=some z/\(kd.plain=true->vd.plain=true->z.dQ=true)
 | [],i,z,h=>by simp[nO] at h
 | (k,v)::l,0,z,h=>by simp[nO] at h;subst h;exact⟨D.Pv _ _,fun h1 _=>D.Ff h1 _⟩
 | (k,v)::l,1,z,h=>by simp[nO] at h;subst h;exact⟨D.Pv _ _,fun _ h2=>D.Ff h2 _⟩
 | (k,v)::l,i+2,z,h=>JI (l:=l) (i:=i) (by simpa[nO] using h)
theorem Ck{s : Bool} : ∀{fs r : List Fd}, D4 s g fs = some r → (r.flatMap Fd.cells).length = (fs.flatMap Fd.cells).length ∧ ∀(i : Nat) y, (r.flatMap Fd.cells)[i]? = some y → ∃ x, (fs.flatMap Fd.cells)[i]? = some x ∧ (x.ren g = some y ∨ (s = false ∧ y = .cX ∧ x.ren g = none)) ∧ (fs.all Fd.dQ = true → x.dQ = true)
 | [],r,e=>by simp only[D4] at e;cases e;exact⟨rfl,by simp⟩
 | f :: fs, r, e => by
   simp only[D4] at e;split at e;rename_i f' r' hf hr;cases e;obtain⟨h1,h2⟩:=Ck hr;have h3 : f'.cells.length = f.cells.length ∧ ∀(i : Nat) y, f'.cells[i]? = some y → ∃ x, f.cells[i]? = some x ∧ (x.ren g = some y ∨ (s = false ∧ y = .cX ∧ x.ren g = none)) ∧ (f.dQ = true → x.dQ = true) := by
    cases f with
    | c x =>
      simp only[Fd.ren] at hf;split at hf
      . rename_i y hy;cases hf;refine⟨rfl,fun i z hz=>?_⟩;cases i with
        | zero=>simp[Fd.cells] at hz ⊢;subst hz;exact⟨.inl hy,fun h=>h⟩
        | succ i=>simp[Fd.cells] at hz
      rename_i hnone;cases s with
      | true=>cases hf
      | false =>
        cases hf;refine⟨rfl,fun i z hz=>?_⟩;cases i with
        | zero=>simp[Fd.cells] at hz ⊢;subst hz;exact⟨.inr ⟨rfl,hnone⟩,fun h=>h⟩
        | succ i=>simp[Fd.cells] at hz
    | a n d l =>
      simp only[Fd.ren] at hf;cases hf;refine⟨rfl,fun i z hz=>⟨z,hz,?_,?_⟩⟩
      . simp only[Fd.cells,List.getElem?_map] at hz;cases hh:l[i]? with
        | none=>rw[hh] at hz;cases hz
        | some y=>rw[hh] at hz;cases hz;exact .inl (D.Pv _ _)
      intro hp;simp only[Fd.cells,List.getElem?_map] at hz;cases hh:l[i]? with
      | none=>rw[hh] at hz;cases hz
      | some y=>rw[hh] at hz;cases hz;exact D.Ff hp _
    | m kd vd l =>
      simp only[Fd.ren] at hf;cases hf;refine⟨rfl,fun i z hz=>⟨z,hz,?_⟩⟩;cases i with
      | zero=>simp[Fd.cells] at hz;subst hz;exact⟨.inl rfl,fun _=>rfl⟩
      | succ i =>
        have hz':(nO kd vd l)[i]? = some z:=by simpa[Fd.cells] using hz
        obtain⟨h5,h6⟩:=JI (g:=g) hz';exact⟨.inl h5,fun hp=>by simp only[Fd.dQ,Bool.and_eq_true] at hp;exact h6 hp.1 hp.2⟩
    | b l =>
      simp only[Fd.ren] at hf;cases hf;refine⟨rfl,fun i z hz=>⟨z,hz,?_⟩⟩;simp only[Fd.cells,List.getElem?_map] at hz;cases hh:l[i]? with
      | none=>rw[hh] at hz;cases hz
      | some y=>rw[hh] at hz;cases hz;exact⟨.inl rfl,fun _=>rfl⟩
   simp only[List.flatMap_cons,List.length_append,List.all_cons,Bool.and_eq_true];refine⟨by omega,fun i y hy=>?_⟩;by_cases hi:i<f'.cells.length;rw[List.getElem?_append_left hi] at hy;rw[List.getElem?_append_left (by omega)];obtain⟨x,a,b,c⟩:=h3.2 i y hy;exact⟨x,a,b,fun hh=>c hh.1⟩;rw[List.getElem?_append_right (by omega)] at hy;rw[List.getElem?_append_right (by omega),<-h3.1];obtain⟨x,a,b,c⟩:=h2 _ y hy;exact⟨x,a,b,fun hh=>c hh.2⟩;cases e
theorem Ob.uh{o o':Ob}(e:o.ren g=some o'):o'.ty=o.ty/\o'.cells.length=o.cells.length/\∀(i:Nat) y,o'.cells[i]? = some y->∃ x,o.cells[i]? = some x/\(x.ren g=some y∨(o.fs.any Fd.rQ=false/\y=.cX/\x.ren g=none))/\(o.dQ=true->x.dQ=true):=by
 unfold Ob.ren at e;split at e;rename_i fs hfs;cases e;obtain⟨a,b⟩:=Ck hfs;exact⟨rfl,a,b⟩;cases e
theorem Pw{o:Ob}(h:o.isMap):o.fs.any Fd.rQ=true:=by
 have hm:W.mh∈o.fs.flatMap Fd.cells:=List.mem_of_getElem? h;obtain⟨f,hf,hx⟩:=List.mem_flatMap.1 hm;rw[List.any_eq_true];refine⟨f,hf,?_⟩;cases f with
 | c y=>simp[Fd.cells] at hx;subst hx;rfl
 | a n d l =>
   simp only[Fd.cells,List.mem_map] at hx;obtain⟨y,_,hy⟩:=hx;exact absurd hy (D.w_mh d y)
 | m kd vd l=>rfl
 | b l =>
   simp only[Fd.cells,List.mem_map] at hx;obtain⟨y,_,hy⟩:=hx;cases hy
theorem fk.ren(h:∀ n m,g n=some m->∀ p,η n=some p->aC m=some p){o o':Ob}(hz:o.dQ=true∨Z.le Z')(e:o.ren g=some o'){p:cn}{w:World}(L:fk η Z o p w):fk aC Z' o' p w:=by
 obtain⟨e1,e2,e3⟩:=Ob.uh e;have hm1:o'.isMap->o.isMap:=fun hm=>by
  obtain⟨x,hx,hxy,_⟩:=e3 0 _ hm;rcases hxy with hxy|⟨_,hxy,_⟩;rw[W.ren_mh hxy] at hx;exact hx;cases hxy
 have zE:∀ k av,o'.jT k av->o.jT k av:=fun k av hm=>by
  obtain⟨x,hx,hxy,_⟩:=e3 0 _ hm;rcases hxy with hxy|⟨_,hxy,_⟩;rw[W.ren_th hxy] at hx;exact hx;cases hxy
 have hi2:o.gj->o'.gj:=fun hm=>by
  obtain⟨s,hs,hsp⟩:=Ob.Q9 hm;have h0:0<o'.cells.length:=by rw[e2];exact(List.getElem?_eq_some_iff.1 hs).1
  obtain⟨x,hx,hxy,_⟩:=e3 0 _ (List.getElem?_eq_getElem h0);have:x=s:=Option.some.inj (hx.symm.trans hs);subst this;rcases hm with hm|⟨k,av,hm⟩;have:x=.mh:=Option.some.inj (hx.symm.trans hm);subst this;have hxy:(W.mh).ren g=some o'.cells[0]:=hxy.elim id fun h=>by cases h.2.2
  have:o'.cells[0]=.mh:=(Option.some.inj hxy).symm;left;show o'.cells[0]? = some .mh;rw[List.getElem?_eq_getElem h0,this];have:x=.th k av:=Option.some.inj (hx.symm.trans hm);subst this;have hxy:(W.th k av).ren g=some o'.cells[0]:=hxy.elim id fun h=>by cases h.2.2
  have:o'.cells[0]=.th k av:=(Option.some.inj hxy).symm;refine .inr ⟨k,av,?_⟩;show o'.cells[0]? = some (.th k av);rw[List.getElem?_eq_getElem h0,this]
 refine⟨fun hm=>?_,fun hm=>by rw[e2];exact L.size fun h=>hm (hi2 h),fun k av hm=>by rw[e1];exact L.tabs k av (zE k av hm),fun hm=>?_⟩;obtain⟨c,fz,a,b,d,f⟩:=L.there fun h=>hm (hi2 h);have f':y8 c.size o' p fz:=by
  rcases f with f|⟨hB,ht⟩|⟨hB,ht⟩;exact .inl f;refine .inr (.inl ⟨fun y hy=>?_,by rw[e2];exact ht⟩);obtain⟨i,hi⟩:=List.getElem?_of_mem hy;obtain⟨x,hx,hxy,_⟩:=e3 i y hi;obtain⟨n,rfl⟩:=hB x (List.mem_of_getElem? hx);have hxy:(W.int .u8 n).ren g=some y:=hxy.elim id fun h=>by cases h.2.2
  exact⟨n,(Option.some.inj hxy).symm⟩;refine .inr (.inr ⟨⟨fun h0=>hB.1 (List.eq_nil_of_length_eq_zero (by rw[<-e2,h0];rfl)),fun y hy=>?_⟩,ht⟩);obtain⟨i,hi⟩:=List.getElem?_of_mem hy;obtain⟨x,hx,hxy,_⟩:=e3 i y hi;obtain⟨n,rfl⟩:=hB.2 x (List.mem_of_getElem? hx);have hxy:(W.lZ n).ren g=some y:=hxy.elim id fun h=>by cases h.2.2
  exact⟨n,(Option.some.inj hxy).symm⟩
 refine⟨c,fz,by rw[e1];exact a,b,fun i y hy=>?_,f'⟩;obtain⟨x,hx,hxy,hzf⟩:=e3 i y hy;obtain⟨v,hv,hr,h1⟩:=d i x hx;rcases hxy with hxy|⟨_,rfl,_⟩;exact⟨v,hv,W.kz h (hz.imp hzf id) hxy hr,h1⟩;exact⟨v,hv,trivial,h1⟩;obtain⟨es,k,a,b⟩:=L.maps (hm1 hm);refine⟨es,k,a,eO.map (g:=fun x y=>x.ren g=some y/\(o.dQ=true->x.dQ=true)) (fun x y v hxy hr=>⟨W.C5 hxy.1,W.kz h (hz.imp hxy.2 id) hxy.1 hr⟩) (by simp[e2]) (fun i y hy=>?_) b⟩;rw[<-List.drop_one,List.getElem?_drop] at hy;obtain⟨x,hx,hxy,hzf⟩:=e3 _ y hy;have hxy:x.ren g=some y:=hxy.elim id fun h=>by rw[Pw (hm1 hm)] at h;cases h.1
 exact⟨x,by rw[<-List.drop_one,List.getElem?_drop];exact hx,hxy,hzf⟩
end
theorem jF{g:Nat->Option Nat}:∀{l r:List Ob},gH g l=some r->r.length=l.length/\∀(i:Nat) o',r[i]? = some o'->∃ o,l[i]? = some o/\o.ren g=some o'
 | [],r,e=>by simp only[gH] at e;cases e;exact⟨rfl,by simp⟩
 | x :: l, r, e => by
   simp only[gH] at e;split at e
   . rename_i y r' hy hr;cases e;obtain⟨a,b⟩:=jF hr;refine⟨by simp[a],fun i o' ho=>?_⟩;cases i with
     | zero=>simp at ho;subst ho;exact⟨x,rfl,hy⟩
     | succ i=>simp at ho ⊢;exact b i o' ho
   cases e
def Yj:List Int:=[0,1,56,2,57,49,28,3,61,58,42,50,38,29,17,4,62,47,59,36,45,43,51,22,53,39,33,30,24,18,12,5,63,55,48,27,60,41,37,16,46,35,44,21,52,32,23,11,54,26,40,15,34,20,31,10,25,14,19,9,13,8,7,6]
def Yk:List Int:=[0,1,28,2,29,14,24,3,30,22,20,15,25,17,4,8,31,27,13,23,21,19,16,7,26,12,18,6,11,5,10,9]
def Px:List Int:=[1,10,100,1000,10000,100000,1000000,10000000,100000000,1000000000,10000000000,100000000000,1000000000000,10000000000000,100000000000000,1000000000000000,10000000000000000,100000000000000000,1000000000000000000,10000000000000000000]
def Py:List (String×IntKind×List Int):=[("math/bits.deBruijn32tab",.u8,Yk),("math/bits.deBruijn64tab",.u8,Yj),("internal/strconv.uint64pow10",.u64,Px)]
def fW (P:Program) (Z:ar):Prop:=(∀ x∈Py,∀ g,P.globalNamed x.1=some g->Z g=some (x.2.2.map (Value.int x.2.1)).toArray)/\∀ g,P.globalNamed "strconv.ErrRange" = some g->∃ c t u,Z g=some c/\c[0]? = some (.iface t u)
theorem fW.mono{P:Program}{Z Z':ar}(h:fW P Z)(hz:Z.le Z'):fW P Z':=⟨fun x hx g hg=>hz _ _ (h.1 x hx g hg),fun g hg=>let ⟨c,t,u,a,b⟩:=h.2 g hg;⟨c,t,u,hz _ _ a,b⟩⟩
def JJ(P:Program)(f:FuncId)(args:List A)(S:af)(r:A)(S':af):Prop :=
 ∀ base η Z w vs,St base η Z S w->aL (cw η Z) args vs->fW P Z->CallsIn Fence.wide 0 P f vs.toArray w fun e w'=>∃ u aC Z',e=.returned u/\bJ base η Z S w aC Z' S' w'/\cw aC Z' r u
structure gD(ak base:Nat)(η:Eta)(Z:ar)(S:af)(w:World)(aC:Eta)(Z':ar)(S':af)(w':World):Prop where
 le:∀ n p,n<ak->η n=some p->aC n=some p
 st:St base aC Z' S' w'
 step:Step η Z S w aC Z' S' w'
def fQ(P:Program)(f:FuncId)(ak:Nat)(args:List A)(aj:List Ob)(r:A)(aY:List Ob):Prop :=
 ∀ base η Z w vs,St base η Z (.ofList aj) w->aL (cw η Z) args vs->fW P Z->CallsIn Fence.wide 0 P f vs.toArray w fun e w'=>∃ u aC Z',e=.returned u/\gD ak base η Z (.ofList aj) w aC Z' (.ofList aY) w'/\cw aC Z' r u
def bt(P:Program)(f:FuncId)(args:List A)(aj:List Ob)(r:A)(aY:List Ob):Prop:=fQ P f aj.length args aj r aY
def idxOf:List Nat->Nat->Option Nat
 | [],_=>none
 | x::l,n=>if x=n then some 0 else match idxOf l n with|some i=>some (i+1)|none=>none
theorem gI:∀{l:List Nat}{n i:Nat},idxOf l n=some i->l[i]? = some n
 | [],_,_,e=>by cases e
 | x :: l, n, i, e => by
   simp only[idxOf] at e;split at e;rename_i h;cases e;subst h;rfl;split at e;rename_i j hj;cases e;simpa using gI hj;cases e
theorem sF:∀{l:List Nat}{n:Nat},idxOf l n=none->∀(i:Nat),l[i]?≠some n
 | [],_,_,i=>by simp
 | x :: l, n, e, i => by
   simp only[idxOf] at e;split at e;cases e;rename_i hne;split at e;cases e;rename_i hj;cases i with
   | zero=>simp;exact hne
   | succ i=>simpa using sF hj i
theorem VI{l:List Nat}(hnd:l.Nodup){n i:Nat}(h:l[i]? = some n):idxOf l n=some i:=by
 cases e:idxOf l n with
 | none=>exact absurd h (sF e i)
 | some j =>
   have hj:=gI e;have h1:=(List.getElem?_eq_some_iff.1 h).1;have:=(List.getElem?_inj h1 hnd).1 (h.trans hj.symm);rw[this]
def sZ(rs:List Nat)(nx:Nat)(i:Nat):Option Nat:=if i<rs.length then rs[i]? else some (nx+(i-rs.length))
def l5(S:af):List Nat->List Ob->af
 | n::rs,o::os=>l5 (S.put n o) rs os
 | _,_=>S
def qT(S:af):List Ob->af
 | []=>S
 | o::os=>qT (S.add o) os
def af.fN(S:af)(rs:List Nat)(os:List Ob):af:=qT (l5 S rs (os.take rs.length)) (os.drop rs.length)
theorem zF:∀{rs:List Nat}{os:List Ob}{S:af},(l5 S rs os).cG=S.cG
 | [],_,_=>by simp[l5]
 | _::_,[],_=>by simp[l5]
 | n::rs,o::os,S=>by rw[l5,zF];rfl
theorem zG:∀{os:List Ob}{S:af},(qT S os).cG=S.cG
 | [],_=>rfl
 | o::os,S=>by rw[qT,zG];rfl
theorem af.Pz{S:af}{rs:List Nat}{os:List Ob}:(S.fN rs os).cG=S.cG:=by unfold af.fN;rw[zG,zF]
theorem qK:∀{rs:List Nat}{os:List Ob}{S:af},(l5 S rs os).next=S.next
 | [],_,_=>by cases ‹List Ob›<;>rfl
 | _::_,[],_=>rfl
 | n::rs,o::os,S=>by rw[l5,qK];rfl
theorem D5:∀{rs:List Nat}{os:List Ob}{S:af},rs.Nodup->os.length=rs.length->(∀ n∈rs,∃ o,S.get n=some o)->∀ n,(l5 S rs os).get n=match idxOf rs n with|some i=>os[i]?|none=>S.get n
 | [],[],S,_,_,_,n=>rfl
 | [],_::_,S,_,h,_,n=>by simp at h
 | _::_,[],S,_,h,_,n=>by simp at h
 | k :: rs, o :: os, S, hnd, hl, hin, n => by
   rw[l5];have PA:=List.nodup_cons.1 hnd;obtain⟨o0,sX⟩:=hin k (by simp);have hget:∀ m,(S.put k o).get m=if m=k then some o else S.get m:=fun m=>by rw[af.jo,sX];rfl
   rw[D5 PA.2 (by simpa using hl) (fun m hm=>by
    obtain⟨x,hx⟩:=hin m (by simp[hm]);rw[hget];by_cases h:m=k;rw[if_pos h];exact⟨o,rfl⟩;rw[if_neg h];exact⟨x,hx⟩)]
   simp only[idxOf];by_cases h:k=n;subst h;rw[if_pos rfl];have:idxOf rs k=none:=by
    cases e:idxOf rs k with
    | none=>rfl
    | some i=>exact absurd (List.mem_of_getElem? (gI e)) PA.1
   rw[this];simp[hget];rw[if_neg h];cases idxOf rs n with
   | none=>simp[hget,Ne.symm h]
   | some i=>simp
theorem Cl:∀{os:List Ob}{S:af},(qT S os).next=S.next+os.length
 | [],_=>rfl
 | o::os,S=>by rw[qT,Cl];show S.next+1+_=_;simp;omega
theorem D6:∀{os:List Ob}{S:af},(∀ n,S.next<=n->S.get n=none)->∀ n,(qT S os).get n=if S.next<=n then os[n-S.next]? else S.get n
 | [],S,hf,n=>by
   show S.get n=_;by_cases h:S.next<=n
   rw[if_pos h,hf n h];simp;rw[if_neg h]
 | o :: os, S, hf, n => by
   have hadd:∀ m,(S.add o).get m=if m=S.next then some o else S.get m:=fun m=>af.fB (hf _ (Nat.le_refl _))
   rw[qT,D6 (S:=S.add o) (fun m hm=>by
    have:(S.add o).next=S.next+1:=rfl
    rw[hadd,if_neg (by omega)];exact hf m (by omega))]
   have hn:(S.add o).next=S.next+1:=rfl
   rw[hn,hadd];by_cases h:S.next<=n
   . rw[if_pos h];by_cases h1:n=S.next
     subst h1;rw[if_neg (by omega),if_pos rfl];simp
     . rw[if_pos (by omega)];have:n-S.next=(n-(S.next+1))+1:=by omega
       rw[this];simp
   rw[if_neg (by omega),if_neg h,if_neg (by omega)]
theorem VJ{S:af}{rs:List Nat}{os:List Ob}(hnd:rs.Nodup)(hl:rs.length<=os.length)(hin:∀ n∈rs,∃ o,S.get n=some o)(hf:∀ n o,S.get n=some o->n<S.next)(n:Nat) :
 (S.fN rs os).get n=match idxOf rs n with|some i=>os[i]?|none=>if S.next<=n then os[rs.length+(n-S.next)]? else S.get n:=by
 have hp:=D5 (os:=os.take rs.length) hnd (by simp;omega) hin;have MA:∀ n i,idxOf rs n=some i->n<S.next/\i<rs.length:=by
  intro n i e;have:=gI e;obtain⟨o,ho⟩:=hin n (List.mem_of_getElem? this);exact⟨hf n o ho,(List.getElem?_eq_some_iff.1 this).1⟩
 have hnone:∀ m,(l5 S rs (os.take rs.length)).next<=m->(l5 S rs (os.take rs.length)).get m=none:=by
  intro m hm;rw[qK] at hm;rw[hp];cases e:idxOf rs m with
  | some i=>have:=MA m i e;omega
  | none =>
    simp only;cases e':S.get m with
    | none=>rfl
    | some o=>have:=hf m o e';omega
 unfold af.fN;rw[D6 hnone,qK,hp];cases e:idxOf rs n with
 | some i =>
   obtain⟨h1,h2⟩:=MA n i e;simp only;rw[if_neg (by omega),List.getElem?_take,if_pos h2]
 | none =>
   simp only;split;rw[List.getElem?_drop];rfl
theorem RR{S:af}{rs:List Nat}{os:List Ob}:(S.fN rs os).next=S.next+(os.length-rs.length):=by
 unfold af.fN;rw[Cl,qK];simp
def gU(S:af):List Nat->Option (List Ob)
 | []=>some []
 | n::l=>match S.get n,gU S l with|some o,some r=>some (o::r)|_,_=>none
theorem kE:∀{S:af}{rs:List Nat}{l:List Ob},gU S rs=some l->l.length=rs.length/\∀(i:Nat) n,rs[i]? = some n->∃ o,S.get n=some o/\l[i]? = some o
 | S,[],l,e=>by simp only[gU] at e;cases e;exact⟨rfl,by simp⟩
 | S,k::rs,l,e=>by
   simp only[gU] at e;split at e
   . rename_i o r ho hr;cases e;obtain⟨a,b⟩:=kE hr;refine⟨by simp[a],fun i n hi=>?_⟩;cases i with
     | zero=>simp at hi;subst hi;exact⟨o,ho,rfl⟩
     | succ i=>simpa using b i n (by simpa using hi)
   cases e
def fO(S:af):List Nat->af
 | []=>S
 | m::ms=>fO (S.del m) ms
theorem xB:∀{ms:List Nat}{S:af}{n:Nat}{o:Ob},(fO S ms).get n=some o->S.get n=some o/\n ∉ ms
 | [],_,_,_,h=>⟨h,by simp⟩
 | m::ms,S,n,o,h=>by
   obtain⟨a,b⟩:=xB (S:=S.del m) h;rw[af.ia] at a;split at a;cases a;rename_i hne;exact⟨a,by simp[hne,b]⟩
theorem oO:∀{ms:List Nat}{S:af},(fO S ms).next=S.next
 | [],_=>rfl
 | m::ms,S=>by rw[fO,oO];rfl
theorem zH:∀{ms:List Nat}{S:af}{n:Nat},n ∉ ms->(fO S ms).get n=S.get n
 | [],_,_,_=>rfl
 | m::ms,S,n,h=>by
   simp only[List.mem_cons,not_or] at h;rw[fO,zH h.2,af.ia,if_neg h.1]
theorem xC:∀{ms:List Nat}{S:af},(fO S ms).cG=S.cG
 | [],_=>rfl
 | m::ms,S=>by rw[fO,xC];rfl
section
variable {P:Program}
def Seen(η:Eta)(S:af)(ms:List Nat)(b:Nat):Prop:=∃ m,m∈ms/\∃ o p,S.get m=some o/\η m=some p/\p.has b
open Classical in
noncomputable def ld(η:Eta)(Z:ar)(S:af)(w:World)(ms:List Nat):ar:=fun b=>if Seen η S ms b then(match w.heap[b]? with|some (.cells c _ _)=>some c|_=>none) else Z b
theorem sJ{base:Nat}{η:Eta}{Z:ar}{S:af}{w:World}(R:St base η Z S w)(ms:List Nat):Z.le (ld η Z S w ms):=by
 intro b c h;unfold ld;rw[if_neg];exact h;rintro⟨m,_,o,p,ho,hp,hb⟩;rw[(R.all ho hp hb).2.1] at h;cases h
def cK(η:Eta)(rs:List Nat):Eta:=fun i=>match rs[i]? with|some n=>η n|none=>none
open Classical in
theorem xD{S:af}{rs ms:List Nat}{eG bH ef jG:List Ob}{r0 r:A}{ak:Nat}(hnd:rs.Nodup)(rR:∀ m∈ms,m ∉ rs)
 (eY:gU S rs=some eG) (gQ:gH (idxOf rs) eG=some bH) (hkr:ak<=rs.length) (bO:ak<=ef.length) (hr:r0.ren (sZ (rs.take ak) S.next)=some r) (hos:gH (sZ (rs.take ak) S.next) ef=some jG)
 (hz:ms=[]∨(r0.dQ=true/\ef.all Ob.dQ=true))
 {base:Nat} {η:Eta} {Z:ar} {w:World} (R:St base η Z S w):St base (cK η rs) (ld η Z S w ms) (.ofList bH) w/\∀ w' eU Z1 u,gD ak base (cK η rs) (ld η Z S w ms) (.ofList bH) w eU Z1 (.ofList ef) w'->cw eU Z1 r0 u->∃ aC Z',bJ base η Z S w aC Z' ((fO S (rs.drop ak)).fN (rs.take ak) jG) w'/\cw aC Z' r u:=by
 obtain⟨hl1,Gz⟩:=kE eY;obtain⟨hl2,uj⟩:=jF gQ;obtain⟨hl3,hg3⟩:=jF hos;have hin:∀ n∈rs,∃ o,S.get n=some o:=fun n hn=>by
  obtain⟨i,hi⟩:=List.getElem?_of_mem hn;obtain⟨o,ho,_⟩:=Gz i n hi;exact⟨o,ho⟩
 have hnext:∀ n∈rs,n<S.next:=fun n hn=>let ⟨o,ho⟩:=hin n hn;R.known n o ho
 have hZle:=sJ R ms;have hidx:∀ n m,idxOf rs n=some m->∀ p,η n=some p->cK η rs m=some p:=by
  intro n m e p hp;unfold cK;rw[gI e];exact hp
 -- an object that is handed over
 have hand:∀(i:Nat) o,bH[i]? = some o->∃ n oS,rs[i]? = some n/\S.get n=some oS/\oS.ren (idxOf rs)=some o:=by
  intro i o ho;obtain⟨oS,h1,h2⟩:=uj i o ho;have hi:i<rs.length:=by have:=(List.getElem?_eq_some_iff.1 h1).1;omega
  obtain⟨o',h3,h4⟩:=Gz i rs[i] (List.getElem?_eq_getElem hi);have:oS=o':=Option.some.inj (h1.symm.trans h4);subst this;exact⟨rs[i],oS,List.getElem?_eq_getElem hi,h3,h2⟩
 have Yl:∀ n o p b,n∈rs->S.get n=some o->η n=some p->p.has b->¬Seen η S ms b:=by
  rintro n o p b hn ho hp hb0 ⟨m,hm,o',p',ho',hp',hb⟩;exact R.jU m n o' o p' p b ho' ho (fun h=>rR m hm (h▸hn)) hp' hp hb hb0
 have R0 : St base (cK η rs) (ld η Z S w ms) (.ofList bH) w := by
  refine⟨?_,?_,?_,?_,?_,?_,R.iq,?_⟩;intro i o p ho hp;rw[af.bG] at ho;obtain⟨n,oS,h1,h2,h3⟩:=hand i o ho;unfold cK at hp;rw[h1] at hp;obtain⟨a,b,L⟩:=R.aj n oS p h2 hp;refine⟨a,?_,L.ren hidx (.inr hZle) h3⟩;unfold ld;rw[if_neg (Yl n oS p _ (List.mem_of_getElem? h1) h2 hp p.iH)];exact b;intro i o ho hp;rw[af.bG] at ho;obtain⟨n,oS,h1,h2,h3⟩:=hand i o ho;unfold cK at hp;rw[h1] at hp;have:=R.cG n oS h2 hp;have h4:=(Ob.uh h3).2.1;rw[this] at h4;exact List.eq_nil_of_length_eq_zero h4;intro i o ho;rw[af.bG] at ho;exact(List.getElem?_eq_some_iff.1 ho).1;intro i j o o' p p' b ho ho' hne hp hp';rw[af.bG] at ho ho';obtain⟨n,oS,h1,h2,h3⟩:=hand i o ho;obtain⟨n',oS',h1',h2',h3'⟩:=hand j o' ho';unfold cK at hp hp';rw[h1] at hp;rw[h1'] at hp';refine R.jU n n' oS oS' p p' b h2 h2' ?_ hp hp';rintro rfl;exact hne ((List.getElem?_inj (List.getElem?_eq_some_iff.1 h1).1 hnd).1 (h1.trans h1'.symm));intro b c hb;unfold ld at hb;split at hb;split at hb;rename_i hh;cases hb;exact⟨_,_,hh⟩;cases hb;exact R.zs b c hb
  . intro i hi;unfold cK;have:rs[i]? = none:=List.getElem?_eq_none (by have:(af.ofList bH).next=bH.length:=rfl;omega);rw[this]
  intro i o p ho hp b hb;rw[af.bG] at ho;obtain⟨n,oS,h1,h2,h3⟩:=hand i o ho;unfold cK at hp;rw[h1] at hp;obtain⟨q1,q2,q3⟩:=R.sat n oS p h2 hp b hb;refine⟨q1,?_,q3⟩;unfold ld;rw[if_neg (Yl n oS p b (List.mem_of_getElem? h1) h2 hp (.inr hb))];exact q2
 refine⟨R0,?_⟩
 intro w' xE yE u mv JK
  -- names turned back
 generalize Ym:rs.take ak=rk at *;have hrkl:rk.length=ak:=by rw[<-Ym];simp;omega
 have hrkn:rk.Nodup:=by rw[<-Ym];exact hnd.sublist (List.take_sublist _ _)
 have hrkm:∀(i:Nat) n,rk[i]? = some n->i<ak/\rs[i]? = some n:=by
  intro i n h;have hi:=(List.getElem?_eq_some_iff.1 h).1;rw[<-Ym,List.getElem?_take] at h;split at h;rename_i hh;exact⟨hh,h⟩;cases h
 have Gv:∀ n o,(fO S (rs.drop ak)).get n=some o->S.get n=some o/\n ∉ rs.drop ak:=fun n o h=>xB h;have hnrs : ∀ n o, (fO S (rs.drop ak)).get n = some o → idxOf rk n = none → idxOf rs n = none := by
  intro n o ho e;cases e':idxOf rs n with
  | none=>rfl
  | some i =>
    have hi:=gI e';exfalso;rcases Nat.lt_or_ge i ak with hh|hh;refine sF e i ?_;rw[<-Ym,List.getElem?_take,if_pos hh];exact hi;refine(Gv n o ho).2 ?_;refine List.mem_of_getElem? (i:=i-ak) ?_;rw[List.getElem?_drop,show ak+(i-ak)=i by omega];exact hi
 have MQ:∀ n∈rk,∃ o,(fO S (rs.drop ak)).get n=some o:=by
  intro n hn;obtain⟨i,hi⟩:=List.getElem?_of_mem hn;obtain⟨hik,hi'⟩:=hrkm i n hi;obtain⟨o,ho⟩:=hin n (List.mem_of_getElem? hi');refine⟨o,?_⟩;rw[zH];exact ho;intro hd;obtain⟨j,hj⟩:=List.getElem?_of_mem hd;rw[List.getElem?_drop] at hj;have:=(List.getElem?_inj (List.getElem?_eq_some_iff.1 hi').1 hnd).1 (hi'.trans hj.symm);omega
 have RS:∀ n∈rk,n<S.next:=fun n hn=>by
  obtain⟨o,ho⟩:=MQ n hn;exact R.known n o (Gv n o ho).1
 let aC:Eta:=fun n=>match idxOf rk n with|some i=>xE i|none=>if S.next<=n then xE (rk.length+(n-S.next)) else η n
 let Z':ar:=fun b=>if Seen η S ms b then none else yE b;have VK:∀(i:Nat) n,rk[i]? = some n->aC n=xE i:=by
  intro i n h;show (match idxOf rk n with|some i=>xE i|none=>_)=_;rw[VI hrkn h]
 have hidxN:∀ n,S.next<=n->idxOf rk n=none:=by
  intro n hn;cases e:idxOf rk n with
  | none=>rfl
  | some i=>have:=RS n (List.mem_of_getElem? (gI e));omega
 have VL:∀ n,S.next<=n->aC n=xE (rk.length+(n-S.next)):=by
  intro n hn;show (match idxOf rk n with|some i=>xE i|none=>_)=_;rw[hidxN n hn];simp only[if_pos hn]
 have hη3:∀ n,n<S.next->idxOf rk n=none->aC n=η n:=by
  intro n hn e;show (match idxOf rk n with|some i=>xE i|none=>_)=_;rw[e];simp only[if_neg (Nat.not_le.2 hn)]
 have hup:∀ n m,sZ rk S.next n=some m->∀ p,xE n=some p->aC m=some p:=by
  intro n m e p hp;unfold sZ at e;split at e;rw[VK n m e];exact hp
  . rename_i hn;cases e;rw[VL _ (by omega),show rk.length+(S.next+(n-rk.length)-S.next)=n by omega];exact hp
 have hzz:r0.dQ=true∨yE.le Z':=by
  rcases hz with rfl|hz;right;intro b c h;show (if Seen η S [] b then none else yE b)=_;rw[if_neg (by rintro⟨m,hm,_⟩;simp at hm)];exact h;exact .inl hz.1
 have hzo:∀(i:Nat) o,ef[i]? = some o->o.dQ=true∨yE.le Z':=by
  intro i o ho;rcases hz with rfl|hz;right;intro b c h;show (if Seen η S [] b then none else yE b)=_;rw[if_neg (by rintro⟨m,hm,_⟩;simp at hm)];exact h;exact .inl (List.all_eq_true.1 hz.2 o (List.mem_of_getElem? ho))
 have VN:∀ b,Own (cK η rs) (.ofList bH) b->Own η S b:=by
  rintro b ⟨i,o,p,ho,hp,hb⟩;rw[af.bG] at ho;obtain⟨n,oS,h1,h2,h3⟩:=hand i o ho;unfold cK at hp;rw[h1] at hp;exact⟨n,oS,p,h2,hp,hb⟩
 have hget:=VJ (S:=fO S (rs.drop ak)) (os:=jG) hrkn (by omega) MQ (fun n o h=>by rw[oO];exact R.known n o (Gv n o h).1);rw[oO] at hget;have RT:((fO S (rs.drop ak)).fN rk jG).next=S.next+(ef.length-rk.length):=by rw[RR,hl3,oO]
 -- where an object of the new store comes from
 have src : ∀ n o, ((fO S (rs.drop ak)).fN rk jG).get n = some o → (∃(i : Nat)(o1 : Ob), ef[i]? = some o1 ∧ o1.ren (sZ rk S.next) = some o ∧ aC n = xE i ∧ sZ rk S.next i = some n) ∨ (idxOf rs n = none ∧ n < S.next ∧ S.get n = some o ∧ aC n = η n) := by
  intro n o ho;rw[hget] at ho;cases e:idxOf rk n with
  | some i =>
    rw[e] at ho;obtain⟨o1,h1,h2⟩:=hg3 i o ho;have hi:=gI e;refine .inl ⟨i,o1,h1,h2,VK i n hi,?_⟩;unfold sZ;rw[if_pos (List.getElem?_eq_some_iff.1 hi).1];exact hi
  | none =>
    rw[e] at ho;simp only at ho;split at ho;rename_i hn;obtain⟨o1,h1,h2⟩:=hg3 _ o ho;refine .inl ⟨_,o1,h1,h2,VL n hn,?_⟩;unfold sZ;rw[if_neg (by omega)];congr 1;omega;rename_i hn;exact .inr ⟨hnrs n o ho e,by omega,(Gv n o ho).1,hη3 n (by omega) e⟩
 have vV:∀ n o p b,idxOf rs n=none->S.get n=some o->η n=some p->p.has b->¬Own (cK η rs) (.ofList bH) b:=by
  rintro n o p b e ho hp hb0 ⟨i,o',q,ho',hq,hb⟩;rw[af.bG] at ho';obtain⟨k,oS,h1,h2,h3⟩:=hand i o' ho';unfold cK at hq;rw[h1] at hq;exact R.jU k n oS o q p b h2 ho (fun hh=>by subst hh;exact sF e i h1) hq hp hb hb0
 have hle':η.le aC:=by
  intro n p hp;cases e:idxOf rk n with
  | some i =>
    have hi:=gI e;rw[VK i n hi];obtain⟨hik,hi'⟩:=hrkm i n hi;refine mv.le i p hik ?_;unfold cK;rw[hi'];exact hp
  | none=>rw[hη3 n (R.lt hp) e];exact hp
 have Yn:Z.le Z':=by
  intro b c h;show (if Seen η S ms b then none else yE b)=_;rw[if_neg (by
   rintro⟨m,_,o,p,ho,hp,hb⟩;rw[(R.all ho hp hb).2.1] at h;cases h)]
  exact mv.step.cI b c (hZle b c h)
 have old : ∀ n o p, idxOf rs n = none → S.get n = some o → η n = some p → ∀ b, p.has b → Z' b = none := by
  intro n o p e hS hp b hb;have hlt:=R.jV hS hp hb;have hno:=vV n o p b e hS hp hb;show (if Seen η S ms b then none else yE b)=_;split;rfl;rename_i hns;cases hc:yE b with
  | none=>rfl
  | some c =>
    rcases mv.step.iD _ c hc with hh|hh|hh;unfold ld at hh;rw[if_neg hns,(R.all hS hp hb).2.1] at hh;cases hh;exact absurd hh hno;omega
 refine⟨aC,Z',⟨hle',⟨?_,?_,?_,?_,?_,?_,mv.st.iq,?_⟩,⟨mv.step.os,mv.step.tape,mv.step.output,mv.step.size,?_,?_,Yn,?_,af.Pz.trans xC⟩⟩,A.kz hup hzz hr JK⟩;intro n o p ho hp;rcases src n o ho with ⟨i,o1,h1,h2,h3,_⟩|⟨e,hn,hS,h3⟩;rw[h3] at hp;obtain⟨a,b,L⟩:=mv.st.aj i o1 p (by rw[af.bG];exact h1) hp;refine⟨a,?_,L.ren hup (hzo i o1 h1) h2⟩;show (if Seen η S ms p.block then none else yE p.block)=_;rw[b];split<;>rfl;rw[h3] at hp;obtain⟨a,b,L⟩:=R.aj n o p hS hp;exact⟨a,old n o p e hS hp _ p.iH,L.mono hle' Yn fun b hb=>mv.step.block b (R.jV hS hp hb) (vV n o p b e hS hp hb)⟩;intro n o ho hp;rcases src n o ho with ⟨i,o1,h1,h2,h3,_⟩|⟨e,hn,hS,h3⟩;rw[h3] at hp;have h4:=mv.st.cG i o1 (by rw[af.bG];exact h1) hp;have h5:=(Ob.uh h2).2.1;rw[h4] at h5;exact List.eq_nil_of_length_eq_zero h5;rw[h3] at hp;exact R.cG n o hS hp;intro n o ho;rw[RT];rcases src n o ho with ⟨i,o1,h1,h2,h3,h4⟩|⟨e,hn,hS,h3⟩;have hi:=(List.getElem?_eq_some_iff.1 h1).1;unfold sZ at h4;split at h4;have:=RS n (List.mem_of_getElem? h4);omega;cases h4;omega;omega;intro n n' o o' p p' b ho ho' hne hp hp' hb hb';rcases src n o ho with ⟨i,o1,h1,h2,h3,h4⟩|⟨e,hn,hS,h3⟩;rw[h3] at hp;rcases src n' o' ho' with ⟨i',o1',h1',h2',h3',h4'⟩|⟨e',hn',Yo,h3'⟩;rw[h3'] at hp';refine mv.st.jU i i' o1 o1' p p' b (by rw[af.bG];exact h1) (by rw[af.bG];exact h1') ?_ hp hp' hb hb';rintro rfl;rw[h4] at h4';cases h4';exact hne rfl;rw[h3'] at hp';rcases mv.step.own b ⟨i,o1,p,by rw[af.bG];exact h1,hp,hb⟩ with hh|hh;exact vV n' o' p' b e' Yo hp' hb' hh;have:=R.jV Yo hp' hb';omega;rw[h3] at hp;rcases src n' o' ho' with ⟨i',o1',h1',h2',h3',h4'⟩|⟨e',hn',Yo,h3'⟩;rw[h3'] at hp';rcases mv.step.own b ⟨i',o1',p',by rw[af.bG];exact h1',hp',hb'⟩ with hh|hh;exact vV n o p b e hS hp hb hh;have:=R.jV hS hp hb;omega;rw[h3'] at hp';exact R.jU n n' o o' p p' b hS Yo hne hp hp' hb hb';intro b c hb;have hb':(if Seen η S ms b then none else yE b)=some c:=hb;split at hb';cases hb';exact mv.st.zs b c hb';intro n hn;rw[RT] at hn;rw[VL n (by omega)];refine mv.st.fresh _ ?_;show ef.length<=_;omega;intro n o p ho hp b hb;rcases src n o ho with ⟨i,o1,h1,h2,h3,_⟩|⟨e,hn,hS,h3⟩;rw[h3] at hp;obtain⟨q1,q2,q3⟩:=mv.st.sat i o1 p (by rw[af.bG];exact h1) hp b hb;refine⟨q1,?_,q3⟩;show (if Seen η S ms b then none else yE b)=_;rw[q2];split<;>rfl;rw[h3] at hp;obtain⟨q1,q2,ob,q3,q4⟩:=R.sat n o p hS hp b hb;exact⟨q1,old n o p e hS hp b (.inr hb),ob,(mv.step.block b (R.jV hS hp (.inr hb)) (vV n o p b e hS hp (.inr hb))).trans q3,q4⟩;intro b hb hno;exact mv.step.block b hb fun hh=>hno (VN b hh);rintro b ⟨n,o,p,ho,hp,hb⟩;rcases src n o ho with ⟨i,o1,h1,h2,h3,_⟩|⟨e,hn,hS,h3⟩;rw[h3] at hp;rcases mv.step.own b ⟨i,o1,p,by rw[af.bG];exact h1,hp,hb⟩ with hh|hh;exact .inl (VN _ hh);exact .inr hh;rw[h3] at hp;exact .inl ⟨n,o,p,hS,hp,hb⟩;intro b c hb;have hb':(if Seen η S ms b then none else yE b)=some c:=hb;split at hb';cases hb';rename_i hns;rcases mv.step.iD b c hb' with hh|hh|hh;unfold ld at hh;rw[if_neg hns] at hh;exact .inl hh;exact .inr (.inl (VN b hh));exact .inr (.inr hh)
open Classical in
theorem D7{f:FuncId}{S:af}{rs ms:List Nat}{args sG:List A}{eG bH ef jG:List Ob}{r0 r:A}{ak:Nat}(xG:fQ P f ak sG bH r0 ef)(hnd:rs.Nodup)(rR:∀ m∈ms,m ∉ rs)
 (eY:gU S rs=some eG) (gQ:gH (idxOf rs) eG=some bH) (hkr:ak<=rs.length) (bO:ak<=ef.length) (hr:r0.ren (sZ (rs.take ak) S.next)=some r) (hos:gH (sZ (rs.take ak) S.next) ef=some jG)
 (hz:ms=[]∨(r0.dQ=true/\ef.all Ob.dQ=true))
 (hargs:∀ base η Z w vs,St base η Z S w->aL (cw η Z) args vs->aL (cw (cK η rs) (ld η Z S w ms)) sG vs):JJ P f args S r ((fO S (rs.drop ak)).fN (rs.take ak) jG):=by
 intro base η Z w vs R hvs hK;obtain⟨R0,hgo⟩:=xD hnd rR eY gQ hkr bO hr hos hz R;refine(xG base _ _ w vs R0 (hargs base η Z w vs R hvs) (hK.mono (sJ R ms))).mono ?_;rintro e w' ⟨u,eU,Z1,rfl,mv,JK⟩;obtain⟨aC,Z',a,b⟩:=hgo w' eU Z1 u mv JK;exact⟨u,aC,Z',rfl,a,b⟩
end
structure cT where
 cB:List Bool
 ak:Option Nat:=none
 f:List A->List Ob->Option (Cd×A×List Ob)
 roots:Option (List Bool):=none
 rev:Bool:=false
abbrev cg:=List (FuncId×cT)
def look:cg->FuncId->Option cT
 | [],_=>none
 | (g,c)::l,f=>bif Nat.beq g f then some c else look l f
def enters (P:Program) (f:FuncId):Bool:=match P.funcs[f]? with|some fn=>fn.body.isSome&&!(fn.name == "runtime.NumGoroutine")|none=>false
structure bE(P:Program)(f:FuncId)(con:cT):Prop where
 enters:enters P f=true
 sem:∀ args aj c r aY,con.f args aj=some (c,r,aY)->c->fQ P f (con.ak.getD aj.length) args aj r aY
def bp(P:Program)(Γ:cg):Prop:=∀ f con,look Γ f=some con->bE P f con
theorem aK{P:Program}:bp P []:=fun _ _ h=>by cases h
theorem aq{P:Program}{f:FuncId}{con:cT}{Γ:cg}(h:bE P f con)(cC:bp P Γ):bp P ((f,con)::Γ):=by
 intro g con' e;simp only[look] at e;cases hb:Nat.beq f g with
 | true=>rw[hb] at e;cases e;have:=Nat.eq_of_beq_eq_true hb;subst this;exact h
 | false=>rw[hb] at e;exact cC g con' e
noncomputable def Ba(S:af):W->Option (Cd×List Int×List Nat)
 | .sl m off len sz=>bif Nat.beq sz 1 then match S.get m with
  | some o=>match Fd.list (.int .i64) o.fs with
    | some l=>some (.p (off+len<=List.length (α:=Int) l),(List.drop (α:=Int) off l).take len,[m])
    | none=>none
  | none=>none
   else none
 | .row n i len=>match tZ S n with
   | some (k,av)=>some (.p (i<av.length/\len=k),av.getD i [],[n])
   | none=>none
 | .rd (.int .i64) l=>some (.t,l,[])
 | _=>none
noncomputable def JL(S:af):W->Option (Cd×W×List Nat)
 | .sl m off len sz=>bif Nat.beq sz 1 then match S.get m with
  | some o=>match o.fs with
    | [.a _ d l]=>some (.p (off+len<=l.length),.rd d ((l.drop off).take len),[m])
    | [.c x,.c y]=>bif Nat.beq off 0&&Nat.beq len 2 then match Ba S x,Ba S y with
      | some (c1,l1,D8),some (c2,l2,MR)=>some (.and c1 c2,.rd (.sl (.int .i64)) [l1,l2],m::(D8++MR))
      | _,_=>none
      else none
    | _=>none
  | none=>none
   else none
 | .row n i len=>match tZ S n with
   | some (k,av)=>some (.p (i<av.length/\len=k),.rd (.int .i64) (av.getD i []),[n])
   | none=>none
 | x=>bif x.clean then some (.t,x,[]) else none
noncomputable def Yp(S:af):W->Option (Cd×W×List Nat)
 | .sl m off len sz=>match S.get m with
   | some o=>match Fd.list .pv o.fs with
     | some l=>some (.p (off+len*sz<=List.length (α:=PV) l),.rs sz ((List.drop (α:=PV) off l).take (len*sz)),[m])
     | none=>none
   | none=>none
 | _=>none
noncomputable def Ib(S:af)(x:W):Option (Cd×W×List Nat):=match JL S x with
 | some r=>some r
 | none=>Yp S x
noncomputable def zI(S:af):List W->Option (Cd×List W×List Nat)
 | []=>some (.t,[],[])
 | x::l=>match Ib S x,zI S l with|some (c,y,ms),some (c',ys,ms')=>some (.and c c',y::ys,ms++ms')|_,_=>none
noncomputable def D9(S:af):V->Option (Cd×V×List Nat)
 | .c x=>match Ib S x with|some (c,y,ms)=>some (c,.c y,ms)|none=>none
 | .agg cs=>match zI S cs with|some (c,ys,ms)=>some (c,.agg ys,ms)|none=>none
noncomputable def qL(S:af):List Bool->List V->Option (Cd×List V×List Nat)
 | _,[]=>some (.t,[],[])
 | true::bs,v::vs=>match qL S bs vs with|some (c,ys,ms)=>some (c,v::ys,ms)|none=>none
 | false::bs,v::vs=>match D9 S v,qL S bs vs with|some (c,y,ms),some (c',ys,ms')=>some (.and c c',y::ys,ms++ms')|_,_=>none
 | [],v::vs=>match D9 S v,qL S [] vs with|some (c,y,ms),some (c',ys,ms')=>some (.and c c',y::ys,ms++ms')|_,_=>none
def nP(η:Eta)(S:af)(w:World)(ms:List Nat)(Z':ar):Prop:=∀ m∈ms,∀ o p,S.get m=some o->η m=some p->(¬o.gj->∃ c ty fz,w.heap[p.block]? = some (.cells c ty fz)/\Z' p.block=some c)/\∀ k av,o.jT k av->∀ b∈p.sats,∃ c ty fz,w.heap[b]? = some (.cells c ty fz)/\Z' b=some c
section
variable {P:Program} {base:Nat} {η:Eta} {Z Z':ar} {S:af} {w:World}
theorem nP.left{ms ms':List Nat}(h:nP η S w (ms++ms') Z'):nP η S w ms Z':=fun m hm=>h m (by simp[hm])
theorem nP.right{ms ms':List Nat}(h:nP η S w (ms++ms') Z'):nP η S w ms' Z':=fun m hm=>h m (by simp[hm])
theorem GA(R : St base η Z S w)(hle : Z.le Z'){x : W}{c : Cd}{l : List Int}{ms : List Nat}(e : Ba S x = some (c, l, ms))(hc : c)(hs : nP η S w ms Z'){v : Value}(r : au η Z x v) : cA Z' (.sl (.int .i64)) l v := by
 unfold Ba at e;split at e
 · rename_i m off len sz
   obtain⟨h1,e1⟩:=ah.aA e;have h1':sz=1:=Nat.eq_of_beq_eq_true h1;subst h1';clear e;split at e1
   · rename_i o ho
     split at e1
     · rename_i l hfs
       cases e1;have hc':off+len<=List.length (α:=Int) l:=hc;have bM:o.cells=l.map (D.int .i64).w:=Fd.gP hfs;simp only[au] at r;rcases r with ⟨h0,rfl⟩|⟨p,cap,ad,hp,rfl,hcap,hroom,had⟩;subst h0;exact⟨none,0,0,rfl,by simp,Nat.le_refl _,.inl (by simp)⟩;by_cases h0:len=0;subst h0;exact⟨some ad,0,cap,rfl,by simp,Nat.zero_le _,.inl (by simp)⟩;obtain⟨cs,ty,fz,hh,hz⟩:=(hs m (by simp) o p ho hp).1 (Ob.gG bM);obtain⟨_,_,L⟩:=R.aj m o p ho hp;obtain⟨c',zm,hc1,_,hv,_⟩:=L.there (Ob.gG bM);rw[hh] at hc1;cases hc1;refine⟨some ad,len,cap,rfl,by simp;omega,hcap,.inr ⟨p.block,p.off+off,cs,?_,hz,?_⟩⟩;rcases had with h|h;omega;rw[h];intro i x hx;have hx':o.cells[off+i]? = some ((D.int .i64).w x):=by
        have hx:(List.take len (List.drop (α:=Int) off l))[i]? = some x:=hx;rw[List.getElem?_take] at hx;split at hx;rw[List.getElem?_drop] at hx;rw[bM,List.getElem?_map];have hx:(show List Int from l)[off+i]? = some x:=hx;exact congrArg (Option.map (D.int .i64).w) hx;cases hx
       obtain⟨u,h1,h2,_⟩:=hv _ _ hx';exact⟨u,by rw[<-h1];congr 1;omega,cA.mono hle (.int .i64) ((D.fe (.int .i64)).1 h2)⟩
     cases e1
   cases e1
 rename_i m i len;split at e;rename_i k av hk;obtain⟨o,ho,_,hto⟩:=nu hk;cases e;obtain⟨hi,rfl⟩:=(hc:i<av.length/\len=k);obtain⟨p,r0,cap,ad,hp,hr,rfl,hcap,had⟩:=r;obtain⟨_,_,L⟩:=R.aj m o p ho hp;have T:=L.tabs _ av hto;have RP:av.getD i []=av[i]:=by rw[List.getD_eq_getElem?_getD,List.getElem?_eq_getElem hi];rfl
 obtain⟨hl,c1,t1,fz1,q1,_,q3,_⟩:=T.row i r0 av[i] hr (List.getElem?_eq_getElem hi);obtain⟨c2,t2,fz2,q4,q5⟩:=(hs m (by simp) o p ho hp).2 _ av hto r0.1 (List.mem_map.2 ⟨r0,List.mem_of_getElem? hr,rfl⟩);rw[q1] at q4;cases q4;rw[RP];rcases Nat.eq_zero_or_pos len with h0|h0;exact⟨_,len,cap,rfl,hl,hcap,.inl (List.eq_nil_of_length_eq_zero (hl.trans h0))⟩;have had:=had h0;subst had;refine⟨_,len,cap,rfl,hl,hcap,.inr ⟨r0.1,r0.2,c1,rfl,q5,fun j x hx=>⟨_,q3 j x hx,?_⟩⟩⟩;simp only[cA];cases e;cases e;simp only[au,aH] at r;exact cA.mono hle _ r;cases e
theorem JM{x:W}{c:Cd}{l:List Int}{ms:List Nat}(e:Ba S x=some (c,l,ms)):x≠.mh/\∀ k av,x≠.th k av:=by
 refine⟨?_,fun k av=>?_⟩<;>rintro rfl<;>simp only[Ba] at e<;>cases e
theorem PB(R : St base η Z S w)(hle : Z.le Z'){x y : W}{c : Cd}{ms : List Nat}(e : JL S x = some (c, y, ms))(hc : c)(hs : nP η S w ms Z'){v : Value}(r : au η Z x v)(hx : x ≠ .cX) : au η Z' y v ∧ y ≠ .cX := by
 unfold JL at e;split at e
 · rename_i m off len sz
   obtain⟨h1,e1⟩:=ah.aA e;have h1':sz=1:=Nat.eq_of_beq_eq_true h1;subst h1';clear e;split at e1
   · rename_i o ho
     split at e1;rename_i k d l hfs;cases e1;have hc':off+len<=l.length:=hc;refine⟨?_,by simp⟩;have bM:o.cells=l.map d.w:=by unfold Ob.cells;rw[hfs];simp[Fd.cells]
     simp only[au,aH];rcases r with ⟨h0,rfl⟩|⟨p,cap,ad,hp,rfl,hcap,hroom,had⟩;subst h0;exact⟨none,0,0,rfl,by simp,Nat.le_refl _,.inl (by simp)⟩;by_cases h0:len=0;subst h0;exact⟨some ad,0,cap,rfl,by simp,Nat.zero_le _,.inl (by simp)⟩;obtain⟨cs,ty,fz,hh,hz⟩:=(hs m (by simp) o p ho hp).1 (Ob.gG bM);obtain⟨_,_,L⟩:=R.aj m o p ho hp;obtain⟨c',zm,hc1,_,hv,_⟩:=L.there (Ob.gG bM);rw[hh] at hc1;cases hc1;refine⟨some ad,len,cap,rfl,by simp;omega,hcap,.inr ⟨p.block,p.off+off,cs,?_,hz,?_⟩⟩;rcases had with h|h;omega;rw[h];intro i x hx;have hx':o.cells[off+i]? = some (d.w x):=by
      rw[List.getElem?_take] at hx;split at hx;rw[List.getElem?_drop] at hx;rw[bM];simp[hx];cases hx
     obtain⟨u,h1,h2,_⟩:=hv _ _ hx';exact⟨u,by rw[<-h1];congr 1;omega,cA.mono hle d ((D.fe d).1 h2)⟩;rename_i x y hfs;obtain⟨h2,e2⟩:=ah.aA e1;clear e1;simp only[Bool.and_eq_true] at h2;have hoff:=Nat.eq_of_beq_eq_true h2.1;have bO:=Nat.eq_of_beq_eq_true h2.2;subst hoff bO;split at e2;rename_i c1 l1 D8 c2 l2 MR g1 g2;cases e2;refine⟨?_,by simp⟩;have bM:o.cells=[x,y]:=by unfold Ob.cells;rw[hfs];rfl
     have hnm:¬o.gj:=by
      rintro (hm|⟨k,av,hm⟩);unfold Ob.isMap at hm;rw[bM] at hm;cases hm;exact(JM g1).1 rfl;unfold Ob.jT at hm;rw[bM] at hm;cases hm;exact(JM g1).2 _ _ rfl
     simp only[au,aH];rcases r with ⟨h0,rfl⟩|⟨p,cap,ad,hp,rfl,hcap,hroom,had⟩;cases h0;obtain⟨cs,ty,fz,hh,hz⟩:=(hs m (by simp) o p ho hp).1 hnm;obtain⟨_,_,L⟩:=R.aj m o p ho hp;obtain⟨c',zm,hc1,_,hv,_⟩:=L.there hnm;rw[hh] at hc1;cases hc1;have hs1:nP η S w D8 Z':=fun q hq=>hs q (by simp[hq]);have hs2:nP η S w MR Z':=fun q hq=>hs q (by simp[hq]);refine⟨some ad,2,cap,rfl,rfl,hcap,.inr ⟨p.block,p.off+0,cs,?_,hz,?_⟩⟩;rcases had with h|h;omega;rw[h]
     . intro i z hz'
       match i,hz' with
       | 0,hz' =>
         cases hz';obtain⟨u,h1,h2,_⟩:=hv 0 x (by rw[bM];rfl);exact⟨u,h1,GA R hle g1 hc.1 hs1 h2⟩
       | 1,hz' =>
         cases hz';obtain⟨u,h1,h2,_⟩:=hv 1 y (by rw[bM];rfl);exact⟨u,h1,GA R hle g2 hc.2 hs2 h2⟩
       | i+2,hz'=>cases hz'
     cases e2;cases e1
   cases e1
 rename_i m i len;split at e;rename_i k av hk;obtain⟨o,ho,_,hto⟩:=nu hk;cases e;obtain⟨hi,rfl⟩:=(hc:i<av.length/\len=k);obtain⟨p,r0,cap,ad,hp,hr,rfl,hcap,had⟩:=r;obtain⟨_,_,L⟩:=R.aj m o p ho hp;have T:=L.tabs _ av hto;have RP:av.getD i []=av[i]:=by rw[List.getD_eq_getElem?_getD,List.getElem?_eq_getElem hi];rfl
 obtain⟨hl,c1,t1,fz1,q1,_,q3,_⟩:=T.row i r0 av[i] hr (List.getElem?_eq_getElem hi);obtain⟨c2,t2,fz2,q4,q5⟩:=(hs m (by simp) o p ho hp).2 _ av hto r0.1 (List.mem_map.2 ⟨r0,List.mem_of_getElem? hr,rfl⟩);rw[q1] at q4;cases q4;refine⟨?_,by simp⟩;simp only[au,aH];rw[RP];rcases Nat.eq_zero_or_pos len with h0|h0;exact⟨_,len,cap,rfl,hl,hcap,.inl (List.eq_nil_of_length_eq_zero (hl.trans h0))⟩;have had:=had h0;subst had;refine⟨_,len,cap,rfl,hl,hcap,.inr ⟨r0.1,r0.2,c1,rfl,q5,fun j x hx=>⟨_,q3 j x hx,?_⟩⟩⟩;simp only[cA];cases e;obtain⟨h1,e1⟩:=ah.aA e;cases e1;exact⟨r.mono (Eta.le.refl _) hle,hx⟩
theorem GD(R : St base η Z S w)(hle : Z.le Z'){x y : W}{c : Cd}{ms : List Nat}(e : Ib S x = some (c, y, ms))(hc : c)(hs : nP η S w ms Z'){v : Value}(r : au η Z x v)(hx : x ≠ .cX) : au η Z' y v ∧ y ≠ .cX := by
 unfold Ib at e;split at e;rename_i r' hr;cases e;exact PB R hle hr hc hs r hx;unfold Yp at e;split at e
 · rename_i m off len sz _
   split at e
   · rename_i o ho
     split at e
     · rename_i l hfs
       cases e;have hc':off+len*sz<=List.length (α:=PV) l:=hc;have bM:o.cells=l.map (D.w .pv):=Fd.gP hfs;refine⟨au.X7 ?_,by simp⟩;rcases r with ⟨h0,rfl⟩|⟨p,cap,ad,hp,rfl,hcap,hroom,had⟩;subst h0;exact⟨none,0,0,rfl,by simp,Nat.le_refl _,.inl (by simp)⟩;by_cases h0:len=0;subst h0;exact⟨some ad,0,cap,rfl,by simp,Nat.zero_le _,.inl (by simp)⟩;obtain⟨cs,ty,fz,hh,hz⟩:=(hs m (by simp) o p ho hp).1 (Ob.gG bM);obtain⟨_,_,L⟩:=R.aj m o p ho hp;obtain⟨c',zm,hc1,_,hv,_⟩:=L.there (Ob.gG bM);rw[hh] at hc1;cases hc1;refine⟨some ad,len,cap,rfl,by rw[List.length_take,List.length_drop];omega,hcap,.inr ⟨p.block,p.off+off,cs,?_,hz,?_⟩⟩;rcases had with h|h;omega;rw[h];intro i x hx;have hx':o.cells[off+i]? = some (D.w .pv x):=by
        rw[List.getElem?_take] at hx;split at hx;rw[List.getElem?_drop] at hx;rw[bM,List.getElem?_map];exact congrArg (Option.map (D.w .pv)) hx;cases hx
       obtain⟨u,h1,h2,_⟩:=hv _ _ hx';exact⟨u,by rw[<-h1];congr 1;omega,cA.mono hle .pv ((D.fe .pv).1 h2)⟩
     cases e
   cases e
 cases e
theorem Ea(R:St base η Z S w)(hle:Z.le Z'):∀{l r:List W}{c:Cd}{ms:List Nat}{vs:List Value},zI S l=some (c,r,ms)->c->nP η S w ms Z'->aL (au η Z) l vs->(∀ x∈l,x≠.cX)->aL (au η Z') r vs/\∀ x∈r,x≠.cX
 | [],r,c,ms,vs,e,_,_,hl,_=>by simp only[zI] at e;cases e;cases vs with|nil=>exact⟨trivial,by simp⟩|cons _ _=>exact hl.elim
 | x :: l, r, c, ms, vs, e, hc, hs, hl, hd => by
   simp only[zI] at e;split at e
   . rename_i c1 y D8 c2 ys MR h1 h2;cases e;cases vs with
     | nil=>exact hl.elim
     | cons v vs =>
       obtain⟨a,b⟩:=GD R hle h1 hc.1 hs.left hl.1 (hd x (by simp));obtain⟨a',b'⟩:=Ea R hle h2 hc.2 hs.right hl.2 (fun z hz=>hd z (by simp[hz]));refine⟨⟨a,a'⟩,fun z hz=>?_⟩;rcases List.mem_cons.1 hz with rfl|hz;exact b;exact b' z hz
   cases e
theorem GF(R:St base η Z S w)(hle:Z.le Z'){x y:V}{c:Cd}{ms:List Nat}(e:D9 S x=some (c,y,ms))(hc:c)(hs:nP η S w ms Z'){v:Value}(r:cV η Z x v):cV η Z' y v:=by
 cases x with
 | c x =>
   simp only[D9] at e;split at e;rename_i c1 y' D8 h1;cases e;obtain⟨a,b⟩:=GD R hle h1 hc hs r.2 r.1;exact⟨b,a⟩;cases e
 | agg cs =>
   simp only[D9] at e;split at e;rename_i c1 ys D8 h1;cases e;obtain⟨vs,hv,hd,hl⟩:=r;obtain⟨a,b⟩:=Ea R hle h1 hc hs hl hd;exact⟨vs,hv,b,a⟩;cases e
theorem oP(R:St base η Z S w)(hle:Z.le Z'):∀{bs:List Bool}{l r:List V}{c:Cd}{ms:List Nat}{vs:List Value},qL S bs l=some (c,r,ms)->c->nP η S w ms Z'->aL (cV η Z) l vs->aL (cV η Z') r vs
 | bs,[],r,c,ms,vs,e,_,_,hl=>by
   have:(c,r,ms)=(.t,[],[]):=by cases bs<;>(simp only[qL] at e;cases e;rfl)
   cases this;cases vs with
   | nil=>trivial
   | cons _ _=>exact hl.elim
 | true::bs,x::l,r,c,ms,vs,e,hc,hs,hl=>by
   simp only[qL] at e;split at e
   . rename_i c1 ys D8 h1;cases e;cases vs with
     | nil=>exact hl.elim
     | cons v vs=>exact⟨hl.1.mono (Eta.le.refl _) hle,oP R hle h1 hc hs hl.2⟩
   cases e
 | false::bs,x::l,r,c,ms,vs,e,hc,hs,hl=>by
   simp only[qL] at e;split at e
   . rename_i c1 y D8 c2 ys MR h1 h2;cases e;cases vs with
     | nil=>exact hl.elim
     | cons v vs=>exact⟨GF R hle h1 hc.1 hs.left hl.1,oP R hle h2 hc.2 hs.right hl.2⟩
   cases e
 | [],x::l,r,c,ms,vs,e,hc,hs,hl=>by
   simp only[qL] at e;split at e
   . rename_i c1 y D8 c2 ys MR h1 h2;cases e;cases vs with
     | nil=>exact hl.elim
     | cons v vs=>exact⟨GF R hle h1 hc.1 hs.left hl.1,oP R hle h2 hc.2 hs.right hl.2⟩
   cases e
theorem RU(R:St base η Z S w)(ms:List Nat):nP η S w ms (ld η Z S w ms):=by
 intro m hm o p ho hp;obtain⟨_,_,L⟩:=R.aj m o p ho hp;refine⟨fun hmo=>?_,fun k av ht b hb=>?_⟩;obtain⟨c,fz,hc,_⟩:=L.there hmo;refine⟨c,o.ty,fz,hc,?_⟩;unfold ld;rw[if_pos ⟨m,hm,o,p,ho,hp,.inl rfl⟩,hc];obtain⟨c,t,fz,hc⟩:=(L.tabs k av ht).sat hb;refine⟨c,t,fz,hc,?_⟩;unfold ld;rw[if_pos ⟨m,hm,o,p,ho,hp,.inr hb⟩,hc]
theorem zJ : ∀{ms : List Nat}{S : af}{Z : ar}, St base η Z S w → ∃ Z', bJ base η Z S w η Z' (fO S ms) w ∧ nP η S w ms Z'
 | [],S,Z,R=>⟨Z,bJ.refl R,fun m hm=>by simp at hm⟩
 | m :: ms, S, Z, R => by
   have key : ∃ Z1, bJ base η Z S w η Z1 (S.del m) w ∧ ∀ o p, S.get m = some o → η m = some p → (¬o.gj → ∃ c ty fz, w.heap[p.block]? = some (.cells c ty fz) ∧ Z1 p.block = some c) ∧ ∀ k av, o.jT k av → ∀ b ∈ p.sats, ∃ c ty fz, w.heap[b]? = some (.cells c ty fz) ∧ Z1 b = some c := by
    cases ho:S.get m with
    | none=>exact⟨Z,⟨Eta.le.refl _,R.del m,Step.del m⟩,fun o p h=>by cases h⟩
    | some o =>
      cases hp:η m with
      | none=>exact⟨Z,⟨Eta.le.refl _,R.del m,Step.del m⟩,fun o p _ h=>by cases h⟩
      | some p =>
        by_cases hmo:o.gj;rcases id hmo with hmp|⟨k,av,ht⟩;exact⟨Z,⟨Eta.le.refl _,R.del m,Step.del m⟩,fun o' p' h1 _=>by cases h1;exact⟨fun h3=>absurd hmo h3,fun k av ht=>(Ob.E5 hmp ht).elim⟩⟩;obtain⟨Z1,mv,hs⟩:=R.Rk ho hp ht;refine⟨Z1,mv,fun o' p' h1 h2=>?_⟩;cases h1;cases h2;exact⟨fun h3=>absurd hmo h3,fun _ _ _=>hs⟩;obtain⟨c,ty,fz,hh,mv,_⟩:=R.freeze ho hp hmo;refine⟨_,mv,fun o' p' h1 h2=>?_⟩;cases h1;cases h2;exact⟨fun _=>⟨c,ty,fz,hh,by unfold ar.add;rw[if_pos rfl]⟩,fun k av ht=>absurd (.inr ⟨k,av,ht⟩) hmo⟩
   obtain⟨Z1,Gn,s1⟩:=key;obtain⟨Z2,gF,s2⟩:=zJ (ms:=ms) Gn.st;refine⟨Z2,Gn.trans gF,fun k hk o p ho hp=>?_⟩;by_cases hkm:k=m;subst hkm;obtain⟨t1,t2⟩:=s1 o p ho hp;exact⟨fun hmo=>let ⟨c,ty,fz,h1,h2⟩:=t1 hmo;⟨c,ty,fz,h1,gF.step.cI _ _ h2⟩,fun k' av ht b hb=>let ⟨c,ty,fz,h1,h2⟩:=t2 k' av ht b hb;⟨c,ty,fz,h1,gF.step.cI _ _ h2⟩⟩;rcases List.mem_cons.1 hk with h|h;exact absurd h hkm;exact s2 k h o p (by rw[af.ia,if_neg hkm];exact ho) hp
end
def W.names:W->List Nat
 | .ptr n _=>[n]
 | .pe n _ _=>[n]
 | .sl n _ _ _=>[n]
 | .func _ caps=>caps.map (·.1)
 | .mp n=>[n]
 | .ba n=>[n]
 | .nN _ n _=>[n]
 | .row n _ _=>[n]
 | .o6 n _ _=>[n]
 | _=>[]
def V.names:V->List Nat
 | .c x=>x.names
 | .agg cs=>cs.flatMap W.names
def JN(l:List Nat)(n:Nat):List Nat:=bif l.any (Nat.beq n ·) then l else l++[n]
def qt:List Bool->List V->List Nat->List Nat
 | true::bs,v::vs,acc=>qt bs vs (v.names.foldl JN acc)
 | false::bs,_::vs,acc=>qt bs vs acc
 | _,_,acc=>acc
def refsOf(rev:Bool)(bs:List Bool)(vs:List V):List Nat:=bif rev then qt bs.reverse vs.reverse [] else qt bs vs []
def Fd.names:Fd->List Nat
 | .c x=>x.names
 | .a _ _ _=>[]
 | .m _ _ _=>[]
 | .b _=>[]
def vW(S:af):Nat->List Nat->List Nat
 | 0,rs=>rs
 | k+1,rs=>vW S k (rs.foldl (fun acc n=>match S.get n with|some o=>(o.fs.flatMap Fd.names).foldl JN acc|none=>acc) rs)
def qU:List Nat->Bool
 | []=>true
 | x::l=>!(l.any (Nat.beq x ·))&&qU l
theorem ji:∀{l:List Nat},qU l=true->l.Nodup
 | [],_=>List.nodup_nil
 | x::l,h=>by
   simp only[qU,Bool.and_eq_true,Bool.not_eq_true',List.any_eq_false,Nat.beq_eq] at h;exact List.nodup_cons.2 ⟨fun hx=>h.1 x hx rfl,ji h.2⟩
def Eb(ms rs:List Nat):Bool:=ms.all fun m=>!(rs.any (Nat.beq m ·))
theorem zK{ms rs:List Nat}(h:Eb ms rs=true):∀ m∈ms,m ∉ rs:=by
 intro m hm hr;simp only[Eb,List.all_eq_true,Bool.not_eq_true',List.any_eq_false,Nat.beq_eq] at h;exact h m hm m hr rfl
def Ec(S:af)(n:Nat):Bool:=match S.get n with|some _=>true|none=>false
noncomputable def Ic(Γ:cg)(S:af)(g:FuncId)(args:List V):Option (Cd×A×af×Bool) :=
 match look Γ g with
 | some con =>
   match qL S con.cB args with
   | some (c1, xH, ms) =>
     let rs:=(vW S 2 (refsOf con.rev (con.roots.getD con.cB) args)).filter (Ec S)
     bif qU rs && Eb ms rs then
      match gU S rs with
      | some eG => match gH (idxOf rs) eG, ug (idxOf rs) xH with
        | some bH,some sG=>match con.f (sG.map A.p) bH with
          | some (c2,r0,ef) =>
            let k:=con.ak.getD rs.length
            bif Nat.ble k rs.length&&Nat.ble k ef.length then
             match r0.ren (sZ (rs.take k) S.next),gH (sZ (rs.take k) S.next) ef with
             | some r,some jG=>some (.and c1 c2,r,(fO (bif ms.isEmpty||(r0.dQ&&ef.all Ob.dQ) then S else fO S ms) (rs.drop k)).fN (rs.take k) jG,rs.isEmpty&&(ef.isEmpty&&(ms.isEmpty||(r0.dQ&&ef.all Ob.dQ))))
             | _,_=>none
            else none
          | none=>none
        | _,_=>none
      | none=>none
     else none
   | none=>none
 | none=>none
section
variable {P:Program} {S:af}
theorem jS{η:Eta}{Z:ar}:∀{l:List V}{vs:List Value},aL (cw η Z) (l.map A.p) vs↔aL (cV η Z) l vs
 | [],[]=>Iff.rfl
 | [],_::_=>Iff.rfl
 | _::_,[]=>Iff.rfl
 | x::l,v::vs=>by
   show (cw η Z (.p x) v/\_)↔(cV η Z x v/\_);rw[show aL (cw η Z) (List.map A.p l) vs↔aL (cV η Z) l vs from jS];rfl
theorem u6{ms:List Nat}:∀{rs:List Nat},(∀ m∈ms,m ∉ rs)->gU (fO S ms) rs=gU S rs
 | [],_=>rfl
 | n::rs,h=>by
   simp only[gU];rw[zH (fun hh=>h n hh (by simp)),u6 (fun m hm hr=>h m hm (by simp[hr]))]
theorem JO{Γ : cg}(cC : bp P Γ){g : FuncId}{args : List V}{c : Cd}{r : A}{S' : af}{b : Bool}(e : Ic Γ S g args = some (c, r, S', b))(hc : c) : JJ P g (args.map A.p) S r S' ∧ enters P g = true ∧ (b = true → S' = S) := by
 unfold Ic at e;split at e
 . rename_i con hcon;split at e
   · rename_i c1 xH ms Ie
     simp only at e;generalize (vW S 2 (refsOf con.rev (con.roots.getD con.cB) args)).filter (Ec S)=rs at e;obtain⟨hb,e⟩:=ah.aA e;simp only[Bool.and_eq_true] at hb;split at e;rename_i eG eY;split at e;rename_i bH sG gQ hargs;split at e;rename_i c2 r0 ef hf;generalize hk:con.ak.getD rs.length=k at e;obtain⟨bO,e⟩:=ah.aA e;simp only[Bool.and_eq_true,Nat.ble_eq] at bO;split at e
     . rename_i r' jG hr hos;cases e;have xG:=(cC g con hcon).sem _ _ _ _ _ hf hc.2;have hol:bH.length=rs.length:=(jF gQ).1.trans (kE eY).1;rw[hol,hk] at xG;refine⟨?_,(cC g con hcon).enters,fun hb'=>?_⟩
       rotate_left
       simp only[Bool.and_eq_true,List.isEmpty_iff] at hb';obtain⟨h1,h2,h3⟩:=hb';subst h1;subst h2;have:jG=[]:=List.eq_nil_of_length_eq_zero (jF hos).1;subst this;rw[h3,List.drop_nil,List.take_nil];rfl;have rR:=zK hb.2;have hnd:=ji hb.1;have hidx:∀(η:Eta) n m,idxOf rs n=some m->∀ p,η n=some p->cK η rs m=some p:=by
        intro η n m e p hp;unfold cK;rw[gI e];exact hp
       cases hm:(ms.isEmpty||(r0.dQ&&ef.all Ob.dQ)) with
       | true =>
         simp only[cond_true];refine D7 xG hnd rR eY gQ bO.1 bO.2 hr hos ?_ ?_;simp only[Bool.or_eq_true,List.isEmpty_iff,Bool.and_eq_true] at hm;exact hm;intro base η Z w vs R hvs;refine jS.2 (oN (hidx η) (.inr (ar.le.refl _)) hargs ?_);exact oP R (sJ R ms) Ie hc.1 (RU R ms) (jS.1 hvs)
       | false =>
         simp only[cond_false];have hcall:JJ P g (xH.map A.p) (fO S ms) r ((fO (fO S ms) (rs.drop k)).fN (rs.take k) jG):=by
          refine D7 (ms:=[]) xG hnd (by simp) (by rw[u6 rR];exact eY) gQ bO.1 bO.2 (by rw[oO];exact hr) (by rw[oO];exact hos) (.inl rfl) ?_;intro base η Z w vs R hvs;refine jS.2 (oN (hidx η) (.inr (sJ R [])) hargs (jS.1 hvs))
         intro base η Z w vs R hvs hK;obtain⟨Z1,mv,sees⟩:=zJ (ms:=ms) R;refine(hcall base η Z1 w vs mv.st (jS.2 (oP R mv.step.cI Ie hc.1 sees (jS.1 hvs))) (hK.mono mv.step.cI)).mono ?_;rintro e1 w1 ⟨u,aC,Z',rfl,Gn,hr1⟩;exact⟨u,aC,Z',rfl,mv.trans Gn,hr1⟩
     cases e;cases e;cases e;cases e
   cases e
 cases e
end
end Go.aU
namespace Go.aU
open Go.RowKit
open Go.ah (T WF)
inductive O where
 | q (q:Q)
 | l (l:L)
 | call (f:bR) (args:List bR)
 | zL (neg:Bool) (x:bR)
structure jj where
 dst:Option Nat
 guard:Option (Nat×Bool)
 o:O
def MS(P:Program)(o:Op):Option O :=
 match o with
 | .binOp .eql t x (.const (.slice none 0 0)) _=>match P.underlying t with|some (.slice _)=>(bY x).map (.zL false)|_=>none
 | .binOp .neq t x (.const (.slice none 0 0)) _=>match P.underlying t with|some (.slice _)=>(bY x).map (.zL true)|_=>none
 | _=>none
def zM(P:Program)(sq:Bool)(o:Oper):Option O :=
 match o.op with
 | .call { callee:=.value x,args,.. }=>match bY x,ox args.toList with|some f,some l=>some (.call f l)|_,_=>none
 | _=>match MS P o.op with|some k=>some k|none=>bif sq then(match JA P o with|some l=>some (.l l)|none=>match t6 P o.op with|some q=>some (.q q)|none=>none)
   else(match t6 P o.op with|some q=>some (.q q)|none=>bif ah.cF o.op then(match JA P o with|some l=>some (.l l)|none=>none) else none)
def Yq(ops:Array Oper)(o:Oper):Option (Option (Nat×Bool)) :=
 match o.guard with
 | none=>some none
 | some (j,want)=>match (ops[j]?).bind (·.dst) with|some d=>some (some (d,want))|none=>none
def Fg(nt:Nat):Option Nat->Bool
 | none=>true
 | some d=>Nat.blt d nt
def pG(P:Program)(sq:Bool)(nt:Nat)(ops:Array Oper)(o:Oper):Option jj :=
 match Yq ops o,zM P sq o with
 | some g,some k=>bif Fg nt o.dst then some ⟨o.dst,g,k⟩ else none
 | _,_=>none
def jr(P:Program)(sq:Bool)(nt:Nat)(ops:Array Oper):List Oper->Option (List jj)
 | []=>some []
 | o::l=>match pG P sq nt ops o,jr P sq nt ops l with|some x,some r=>some (x::r)|_,_=>none
inductive R1 where
 | pure (c:Cd) (v:A)
 | JQ (c:Cd) (v:A) (S:af)
noncomputable def zN(F:Fr):bR->Option A
 | .tmp t=>match F.get t with|some (.p v)=>some (.p v)|some (.dec b)=>some (.dec b)|some (.bF vs)=>some (.bF vs)|_=>none
 | .w (.bool b)=>some (.dec b)
 | .w x=>some (.p (.c x))
 | .agg cs=>some (.p (.agg cs))
noncomputable def known(F:Fr):bR->Option Bool
 | .tmp t=>match F.get t with|some (.dec b)=>some b|_=>none
 | .w (.bool b)=>some b
 | _=>none
noncomputable def qA(F:Fr)(S:af)(q:Q):Option (Cd×A) :=
 match q with
 | .move x=>match zN F x with
   | some v=>some (.t,v)
   | none=>match mO F x with|some (c,v)=>some (c,.p v)|none=>none
 | .pick b x y=>match known F b with
   | some true=>match zN F x with|some v=>some (.t,v)|none=>none
   | some false=>match zN F y with|some v=>some (.t,v)|none=>none
   | none=>match dO F S (.pick b x y) with|some (c,v)=>some (c,.p v)|none=>none
 | .not x=>match known F x with
   | some b=>some (.t,.dec (!b))
   | none=>match dO F S (.not x) with|some (c,v)=>some (c,.p v)|none=>none
 | q=>match dO F S q with|some (c,v)=>some (c,.p v)|none=>none
noncomputable def p8(Γ:cg)(F:Fr)(S:af):O->Option R1
 | .q q=>match qA F S q with|some (c,v)=>some (.pure c v)|none=>none
 | .l l=>match jB F S l with
   | some (c,v,S')=>match l with
     | .b2s _=>some (.pure c v)
     | _=>some (.JQ c v S')
   | none=>none
 | .call f args=>match fG F f,mw F args with
   | some (p,.func g caps),some (q,vs)=>match Ic Γ S g (vs++caps.map fun x=>.c (.ptr x.1 x.2)) with
     | some (c,r,S',b)=>bif b then some (.pure (.and p (.and q c)) r) else some (.JQ (.and p (.and q c)) r S')
     | none=>none
   | some (p,.nN g n off),some (q,vs)=>match Ic Γ S g (.c (.ptr n off)::vs) with
     | some (c,r,S',b)=>bif b then some (.pure (.and p (.and q c)) r) else some (.JQ (.and p (.and q c)) r S')
     | none=>none
   | _,_=>none
 | .zL _ _=>none
noncomputable def JR(F:Fr):O->Option (Cd×(Bool->Prop))
 | .zL neg x=>match fG F x with
   | some (c,.nil)=>some (c,fun b=>b=!neg)
   | some (c,.sl _ _ len _)=>some (c,fun b=>(b=!neg)->len=0)
   | some (c,.rd _ l)=>some (c,fun b=>(b=!neg)->l=[])
   | _=>none
 | _=>none
section
variable {P:Program} {base nt:Nat} {η:Eta} {Z:ar} {S:af} {w:World} {F:Fr} {a:Act}
theorem Bb(FR:aW nt η Z F a.tmps){t:Nat}{x:A}(h:F.get t=some x):cw η Z x (a.eval (.tmp t)):=by
 obtain⟨u,hu,hr⟩:=FR.2 t _ h;have:a.eval (.tmp t)=u:=by simp[Act.eval,Array.getD_eq_getD_getElem?,hu]
 rw[this];exact hr
theorem xI(FR:aW nt η Z F a.tmps){x':Operand}{x:bR}(hx:bY x'=some x){v:A}(e:zN F x=some v):cw η Z v (a.eval x'):=by
 cases x with
 | tmp t =>
   have hx':x'=.tmp t:=by
    cases x' with
    | tmp t'=>cases hx;rfl
    | const u=>simp only[bY] at hx;split at hx<;>cases hx
    | global g=>cases hx
    | func f=>cases hx
   subst hx';simp only[zN] at e;split at e;rename_i v' hv;cases e;exact Bb FR hv;rename_i b hv;cases e;exact Bb FR hv;rename_i vs hv;cases e;exact Bb FR hv;cases e
 | w y =>
   have:=dZ FR hx (c:=.t) (v:=.c y) rfl trivial;cases y with
   | bool b =>
     simp only[zN] at e;cases e;have h2:=this.2;simp only[au,aH] at h2;exact h2
   | _=>simp only[zN] at e;cases e;exact this
 | agg cs =>
   have:=dZ FR hx (c:=.t) (v:=.agg cs) rfl trivial;simp only[zN] at e;cases e;exact this
theorem ul(FR:aW nt η Z F a.tmps){x':Operand}{x:bR}(hx:bY x'=some x){b:Bool}(e:known F x=some b):a.eval x'=.bool b:=by
 unfold known at e;split at e;rename_i t;split at e;rename_i b' hv;cases e;have hx':x'=.tmp t:=by
  cases x' with
  | tmp t'=>cases hx;rfl
  | const u=>simp only[bY] at hx;split at hx<;>cases hx
  | global g=>cases hx
  | func f=>cases hx
 subst hx';exact Bb FR hv;cases e;rename_i b';cases e;have:=dZ FR hx (c:=.t) (v:=.c (.bool b)) rfl trivial;simpa[au,aH] using this.2;cases e
def sH(P:Program)(η:Eta)(Z:ar)(w:World)(s:Sem Next)(v:A):Prop:=∃ u,s.run P w=.ok (.value u) w/\cw η Z v u
theorem qA_ok(R : St base η Z S w)(FR : aW nt η Z F a.tmps){o : Oper}{q : Q}(ht : t6 P o.op = some q){c : Cd}{v : A}(e : qA F S q = some (c, v))(hc : c) : sH P η Z w (execOp a.eval o) v := by
 have plain:∀{c:Cd}{v':V},dO F S q=some (c,v')->c->sH P η Z w (execOp a.eval o) (.p v'):=by
  intro c v' e hc;obtain⟨u,h1,h2⟩:=Rh R FR ht e hc;exact⟨u,h1,h2⟩
 unfold qA at e;split at e;rename_i x;split at e
 . rename_i v' hv;cases e
   -- a move
   unfold t6 at ht;unfold execOp;split at ht<;>rename_i hop<;>simp only[hop];obtain⟨y,hy,e2⟩:=map_some ht;cases e2;exact⟨_,rfl,xI FR hy hv⟩;obtain⟨y,hy,e2⟩:=map_some ht;cases e2;exact⟨_,rfl,xI FR hy hv⟩
   all_goals exfalso
   all_goals first
    | (obtain⟨y,hy,e2⟩:=map_some ht;cases e2;done)
    | (repeat' (split at ht))<;>first|(cases ht;done)|(obtain⟨y,hy,e2⟩:=map_some ht;cases e2;done)
 split at e;rename_i c' v' hv;cases e;exact plain (by simp only[dO];exact hv) hc;cases e;rename_i b x y;have hpick : ∃ b' x' y', o.op = .pick b' x' y' ∧ bY b' = some b ∧ bY x' = some x ∧ bY y' = some y := by
  unfold t6 at ht;split at ht
  all_goals first
   | (rename_i b' x' y' hop
      split at ht;rename_i h1 h2 h3;cases ht;exact⟨b',x',y',hop,h1,h2,h3⟩;cases ht)
   | (exfalso
      first
      | (obtain⟨y,hy,e2⟩:=map_some ht;cases e2;done)
      | (repeat' (split at ht))<;>first|(cases ht;done)|(obtain⟨y,hy,e2⟩:=map_some ht;cases e2;done))
 obtain⟨b',x',y',hop,hb,hx,hy⟩:=hpick;have hrun:∀ t:Bool,a.eval b'=.bool t->(execOp a.eval o).run P w=.ok (.value (if t then a.eval x' else a.eval y')) w:=by
  intro t ht';unfold execOp;rw[hop];cases t<;>simp[ht',asBool]
 split at e;rename_i hk;have:=hrun true (ul FR hb hk);split at e;rename_i v' hv;cases e;exact⟨_,this,xI FR hx hv⟩;cases e;rename_i hk;have:=hrun false (ul FR hb hk);split at e;rename_i v' hv;cases e;exact⟨_,this,xI FR hy hv⟩;cases e;split at e;rename_i c' v' hv;cases e;exact plain hv hc;cases e;rename_i x;split at e;rename_i b hk;cases e;have hq:dO F S (.not x)=some (match vK F x with|some (p,a)=>(p,.c (.bool (!a)))|none=>(.t,.c (.bool false)))->True:=fun _=>trivial
 -- the operand is known: the same answer by the plain way
 have hev:vK F x=some (.t,b):=by
  unfold known at hk;split at hk;split at hk;rename_i b' hv;cases hk;simp[vK,mO,hv];cases hk;cases hk;rfl;cases hk
 have h2:=plain (c:=.t) (v':=.c (.bool (!b))) (by simp only[dO,hev]) trivial;obtain⟨u,h3,h4⟩:=h2;refine⟨u,h3,?_⟩;have h5:=h4.2;simp only[au,aH] at h5;exact h5;split at e;rename_i c' v' hv;cases e;exact plain hv hc;cases e;split at e;rename_i c' v' hv;cases e;exact plain hv hc;cases e
theorem Bc{o:Op}{k:O}(h:MS P o=some k):∃ neg x,k=.zL neg x:=by
 unfold MS at h;split at h;split at h
 . cases hx:bY _ with
   | none=>rw[hx] at h;cases h
   | some y=>rw[hx] at h;cases h;exact⟨_,_,rfl⟩
 cases h;split at h
 . cases hx:bY _ with
   | none=>rw[hx] at h;cases h
   | some y=>rw[hx] at h;cases h;exact⟨_,_,rfl⟩
 cases h;cases h
theorem RV{t el:TypeId}(hu:P.underlying t=some (.slice el)){v:Value}{a:Option Addr}{len cap:Nat}(hv:v=.slice a len cap):(Op.equal t v (.slice none 0 0)).run P w=.ok a.isNone w:=by
 subst hv;have key:(Op.equalIn (9999+1) t (.slice a len cap) (.slice none 0 0)).run P w=.ok a.isNone w:=by
  rw[Op.equalIn];simp only[Sem.run_bind,run_underlying hu,Result.andThen_ok];cases a<;>rfl
 exact key
theorem ZW(FR:aW nt η Z F a.tmps){o:Oper}{k:O}(ht:MS P o.op=some k){c:Cd}{p:Bool->Prop}(e:JR F k=some (c,p))(hc:c):∃ b,p b/\sH P η Z w (execOp a.eval o) (.p (.c (.bool b))):=by
 have key : ∀(neg : Bool)(x : bR)(x' : Operand)(t el : TypeId), bY x' = some x → P.underlying t = some (.slice el) → (execOp a.eval o).run P w = (do pure (Next.value (.bool ((← Op.equal t (a.eval x') (.slice none 0 0)) != neg))) : Sem Next).run P w → JR F (.zL neg x) = some (c, p) → ∃ b, p b ∧ sH P η Z w (execOp a.eval o) (.p (.c (.bool b))) := by
  intro neg x x' t el hx hu hrun e;have fin:∀(ad:Option Addr)(len cap:Nat),a.eval x'=.slice ad len cap->p (ad.isNone != neg)->∃ b,p b/\sH P η Z w (execOp a.eval o) (.p (.c (.bool b))):=by
   intro ad len cap hev hp;refine⟨_,hp,.bool (ad.isNone != neg),?_,⟨by simp,by simp[au,aH]⟩⟩;rw[hrun];simp[RV hu hev]
  simp only[JR] at e;split at e;rename_i c' hv;cases e;have:=(aE FR hx hv hc).2;simp only[au,aH] at this;exact fin _ _ _ this (by cases neg<;>rfl);rename_i c' m off len sz hv;cases e;rcases (aE FR hx hv hc).2 with ⟨h0,hev⟩|⟨pl,cap,ad,_,hev,_⟩;exact fin _ _ _ hev (fun _=>h0);exact fin _ _ _ hev (fun h=>by cases neg<;>simp at h);rename_i c' d l hv;cases e;have:=(aE FR hx hv hc).2;simp only[au,aH,cA] at this;obtain⟨ad,len,cap,hev,_,_,h4⟩:=this;rcases h4 with h4|⟨b,off,cells,h4,_⟩;exact fin _ _ _ hev (fun _=>h4);refine fin _ _ _ hev (fun h=>?_);rw[h4] at h;cases neg<;>simp at h;cases e
 unfold MS at ht;split at ht;rename_i t x _ hop;split at ht
 . rename_i el hu;cases hx:bY x with
   | none=>rw[hx] at ht;cases ht
   | some y =>
     rw[hx] at ht;cases ht;refine key false y x t el hx hu ?_ e;unfold execOp;rw[hop];have hb:binOp .eql t (a.eval x) (.slice none 0 0)=(do pure (.bool (<-Op.equal t (a.eval x) (.slice none 0 0)))):=by
      cases a.eval x<;>rfl
     have hg:eqGuard .eql t x (.const (.slice none 0 0)) (a.eval x) (.slice none 0 0)=pure ():=by
      unfold eqGuard;cases a.eval x<;>rfl
     have hev:a.eval (.const (.slice none 0 0))=.slice none 0 0:=rfl;simp[hev,hb,hg]
 cases ht;rename_i t x _ hop;split at ht
 . rename_i el hu;cases hx:bY x with
   | none=>rw[hx] at ht;cases ht
   | some y =>
     rw[hx] at ht;cases ht;refine key true y x t el hx hu ?_ e;unfold execOp;rw[hop];have hb:binOp .neq t (a.eval x) (.slice none 0 0)=(do pure (.bool (!(<-Op.equal t (a.eval x) (.slice none 0 0))))):=by
      cases a.eval x<;>rfl
     have hg:eqGuard .neq t x (.const (.slice none 0 0)) (a.eval x) (.slice none 0 0)=pure ():=by
      unfold eqGuard;cases a.eval x<;>rfl
     have hev:a.eval (.const (.slice none 0 0))=.slice none 0 0:=rfl;simp[hev,hb,hg]
 cases ht;cases ht
end
section
variable {P:Program} {base nt:Nat} {η:Eta} {Z:ar} {S:af} {w:World} {F:Fr} {a:Act}
def RW(base:Nat)(η:Eta)(Z:ar)(S:af)(w:World)(v:A)(S':af)(o:Oper)(a:Act)(next:Act->World->Prop):Prop :=
 ∀ u w' aC Z',bJ base η Z S w aC Z' S' w'->cw aC Z' v u->next (a.put o.dst u) w'
def zO(P:Program)(base:Nat)(η:Eta)(Z:ar)(S:af)(w:World)(o:Oper)(a:Act)(v:A)(S':af):Prop :=
 ∀ Fc,WF Fc->∀(next:Act->World->Prop)(Q:Exit->Act->World->Prop),RW base η Z S w v S' o a next->o.wpIn Fc 0 P a w next Q
theorem sH.does{o:Oper}{v:A}(R:St base η Z S w)(hd:∀ c,o.op≠.defer c)(h:sH P η Z w (execOp a.eval o) v):zO P base η Z S w o a v S:=by
 intro Fc hF next Q hn
 refine⟨fun f _=>hF.fn f,?_⟩;rw[Oper.semAt_eq _ _ _ hd];obtain⟨u,h1,h2⟩:=h;rw[h1];exact hn u w η Z (bJ.refl R) h2
theorem br.does{o:Oper}{v:A}{S':af}(hd:∀ c,o.op≠.defer c)(h:br P base η Z S w (execOp a.eval o) v S'):zO P base η Z S w o a v S':=by
 intro Fc hF next Q hn
 refine⟨fun f _=>hF.fn f,?_⟩;rw[Oper.semAt_eq _ _ _ hd];obtain⟨nx,u,w',aC,Z',h1,h2,h3,h4⟩:=h;rw[h1];rcases h2 with rfl|⟨rfl,rfl⟩;exact hn u w' aC Z' h3 h4;exact hn _ w' aC Z' h3 h4
theorem RX{o:Op}{q:Q}(h:t6 P o=some q):∀ c,o≠.defer c:=by
 rintro c rfl;simp[t6] at h
theorem GH{o:Oper}{l:L}(h:JA P o=some l):∀ c,o.op≠.defer c:=by
 intro c hc;unfold JA at h;rw[hc] at h;cases h
theorem kG {f:FuncId} (h:enters P f=true):∃ fn c,P.funcs[f]? = some fn/\fn.body=some c/\fn.name≠ "runtime.NumGoroutine" := by
 unfold enters at h;split at h;rename_i fn hf;simp only[Bool.and_eq_true,Bool.not_eq_true',beq_eq_false_iff_ne] at h;obtain⟨c,hc⟩:=Option.isSome_iff_exists.1 h.1;exact⟨fn,c,hf,hc,h.2⟩;cases h
theorem pH(FR : aW nt η Z F a.tmps) : ∀{l' : List Operand}{l : List bR}, ox l' = some l → ∀{c : Cd}{vs : List V}, mw F l = some (c, vs) → c → aL (cV η Z) vs (l'.map a.eval)
 | [],l,hl,c,vs,e,_=>by
   simp only[ox] at hl;cases hl;simp only[mw] at e;cases e;trivial
 | x :: l', l, hl, c, vs, e, hc => by
   simp only[ox] at hl;split at hl;rename_i y hy;split at hl;rename_i r hr;cases hl;simp only[mw] at e;split at e;rename_i p v hv;split at e;rename_i q vs' hvs;cases e;exact⟨dZ FR hy hv hc.1,pH FR hr hvs hc.2⟩;cases e;cases e;cases hl;cases hl
theorem GI{caps:List (Nat×Nat)}{cs:List Value}(h:aL (dB η) caps cs):aL (cV η Z) (caps.map fun x=>V.c (.ptr x.1 x.2)) cs:=by
 induction caps generalizing cs with
 | nil=>cases cs with|nil=>trivial|cons _ _=>exact h.elim
 | cons x l ih=>cases cs with|nil=>exact h.elim|cons y m=>exact⟨⟨by simp,h.1⟩,ih h.2⟩
def R1.cd:R1->Cd
 | .pure c _=>c
 | .JQ c _ _=>c
def R1.v:R1->A
 | .pure _ v=>v
 | .JQ _ v _=>v
def R1.st(S:af):R1->af
 | .pure _ _=>S
 | .JQ _ _ S'=>S'
theorem Ed{Γ : cg}(cC : bp P Γ)(hT : fW P Z){sq : Bool}(R : St base η Z S w)(FR : aW nt η Z F a.tmps){o : Oper}{k : O}(ht : zM P sq o = some k){r : R1}(e : p8 Γ F S k = some r)(hc : r.cd) : zO P base η Z S w o a r.v (r.st S) := by
 have hq:∀ q,t6 P o.op=some q->k=.q q->zO P base η Z S w o a r.v (r.st S):=by
  rintro q hq rfl;simp only[p8] at e;split at e;rename_i c v hv;cases e;exact sH.does R (RX hq) (qA_ok R FR hq hv hc);cases e
 have hl : ∀ l, JA P o = some l → k = .l l → zO P base η Z S w o a r.v (r.st S) := by
  rintro l hl rfl;simp only[p8] at e;split at e;rename_i c v S' hv;split at e;rename_i x;cases e;have hS : S' = S := by
   simp only[jB] at hv;split at hv;split at hv;cases hv;split at hv;cases hv;rfl;split at hv;cases hv;rfl;cases hv;cases hv
  subst hS;exact br.does (GH hl) (RQ R FR hl hv hc);cases e;exact br.does (GH hl) (RQ R FR hl hv hc);cases e
 unfold zM at ht;split at ht;rename_i x args ts hop;split at ht;rename_i f l hf hal;cases ht;simp only[p8] at e;split at e;rename_i p g caps q vs zP kZ;split at e
 . rename_i c r0 S' b hcall;have hcd:r.cd=.and p (.and q c)/\r.v=r0/\r.st S=(if b=true then S else S'):=by
    cases b with
    | true=>simp only[cond_true] at e;cases e;exact⟨rfl,rfl,rfl⟩
    | false=>simp only[cond_false] at e;cases e;exact⟨rfl,rfl,rfl⟩
   rw[hcd.1] at hc;obtain⟨hp,nK,hc'⟩:=hc;obtain⟨vF,hent,hsame⟩:=JO cC hcall hc';have hst:r.st S=S':=by
    rw[hcd.2.2];split;rename_i hb;exact(hsame hb).symm;rfl
   rw[hst,hcd.2.1];intro Fc hF next Q hn
   refine⟨fun f _=>hF.fn f,?_⟩;have hd:∀ c,o.op≠.defer c:=fun c hc=>by rw[hop] at hc;cases hc
   rw[Oper.semAt_eq _ _ _ hd];obtain⟨_,cs,zQ,hcs⟩:=aE FR hf zP hp;have hvs:=pH FR hal kZ nK;obtain⟨fn,body,h1,h2,h3⟩:=kG hent;have xJ:(execOp a.eval o).run P w=.ok (.enter g ((args.toList.map a.eval).toArray++cs.toArray)) w:=by
    unfold execOp;rw[hop];have hargs:(args.toList.map a.eval).toArray=args.map a.eval:=by apply Array.ext';simp
    simp only[resolve,zQ,Deferred.ofValue,pure_bind,invoke,hargs];have:(#[]:Array Value)++args.map a.eval=args.map a.eval:=by simp
    rw[this];simp[callFunc,h1,h3,h2]
   rw[xJ];refine⟨hF.depth,hF.calls ?_⟩;have happ:(args.toList.map a.eval).toArray++cs.toArray=(args.toList.map a.eval++cs).toArray:=by simp
   rw[happ];refine(vF base η Z w _ R (jS.2 (hvs.append (GI hcs))) hT).mono ?_;rintro e1 w1 ⟨u,aC,Z',rfl,mv,hr1⟩;exact hn u w1 aC Z' mv hr1
 cases e;rename_i p g n off q vs zP kZ;split at e
 . rename_i c r0 S' b hcall;have hcd:r.cd=.and p (.and q c)/\r.v=r0/\r.st S=(if b=true then S else S'):=by
    cases b with
    | true=>simp only[cond_true] at e;cases e;exact⟨rfl,rfl,rfl⟩
    | false=>simp only[cond_false] at e;cases e;exact⟨rfl,rfl,rfl⟩
   rw[hcd.1] at hc;obtain⟨hp,nK,hc'⟩:=hc;obtain⟨vF,hent,hsame⟩:=JO cC hcall hc';have hst:r.st S=S':=by
    rw[hcd.2.2];split;rename_i hb;exact(hsame hb).symm;rfl
   rw[hst,hcd.2.1];intro Fc hF next Q hn
   refine⟨fun f _=>hF.fn f,?_⟩;have hd:∀ c,o.op≠.defer c:=fun c hc=>by rw[hop] at hc;cases hc
   rw[Oper.semAt_eq _ _ _ hd];obtain⟨_,pu,zQ,MP⟩:=aE FR hf zP hp;have hvs:=pH FR hal kZ nK;obtain⟨fn,body,h1,h2,h3⟩:=kG hent;have xJ:(execOp a.eval o).run P w=.ok (.enter g (pu::args.toList.map a.eval).toArray) w:=by
    unfold execOp;rw[hop];have hargs:#[pu]++args.map a.eval=(pu::args.toList.map a.eval).toArray:=by apply Array.ext';simp
    simp only[resolve,zQ,Deferred.ofValue,pure_bind,invoke,hargs];have:(pu::args.toList.map a.eval).toArray++(#[]:Array Value)=(pu::args.toList.map a.eval).toArray:=by simp
    first|rw[this]|skip
    simp[callFunc,h1,h3,h2]
   rw[xJ];refine⟨hF.depth,hF.calls ?_⟩;refine(vF base η Z w (pu::args.toList.map a.eval) R (jS.2 ⟨⟨by simp,MP⟩,hvs⟩) hT).mono ?_;rintro e1 w1 ⟨u,aC,Z',rfl,mv,hr1⟩;exact hn u w1 aC Z' mv hr1
 cases e;cases e;cases ht;split at ht;rename_i k' hk';cases ht;obtain⟨neg,x,rfl⟩:=Bc hk';simp only[p8] at e;cases e;cases sq with
 | true =>
   simp only[cond_true] at ht;split at ht;rename_i l hl';cases ht;exact hl l hl' rfl;split at ht;rename_i q nK;cases ht;exact hq q nK rfl;cases ht
 | false =>
   simp only[cond_false] at ht;split at ht;rename_i q nK;cases ht;exact hq q nK rfl;obtain⟨_,ht⟩:=ah.aA ht;split at ht;rename_i l hl';cases ht;exact hl l hl' rfl;cases ht
end
inductive Gd where
 | run
 | skip
 | cond (g:Prop)
 | bool (d:Nat) (b want:Bool)
noncomputable def guardE(F:Fr):Option (Nat×Bool)->Option Gd
 | none=>some .run
 | some (d,want)=>match F.get d with
   | some (.dec b)=>bif b==want then some .run else some .skip
   | some (.p (.c (.bool b)))=>some (.bool d b want)
   | some (.cond c (.c (.bool b)))=>some (.cond (c/\b=want))
   | some (.bF [])=>some .skip
   | _=>none
noncomputable def ko(F:Fr):Option Nat->A->Fr
 | none,_=>F
 | some d,v=>ah.T.set F d v
section
variable {P:Program} {base nt:Nat} {η:Eta} {Z:ar} {S:af} {w:World} {F:Fr} {a:Act}
theorem qu(FR:aW nt η Z F a.tmps){dst:Option Nat}(hd:Fg nt dst=true){v:A}{u:Value}(h:cw η Z v u):aW nt η Z (ko F dst v) (a.put dst u).tmps:=by
 cases dst with
 | none=>exact FR
 | some d=>exact FR.set (by simpa[Fg,Nat.blt_eq] using hd) h
def Gd.when:Gd->Prop
 | .run=>True
 | .skip=>False
 | .cond g=>g
 | .bool _ b want=>b=want
theorem je(FR:aW nt η Z F a.tmps){ops:Array Oper}{o:Oper}{g:Option (Nat×Bool)}(hg:Yq ops o=some g){k:Gd}(e:guardE F g=some k):(Region.wanted o (yielded ops a.tmps)=true)↔k.when:=by
 unfold Yq at hg;unfold Region.wanted;split at hg;rename_i hn;cases hg;simp only[guardE] at e;cases e;rw[hn];simp[Gd.when];rename_i j want hn;split at hg;rename_i d hd;cases hg;rw[hn];simp only;unfold yielded;rw[hd];simp only[Option.bind_some];simp only[guardE] at e;split at e;rename_i b hb;obtain⟨v,hv,hr⟩:=FR.2 d _ hb;have hr':v=.bool b:=hr;subst hr';rw[hv];cases b<;>cases want<;>(cases e;simp[Gd.when]);rename_i b hb;cases e;obtain⟨v,hv,hr⟩:=FR.2 d _ hb;have hr':v=.bool b:=by have:=hr.2;simpa[au,aH] using this
 subst hr';rw[hv];simp[Gd.when];rename_i c b hb;cases e;obtain⟨v,hv,hr⟩:=FR.2 d _ hb;by_cases hc:c;have hr':v=.bool b:=by have:=(hr.1 hc).2;simpa[au,aH] using this
 subst hr';rw[hv];simp[Gd.when,hc];have hr':v=undef:=hr.2 hc;subst hr';rw[hv];simp[Gd.when,hc,undef];rename_i hb;cases e;obtain⟨v,hv,hr⟩:=FR.2 d _ hb;obtain⟨vs,hvv,hl⟩:=hr;rw[hv,hvv];simp[Gd.when];cases e;cases hg
end
section
variable {P:Program} {base nt:Nat} {η:Eta} {Z:ar} {S:af} {w:World} {F:Fr} {a:Act}
theorem gR{sq:Bool}{ops:Array Oper}{o:Oper}{x:jj}(h:pG P sq nt ops o=some x):x.dst=o.dst/\Yq ops o=some x.guard/\zM P sq o=some x.o/\Fg nt o.dst=true:=by
 unfold pG at h;split at h;rename_i g k hg hk;obtain⟨hd,h⟩:=ah.aA h;cases h;exact⟨rfl,hg,hk,hd⟩;cases h
theorem put_defers(a:Act)(dst:Option Nat)(u:Value):(a.put dst u).defers=a.defers:=by cases dst<;>rfl
theorem GJ:cw η Z (.bF []) undef:=⟨[],rfl,trivial⟩
theorem cd_imp{c:Cd}{g:Prop}{k:Prop}(h:gO (c.list.map (g->·)) k):(g->c)/\k:=by
 have:=ic (c:=.imp g c) (k:=k) h;exact this
end
end Go.aU
