/- The walk by values, second part: operations that write; calls by contracts. It holds for every program and every world, under the hypotheses that each theorem names. -/
import Derived.Test.YtdpbidkgdnnamaaGreatDoorLoom1
import Derived.RangeFuncCalls
import Derived.Test.YtdpbidkgdnnamaaGreatDoorMill1
open Nat renaming eq_of_beq_eq_true->acP,beq->acT,div_one->ac5,le_mul_of_pos_right->ade,mul_le_mul_right->adp,le_refl->ads,zero_le->adx,zero_add->adB,mul_one->adD,lt_or_ge->adL,sub_self->adM,beq_refl->adO,mod_one->adP,min->adQ,blt->adR
open Bool renaming and_eq_true->acQ,not_eq_true'->ac2,or_eq_true->adw
open List renaming mem_of_getElem?->acR,getElem?_eq_getElem->acS,getElem?_append_right->acU,replicate->acV,getElem?_drop->acW,getElem?_append_left->acX,flatMap_cons->acY,getElem?_map->acZ,getElem?_take->ac0,length_map->ac1,getElem?_cons_zero->ac3,getElem?_cons_succ->ac4,eq_nil_of_length_eq_zero->ac6,getElem?_toArray->ac7,getElem?_of_mem->ac8,getD_eq_getElem?_getD->ac9,flatMap_append->ada,length_append->adb,append_assoc->adf,getElem?_set->adg,getElem?_inj->adh,take_of_length_le->adi,map_take->adj,length_cons->adk,length_singleton->adl,set_append_right->adm,length_set->adq,map_drop->adt,ext_getElem?->adu,getElem?_replicate->adv,all_cons->adz,any_eq_false->adC,length->adE,isEmpty_iff->adF,drop->adI,map_cons->adJ,drop_one->adK,flatMap->adN
open Array renaming getElem?_modify->adn,getElem?_setIfInBounds_ne->ado,getElem?_push->adr,getElem?_toList->ady,length_toList->adA,ext'->adG,replicate->adH
open Iff renaming rfl->adS
noncomputable section
namespace Go.aW
open Go.RowKit
open Go.aC (T)
section
variable {P:Program} {base n:Nat} {η:Eta} {Z:aF} {S:ak} {w:World} {F:Fr} {a:Act}
theorem bp.takeN{α β:Type}{R:α->β->Prop}{l:List α}{m:List β}(h:bp R l m)(k:Nat):bp R (l.take k) (m.take k):=bp.take k h
theorem Vn(R:St base η Z S w){t ty el:TypeId}{ts:Array TypeId}{sz:Nat}(ht:ts[0]? = some t)(hu:P.underlying t=some (.slice el))(hs:iD P el=some sz)
 {uy:Value} {cs:List W} (hsrc:Src P η Z w uy sz cs) (hsz:sz≠0) {u:Value} {m off len:Nat} (hx:aJ η Z (.sl m off len sz) u) {o:Ob} (ho:S.get m=some o) (hmo:¬o.fG) (hnb:¬o.bytes∨o.cells=[]) (hb:off+len*sz<=o.cells.length) :
 bS P base η Z S w (do pure (Next.value (<-Builtin.copy_ ts ty #[u,uy]))) (.p (.c (.int .i64 ((adQ (cs.length/sz) len:Nat):Int)))) (S.put m (Ob.of o.ty (j4 o.cells off (cs.take (len*sz))))):=by
 obtain⟨k,vs,h1,h2,h3,h4,h5,h6⟩:=hsrc;have hdiv:cs.length/sz=k:=by rw[h1];exact Nat.mul_div_cancel _ (by omega)
 rw[hdiv];have hmin:∃ j,adQ k len=j/\j<=k/\j<=len:=⟨_,rfl,Nat.min_le_left _ _,Nat.min_le_right _ _⟩;obtain⟨j,hj,hjk,hjl⟩:=hmin;rw[hj];have hcs:cs.take (len*sz)=cs.take (j*sz):=by
  by_cases hkl:k<=len;have:j=k:=by rw[<-hj];exact Nat.min_eq_left hkl
  subst this;rw[adi (by rw[h1];exact adp _ hkl),adi (by omega)];have:j=len:=by rw[<-hj];exact Nat.min_eq_right (by omega)
  rw[this]
 rw[hcs];have hrun:=h6 w j rfl hjk;have hjs:j*sz<=len*sz:=adp _ hjl;have hjs2:j*sz<=k*sz:=adp _ hjk;rcases hx with ⟨rfl,rfl⟩|⟨pl,cap,ad,hpl,rfl,hcap,hroom,had⟩;have hj0:j=0:=by omega
 subst hj0;refine bS.alike (S':=S) (bS.of (u:=goInt 0) ?_ (bX.refl R) fE) ?_;have hmin0:k.min 0=0:=hj;simp only[Builtin.copy_,ht,Sem.run_bind,ac7,ac3,ac4,run_underlying hu,Result.andThen_ok,h5,eP hs,hmin0,hrun,Sem.run_pure];rfl;refine⟨⟨rfl,rfl⟩,fun i=>?_⟩;rw[ak.jm];by_cases hi:i=m;subst hi;rw[if_pos rfl,ho];exact⟨rfl,by simp[j4]⟩
 . rw[if_neg hi];cases S.get i with
   | none=>trivial
   | some x=>exact⟨rfl,rfl⟩
 by_cases h0:j=0;subst h0;refine bS.alike (S':=S) (bS.of (u:=goInt 0) ?_ (bX.refl R) fE) ?_;simp only[Nat.zero_mul,List.take_zero] at hrun;simp only[Builtin.copy_,ht,Sem.run_bind,ac7,ac3,ac4,run_underlying hu,Result.andThen_ok,h5,eP hs,hj,hrun,Sem.run_pure,storeCells];rfl;refine⟨⟨rfl,rfl⟩,fun i=>?_⟩;rw[ak.jm];by_cases hi:i=m;subst hi;rw[if_pos rfl,ho];exact⟨rfl,by simp[j4]⟩
 . rw[if_neg hi];cases S.get i with
   | none=>trivial
   | some x=>exact⟨rfl,rfl⟩
 have hca:ad=⟨pl.block,pl.off+off,none⟩:=by
  rcases had with rfl|rfl;omega;rfl
 subst hca;have hlt:=(h3.takeN (j*sz)).length;have cK:(cs.take (j*sz)).length=j*sz:=by simp;omega
 have hn0:¬o.bytes:=by
  rcases hnb with h|h;exact h;exfalso;rw[h] at hb;have hb:off+len*sz<=0:=hb;have:1*1<=j*sz:=Nat.mul_le_mul (by omega) (by omega);omega
 obtain⟨hst,g⟩:=R.store (P:=P) ho hpl hmo hn0 (h3.takeN (j*sz)) (fun v hv=>h4 v (List.mem_of_mem_take hv)) (off:=off) (by omega) (o':=Ob.of o.ty (j4 o.cells off (cs.take (j*sz)))) rfl (by simp);refine bS.of (u:=goInt j) ?_ g.up fE;simp only[Builtin.copy_,ht,Sem.run_bind,ac7,ac3,ac4,run_underlying hu,Result.andThen_ok,h5,eP hs,hj,hrun,hst,Sem.run_pure]
theorem RM(R : St base η Z S w){t ty el : TypeId}{ts : Array TypeId}{i : TypeInfo}{z : W}{zv : Value}(ht : ts[0]? = some t)(hu : P.underlying t = some (.slice el))(hi : P.info? el = some i)(hzv : i.zero = some zv)(hz : zR z zv = true)
 {u:Value} {m off len:Nat} (hx:aJ η Z (.sl m off len 1) u) {o:Ob} (ho:S.get m=some o) (hmo:¬o.fG) (hnb:¬o.bytes∨o.cells=[]) (hb:off+len<=o.cells.length) :
 bS P base η Z S w (do pure (Next.value (<-Builtin.clear_ ts ty #[u]))) (.aL []) (S.put m (Ob.of o.ty (j4 o.cells off (acV len z)))):=by
 have s9:∀{u:Value},(Builtin.clear_ ts ty #[u]).run P w=.ok (.tuple #[]) w->len=0->bS P base η Z S w (do pure (Next.value (<-Builtin.clear_ ts ty #[u]))) (.aL []) (S.put m (Ob.of o.ty (j4 o.cells off (acV len z)))):=by
  rintro u hr rfl;refine bS.alike (S':=S) (bS.of (u:=.tuple #[]) hr (bX.refl R) ⟨[],rfl,trivial⟩) ⟨⟨rfl,rfl⟩,fun i=>?_⟩;rw[ak.jm];by_cases hi:i=m;subst hi;rw[if_pos rfl,ho];exact⟨rfl,by simp[j4]⟩;rw[if_neg hi];cases S.get i with
  | none=>trivial
  | some x=>exact⟨rfl,rfl⟩
 rcases hx with ⟨rfl,rfl⟩|⟨pl,cap,ad,hpl,rfl,hcap,hroom,had⟩;exact s9 (by simp[Builtin.clear_,ht,run_underlying hu]) rfl;by_cases h0:len=0;subst h0;exact s9 (by simp[Builtin.clear_,ht,run_underlying hu]) rfl
 · have hca : ad = ⟨pl.block, pl.off + off, none⟩ := by
    rcases had with rfl|rfl;omega;rfl
   subst hca;obtain⟨hr,_,hone,hy⟩:=wP (η:=η) (Z:=Z) hz;have hrel : bp (aJ η Z) (acV len z) (acV len zv) := by
    apply bp.r5;simp;intro j x v hx hv;rw[adv] at hx hv;split at hx;rename_i hj;rw[if_pos hj] at hv;cases hx;cases hv;exact hr;cases hx
   have hn0:¬o.bytes:=by
    rcases hnb with h|h;exact h;exfalso;rw[h] at hb;have hb:off+len<=0:=hb;omega
   obtain⟨hst,g⟩:=R.store (P:=P) ho hpl hmo hn0 hrel (fun v hv=>by rw[(List.mem_replicate.1 hv).2];exact hone) (off:=off) (by simp;omega) (o':=Ob.of o.ty (j4 o.cells off (acV len z))) rfl (by simp);have hzc:(Builtin.zeroCells zv.cells len).toList=acV len zv:=by
    rw[hy];unfold Builtin.zeroCells;apply adu;intro j;rw[adv];by_cases hj:j<len;simp[hj,adP];simp[hj]
   have Cq:(zeroValue el).run P w=.ok zv w:=by simp[zeroValue,typeInfo,hi,hzv]
   refine bS.of (u:=.tuple #[]) ?_ g.up ⟨[],rfl,trivial⟩;simp only[Builtin.clear_,ht,Sem.run_bind,ac7,ac3,run_underlying hu,Result.andThen_ok];cases len with
   | zero=>exact absurd rfl h0
   | succ n=>simp only[Cq,Result.andThen_ok,hzc,hst,Sem.run_pure]
def bE(l:List Int):ByteArray:=⟨(l.map fun n=>UInt8.ofNat n.toNat).toArray⟩
theorem Dm(l:List Int):bE l=l.foldl (fun r n=>r.push (UInt8.ofNat n.toNat)) ByteArray.empty:=aC.Ro l
theorem Dn{k:IntKind}:∀{l:List Int}{vs:List Value},bp (aJ η Z) (l.map (D.int k).w) vs->vs=l.map (Value.int k)
 | [],[],_=>rfl
 | n::l,v::vs,⟨a,b⟩=>by
   have:v=.int k n:=by simpa[D.w,aJ,aV] using a
   subst this;simp only[adJ];rw[<-Dn b]
theorem Zj{src dst el:TypeId}(hs:P.underlying src=some (.slice el))(hd:P.underlying dst=some .string)(he:P.underlying el=some (.int .u8)){u:Value}{l:List Int}(hsrc:Src P η Z w u 1 (l.map (D.int .u8).w))(hu:∃ ad len c,u=.slice ad len c)(hnil:∀ len c,u=.slice none len c->l=[]) :
 cE P η Z w (do pure (Next.value (<-convert src dst u))) (.c (.str (bE l))):=by
 obtain⟨ad,len,c,rfl⟩:=hu;obtain⟨m,vs,h1,h2,h3,h4,h5,h6⟩:=hsrc;have bN:len=m:=by
  have:=h5 w;simp[Builtin.lenOf] at this;exact this
 subst bN;have hvs:=Dn h3;cases ad with
 | none =>
   have:=hnil len c rfl;subst this;refine cE.of (u:=.string (bE [])) ?_ qR;simp[convert,run_underlying hs,run_underlying hd,run_underlying he,Conv.bytesToString];rfl
 | some ad =>
   have xX:=h6 w len rfl (ads _);rw[adi (by omega),hvs] at xX;simp only[Builtin.firstCells,adD] at xX;have:=run_bytesToString (P:=P) w ad len c l xX;refine cE.of (u:=.string (bE l)) ?_ qR;simp only[convert,Sem.run_bind,run_underlying hs,run_underlying hd,run_underlying he,Result.andThen_ok,this,Dm]
end
def wQ(P:Program):Nat->TypeId->Option D
 | 0,_=>none
 | k+1,t=>match P.underlying t with
   | some (.int k)=>some (.int k)
   | some .bool=>some .bool
   | some .string=>some .str
   | some (.slice el)=>match wQ P k el with|some d=>some (.sl d)|none=>none
   | _=>none
def RN(P:Program):Nat->TypeId->Option (List Fd)
 | 0,_=>none
 | k+1,t=>match P.underlying t with
   | some (.struct fs)=>fs.toList.foldr (fun f r=>match RN P k f.type,r with|some a,some b=>some (a++b)|_,_=>none) (some [])
   | some (.array n el)=>match wQ P 4 el with|some d=>some [.a n d (acV n d.zero)]|none=>none
   | some _=>match Ru P t with|some z=>some [.c z]|none=>none
   | none=>none
def PB:List W->List Value->Bool
 | [],[]=>true
 | x::l,v::m=>zR x v&&PB l m
 | _,_=>false
theorem Gl{η:Eta}{Z:aF}:∀{l:List W}{m:List Value},PB l m=true->bp (aJ η Z) l m/\∀ v∈m,v.oneCell'=true
 | [],[],_=>⟨trivial,by simp⟩
 | x::l,v::m,h=>by
   simp only[PB,acQ] at h;obtain⟨a,b⟩:=Gl (η:=η) (Z:=Z) h.2;obtain⟨c,_,d,_⟩:=wP (η:=η) (Z:=Z) h.1;refine⟨⟨c,a⟩,fun u hu=>?_⟩;rcases List.mem_cons.1 hu with rfl|hu;exact d;exact b u hu
 | [],_::_,h=>by cases h
 | _::_,[],h=>by cases h
def qk:List Fd->Nat->Fd->Option (List Fd)
 | [],_,_=>none
 | .c x::fs,k,f=>match k with
   | 0=>some (f::fs)
   | k+1=>match qk fs k f with|some r=>some (.c x::r)|none=>none
 | .a n d l::fs,k,f=>match k with
   | 0=>some (f::fs)
   | k+1=>bif adR (k+1) n then none else match qk fs (k+1-n) f with|some r=>some (.a n d l::r)|none=>none
 | .m _ _ _::_,_,_=>none
theorem xY:∀{fs:List Fd}{off:Nat}{c:Cd}{f f':Fd}{fs':List Fd},jw fs off=some (c,f)->c->qk fs off f'=some fs'->∃ pre post,fs=pre++f::post/\fs'=pre++f'::post/\(pre.flatMap Fd.cells).length=off
 | [],_,_,_,_,_,e,_,_=>by cases e
 | .c x::fs,0,c,f,f',fs',e,_,h=>by
   simp only[jw] at e;simp only[qk] at h;cases e;cases h;exact⟨[],fs,rfl,rfl,rfl⟩
 | .c x::fs,k+1,c,f,f',fs',e,hc,h=>by
   simp only[jw] at e;simp only[qk] at h;split at h;rename_i r hr;cases h;obtain⟨pre,post,rfl,rfl,hl⟩:=xY e hc hr;exact⟨.c x::pre,post,rfl,rfl,by rw[acY,adb,hl];simp only[Fd.cells,adl];omega⟩;cases h
 | .a n d l::fs,0,c,f,f',fs',e,_,h=>by
   simp only[jw] at e;simp only[qk] at h;cases e;cases h;exact⟨[],fs,rfl,rfl,rfl⟩
 | .a n d l :: fs, k + 1, c, f, f', fs', e, hc, h => by
   simp only[jw] at e;simp only[qk] at h;cases hb:adR (k+1) n with
   | true=>rw[hb] at e;cases e
   | false =>
     rw[hb] at e h;simp only[cond_false] at e h;have hn:n<=k+1:=by
      rcases adL (k+1) n with h|h;rw[(Nat.blt_eq (x:=k+1) (y:=n)).mpr h] at hb;cases hb;exact h
     split at e;rename_i c' f'' he;cases e;split at h;rename_i r hr;cases h;obtain⟨pre,post,rfl,rfl,hl⟩:=xY he hc.2 hr;exact⟨.a n d l::pre,post,rfl,rfl,by rw[acY,adb,hl];simp only[Fd.cells,ac1];have:l.length=n:=hc.1;omega⟩;cases h;cases e
theorem OP{fs fs':List Fd}{off:Nat}{c:Cd}{x y:W}(e:jw fs off=some (c,.c x))(hc:c)(h:qk fs off (.c y)=some fs'):fs'.flatMap Fd.cells=(fs.flatMap Fd.cells).set off y/\off<(fs.flatMap Fd.cells).length:=by
 obtain⟨pre,post,rfl,rfl,hl⟩:=xY e hc h;rw[ada,ada,acY,acY];refine⟨?_,by simp only[adb,Fd.cells,adl];omega⟩;rw[adm _ _ (by omega),hl,adM];rfl
theorem OQ{fs fs':List Fd}{off n n':Nat}{d:D}{l l':List d.ty}{c:Cd}(e:jw fs off=some (c,.a n d l))(hc:c)(h:qk fs off (.a n' d l')=some fs') :
 ∃ pre post,fs.flatMap Fd.cells=pre++l.map d.w++post/\fs'.flatMap Fd.cells=pre++l'.map d.w++post/\pre.length=off:=by
 obtain⟨pre,post,rfl,rfl,hl⟩:=xY e hc h;exact⟨pre.flatMap Fd.cells,post.flatMap Fd.cells,by simp[ada,Fd.cells],by simp[ada,Fd.cells],hl⟩
def EC(fs : List Fd)(off : Nat) : List W → Option (Cd × List Fd)
 | []=>some (.t,fs)
 | y :: cs => match jw fs off with
   | some (c,.c _)=>match qk fs off (.c y) with
     | some fs'=>match EC fs' (off+1) cs with
       | some (c',r)=>some (.and c c',r)
       | none=>none
     | none=>none
   | _=>none
theorem Cu : ∀{cs : List W}{fs fs' : List Fd}{off : Nat}{c : Cd}, EC fs off cs = some (c, fs') → c → fs'.flatMap Fd.cells = j4 (fs.flatMap Fd.cells) off cs ∧ (cs ≠ [] → off + cs.length ≤ (fs.flatMap Fd.cells).length)
 | [],fs,fs',off,c,e,_=>by
   simp only[EC] at e;cases e;exact⟨rfl,fun h=>absurd rfl h⟩
 | y :: cs, fs, fs', off, c, e, hc => by
   simp only[EC] at e;split at e;rename_i c1 x hg;split at e;rename_i fs1 hp;split at e;rename_i c2 r hr;cases e;obtain⟨h1,h2⟩:=OP hg hc.1 hp;obtain⟨h3,h4⟩:=Cu hr hc.2;rw[h1] at h3 h4;refine⟨h3,fun _=>?_⟩;by_cases h0:cs=[];subst h0;rw[adl];omega;have:=h4 h0;rw[adq] at this;rw[adk];omega;cases e;cases e;cases e
def Fd.list(d:D):List Fd->Option (List d.ty)
 | [.a _ d' l]=>if h:d'=d then some (h▸l) else none
 | _=>none
theorem Fd.j5{d:D}{fs:List Fd}{l:List d.ty}(h:Fd.list d fs=some l):fs.flatMap Fd.cells=l.map d.w:=by
 unfold Fd.list at h;split at h;split at h;rename_i hd;subst hd;cases h;simp[Fd.cells];cases h;cases h
def K2(S:ak):(d:D)->W->Option (Cd×d.ty×ak)
 | .sl e,.sl m off len sz=>bif acT sz 1 then match S.get m with
  | some o=>match Fd.list e o.fs with
    | some l=>some (.p (off+len<=l.length),((l.drop off).take len:List e.ty),S.del m)
    | none=>none
  | none=>none
   else none
 | d,x=>match d.of x with|some y=>some (.t,y,S)|none=>none
section
variable {P:Program} {base n:Nat} {η:Eta} {Z:aF} {S:ak} {w:World} {F:Fr} {a:Act}
theorem lU{d:D}{x:W}{y:d.ty}(e:d.of x=some y){v:Value}(h:aJ η Z x v):cW Z d y v:=D.U4 e (aJ.Y7 (D.Kz e) h)
theorem pP{sz:Nat}(h:acT sz 1=true):sz=1:=acP h
theorem Vo(R : St base η Z S w){m off len : Nat}{o : Ob}(ho : S.get m = some o){e : D}{l : List e.ty}(hl : Fd.list e o.fs = some l)(hb : off + len ≤ l.length){v : Value}(h : aJ η Z (.sl m off len 1) v) :
 ∃ Z',bX base η Z S w η Z' (S.del m) w/\cW Z' (.sl e) ((l.drop off).take len) v:=by
 have hc:=Fd.j5 hl;have hz:len=0->∀ ad cap Z',v=.slice ad 0 cap->cW Z' (.sl e) ((l.drop off).take len) v:=by
  rintro rfl ad cap Z' rfl;exact⟨ad,0,cap,rfl,by simp,adx _,.inl (by simp)⟩
 rcases h with ⟨h0,rfl⟩|⟨p,c,ad,hp,rfl,hcap,hroom,had⟩;exact⟨Z,⟨Eta.le.refl _,R.del m,Step.del m⟩,hz h0 _ _ _ rfl⟩;by_cases h0:len=0;subst h0;exact⟨Z,⟨Eta.le.refl _,R.del m,Step.del m⟩,hz rfl _ _ _ rfl⟩;obtain⟨cs,ty,fz,hh,mv,hv⟩:=R.freeze ho hp (Ob.jC (o:=o) hc);refine⟨_,mv,some ad,len,c,rfl,by simp;omega,hcap,.inr ⟨p.block,p.off+off,cs,?_,?_,?_⟩⟩;rcases had with h|h;omega;rw[h];unfold aF.add;rw[if_pos rfl];intro i x hx;have hx':(l.map e.w)[off+i]? = some (e.w x):=by
  rw[ac0] at hx;split at hx;rw[acW] at hx;simp[hx];cases hx
 obtain⟨u,h1,h2⟩:=hv (off+i) _ (by unfold Ob.cells;rw[hc];exact hx');exact⟨u,by rw[<-h1];congr 1;omega,cW.mono mv.step.cZ e ((D.gN e).1 h2)⟩
theorem zS(R:St base η Z S w){d:D}{x:W}{c:Cd}{y:d.ty}{S':ak}(e:K2 S d x=some (c,y,S'))(hc:c){v:Value}(h:aJ η Z x v) :
 ∃ Z',bX base η Z S w η Z' S' w/\cW Z' d y v/\(S'=S∨∃ m,S'=S.del m):=by
 unfold K2 at e;split at e;rename_i d m off len sz;obtain⟨hs,e⟩:=aC.aK e;have hs1:=pP hs;subst hs1;split at e;rename_i o ho;split at e;rename_i l hl;cases e;obtain⟨Z',a,b⟩:=Vo R ho hl hc h;exact⟨Z',a,b,.inr ⟨m,rfl⟩⟩;cases e;cases e;split at e;rename_i y' hy;cases e;exact⟨Z,bX.refl R,lU hy h,.inl rfl⟩;cases e
def Fd.hole:List Fd->Option ((d:D)×(List d.ty×W×List d.ty))
 | [.a k d l,.c x,.a k' d' l']=>bif acT k 1&&acT k' 1 then(if h:d'=d then some ⟨d,l,x,h▸l'⟩ else none) else none
 | _=>none
theorem Fd.PD{fs:List Fd}{d:D}{l l':List d.ty}{x:W}(h:Fd.hole fs=some ⟨d,l,x,l'⟩):∃ k k',fs=[.a k d l,.c x,.a k' d l']:=by
 unfold Fd.hole at h;split at h;rename_i k d1 l1 x1 k' d2 l2;obtain⟨_,h⟩:=aC.aK h;split at h;rename_i hd;subst hd;cases h;exact⟨k,k',rfl⟩;cases h;cases h
def D.ql:D->Bool
 | .int .u8=>true
 | _=>false
theorem D.w_u8{d:D}(h:d.ql=true)(x:d.ty):∃ n,d.w x=.int .u8 n:=by
 unfold D.ql at h;split at h;exact⟨x,rfl⟩;cases h
theorem D.RO{d:D}(h:d.ql=false)(x:d.ty)(n:Int):d.w x≠.int .u8 n:=by
 intro e;cases d with
 | int k =>
   have e:W.int k x=.int .u8 n:=e;cases e;cases h
 | bool=>cases e
 | str=>cases e
 | sl d=>cases e
def shut(S:ak)(m:Nat):Option (Cd×ak):=match S.tW m with
 | some o=>match Fd.hole o.fs with
   | some ⟨d,l,x,l'⟩=>bif d.ql then none else(match K2 S d x with
     | some (c,y,S1)=>match S1.get m with
       | some _=>some (c,S1.put m ⟨o.ty,[.a 1 d (l++y::l')]⟩)
       | none=>none
     | none=>none)
   | none=>none
 | none=>none
theorem Gm(R : St base η Z S w){m : Nat}{c : Cd}{S' : ak}(e : shut S m = some (c, S'))(hc : c) : ∃ Z', bX base η Z S w η Z' S' w ∧ ∀ i, i ≠ m → S'.get i = none ∨ S'.get i = S.get i := by
 unfold shut at e;split at e
 · rename_i o ho
   obtain⟨ho,hmo⟩:=kZ ho;split at e
   · rename_i d l x l' hh
     cases zu:d.ql with
     | true=>rw[zu] at e;cases e
     | false =>
     rw[zu] at e;simp only[cond_false] at e;split at e;rename_i c1 y S1 hf;split at e
     . rename_i o1 kr;cases e;obtain⟨k,k',hfs⟩:=Fd.PD hh;have cK:o.cells=l.map d.w++x::l'.map d.w:=by unfold Ob.cells;rw[hfs];simp[Fd.cells]
       have hx:o.cells[l.length]? = some x:=by rw[cK,acU (by simp)];simp
       cases hp:η m with
       | none=>rw[R.cJ m o ho hp] at hx;simp at hx
       | some p =>
         obtain⟨_,_,L⟩:=R.au m o p ho hp;obtain⟨cs,fz,h1,h2,h3,tZ⟩:=L.there hmo;obtain⟨v,hv,hr,hone⟩:=h3 _ _ hx;obtain⟨Z1,mv,hd,hS⟩:=zS R hf hc hr;have h4:=tZ.plain fun hB=>by
          obtain⟨n,e⟩:=hB x (acR hx);subst e;have hr:v=.int .u8 n:=by simpa only[aJ,aV] using hr
          subst hr;cases d with
          | int k =>
            have hd:Value.int .u8 n=.int k y:=hd;cases hd;cases zu
          | bool=>have hd:Value.int .u8 n=.bool y:=hd;cases hd
          | str=>have hd:Value.int .u8 n=.string y:=hd;cases hd
          | sl d=>obtain⟨_,_,_,hd,_⟩:=hd;cases hd
         have hget:∀ i,S1.get i=none∨S1.get i=S.get i:=by
          intro i;rcases hS with rfl|⟨m',rfl⟩;exact .inr rfl;rw[ak.iM];by_cases hi:i=m';rw[if_pos hi];exact .inl rfl;rw[if_neg hi];exact .inr rfl
         have Zk:S1.get m=some o:=by
          rcases hget m with h|h;rw[h] at kr;cases kr;rw[h];exact ho
         have g : ni base η Z1 S1 w η (S1.put m ⟨o.ty, [.a 1 d (l ++ y :: l')]⟩) w := by
          refine mv.st.write Zk hp rfl rfl rfl rfl (fun _ _=>rfl) (eM.plain (Ob.jC (d:=d) (l:=l++y::l') (by unfold Ob.cells;simp[Fd.cells])) ⟨cs,fz,h1,h2,?_,h4⟩ ?_);intro i z hz;have hz':(l.map d.w++d.w y::l'.map d.w)[i]? = some z:=by
           rw[<-hz];unfold Ob.cells;simp[Fd.cells]
          by_cases hi:i=l.length;subst hi;rw[acU (by simp)] at hz';simp at hz';subst hz';exact⟨v,hv,(D.gN d).2 hd,hone⟩;obtain⟨v',a,b,e⟩:=h3 i z (by
           rw[cK,<-hz'];rcases Nat.lt_or_gt_of_ne hi with hi|hi;rw[acX (by simpa using hi),acX (by simpa using hi)];rw[acU (by simp;omega),acU (by simp;omega)];simp only[ac1];obtain⟨j,hj⟩:∃ j,i-l.length=j+1:=⟨i-l.length-1,by omega⟩;rw[hj];rfl)
          exact⟨v',a,b.mono (Eta.le.refl _) mv.step.cZ,e⟩;have:=L.size hmo;rw[cK] at this;unfold Ob.cells;simp[Fd.cells] at this ⊢;omega
         refine⟨Z1,mv.trans g.up,fun i hi=>?_⟩;rw[ak.jm,if_neg hi];exact hget i
     cases e;cases e
   cases e
 cases e
def sS(S:ak)(d:D)(x:W):Option (Cd×d.ty×ak) :=
 match K2 S d x with
 | some r=>some r
 | none=>match x with
   | .sl m off len sz=>match shut S m with
     | some (c,S1)=>match K2 S1 d (.sl m off len sz) with
       | some (c',y,S2)=>some (.and c c',y,S2.del m)
       | none=>none
     | none=>none
   | _=>none
theorem mD(R : St base η Z S w){d : D}{x : W}{c : Cd}{y : d.ty}{S' : ak}(e : sS S d x = some (c, y, S'))(hc : c){v : Value}(h : aJ η Z x v) :
 ∃ Z',bX base η Z S w η Z' S' w/\cW Z' d y v/\∀ i,S'.get i=none∨S'.get i=S.get i:=by
 have gK:∀{S S':ak},(S'=S∨∃ m,S'=S.del m)->∀ i,S'.get i=none∨S'.get i=S.get i:=by
  intro S S' hS i;rcases hS with rfl|⟨m',rfl⟩;exact .inr rfl;rw[ak.iM];by_cases hi:i=m';rw[if_pos hi];exact .inl rfl;rw[if_neg hi];exact .inr rfl
 unfold sS at e;split at e;rename_i r hr;cases e;obtain⟨Z',a,b,hS⟩:=zS R hr hc h;exact⟨Z',a,b,gK hS⟩
 · split at e
   rename_i m off len sz _;split at e;rename_i c1 S1 hs;split at e;rename_i c2 y2 S2 hf;cases e;obtain⟨Z1,HY,g1⟩:=Gm R hs hc.1;obtain⟨Z2,iE,hd,hS⟩:=zS HY.st hf hc.2 (h.mono (Eta.le.refl _) HY.step.cZ);refine⟨Z2,(HY.trans iE).trans ⟨Eta.le.refl _,iE.st.del m,Step.del m⟩,hd,fun i=>?_⟩;rw[ak.iM];by_cases hi:i=m;rw[if_pos hi];exact .inl rfl;rw[if_neg hi];rcases gK hS i with h|h;exact .inl h;rw[h];exact g1 i hi;cases e;cases e;cases e
end
def Gn(S:ak)(d:D):List V->Option (Cd×List d.ty×ak)
 | []=>some (.t,[],S)
 | .c x::l=>match sS S d x with
   | some (c,y,S1)=>match Gn S1 d l with
     | some (c',ys,S2)=>some (.and c c',y::ys,S2)
     | none=>none
   | none=>none
 | _=>none
def ai(s:ByteArray):List Int:=s.data.toList.map fun b=>(b.toNat:Int)
def strD:(d:D)->ByteArray->Option (Cd×List d.ty)
 | .int .u8,s=>some (.t,ai s)
 | _,_=>none
def Dp(S:ak)(d:D)(x:W):Option (Cd×List d.ty) :=
 match x with
 | .nil=>some (.t,[])
 | .rd d' l=>if h:d'=d then some (.t,h▸l) else none
 | .sl m off len sz=>bif acT sz 1 then match S.get m with
  | some o=>match Fd.list d o.fs with
    | some l=>some (.p (off+len<=l.length),(l.drop off).take len)
    | none=>none
  | none=>none
   else none
 | .str s=>strD d s
 | _=>none
def D.same:(d:D)->W->Option d.ty
 | .int k,.int k' n=>if k'=k then some n else none
 | .bool,.bool b=>some b
 | .str,.str s=>some s
 | _,_=>none
theorem D.same_w{d:D}{x:W}{y:d.ty}(e:d.same x=some y):d.w y=x:=by
 cases d<;>cases x<;>simp only[D.same] at e<;>try cases e
 rename_i k k' n;split at e;rename_i hk;subst hk;cases e;rfl;cases e;rfl;rfl
def Bz(d:D):Nat->List W->Option (List d.ty×List W)
 | 0,l=>some ([],l)
 | n+1,x::l=>match d.same x,Bz d n l with|some y,some (ys,r)=>some (y::ys,r)|_,_=>none
 | _+1,[]=>none
theorem K3{d:D}:∀{n:Nat}{l r:List W}{ys:List d.ty},Bz d n l=some (ys,r)->l=ys.map d.w++r
 | 0,l,r,ys,e=>by simp only[Bz] at e;cases e;rfl
 | n+1,[],r,ys,e=>by simp only[Bz] at e;cases e
 | n + 1, x :: l, r, ys, e => by
   simp only[Bz] at e;split at e;rename_i y ys' r' h1 h2;cases e;rw[K3 h2,adJ,D.same_w h1];rfl;cases e
def nV:List Fd->List W->Option (List Fd)
 | [],[]=>some []
 | .c _::fs,x::l=>match nV fs l with|some r=>some (.c x::r)|none=>none
 | .a n d _::fs,l=>match Bz d n l with
   | some (ys,r)=>(match nV fs r with|some q=>some (.a n d ys::q)|none=>none)
   | none=>none
 | _,_=>none
theorem xZ:∀{fs:List Fd}{l:List W}{r:List Fd},nV fs l=some r->r.flatMap Fd.cells=l
 | [],[],r,e=>by simp only[nV] at e;cases e;rfl
 | [],_::_,r,e=>by simp only[nV] at e;cases e
 | .c _::fs,[],r,e=>by simp only[nV] at e;cases e
 | .c _::fs,x::l,r,e=>by
   simp only[nV] at e;split at e;rename_i q h;cases e;rw[acY,xZ h];rfl;cases e
 | .a n d _::fs,l,r,e=>by
   simp only[nV] at e;split at e;rename_i ys q h;split at e;rename_i q' h';cases e;rw[acY,xZ h',K3 h];rfl;cases e;cases e
def K4(fs:Option (List Fd))(l:List W):List Fd :=
 match fs with
 | some fs=>(match nV fs l with|some r=>r|none=>l.map .c)
 | none=>l.map .c
theorem K5{fs:Option (List Fd)}{l:List W}:(K4 fs l).flatMap Fd.cells=l:=by
 unfold K4;split;split;rename_i h;exact xZ h;exact wH l;exact wH l
def Zl:List W->Bool
 | [.dz,.nil]=>true
 | _=>false
theorem isNN_eq{l:List W}(h:Zl l=true):l=[.dz,.nil]:=by
 unfold Zl at h;split at h;rfl;cases h
def D.j6:(d:D)->d.ty->d.ty->Bool
 | .int _,a,b=>decide ((show Int from a)=b)
 | .str,a,b=>decide ((show ByteArray from a)=b)
 | _,_,_=>false
def D.isKey:D->Bool
 | .int _=>true
 | .str=>true
 | _=>false
theorem D.ld{d:D}(h:d.isKey=true){a b:d.ty}:d.j6 a b=true↔a=b:=by
 cases d<;>simp only[D.isKey] at h<;>first|(cases h;done)|(simp only[D.j6];exact decide_eq_true_iff)
def jT(kd vd:D)(k:kd.ty)(v:vd.ty):List (kd.ty×vd.ty)->List (kd.ty×vd.ty)
 | []=>[(k,v)]
 | (k',v')::l=>bif kd.j6 k k' then(k,v)::l else(k',v')::jT kd vd k v l
def lP(kd vd:D)(k:kd.ty):List (kd.ty×vd.ty)->Option vd.ty
 | []=>none
 | (k',v')::l=>bif kd.j6 k k' then some v' else lP kd vd k l
def qm(kd vd:D)(l:List (kd.ty×vd.ty))(k:kd.ty):vd.ty:=match lP kd vd k l with|some v=>v|none=>vd.zero
def uc(kd vd:D)(l:List (kd.ty×vd.ty))(k:kd.ty):Bool:=(lP kd vd k l).isSome
theorem zT{kd vd:D}(h:kd.isKey=true)(k:kd.ty)(v:vd.ty)(k2:kd.ty):∀(l:List (kd.ty×vd.ty)),(k2=k->lP kd vd k2 (jT kd vd k v l)=some v)/\(k2≠k->lP kd vd k2 (jT kd vd k v l)=lP kd vd k2 l)
 | []=>by
   simp only[jT,lP];refine⟨fun e=>?_,fun e=>?_⟩;rw[(D.ld h).2 e];rfl;cases hb:kd.j6 k2 k with
   | true=>exact absurd ((D.ld h).1 hb) e
   | false=>rfl
 | (k',v')::l=>by
   simp only[jT];cases hb:kd.j6 k k' with
   | true =>
     have:=(D.ld h).1 hb;subst this;simp only[cond_true,lP];refine⟨fun e=>?_,fun e=>?_⟩;rw[(D.ld h).2 e];rfl;cases hb2:kd.j6 k2 k with
     | true=>exact absurd ((D.ld h).1 hb2) e
     | false=>rfl
   | false =>
     simp only[cond_false,lP];obtain⟨h1,h2⟩:=zT h k v k2 l;cases hb2:kd.j6 k2 k' with
     | true =>
       have:=(D.ld h).1 hb2;subst this;refine⟨fun e=>?_,fun _=>rfl⟩;rw[(D.ld h).2 e.symm] at hb;cases hb
     | false=>exact⟨h1,h2⟩
inductive L where
 | mkmap (ty:TypeId) (kd vd:D)
 | jT (kd vd:D) (m k v:cj)
 | qm (kd vd:D) (m k:cj) (ok:Bool)
 | Vp (ty:TypeId)
 | RP (kd:D) (m k v:cj)
 | mgetF (kd:D) (m k:cj)
 | alloc (ty:TypeId) (fs:List Fd)
 | Vq (ty el:TypeId)
 | boxB (ty el:TypeId) (x:cj)
 | ustr (el:TypeId) (x n:cj)
 | nil (el:TypeId) (d:D)
 | box (ty:TypeId) (fs:Option (List Fd)) (x:cj)
 | store (n:Nat) (x v:cj)
 | make (el:TypeId) (bytes:Nat) (d:D) (l c:cj)
 | lit (el:TypeId) (sz:Nat) (d:Option D) (h:Bool) (parts:List cj)
 | append (el:TypeId) (bytes:Nat) (d:D) (x y:cj)
 | zeros (el:TypeId) (bytes:Nat) (d:D) (x y:cj)
 | copy (d:D) (x y:cj)
 | clear (d:D) (x:cj)
 | b2s (x:cj)
 | mki (t:TypeId) (x:cj)
 | tas (t:TypeId) (z:V) (x:cj)
 | st0 (x v:cj)
 | s2b (x:cj)
 | mlen (kd vd:D) (x:cj)
def Ka(sz:Nat):List V->Bool
 | []=>true
 | v::l=>acT v.cells.length sz&&Ka sz l
def spl{α:Type}(l:List α)(off:Nat)(ys:List α):List α:=l.take off++ys++l.drop (off+ys.length)
def K6(d:Option D)(h:Bool)(vs:List V):Option (List Fd):=match d,vs with
 | some d,[.c (.sl m off len sz)]=>bif h&&acT sz 1 then some [.a 1 d [],.c (.sl m off len sz),.a 1 d []] else none
 | _,_=>none
theorem K7{d:Option D}{h:Bool}{vs:List V}{fs:List Fd}(e:K6 d h vs=some fs):fs.flatMap Fd.cells=vs.flatMap V.cells:=by
 unfold K6 at e;split at e;obtain⟨_,e⟩:=aC.aK e;cases e;rfl;cases e
def Fd.one:List Fd->Option W
 | [.a _ _ l,.c x,.a _ _ l']=>match l,l' with
   | [],[]=>some x
   | _,_=>none
 | _=>none
theorem Fd.HZ{fs:List Fd}{x:W}(e:Fd.one fs=some x):fs.flatMap Fd.cells=[x]:=by
 unfold Fd.one at e;split at e;split at e;cases e;rfl;cases e;cases e
def rowOf(S:ak)(d:D):W->Option (Nat×Nat×List Int)
 | .sl q off len sz => match d, S.tW q with
   | .sl (.int .i64),some o=>match Fd.one o.fs with
     | some (.sl m off' k sz')=>bif acT off 0&&acT len 1&&acT sz 1&&acT sz' 1 then match S.get m with
      | some om=>match Fd.list (.int .i64) om.fs with
        | some l=>(match off' with|0=>some (m,k,(l:List Int))|j+1=>some (m,k,adI (α:=Int) (j+1) l))
        | none=>none
      | none=>none
       else none
     | _=>none
   | _,_=>none
 | _=>none
theorem RQ{S : ak}{d : D}{y : W}{m k : Nat}{l : List Int}(e : rowOf S d y = some (m, k, l)) : ∃(q : Nat)(o om : Ob)(ro : Nat)(l0 : List Int), y = .sl q 0 1 1 ∧ S.get q = some o ∧ ¬o.fG ∧ o.cells = [.sl m ro k 1] ∧ S.get m = some om ∧ om.cells = l0.map (W.int .i64) ∧ l = l0.drop ro := by
 unfold rowOf at e;split at e;rename_i q off len sz;split at e;rename_i o ho;obtain⟨ho,hmo⟩:=kZ ho;split at e;rename_i m' off' k' sz' h1;obtain⟨hb,e⟩:=aC.aK e;simp only[acQ] at hb;obtain⟨⟨⟨b1,b2⟩,b3⟩,b5⟩:=hb;have b1:=acP b1;have b2:=acP b2;have b3:=acP b3;have b5:=acP b5;subst b1;subst b2;subst b3;subst b5;split at e;rename_i om Vr;split at e
 . rename_i l' hl;cases off' with
   | zero =>
     cases e;exact⟨q,o,om,0,_,rfl,ho,hmo,Fd.HZ h1,Vr,Fd.j5 hl,rfl⟩
   | succ j =>
     cases e;exact⟨q,o,om,j+1,l',rfl,ho,hmo,Fd.HZ h1,Vr,Fd.j5 hl,rfl⟩
 cases e;cases e;cases e;cases e;cases e
def litV(S:ak)(d:Option D)(h:Bool)(vs:List V):Option (Cd×List Fd×ak) :=
 match K6 d h vs with
 | some fs=>some (.t,fs,S)
 | none=>match d with
 | some d=>match Gn S d vs with
   | some (c,ys,S1)=>some (c,[.a 0 d ys],S1)
   | none=>some (.t,(vs.flatMap V.cells).map .c,S)
 | none=>some (.t,(vs.flatMap V.cells).map .c,S)
def Fd.nb:Fd->Bool
 | .c (.int .u8 _)=>false
 | .c _=>true
 | _=>false
def nbF(fs:List Fd):Bool:=fs.any Fd.nb||(match fs with | [.a _ d _]=>!d.ql|_=>false)
theorem nbF_ok{o:Ob}(h:nbF o.fs=true)(h0:o.cells≠[]):¬o.bytes:=by
 intro hB;unfold nbF at h;rw[adw] at h;rcases h with h|h
 . obtain⟨f,hf,hn⟩:=List.any_eq_true.1 h;cases f with
   | c x =>
     obtain⟨n,e⟩:=hB x (by unfold Ob.cells;exact List.mem_flatMap.2 ⟨_,hf,by simp[Fd.cells]⟩);subst e;cases hn
   | a _ _ _=>cases hn
   | m _ _ _=>cases hn
 split at h
 . rename_i k d l hfs;have cK:o.cells=l.map d.w:=by unfold Ob.cells;rw[hfs];simp[Fd.cells]
   cases l with
   | nil=>exact h0 (by rw[cK];rfl)
   | cons x l =>
     obtain⟨n,e⟩:=hB (d.w x) (by rw[cK];simp);exact D.RO (by simpa using h) x n e
 cases h
theorem BA{o:Ob}{d:D}{l:List d.ty}(cK:o.cells=l.map d.w)(h:d.ql=false):¬o.bytes∨o.cells=[]:=by
 cases l with
 | nil=>right;rw[cK];rfl
 | cons x l =>
   left;intro hB;obtain⟨n,e⟩:=hB (d.w x) (by rw[cK];simp);exact D.RO h x n e
def opn(S:ak)(m i:Nat)(y:W):Option (Cd×ak):=match S.tW m with
 | some o=>match o.fs with
   | [.a k d l]=>bif acT k 1&&!d.ql then some (.p (i<l.length),S.put m ⟨o.ty,[.a 1 d (l.take i),.c y,.a 1 d (l.drop (i+1))]⟩) else none
   | _=>none
 | none=>none
def again(S:ak)(m i:Nat)(y:W):Option (Cd×ak):=match S.tW m with
 | some o=>match Fd.hole o.fs with
   | some ⟨d,l,.sl k _ _ _,l'⟩=>match S.get k with
     | none=>some (.p (i=l.length),S.put m ⟨o.ty,[.a 1 d l,.c y,.a 1 d l']⟩)
     | some _=>none
   | _=>none
 | none=>none
def Zm(S:ak)(m i:Nat)(y:W):Option (Cd×ak):=match y with
 | .sl _ _ _ _ => match opn S m i y with
   | some r=>some r
   | none=>match again S m i y with
     | some r=>some r
     | none=>match shut S m with
       | some (c,S1)=>match opn S1 m i y with
         | some (c',S')=>some (.and c c',S')
         | none=>none
       | none=>none
 | _=>none
def D.isSl:D->Bool
 | .sl _=>true
 | _=>false
def Ob.qT(kd vd:D)(o:Ob):Option (List (kd.ty×vd.ty)):=match o.fs with
 | [.m kd' vd' l]=>if h:kd'=kd/\vd'=vd then some (h.1▸h.2▸l) else none
 | _=>none
theorem Ob.ents_fs{kd vd:D}{o:Ob}{l:List (kd.ty×vd.ty)}(h:o.qT kd vd=some l):o.fs=[.m kd vd l]:=by
 unfold Ob.qT at h;split at h;rename_i kd' vd' l' hfs;split at h;rename_i hd;obtain⟨rfl,rfl⟩:=hd;cases h;exact hfs;cases h;cases h
def qo(kd:D):List Fd->Option (List (kd.ty×W))
 | []=>some []
 | .c k::.c v::r=>match kd.of k,qo kd r with
   | some x,some l=>bif v.aj then some ((x,v)::l) else none
   | _,_=>none
 | _=>none
def wS(kd:D):List Fd->Option (List (kd.ty×W))
 | .c .mh::r=>qo kd r
 | _=>none
def zU(kd:D)(k:kd.ty):List (kd.ty×W)->Option W
 | []=>none
 | (k',v)::l=>bif kd.j6 k k' then some v else zU kd k l
def W.uV:W->Option Value
 | .bool b=>some (.bool b)
 | .int k n=>some (.int k n)
 | .str s=>some (.string s)
 | .ep=>some .nilIface
 | .val v=>some v
 | _=>none
def ED:List W->Option (List Value)
 | []=>some []
 | x::l=>match x.uV,ED l with|some u,some r=>some (u::r)|_,_=>none
def V.uV:V->Option Value
 | .c x=>x.uV
 | .agg cs=>match ED cs with|some us=>some (.agg us.toArray)|none=>none
theorem W.uW{η:Eta}{Z:aF}{x:W}{u v:Value}(e:x.uV=some u)(h:aJ η Z x v):v=u:=by
 cases x<;>simp only[W.uV] at e<;>first
  | (cases e;done)
  | (cases e;simp only[aJ,aV] at h;exact h)
  | (cases e;simp only[aJ,aV] at h;exact h.1)
theorem EF{η:Eta}{Z:aF}:∀{cs:List W}{us vs:List Value},ED cs=some us->bp (aJ η Z) cs vs->vs=us
 | [],us,vs,e,h=>by
   cases e;cases vs with
   | nil=>rfl
   | cons _ _=>exact h.elim
 | x :: l, us, vs, e, h => by
   simp only[ED] at e;split at e
   . rename_i u r hu hr;cases e;cases vs with
     | nil=>exact h.elim
     | cons v vs=>rw[W.uW hu h.1,EF hr h.2]
   cases e
theorem V.uW{η:Eta}{Z:aF}{x:V}{u v:Value}(e:x.uV=some u)(h:dP η Z x v):v=u:=by
 cases x with
 | c x=>exact W.uW e h.2
 | agg cs =>
   simp only[V.uV] at e;split at e;rename_i us zO;cases e;obtain⟨ws,hw,_,hl⟩:=h;rw[hw,EF zO hl];cases e
def RR(F:Fr)(S:ak)(el:TypeId)(bytes:Nat)(d:D)(x:cj)(y:W):Option (Cd×A×ak) :=
 match Dp S d y with
  | some (q,ys)=>match gk F x with
    | some (r,.nil)=>some (.and q (.and r (.p (ys.length*bytes<=140737488355328))),.p (.c (.sl S.next 0 ys.length 1)),S.add ⟨el,[.a 0 d ys]⟩)
    | some (r,.sl n off len sz)=>bif acT sz 1 then match S.get n with
     | some o=>bif acT o.ty el then match Fd.list d o.fs with
      | some l=>some (.and q (.and r (bif d.ql then .p (off=0/\len=l.length/\(len+ys.length)*bytes<=140737488355328) else .p (off+len<=l.length/\(len+ys.length)*bytes<=140737488355328))),.p (.c (.sl S.next 0 (len+ys.length) 1)),(S.del n).add ⟨el,[.a 0 d ((l.drop off).take len++ys)]⟩)
      | none=>none
       else none
     | none=>none
      else none
    | _=>none
  | none=>none
def appR(F:Fr)(S:ak)(el:TypeId)(bytes:Nat)(d:D)(x:cj)(y:W):Option (Cd×A×ak):=match y with
 | .sl q _ _ _=>match shut S q with
   | some (c,S1)=>match RR F S1 el bytes d x y with
     | some (c2,v,S2)=>some (.and c c2,v,S2)
     | none=>none
   | none=>none
 | _=>none
def kF(F:Fr)(S:ak):L->Option (Cd×A×ak)
 | .mki t x=>match oC F x with
   | some (c,v)=>match v.uV with
     | some u=>some (c,.p (.c (.val (.iface t u))),S)
     | none=>none
   | none=>none
 | .tas t z x=>match gk F x with
   | some (c,.ep)=>some (c,.aL [z,.c (.bool false)],S)
   | some (c,.val (.iface t' v))=>bif acT t' t then(match Pr v with|some y=>some (c,.aL [y,.c (.bool true)],S)|none=>none) else some (c,.aL [z,.c (.bool false)],S)
   | _=>none
 | .st0 x v=>match gk F x,oC F v with
   | some (p,.ptr _ _),some (q,.agg [])=>some (.and p q,.aL [],S)
   | _,_=>none
 | .s2b x=>match zK F x with
   | some (c,s)=>some (c,.p (.c (.rd (.int .u8) (ai s))),S)
   | none=>none
 | .mlen kd vd x=>match gk F x with
   | some (p,.mp n)=>match S.get n with
     | some o=>match o.qT kd vd with
       | some l=>some (p,.p (.c (.int .i64 (l.length:Nat))),S)
       | none=>none
     | none=>none
   | _=>none
 | .Vp ty=>some (.t,.p (.c (.mp S.next)),S.add ⟨ty,[.c .mh]⟩)
 | .RP kd m k v => match gk F m, gk F k, gk F v with
   | some (p,.mp n),some (q,x),some (r,y)=>match kd.of x,S.get n with
     | some k,some o=>match wS kd o.fs with
       | some l=>match zU kd k l with
         | none=>bif y.aj then some (.and p (.and q r),.aL [],S.put n ⟨o.ty,o.fs++[.c (kd.w k),.c y]⟩) else none
         | some _=>none
       | none=>none
     | _,_=>none
   | _,_,_=>none
 | .mgetF kd m k=>match gk F m,gk F k with
   | some (p,.mp n),some (q,x)=>match kd.of x,S.get n with
     | some k,some o=>match wS kd o.fs with
       | some l=>match zU kd k l with
         | some v=>some (.and p q,.p (.c v),S)
         | none=>none
       | none=>none
     | _,_=>none
   | _,_=>none
 | .mkmap ty kd vd=>some (.t,.p (.c (.mp S.next)),S.add ⟨ty,[.m kd vd []]⟩)
 | .jT kd vd m k v => match gk F m, gk F k, gk F v with
   | some (p,.mp n),some (q,x),some (r,y)=>match kd.of x,sS S vd y with
     | some k,some (c,z,S1)=>match S1.get n with
       | some o=>match o.qT kd vd with
         | some l=>some (.and p (.and q (.and r c)),.aL [],S1.put n ⟨o.ty,[.m kd vd (aW.jT kd vd k z l)]⟩)
         | none=>none
       | none=>none
     | _,_=>none
   | _,_,_=>none
 | .qm kd vd m k ok => match gk F m, gk F k with
   | some (p,.mp n),some (q,x)=>match kd.of x,S.get n with
     | some k,some o=>match o.qT kd vd with
       | some l=>bif ok
         then some (.and p q,.aL [.c (vd.w (aW.qm kd vd l k)),.c (.bool (uc kd vd l k))],S)
         else some (.and p q,.p (.c (vd.w (aW.qm kd vd l k))),S)
       | none=>none
     | _,_=>none
   | _,_=>none
 | .alloc ty fs=>some (.t,.p (.c (.ptr S.next 0)),S.add ⟨ty,fs⟩)
 | .Vq ty el=>some (.t,.p (.c (.ptr S.next 0)),(S.add ⟨ty,[.c (.ba S.next),.c (.sl (S.next+1) 0 0 1)]⟩).add ⟨el,[.a 0 (.int .u8) []]⟩)
 | .boxB ty el x=>match oC F x with
   | some (p,v)=>bif Zl v.cells then some (p,.p (.c (.ptr S.next 0)),(S.add ⟨ty,[.c (.ba S.next),.c (.sl (S.next+1) 0 0 1)]⟩).add ⟨el,[.a 0 (.int .u8) []]⟩) else none
   | none=>none
 | .ustr el x n=>match gk F x,kD F n with
   | some (p,.pe m off i),some (q,_,k)=>match S.get m with
     | some o=>bif acT off 0&&acT o.ty el then match Fd.list (.int .u8) o.fs with
      | some l=>some (.and p (.and q (.p (0<k/\i+k<=l.length/\k<=9223372036854775807))),.p (.c (.str (bE ((l.drop i).take k.toNat)))),S)
      | none=>none
       else none
     | none=>none
   | _,_=>none
 | .nil el d=>some (.t,.p (.c (.sl S.next 0 0 1)),S.add ⟨el,[.a 0 d []]⟩)
 | .box ty fs x=>match oC F x with
   | some (p,v)=>some (p,.p (.c (.ptr S.next 0)),S.add ⟨ty,K4 fs v.cells⟩)
   | none=>none
 | .store n x v=>match gk F x,oC F v with
   | some (p,.ptr m off),some (q,v)=>bif acT v.cells.length n then match S.tW m with
    | some o=>bif nbF o.fs then(match EC o.fs off v.cells with
      | some (c,fs')=>some (.and p (.and q c),.aL [],S.put m ⟨o.ty,fs'⟩)
      | none=>none) else none
    | none=>none
     else none
   | some (p,.qg m i j),some (q,.c (.int .i64 y))=>bif acT n 1 then match uQ S m with
     | some (k,af)=>match S.get m with
       | some o=>some (.and p (.and q (.p (i<af.length/\j<k))),.aL [],S.put m ⟨o.ty,[.c (.th k (af.set i ((af.getD i []).set j y)))]⟩)
       | none=>none
     | none=>none
     else none
   | some (p,.pe m off i),some (q,.c y)=>bif acT n 1 then match (bif acT off 0 then Zm S m i y else none) with
     | some (c,S1)=>some (.and p (.and q c),.aL [],S1)
     | none=>match S.tW m with
       | some o=>match jw o.fs off with
         | some (c,.a k d l)=>bif d.ql then none else match sS S d y with
           | some (c2,z,S1)=>match S1.get m,qk o.fs off (.a k d (l.set i z)) with
             | some _,some fs'=>some (.and p (.and q (.and c (.and c2 (.p (i<l.length))))),.aL [],S1.put m ⟨o.ty,fs'⟩)
             | _,_=>none
           | none=>none
         | _=>none
       | none=>none
     else none
   | _,_=>none
 | .make el bytes d l c=>match kD F l,kD F c with
   | some (p,_,l),some (q,_,c)=>bif d.isSl
     then some (.and p (.and q (.p (0<=l/\l<=c/\(bytes:Int)*c<=140737488355328))),.p (.c (.sl S.next 0 l.toNat 1)),S.add ⟨el,[.a 1 d (acV c.toNat d.zero)]⟩)
     else some (.and p (.and q (.p (0<=l/\l<=c/\(bytes:Int)*c<=140737488355328))),.p (.c (.sl S.next 0 l.toNat 1)),S.add ⟨el,[.a 0 d (acV c.toNat d.zero)]⟩)
   | _,_=>none
 | .lit el sz d h parts=>match mV F parts with
   | some (p,vs)=>bif Ka sz vs then match litV S d h vs with
    | some (c,fs,S1)=>some (.and p c,.p (.c (.sl S1.next 0 parts.length sz)),S1.add ⟨el,fs⟩)
    | none=>none
     else none
   | none=>none
 | .zeros el bytes d x y=>match gk F x,kD F y with
   | some (p,.nil),some (q,_,n)=>some (.and p (.and q (.p (0<n/\(bytes:Int)*n<=140737488355328))),.p (.c (.sl S.next 0 n.toNat 1)),S.add ⟨el,[.a 0 d (acV n.toNat d.zero)]⟩)
   | _,_=>none
 | .append el bytes d x y=>match gk F y with
   | some (p, y) => match rowOf S d y with
    | some (m,k,l)=>match gk F x with
      | some (r,.nil)=>some (.and p (.and r (.p (l.length=k/\0<k/\bytes<=140737488355328))),.p (.c (.sl S.next 0 1 1)),(S.del m).add ⟨el,[.c (.th k [l])]⟩)
      | some (r,.sl n off len sz)=>match uQ S n with
        | some (k',af)=>bif acT sz 1&&!(acT n m) then(match S.get n with
         | some o=>bif acT o.ty el then some (.and p (.and r (.p (off=0/\len=af.length/\k'=k/\l.length=k/\0<k/\(af.length+1)*bytes<=140737488355328))),.p (.c (.sl S.next 0 (af.length+1) 1)),((S.del n).del m).add ⟨el,[.c (.th k (af++[l]))]⟩) else none
         | none=>none) else none
        | none=>match appR F S el bytes d x y with
          | some (c,v,S1)=>some (.and p c,v,S1)
          | none=>none
      | _=>none
    | none=>match RR F S el bytes d x y with
     | some (c,v,S1)=>some (.and p c,v,S1)
     | none=>none
   | none=>none
 | .copy d x y => match gk F y with
   | some (p, y) => match Dp S d y with
     | some (q,ys)=>match gk F x with
       | some (r,.sl n off len sz)=>bif acT sz 1&&!d.ql then match S.get n with
        | some o=>match Fd.list d o.fs with
          | some l=>some (.and p (.and q (.and r (.p (off+len<=l.length)))),.p (.c (.int .i64 ((adQ ys.length len:Nat):Int))),S.put n ⟨o.ty,[.a 0 d (spl l off (ys.take len))]⟩)
          | none=>none
        | none=>none
         else none
       | _=>none
     | none=>none
   | none=>none
 | .clear d x=>match gk F x with
   | some (p,.sl n off len sz)=>bif acT sz 1&&!d.ql then match S.get n with
    | some o=>match Fd.list d o.fs with
      | some l=>some (.and p (.p (off+len<=l.length)),.aL [],S.put n ⟨o.ty,[.a 0 d (spl l off (acV len d.zero))]⟩)
      | none=>none
    | none=>none
     else none
   | _=>none
 | .b2s x=>match gk F x with
   | some (p,y)=>match y with
     | .str _=>none
     | y=>match Dp S (.int .u8) y with
       | some (q,l)=>some (.and p q,.p (.c (.str (bE l))),S)
       | none=>none
   | none=>none
def qp:TypeDesc->D->Bool
 | .int k,.int k'=>decide (k=k')
 | .string,.str=>true
 | _,_=>false
def vW(P:Program)(t:TypeId):Option (D×D):=match P.underlying t with
 | some (.map kt et)=>match P.underlying kt,wQ P 4 kt,P.info? et,wQ P 4 et with
   | some td,some kd,some i,some vd=>match i.zero with
     | some z=>if qp td kd=true/\zR (vd.w vd.zero) z=true then some (kd,vd) else none
     | none=>none
   | _,_,_,_=>none
 | _=>none
def sK(P:Program)(t:TypeId):Option D:=match P.underlying t with
 | some (.map kt _)=>match P.underlying kt,wQ P 4 kt with
   | some td,some kd=>if qp td kd=true then some kd else none
   | _,_=>none
 | _=>none
def Kb(P:Program)(t:TypeId):Option TypeId:=match P.underlying t with
 | some (.struct ⟨[f,g]⟩)=>match P.underlying f.type,P.underlying g.type,P.info? t with
   | some (.pointer t'),some (.slice el),some i=>match P.underlying el,i.zero with
     | some (.int .u8),some z=>if t'=t/\PB [.dz,.nil] z.cells.toList=true then some el else none
     | _,_=>none
   | _,_,_=>none
 | _=>none
def unnamed(P:Program)(t:TypeId):Bool:=match P.info? t with
 | some { desc:=.slice _,.. }=>true
 | _=>false
def K8(P : Program)(o : Oper) : Option L :=
 match o.op with
 | .makeMap t none=>match vW P t with|some (kd,vd)=>some (.mkmap t kd vd)|none=>match sK P t with|some _=>some (.Vp t)|none=>none
 | .mapUpdate t m k v=>match vW P t,cw m,cw k,cw v with|some (kd,vd),some m,some k,some v=>some (.jT kd vd m k v)|none,some m,some k,some v=>(match sK P t with|some kd=>some (.RP kd m k v)|none=>none)|_,_,_,_=>none
 | .insert t m k v=>match vW P t,cw m,cw k,cw v with|some (kd,vd),some m,some k,some v=>some (.jT kd vd m k v)|none,some m,some k,some v=>(match sK P t with|some kd=>some (.RP kd m k v)|none=>none)|_,_,_,_=>none
 | .lookup t m k ok=>match vW P t,cw m,cw k with|some (kd,vd),some m,some k=>some (.qm kd vd m k ok)|none,some m,some k=>(bif ok then none else match sK P t with|some kd=>some (.mgetF kd m k)|none=>none)|_,_,_=>none
 | .assign (.const (.slice none 0 0))=>match P.underlying o.type with
   | some (.slice el)=>match wQ P 4 el with|some d=>some (.nil el d)|none=>none
   | _=>none
 | .move (.const (.slice none 0 0))=>match P.underlying o.type with
   | some (.slice el)=>match wQ P 4 el with|some d=>some (.nil el d)|none=>none
   | _=>none
 | .alloc t=>match Kb P t with
   | some el=>some (.Vq t el)
   | none=>match RN P 8 t,P.info? t with
     | some fs,some i=>match i.zero with
       | some z=>if PB (fs.flatMap Fd.cells) z.cells.toList then some (.alloc t fs) else none
       | none=>none
     | _,_=>none
 | .call { callee:=.builtin .unsafeString,args:=⟨[x,y]⟩,argTypes:=⟨[pt,_]⟩ }=>match P.underlying pt,cw x,cw y with
   | some (.pointer el),some x,some y=>if P.cellsOf el=1 then some (.ustr el x y) else none
   | _,_,_=>none
 | .box t x=>match cw x with|some x=>(match Kb P t with|some el=>some (.boxB t el x)|none=>some (.box t (RN P 8 t) x))|none=>none
 | .store t x v=>match iD P t,cw x,cw v with|some n,some x,some v=>if n=0 then some (.st0 x v) else some (.store n x v)|_,_,_=>none
 | .makeInterface t x=>match P.underlying t,cw x with
   | some (.interface _),_=>none
   | some _,some x=>some (.mki t x)
   | _,_=>none
 | .typeAssert x _ t true=>match P.underlying t,P.info? t,cw x with
   | some (.interface _),_,_=>none
   | some _,some i,some x=>(match i.zero with
     | some z=>(match Pr z with|some z=>some (.tas t z x)|none=>none)
     | none=>none)
   | _,_,_=>none
 | .makeSlice t l c=>match P.underlying t,cw l,cw c with
   | some (.slice el),some l,some c=>match P.info? el,wQ P 4 el with
     | some i,some d=>match i.zero with
       | some z=>if i.size=1/\1<=i.bytes/\zR (d.w d.zero) z=true then some (.make el i.bytes d l c) else none
       | none=>none
     | _,_=>none
   | _,_,_=>none
 | .buildSlice t len parts=>match P.underlying t with
   | some (.slice el)=>match iD P el,Eu 0 parts.toList,kE P el with
     | some n,some ps,some z=>if n≠0/\ps.length=len/\len*n<=16777216/\z.length=n then some (.lit el n (if n=1 then wQ P 4 el else none) (unnamed P el) ps) else none
     | _,_,_=>none
   | _=>none
 | .call { callee := .builtin .append, args := ⟨[x, y]⟩, argTypes := ⟨[t, ts]⟩ } => match P.underlying t, cw x, cw y with
   | some (.slice el),some x,some y=>match P.info? el,kE P el,wQ P 4 el with
     | some i,some z,some d=>match P.underlying ts with
       | some (.slice _)=>if i.size=1/\z.length=1/\1<=i.bytes then some (.append el i.bytes d x y) else none
       | some .string=>if i.size=1/\z.length=1/\1<=i.bytes then some (.append el i.bytes d x y) else none
       | some (.int _)=>match i.zero with
         | some zv=>if i.size=1/\1<=i.bytes/\zR (d.w d.zero) zv=true then some (.zeros el i.bytes d x y) else none
         | none=>none
       | _=>none
     | _,_,_=>none
   | _,_,_=>none
 | .call { callee:=.builtin .copy,args:=⟨[x,y]⟩,argTypes:=⟨[t,_]⟩ }=>match P.underlying t,cw x,cw y with
   | some (.slice el),some x,some y=>match iD P el,wQ P 4 el with|some n,some d=>if n=1 then some (.copy d x y) else none|_,_=>none
   | _,_,_=>none
 | .call { callee:=.builtin .clear,args:=⟨[x]⟩,argTypes:=⟨[t]⟩ }=>match P.underlying t,cw x with
   | some (.slice el),some x=>match P.info? el,wQ P 4 el with
     | some i,some d=>match i.zero with
       | some z=>if zR (d.w d.zero) z=true then some (.clear d x) else none
       | none=>none
     | _,_=>none
   | _,_=>none
 | .convert s d x=>match P.underlying s,P.underlying d,cw x with
   | some .string,some (.slice el),some x=>match P.underlying el with|some (.int .u8)=>some (.s2b x)|_=>none
   | some (.slice el),some .string,some x=>match P.underlying el with|some (.int .u8)=>some (.b2s x)|_=>none
   | _,_,_=>none
 | .call { callee:=.builtin .len,args:=⟨[x]⟩,argTypes:=⟨[t]⟩ }=>match vW P t,cw x with
   | some (kd,vd),some x=>some (.mlen kd vd x)
   | _,_=>none
 | _=>none
section
variable {P:Program} {base n:Nat} {η:Eta} {Z:aF} {S:ak} {w:World} {F:Fr} {a:Act}
theorem Zn(s:ByteArray):(ai s).map (D.int .u8).w=zQ s.data.toList:=by
 simp[ai,zQ,D.w]
theorem bS.run{s s':Sem Next}{v:A}{S':ak}(h:s.run P w=s'.run P w)(g:bS P base η Z S w s' v S'):bS P base η Z S w s v S':=by
 unfold bS at g ⊢;rw[h];exact g
theorem x5(R:St base η Z S w){d:D}{x:W}{c:Cd}{ys:List d.ty}(e:Dp S d x=some (c,ys))(hc:c){u:Value}(h:aJ η Z x u):Src P η Z w u 1 (ys.map d.w):=by
 unfold Dp at e;split at e;cases e;rw[h.nil_eq];exact uT _;rename_i d' l;split at e;rename_i hd;subst hd;cases e;exact src_rd R h;cases e;rename_i m off len sz;obtain⟨hs,e1⟩:=aC.aK e;have hs1:=pP hs;subst hs1;split at e1;rename_i o ho;split at e1;rename_i l hl;cases e1;have cK:o.cells=l.map d.w:=Fd.j5 hl;have:=KZ (P:=P) R h ho (Ob.jC cK) (by rw[cK];simp;exact hc);rw[cK,adD,<-adt,<-adj] at this;exact this;cases e1;cases e1;rename_i s;have:u=.string s:=by simpa only[aJ,aV] using h
 subst this;unfold strD at e;split at e;cases e;have h1:=src_str (P:=P) (η:=η) (Z:=Z) (w:=w) (s:=s);rw[<-Zn] at h1;exact h1;cases e;cases e
theorem RS{x:W}{c:Cd}{ys:List Int}(hx:∀ s,x≠.str s)(e:Dp S (.int .u8) x=some (c,ys)){u:Value}(h:aJ η Z x u):(∃ ad len cap,u=.slice ad len cap)/\∀ len cap,u=.slice none len cap->ys=[]:=by
 unfold Dp at e;split at e;cases e;rw[h.nil_eq];exact⟨⟨none,0,0,rfl⟩,fun _ _ _=>rfl⟩;rename_i d' l;split at e;rename_i hd;subst hd;cases e;obtain⟨ad,len,cap,rfl,hl,hcap,hcs⟩:=h.rd;refine⟨⟨ad,len,cap,rfl⟩,fun len' cap' hh=>?_⟩;cases hh;rcases hcs with hcs|⟨b,off,cells,hh,_⟩;exact hcs;cases hh;cases e;rename_i m off len sz;obtain⟨hs,e1⟩:=aC.aK e;split at e1;rename_i o ho;split at e1;rename_i l hl;cases e1;rcases h with ⟨h0,rfl⟩|⟨p,cap,ad,hp,rfl,_⟩;subst h0;exact⟨⟨none,0,0,rfl⟩,fun _ _ _=>by simp⟩;exact⟨⟨some ad,len,cap,rfl⟩,fun _ _ hh=>by cases hh⟩;cases e1;cases e1;rename_i s;exact absurd rfl (hx s);cases e
theorem H6:∀{vs:List V}{us:List Value}{S S':ak}{Z:aF}{d:D}{c:Cd}{ys:List d.ty},St base η Z S w->Gn S d vs=some (c,ys,S')->c->bp (dP η Z) vs us->
 ∃ Z',bX base η Z S w η Z' S' w/\bp (dP η Z') (ys.map fun y=>V.c (d.w y)) us
 | [],[],S,S',Z,d,c,ys,R,e,_,_=>by
   simp only[Gn] at e;cases e;exact⟨Z,bX.refl R,trivial⟩
 | .c x::vs,u::us,S,S',Z,d,c,ys,R,e,hc,⟨h1,h2⟩=>by
   simp only[Gn] at e;split at e;rename_i c1 y S1 hf;split at e;rename_i c2 ys' S2 hfs;cases e;obtain⟨Z1,m1,r1,_⟩:=mD R hf hc.1 h1.2;obtain⟨Z2,m2,r2⟩:=H6 m1.st hfs hc.2 (h2.mono fun _ _=>dP.mono (Eta.le.refl _) m1.step.cZ);exact⟨Z2,m1.trans m2,⟨D.jA _ _,(D.gN d).2 (cW.mono m2.step.cZ d r1)⟩,r2⟩;cases e;cases e
 | .agg _::_,_::_,_,_,_,_,_,_,_,e,_,_=>by simp only[Gn] at e;cases e
theorem flat_w{d:D}(ys:List d.ty):(ys.map fun y=>V.c (d.w y)).flatMap V.cells=ys.map d.w:=by
 induction ys with
 | nil=>rfl
 | cons y ys ih=>simp[V.cells,ih]
theorem H7{sz:Nat}:∀{vs:List V},Ka sz vs=true->∀ v∈vs,v.cells.length=sz
 | [],_=>by simp
 | v::vs,h=>by
   simp only[Ka,acQ] at h;intro x hx;rcases List.mem_cons.1 hx with rfl|hx;exact acP h.1;exact H7 h.2 x hx
theorem iI(ty:TypeId){d:D}(k:Nat)(l:List d.ty):(Ob.mk ty [.a k d l]).cells=l.map d.w:=by
 unfold Ob.cells;simp[Fd.cells]
theorem H8{d:D}{l ys:List d.ty}{off:Nat}(h:off+ys.length<=l.length):(spl l off ys).map d.w=j4 (l.map d.w) off (ys.map d.w):=by
 apply adu;intro i;rw[Dk (by simpa using h)];unfold spl;simp only[acZ,ac1];have h1:(l.take off).length=off:=by simp;omega
 by_cases hi:i<off;rw[if_neg (by omega),adf,acX (by omega),ac0,if_pos hi];by_cases hi2:i<off+ys.length;rw[if_pos (by omega),adf,acU (by omega),h1,acX (by omega)];rw[if_neg (by omega),acU (by simp;omega),acW];congr 2;simp;omega
theorem K9(R:St base η Z S w){t:TypeId}(hk:iD P t=some 1){m i:Nat}{y:W}{c:Cd}{S':ak}(e:opn S m i y=some (c,S'))(hc:c){vx vy:Value}(hx:aJ η Z (.ptr m i) vx)(hy:dP η Z (.c y) vy) :
 bS P base η Z S w (do Instr.storeAt t vx vy;pure Next.skip) (.aL []) S':=by
 unfold opn at e;split at e;rename_i o ho;obtain⟨ho,hmo⟩:=kZ ho;split at e;rename_i k d l hfs;obtain⟨hb1,e⟩:=aC.aK e;cases e;simp only[acQ,ac2] at hb1;have hc:i<l.length:=hc;have cK:o.cells=l.map d.w:=by unfold Ob.cells;rw[hfs];simp[Fd.cells]
 have hnb:¬o.bytes:=(BA cK hb1.2).resolve_right fun h0=>by
  rw[cK,List.map_eq_nil_iff] at h0;rw[h0] at hc;exact absurd hc (Nat.not_lt_zero _)
 refine(sZ R hk ho hmo hnb (v:=.c y) hx hy rfl (by rw[cK];simp;omega)).alike (ak.pN rfl ?_);rw[Ob.fD];show adN Fd.cells [.a 1 d (l.take i),.c y,.a 1 d (l.drop (i+1))]=(o.cells).set i y;rw[cK];simp only[acY,List.flatMap_nil,Fd.cells,List.append_nil,adj,adt];rw[List.set_eq_take_append_cons_drop,if_pos (by simpa using hc)];rfl;cases e;cases e
theorem RT(R : St base η Z S w){t : TypeId}(hk : iD P t = some 1){m i : Nat}{y : W}{c : Cd}{S' : ak}(e : again S m i y = some (c, S'))(hc : c){vx vy : Value}(hx : aJ η Z (.ptr m i) vx)(hy : dP η Z (.c y) vy) :
 bS P base η Z S w (do Instr.storeAt t vx vy;pure Next.skip) (.aL []) S':=by
 unfold again at e;split at e;rename_i o ho;obtain⟨ho,hmo⟩:=kZ ho;split at e;rename_i d l k off len sz l' hh;split at e;cases e;have hc:i=l.length:=hc;subst hc;obtain⟨k1,k2,hfs⟩:=Fd.PD hh;have cK:o.cells=l.map d.w++W.sl k off len sz::l'.map d.w:=by unfold Ob.cells;rw[hfs];simp[Fd.cells]
 have hnb:¬o.bytes:=fun hB=>by
  obtain⟨n,e⟩:=hB (W.sl k off len sz) (by rw[cK];simp);cases e
 refine(sZ R hk ho hmo hnb (v:=.c y) hx hy rfl (by rw[cK];simp)).alike (ak.pN rfl ?_);rw[Ob.fD];show adN Fd.cells [.a 1 d l,.c y,.a 1 d l']=(o.cells).set l.length y;rw[cK,adm _ _ (by simp)];simp[Fd.cells];cases e;cases e;cases e
theorem Vs(R : St base η Z S w){t : TypeId}(hk : iD P t = some 1){m i : Nat}{y : W}{c : Cd}{S' : ak}(e : Zm S m i y = some (c, S'))(hc : c){vx vy : Value}(hx : aJ η Z (.ptr m i) vx)(hy : dP η Z (.c y) vy) :
 bS P base η Z S w (do Instr.storeAt t vx vy;pure Next.skip) (.aL []) S':=by
 unfold Zm at e;split at e
 · split at e
   rename_i r hr;cases e;exact K9 R hk hr hc hx hy
   · split at e
     rename_i r hr;cases e;exact RT R hk hr hc hx hy;split at e;rename_i c1 S1 hs;split at e;rename_i c2 S2 hr;cases e;obtain⟨Z1,mv,_⟩:=Gm R hs hc.1;exact bS.before mv (K9 mv.st hk hr hc.2 (hx.mono (Eta.le.refl _) mv.step.cZ) (hy.mono (Eta.le.refl _) mv.step.cZ));cases e;cases e
 cases e
def kz(Z:aF)(kd vd:D):List (kd.ty×vd.ty)->List MapEntry->Prop
 | [],[]=>True
 | (k,v)::l,e::es=>cW Z kd k e.key/\cW Z vd v e.val/\kz Z kd vd l es
 | _,_=>False
theorem vX{kd vd:D}:∀{l:List (kd.ty×vd.ty)}{es:List MapEntry},fu η Z (ow kd vd l) es↔kz Z kd vd l es
 | [],[]=>by simp[ow,fu,kz]
 | [],_::_=>by simp[ow,fu,kz]
 | (_,_)::_,[]=>by simp[ow,fu,kz]
 | (k,v)::l,e::es=>by
   simp only[ow,fu,kz,D.gN,vX (l:=l)];exact⟨fun⟨⟨_,a⟩,⟨_,b⟩,c⟩=>⟨a,b,c⟩,fun⟨a,b,c⟩=>⟨⟨D.jA _ _,a⟩,⟨D.jA _ _,b⟩,c⟩⟩
theorem bytes_beq{a b:ByteArray}:(a==b)=true↔a=b:=by
 rw[<-aC.Y6];constructor;intro h;have:=Array.toList_inj.1 (aC.zF h);exact ByteArray.ext this;intro h;rw[h];exact aC.vS _
theorem vY{td:TypeDesc}{kd:D}(h:qp td kd=true){k k':kd.ty}{u u':Value}(hu:cW Z kd k u)(hu':cW Z kd k' u'):Instr.sameNow td u u'=some (kd.j6 k k')/\(kd.j6 k k'=true->∀ n,Instr.sameBits n u' u=true):=by
 unfold qp at h;split at h;rename_i a b;have hab:=of_decide_eq_true h;subst hab;simp only[cW] at hu hu';subst hu;subst hu';refine⟨by simp[Instr.sameNow,D.j6];rfl,fun hk n=>?_⟩;have:=of_decide_eq_true hk;cases n<;>simp[Instr.sameBits]<;>exact this.symm;simp only[cW] at hu hu';subst hu;subst hu';refine⟨by simp only[Instr.sameNow,D.j6];exact congrArg some (Bool.eq_iff_iff.2 (bytes_beq.trans decide_eq_true_iff.symm)),fun hk n=>?_⟩;have h1:(show ByteArray from k)=k':=of_decide_eq_true hk;have h2:((show ByteArray from k')==k)=true:=bytes_beq.2 h1.symm;cases n<;>simp only[Instr.sameBits]<;>exact h2;cases h
theorem Cv{td:TypeDesc}{kd vd:D}(h:qp td kd=true){k:kd.ty}{u:Value}(hu:cW Z kd k u):∀{l:List (kd.ty×vd.ty)}{es:List MapEntry}(i:Nat),kz Z kd vd l es->
 (lP kd vd k l=none->Instr.findNow td u es i=some none)/\(∀ v,lP kd vd k l=some v->∃ j v',Instr.findNow td u es i=some (some (j,v'))/\cW Z vd v v')
 | [],[],i,_=>⟨fun _=>rfl,fun v e=>by cases e⟩
 | (k',v')::l,e::es,i,⟨h1,h2,h3⟩=>by
   obtain⟨s1,_⟩:=vY h hu h1;simp only[lP,Instr.findNow,s1];cases hb:kd.j6 k k' with
   | true=>exact⟨fun e=>(by cases e),fun v hv=>(by cases hv;exact⟨i,_,rfl,h2⟩)⟩
   | false=>exact Cv h hu (i+1) h3
 | [],_::_,_,h=>h.elim
 | _::_,[],_,h=>h.elim
theorem Cw{td:TypeDesc}{kd vd:D}(h:qp td kd=true){k:kd.ty}{u:Value}(hu:cW Z kd k u){v:vd.ty}{y:Value}(hv:cW Z vd v y):∀{l:List (kd.ty×vd.ty)}{es:List MapEntry}(i:Nat),kz Z kd vd l es->
 (Instr.findNow td u es i=some none/\∀ c,kz Z kd vd (jT kd vd k v l) (es++[{ key:=u,val:=y,born:=c }]))∨
 (∃ j v' e,i<=j/\Instr.findNow td u es i=some (some (j,v'))/\es[j-i]? = some e/\(∀ n,Instr.sameBits n e.key u=true)/\kz Z kd vd (jT kd vd k v l) (es.set (j-i) { e with key:=u,val:=y }))
 | [],[],i,_=>.inl ⟨rfl,fun c=>⟨hu,hv,trivial⟩⟩
 | (k',v')::l,e::es,i,⟨h1,h2,h3⟩=>by
   obtain⟨s1,s2⟩:=vY h hu h1;simp only[jT,Instr.findNow,s1];cases hb:kd.j6 k k' with
   | true =>
     refine .inr ⟨i,e.val,e,ads _,rfl,by simp,s2 hb,?_⟩;simp only[adM,List.set_cons_zero,cond_true];exact⟨hu,hv,h3⟩
   | false =>
     rcases Cw h hu hv (i+1) h3 with ⟨a,b⟩|⟨j,v2,e2,a,b,c,d,f⟩;exact .inl ⟨a,fun c=>⟨h1,h2,b c⟩⟩;have hj:j-i=(j-(i+1))+1:=by omega
     refine .inr ⟨j,v2,e2,by omega,b,?_,d,?_⟩;rw[hj,ac4];exact c;rw[hj,List.set_cons_succ];exact⟨h1,h2,f⟩
 | [],_::_,_,h=>h.elim
 | _::_,[],_,h=>h.elim
theorem zV{t:TypeId}{kd vd:D}(h:vW P t=some (kd,vd)):∃ kt et td z,P.underlying t=some (.map kt et)/\P.underlying kt=some td/\qp td kd=true/\aC.plainKey td=true/\(∀ w,(zeroValue et).run P w=.ok z w)/\zR (vd.w vd.zero) z=true:=by
 unfold vW at h;split at h;rename_i kt et hu;split at h;rename_i td kd' i vd' h1 h2 h3 h4;split at h;rename_i z hz;obtain⟨⟨h5,h6⟩,h⟩:=eB h;cases h;refine⟨kt,et,td,z,hu,h1,h5,?_,fun w=>?_,h6⟩;unfold qp at h5;split at h5;rfl;rfl;cases h5;simp[zeroValue,typeInfo,h3,hz];cases h;cases h;cases h
theorem St.qT(R:St base η Z S w){n:Nat}{o:Ob}{kd vd:D}{l:List (kd.ty×vd.ty)}(ho:S.get n=some o)(hl:o.qT kd vd=some l){u:Value}(hu:aJ η Z (.mp n) u) :
 ∃ p es clock,η n=some p/\u=.map (some p.block)/\base<=p.block/\Z p.block=none/\w.heap[p.block]? = some (.map es clock)/\kz Z kd vd l es.toList:=by
 obtain⟨p,hp,rfl⟩:=hu;obtain⟨h1,h2,L⟩:=R.au n o p ho hp;have hfs:=Ob.ents_fs hl;have cK:o.cells=.mh::ow kd vd l:=by unfold Ob.cells;rw[hfs];simp[Fd.cells]
 obtain⟨es,k,h3,h4⟩:=L.maps (by unfold Ob.isMap;rw[cK];rfl);rw[cK] at h4;exact⟨p,es,k,hp,rfl,h1,h2,h3,vX.1 h4⟩
theorem RU(R:St base η Z S w){t:TypeId}(kd vd:D):bS P base η Z S w (do pure (Next.value (<-Instr.makeMap t none))) (.p (.c (.mp S.next))) (S.add ⟨t,[.m kd vd []]⟩):=by
 obtain⟨g,hn⟩:=R.U6 (w':={ w with heap:=w.heap.push (.map #[] 0) }) (Ob.mk t [.m kd vd []]) (by unfold Ob.cells;simp[Fd.cells,ow]) rfl rfl rfl rfl;exact bS.of (u:=.map (some w.heap.size)) (by simp[Instr.makeMap,newObj,Sem.run]) g.up ⟨by simp,_,hn,rfl⟩
theorem Vt(R:St base η Z S w){t:TypeId}{kd vd:D}(hd:vW P t=some (kd,vd)){n:Nat}{o:Ob}{l:List (kd.ty×vd.ty)}(ho:S.get n=some o)(hl:o.qT kd vd=some l){u uk:Value}(hu:aJ η Z (.mp n) u){k:kd.ty}(hk:cW Z kd k uk)(ok:Bool) :
 bS P base η Z S w (do pure (Next.value (<-Instr.lookup t u uk ok))) (bif ok then .aL [.c (vd.w (qm kd vd l k)),.c (.bool (uc kd vd l k))] else .p (.c (vd.w (qm kd vd l k)))) S:=by
 obtain⟨kt,et,td,z,ht,hkt,hkey,hpk,hz,hz'⟩:=zV hd;obtain⟨p,es,clock,hp,rfl,_,_,wT,hes⟩:=R.qT ho hl hu;have hg:(getObj p.block).run P w=.ok (.map es clock) w:=by simp[getObj,Sem.run,wT]
 obtain⟨f1,f2⟩:=Cv hkey hk 0 hes;obtain⟨zr,zl,z1,_⟩:=wP (η:=η) (Z:=Z) hz';have key:∃ y b,(Instr.lookup t (.map (some p.block)) uk ok).run P w=.ok (if ok then .tuple #[y,.bool b] else y) w/\aJ η Z (vd.w (qm kd vd l k)) y/\uc kd vd l k=b:=by
  unfold qm uc;cases hm:lP kd vd k l with
  | none =>
    exact⟨z,false,by simp[Instr.lookup,run_underlying ht,aC.lR w hkt hpk,hg,aC.mS w hkt (f1 hm),hz],zr,rfl⟩
  | some v =>
    obtain⟨j,v',g1,g2⟩:=f2 v hm;exact⟨v',true,by simp[Instr.lookup,run_underlying ht,aC.lR w hkt hpk,hg,aC.mS w hkt g1],(D.gN vd).2 g2,rfl⟩
 obtain⟨y,b,hrun,hy,hb⟩:=key;refine bS.of hrun (bX.refl R) ?_;cases ok;exact⟨D.jA _ _,hy⟩;exact⟨[y,.bool b],rfl,⟨D.jA _ _,hy⟩,⟨by simp,by simp[aJ,aV,hb]⟩,trivial⟩
theorem La{Z:aF}{kd vd:D}:∀{l:List (kd.ty×vd.ty)}{es:List MapEntry},kz Z kd vd l es->es.length=l.length
 | [],[],_=>rfl
 | _::l,_::es,⟨_,_,h⟩=>by rw[adk,adk,La h]
 | [],_::_,h=>h.elim
 | _::_,[],h=>h.elim
theorem Vu(R:St base η Z S w){t ty:TypeId}{kd vd:D}(hd:vW P t=some (kd,vd)){n:Nat}{o:Ob}{l:List (kd.ty×vd.ty)}(ho:S.get n=some o)(hl:o.qT kd vd=some l){u:Value}(hu:aJ η Z (.mp n) u) :
 bS P base η Z S w (do pure (Next.value (<-Builtin.len_ #[t] ty #[u]))) (.p (.c (.int .i64 (l.length:Nat)))) S:=by
 obtain⟨kt,et,td,z,ht,hkt,hkey,hpk,hz,hz'⟩:=zV hd;obtain⟨p,es,clock,hp,rfl,_,_,wT,hes⟩:=R.qT ho hl hu;have hg:(getObj p.block).run P w=.ok (.map es clock) w:=by simp[getObj,Sem.run,wT]
 have hsz:es.size=l.length:=by rw[<-adA];exact La hes
 refine bS.of (u:=.int .i64 (l.length:Nat)) ?_ (bX.refl R) ⟨by simp,by simp[aJ,aV]⟩;simp[Builtin.len_,run_underlying ht,hg,hsz,goInt]
theorem H9(R:St base η Z S w){t:TypeId}{kd vd:D}(hd:vW P t=some (kd,vd)){n:Nat}{o:Ob}{l:List (kd.ty×vd.ty)}(ho:S.get n=some o)(hl:o.qT kd vd=some l){u uk uv:Value}(hu:aJ η Z (.mp n) u){k:kd.ty}(hk:cW Z kd k uk){v:vd.ty}(hv:cW Z vd v uv) :
 bS P base η Z S w (do Instr.mapUpdate t u uk uv;pure Next.skip) (.aL []) (S.put n ⟨o.ty,[.m kd vd (jT kd vd k v l)]⟩):=by
 obtain⟨kt,et,td,z,ht,hkt,hkey,hpk,hz,hz'⟩:=zV hd;obtain⟨p,es,clock,hp,rfl,hb,hZ,wT,hes⟩:=R.qT ho hl hu;have hg:(getObj p.block).run P w=.ok (.map es clock) w:=by simp[getObj,Sem.run,wT]
 have hset:∀ o,(setObj p.block o).run P w=.ok () (w.putObj p.block o):=fun o=>by simp[setObj,Sem.run,wT,World.putObj]
 have fin:∀(Vv:Array MapEntry)(c:Nat),kz Z kd vd (jT kd vd k v l) Vv.toList->(Instr.mapUpdate t (.map (some p.block)) uk uv).run P w=.ok () (w.putObj p.block (.map Vv c))->
  bS P base η Z S w (do Instr.mapUpdate t (.map (some p.block)) uk uv;pure Next.skip) (.aL []) (S.put n ⟨o.ty,[.m kd vd (jT kd vd k v l)]⟩):=by
  intro Vv c h2 hrun;have cK:(Ob.mk o.ty [.m kd vd (jT kd vd k v l)]).cells=.mh::ow kd vd (jT kd vd k v l):=by unfold Ob.cells;simp[Fd.cells]
  have hm:(Ob.mk o.ty [.m kd vd (jT kd vd k v l)]).isMap:=by unfold Ob.isMap;rw[cK];rfl
  have g:=R.write (w':=w.putObj p.block (.map Vv c)) ho hp (o':=Ob.mk o.ty [.m kd vd (jT kd vd k v l)]) rfl rfl rfl (by simp[World.putObj]) (fun b hb=>by simp only[World.putObj];rw[ado (Ne.symm hb)])
   (eM.map hm ⟨Vv,c,aC.vR (dN wT),by rw[cK];exact vX.2 h2⟩)
  exact bS.Vg hrun g.up
 rcases Cw hkey hk hv 0 hes with ⟨a,b⟩|⟨j,v2,e2,_,h1,h4,h5,f⟩;refine fin (es.push { key:=uk,val:=uv,born:=clock }) (clock+1) (by simpa using b clock) ?_;simp[Instr.mapUpdate,run_underlying ht,hg,aC.lR w hkt hpk,aC.mS w hkt a,hset]
 · rw[Nat.sub_zero] at h4 f
   have hj:j<es.size:=by have:=(List.getElem?_eq_some_iff.1 h4).1;simpa using this
   have hmod:es.modify j (fun e=>{ e with key:=uk,val:=uv })=(es.toList.set j { e2 with key:=uk,val:=uv }).toArray:=by
    apply adG;rw[Array.toList_modify];apply adu;intro i;rw[List.getElem?_modify,adg];by_cases hij:j=i;subst hij;simp only[if_pos,adA,hj];rw[h4];rfl;simp[hij]
   have h4':es[j]? = some e2:=by rw[<-ady];exact h4
   refine fin (es.toList.set j { e2 with key:=uk,val:=uv }).toArray clock (by simpa using f) ?_;simp[Instr.mapUpdate,run_underlying ht,hg,aC.lR w hkt hpk,aC.mS w hkt h1,Instr.keyThatStays,h4',h5,hset,hmod]
set_option maxHeartbeats 1000000 in
theorem liesAt_bytes'{e:TypeId}(hc:P.cellsOf e=1)(count off n:Nat)(hn:off+n<=count):liesAt P P.depth e count off e n=true:=by
 have hd:P.depth=(2*(P.types.size+Made.depth)+1)+1:=rfl;rw[hd];simp only[liesAt,adw];left;rw[hd];simp[rowAt,hc,hn,sameLayout,adP]
theorem OT(R : St base η Z S w){t el : TypeId}(h : Kb P t = some el) :
 bS P base η Z S w (do pure (Next.value (<-Instr.alloc t true (.tuple #[])))) (.p (.c (.ptr S.next 0))) ((S.add ⟨t,[.c (.ba S.next),.c (.sl (S.next+1) 0 0 1)]⟩).add ⟨el,[.a 0 (.int .u8) []]⟩):=by
 obtain⟨i, z, hi, hz, hzs⟩ : ∃ i z, P.info? t = some i ∧ i.zero = some z ∧ PB [.dz, .nil] z.cells.toList = true := by
  unfold Kb at h;split at h;split at h;rename_i hi;split at h;rename_i hz;obtain⟨⟨_,h2⟩,_⟩:=eB h;exact⟨_,_,hi,hz,h2⟩;cases h;cases h;cases h
 obtain⟨h1,h3⟩:=Gl (η:=η) (Z:=Z) hzs;have hz':(zeroValue t).run P w=.ok z w:=by simp[zeroValue,typeInfo,hi,hz]
 obtain⟨w',hr,g,hn⟩:=pO (P:=P) R t h1 h3;generalize η.add S.next ⟨w.heap.size,0,z.cells.size,[]⟩=fR at g hn
 have Ia:(S.add (Ob.of t [.dz,.nil])).get S.next=some (Ob.of t [.dz,.nil]):=by rw[ak.fU R.fV,if_pos rfl]
 have m2:=g.st.o5 (o:=⟨el,[.a 0 (.int .u8) []]⟩) (by rw[iI];rfl);have Lb:((S.add (Ob.of t [.dz,.nil])).add ⟨el,[.a 0 (.int .u8) []]⟩).get S.next=some (Ob.of t [.dz,.nil]):=by
  rw[ak.fU g.st.fV,if_neg (by show S.next≠S.next+1;omega)];exact Ia
 obtain⟨_,_,L⟩:=m2.st.au _ _ _ Lb hn;have hm1:¬(Ob.of t [.dz,.nil]).fG:=by simp[Ob.fG,Ob.isMap,Ob.iV]
 have hm2:¬(Ob.mk t [.c (.ba S.next),.c (.sl (S.next+1) 0 0 1)]).fG:=by simp[Ob.fG,Ob.isMap,Ob.iV,Ob.cells,Fd.cells]
 obtain⟨c,fz,c1,c2,c3,c4⟩:=L.there hm1
 have g3:=m2.st.write (w':=w') Lb hn (o':=⟨t,[.c (.ba S.next),.c (.sl (S.next+1) 0 0 1)]⟩) rfl rfl rfl rfl (fun _ _=>rfl)
  (eM.plain hm2 ⟨c,fz,c1,c2,fun i x hx=>by
   have e:(Ob.mk t [.c (.ba S.next),.c (.sl (S.next+1) 0 0 1)]).cells=[.ba S.next,.sl (S.next+1) 0 0 1]:=rfl;rw[e] at hx
   match i,hx with
   | 0,hx =>
     cases hx;obtain⟨v,hv,hr,ho⟩:=c3 0 .dz (by simp);have:v=.pointer none:=by simpa only[aJ,aV] using hr
     exact⟨v,hv,⟨_,hn,rfl,.inl this⟩,ho⟩
   | 1,hx =>
     cases hx;obtain⟨v,hv,hr,ho⟩:=c3 1 .nil (by simp);have:v=.slice none 0 0:=by simpa only[aJ,aV] using hr
     exact⟨v,hv,.inl ⟨rfl,this⟩,ho⟩
   | i+2,hx=>simp at hx,c4.plain fun hB=>by obtain⟨q,e⟩:=hB .dz (by simp);cases e⟩ (by
     have:=L.size hm1;rw[Ob.fD] at this;exact this))
 have gd:bS P base η Z S w (do pure (Next.value (<-Instr.alloc t true (.tuple #[])))) (.p (.c (.ptr S.next 0))) _:=bS.of (u:=.pointer (some ⟨w.heap.size,0,none⟩)) (by simp[Instr.alloc,hz',newVar,hr]) ((g.up.trans m2).trans g3.up) ⟨by simp,_,hn,by simp⟩;refine gd.alike ⟨⟨rfl,rfl⟩,fun n=>?_⟩;have hA:∀ k,((S.add ⟨t,[.c (.ba S.next),.c (.sl (S.next+1) 0 0 1)]⟩).add ⟨el,[.a 0 (.int .u8) []]⟩).get k=if k=S.next+1 then some ⟨el,[.a 0 (.int .u8) []]⟩ else if k=S.next then some ⟨t,[.c (.ba S.next),.c (.sl (S.next+1) 0 0 1)]⟩ else S.get k:=by
  intro k;have h0:(S.add ⟨t,[.c (.ba S.next),.c (.sl (S.next+1) 0 0 1)]⟩).get (S.next+1)=none:=by
   rw[ak.fU R.fV,if_neg (by omega)];cases hk:S.get (S.next+1) with
   | none=>rfl
   | some o=>have:=R.known _ _ hk;omega
  rw[ak.fU (S:=S.add _) h0];show (if k=S.next+1 then _ else _)=_;rw[ak.fU R.fV]
 have hB:∀ k,(((S.add (Ob.of t [.dz,.nil])).add ⟨el,[.a 0 (.int .u8) []]⟩).put S.next ⟨t,[.c (.ba S.next),.c (.sl (S.next+1) 0 0 1)]⟩).get k=if k=S.next then some ⟨t,[.c (.ba S.next),.c (.sl (S.next+1) 0 0 1)]⟩ else if k=S.next+1 then some ⟨el,[.a 0 (.int .u8) []]⟩ else S.get k:=by
  intro k;rw[ak.jm,Lb,ak.fU g.st.fV];by_cases h1:k=S.next
  rw[if_pos h1,if_pos h1];rfl
  . rw[if_neg h1,if_neg h1];by_cases h2:k=S.next+1
    rw[if_pos h2];exact if_pos h2;rw[if_neg h2,ak.fU R.fV,if_neg h1];exact if_neg h2
 rw[hA,hB];by_cases h1:n=S.next
 subst h1;rw[if_pos rfl,if_neg (by omega),if_pos rfl];exact⟨rfl,rfl⟩
 . rw[if_neg h1];by_cases h2:n=S.next+1
   subst h2;rw[if_pos rfl,if_pos rfl];exact⟨rfl,rfl⟩;rw[if_neg h2,if_neg h2,if_neg h1];cases S.get n with
   | none=>trivial
   | some o=>exact⟨rfl,rfl⟩
theorem Vw(R:St base η Z S w){t el:TypeId}{v:V}{u:Value}(h:dP η Z v u)(hv:v.cells=[.dz,.nil]) :
 bS P base η Z S w (do pure (Next.value (<-Instr.box t u))) (.p (.c (.ptr S.next 0))) ((S.add ⟨t,[.c (.ba S.next),.c (.sl (S.next+1) 0 0 1)]⟩).add ⟨el,[.a 0 (.int .u8) []]⟩):=by
 obtain⟨h1,_,h3⟩:=h.cells;rw[hv] at h1;obtain⟨w',hr,g,hn⟩:=pO (P:=P) R t h1 h3;generalize η.add S.next ⟨w.heap.size,0,u.cells.size,[]⟩=fR at g hn
 have Ia:(S.add (Ob.of t [.dz,.nil])).get S.next=some (Ob.of t [.dz,.nil]):=by rw[ak.fU R.fV,if_pos rfl]
 have m2:=g.st.o5 (o:=⟨el,[.a 0 (.int .u8) []]⟩) (by rw[iI];rfl);have Lb:((S.add (Ob.of t [.dz,.nil])).add ⟨el,[.a 0 (.int .u8) []]⟩).get S.next=some (Ob.of t [.dz,.nil]):=by
  rw[ak.fU g.st.fV,if_neg (by show S.next≠S.next+1;omega)];exact Ia
 obtain⟨_,_,L⟩:=m2.st.au _ _ _ Lb hn;have hm1:¬(Ob.of t [.dz,.nil]).fG:=by simp[Ob.fG,Ob.isMap,Ob.iV]
 have hm2:¬(Ob.mk t [.c (.ba S.next),.c (.sl (S.next+1) 0 0 1)]).fG:=by simp[Ob.fG,Ob.isMap,Ob.iV,Ob.cells,Fd.cells]
 obtain⟨c,fz,c1,c2,c3,c4⟩:=L.there hm1
 have g3:=m2.st.write (w':=w') Lb hn (o':=⟨t,[.c (.ba S.next),.c (.sl (S.next+1) 0 0 1)]⟩) rfl rfl rfl rfl (fun _ _=>rfl)
  (eM.plain hm2 ⟨c,fz,c1,c2,fun i x hx=>by
   have e:(Ob.mk t [.c (.ba S.next),.c (.sl (S.next+1) 0 0 1)]).cells=[.ba S.next,.sl (S.next+1) 0 0 1]:=rfl;rw[e] at hx
   match i,hx with
   | 0,hx =>
     cases hx;obtain⟨v,hv,hr,ho⟩:=c3 0 .dz (by simp);have:v=.pointer none:=by simpa only[aJ,aV] using hr
     exact⟨v,hv,⟨_,hn,rfl,.inl this⟩,ho⟩
   | 1,hx =>
     cases hx;obtain⟨v,hv,hr,ho⟩:=c3 1 .nil (by simp);have:v=.slice none 0 0:=by simpa only[aJ,aV] using hr
     exact⟨v,hv,.inl ⟨rfl,this⟩,ho⟩
   | i+2,hx=>simp at hx,c4.plain fun hB=>by obtain⟨q,e⟩:=hB .dz (by simp);cases e⟩ (by
     have:=L.size hm1;rw[Ob.fD] at this;exact this))
 have gd:bS P base η Z S w (do pure (Next.value (<-Instr.box t u))) (.p (.c (.ptr S.next 0))) _:=bS.of (u:=.pointer (some ⟨w.heap.size,0,none⟩)) (by simp[Instr.box,newVar,hr]) ((g.up.trans m2).trans g3.up) ⟨by simp,_,hn,by simp⟩;refine gd.alike ⟨⟨rfl,rfl⟩,fun n=>?_⟩;have hA:∀ k,((S.add ⟨t,[.c (.ba S.next),.c (.sl (S.next+1) 0 0 1)]⟩).add ⟨el,[.a 0 (.int .u8) []]⟩).get k=if k=S.next+1 then some ⟨el,[.a 0 (.int .u8) []]⟩ else if k=S.next then some ⟨t,[.c (.ba S.next),.c (.sl (S.next+1) 0 0 1)]⟩ else S.get k:=by
  intro k;have h0:(S.add ⟨t,[.c (.ba S.next),.c (.sl (S.next+1) 0 0 1)]⟩).get (S.next+1)=none:=by
   rw[ak.fU R.fV,if_neg (by omega)];cases hk:S.get (S.next+1) with
   | none=>rfl
   | some o=>have:=R.known _ _ hk;omega
  rw[ak.fU (S:=S.add _) h0];show (if k=S.next+1 then _ else _)=_;rw[ak.fU R.fV]
 have hB:∀ k,(((S.add (Ob.of t [.dz,.nil])).add ⟨el,[.a 0 (.int .u8) []]⟩).put S.next ⟨t,[.c (.ba S.next),.c (.sl (S.next+1) 0 0 1)]⟩).get k=if k=S.next then some ⟨t,[.c (.ba S.next),.c (.sl (S.next+1) 0 0 1)]⟩ else if k=S.next+1 then some ⟨el,[.a 0 (.int .u8) []]⟩ else S.get k:=by
  intro k;rw[ak.jm,Lb,ak.fU g.st.fV];by_cases h1:k=S.next
  rw[if_pos h1,if_pos h1];rfl
  . rw[if_neg h1,if_neg h1];by_cases h2:k=S.next+1
    rw[if_pos h2];exact if_pos h2;rw[if_neg h2,ak.fU R.fV,if_neg h1];exact if_neg h2
 rw[hA,hB];by_cases h1:n=S.next
 subst h1;rw[if_pos rfl,if_neg (by omega),if_pos rfl];exact⟨rfl,rfl⟩
 . rw[if_neg h1];by_cases h2:n=S.next+1
   subst h2;rw[if_pos rfl,if_pos rfl];exact⟨rfl,rfl⟩;rw[if_neg h2,if_neg h2,if_neg h1];cases S.get n with
   | none=>trivial
   | some o=>exact⟨rfl,rfl⟩
theorem Vx(R:St base η Z S w){pt it ty el:TypeId}(hp:P.underlying pt=some (.pointer el))(hc:P.cellsOf el=1){m i:Nat}{o:Ob}{l:List Int}(ho:S.get m=some o)(hty:o.ty=el)(hl:Fd.list (.int .u8) o.fs=some l)
 {u:Value} (hu:aJ η Z (.pe m 0 i) u) {kk:IntKind} {k:Nat} (h0:0<k) (hk:i+k<=l.length) (h63:k<=9223372036854775807) :
 bS P base η Z S w (do pure (Next.value (<-Builtin.unsafeString_ #[pt,it] ty #[u,.int kk k]))) (.p (.c (.str (bE ((l.drop i).take k))))) S:=by
 obtain⟨pl,hpl,rfl⟩:=hu;have cK:=Fd.j5 hl;have hmo:¬o.fG:=Ob.jC (o:=o) cK;obtain⟨hb,hz,L⟩:=R.au m o pl ho hpl;obtain⟨c,fz,c1,c2,c3,c4⟩:=L.there hmo;have hroom:=L.size hmo;have bN:o.cells.length=l.length:=by unfold Ob.cells;rw[cK];simp
 obtain⟨vs,v1,v2,v3,v4⟩:=R.reads ho hpl hmo (off:=i) (k:=k) (by omega);have hvs:vs=(((l.drop i).take k).map fun n=>Value.int .u8 n):=by
  have e:(o.cells.drop i).take k=((l.drop i).take k).map (D.int .u8).w:=by
   unfold Ob.cells;rw[cK];simp[adt,adj]
  rw[e] at v1;exact Dn v1
 have xX : ∀(l : List Int)(a : Addr)(acc : ByteArray), (∀ j x, l[j]? = some x → w.cell? (a.add j) = some (.int .u8 x)) → (loadBytes a acc l.length).run P w = .ok (l.foldl (fun r n => r.push (UInt8.ofNat n.toNat)) acc) w := by
  intro l
  induction l with
  | nil=>intro a acc _;simp[loadBytes]
  | cons x l ih =>
    intro a acc h;have h0:w.cell? a=some (.int .u8 x):=by
     have:=h 0 x rfl;simpa[Addr.add] using this
    have ih:=ih (a.add 1) (acc.push (UInt8.ofNat x.toNat)) (fun j y hy=>by
     have:=h (j+1) y (by simpa using hy);have e:(a.add 1).add j=a.add (j+1):=by
      unfold Addr.add;by_cases hj:j=0;subst hj;simp;simp[hj];omega
     rw[e];exact this)
    simp only[adk,loadBytes,Sem.run_bind,run_load,h0,Result.andThen];exact ih
 have hkl:((l.drop i).take k).length=k:=by simp;omega
 have hrd:=xX ((l.drop i).take k) ⟨pl.block,pl.off+i,none⟩ .empty (fun j x hx=>by
  rw[Addr.add_lit];refine v4 j _ ?_;rw[hvs,acZ,hx];rfl)
 rw[hkl,<-Dm] at hrd;have hsh:w.shape? pl.block=some (el,c.size):=by rw[<-hty];simp[World.shape?,c1]
 have hlies:=liesAt_bytes' (P:=P) hc (c.size/P.cellsOf el) (pl.off+i) k (by rw[hc,ac5];omega);have hrun:(Builtin.unsafeString_ #[pt,it] ty #[.pointer (some ⟨pl.block,pl.off+i,none⟩),.int kk k]).run P w=.ok (.string (bE ((l.drop i).take k))) (w.freeze ⟨pl.block,pl.off+i,none⟩ k):=by
  have hdef:Builtin.unsafeString_ #[pt,it] ty #[.pointer (some ⟨pl.block,pl.off+i,none⟩),.int kk k] =
   (do
    let n <-asInt (.int kk k)
    if n<0 then runtimePanic (.error "unsafe.String: len out of range")
    if n>IntKind.i64.max then unsupported (.unsafePointer "String: a length above the largest int")
    if n=0 then pure (.string .empty)
    else if <-variablesAt ⟨pl.block,pl.off+i,none⟩ (<-elemOf pt) n.toNat then do
     let s <-loadBytes ⟨pl.block,pl.off+i,none⟩ .empty n.toNat
     freeze ⟨pl.block,pl.off+i,none⟩ n.toNat
     pure (.string s)
    else unsupported (.unsafePointer "String: not so many bytes at ptr")):=rfl
  rw[hdef];have hmax:IntKind.i64.max=9223372036854775807:=rfl;have e1:¬((k:Int)<0):=by omega
  have e2:¬((9223372036854775807:Int)<(k:Int)):=by omega
  have e3:k≠0:=by omega
  simp[asInt,asIntOf,hmax,e2,e3,variablesAt,elemOf,run_underlying hp,hsh,hlies,hrd,freeze,Sem.run];intro h;omega
 have gP:∀ q,q≠pl.block->(w.freeze ⟨pl.block,pl.off+i,none⟩ k).heap[q]? = w.heap[q]?:=by
  intro q hq;unfold World.freeze;rw[if_neg (by omega)];simp[adn,Ne.symm hq]
 have hsz:(w.freeze ⟨pl.block,pl.off+i,none⟩ k).heap.size=w.heap.size:=by
  unfold World.freeze;rw[if_neg (by omega)];simp
 have K1 : ∃ zP, (w.freeze ⟨pl.block, pl.off + i, none⟩ k).heap[pl.block]? = some (.cells c o.ty zP) ∧ zJ o pl zP := by
  have hB:o.bytes:=by
   intro x hx;unfold Ob.cells at hx;rw[cK] at hx;obtain⟨y,_,rfl⟩:=List.mem_map.1 hx;exact⟨y,rfl⟩
  refine⟨if fz.1==fz.2 then(pl.off+i,pl.off+i+k) else(min fz.1 (pl.off+i),max fz.2 (pl.off+i+k)),?_,?_⟩;unfold World.freeze;rw[if_neg (by omega)];simp only[adn,if_true,c1,Option.map_some];refine .inr ⟨hB,?_⟩;rw[bN];split;show pl.off+i+k<=_;omega;rename_i hne;show max fz.2 (pl.off+i+k)<=_;rcases c4.tail with h|h;exact absurd (by simpa using h) hne;rw[bN] at h;omega
 obtain⟨zP,hb1,hb2⟩:=K1;simp only[adB]
 have g:=R.write (w':=w.freeze ⟨pl.block,pl.off+i,none⟩ k) ho hpl (o':=o) (by unfold World.freeze;rw[if_neg (by omega)]) (by unfold World.freeze;rw[if_neg (by omega)]) (by unfold World.freeze;rw[if_neg (by omega)]) hsz gP
  (eM.U5 hmo ⟨c,zP,hb1,c2,c3,hb2⟩ hroom)
 refine(show bS P base η Z S w (do pure (Next.value (<-Builtin.unsafeString_ #[pt,it] ty #[.pointer (some ⟨pl.block,pl.off+i,none⟩),.int kk k]))) (.p (.c (.str (bE ((l.drop i).take k))))) (S.put m o) from bS.of hrun g.up qR).alike ⟨⟨rfl,rfl⟩,fun q=>?_⟩;rw[ak.jm];by_cases hq:q=m;subst hq;rw[if_pos rfl,ho];exact⟨rfl,rfl⟩;rw[if_neg hq];cases S.get q with
 | none=>trivial
 | some x=>exact⟨rfl,rfl⟩
theorem J3(R:St base η Z S w){t:TypeId}(hs:iD P t=some 1){m i j k:Nat}{af:List (List Int)}{o:Ob}(ho:S.get m=some o)(hto:o.iV k af){u:Value}(hx:aJ η Z (.qg m i j) u)(hi:i<af.length)(hj:j<k){y:Int} :
 bS P base η Z S w (do Instr.storeAt t u (.int .i64 y);pure Next.skip) (.aL []) (S.put m ⟨o.ty,[.c (.th k (af.set i ((af.getD i []).set j y)))]⟩):=by
 obtain⟨p,r,hp,hr,rfl⟩:=hx;obtain⟨_,_,L⟩:=R.au m o p ho hp;have T:=L.tabs k af hto;have PE:af.getD i []=af[i]:=by rw[ac9,acS hi];rfl
 obtain⟨hl,c,ty,fz,hc,hsz,hv,hfz⟩:=T.row i r af[i] hr (acS hi)
 have hst:=run_storeCells_cells (P:=P) r.1 (r.2+j) [Value.int .i64 y] 0 w
  (fun q hq=>by
   have hq0:q=0:=by simpa using hq
   subst hq0;have:r.2+j+0<c.size:=by omega
   simp[World.cell?,hc];simpa using this)
  (fun q hq=>by
   have hq0:q=0:=by simpa using hq
   subst hq0;have:=hfz (r.2+j+0) (by omega) (by omega);simp only[World.frozen?,hc];simpa using this) (by intro x hx;rw[List.mem_singleton] at hx;subst hx;rfl)
 simp only[Nat.add_zero] at hst;obtain⟨c',g1,g2,g3,g4⟩:=aC.mM [Value.int .i64 y] (r.2+j) w c hc;have zq:=aC.jn (base:=0) (bk:=r.1) (adx _) [Value.int .i64 y] (r.2+j) w;have hnd:=T.nodup;rw[List.nodup_cons] at hnd;have hrb:r.1∈p.sats:=List.mem_map.2 ⟨r,acR hr,rfl⟩;have hpb:p.block≠r.1:=fun e=>hnd.1 (e▸hrb);have gP:∀ b,b≠r.1->(w.setCells r.1 (r.2+j) [Value.int .i64 y]).heap[b]? = w.heap[b]?:=fun b hb=>aC.iC hb _ _ _
 have g := R.U8 (w' := w.setCells r.1 (r.2 + j) [Value.int .i64 y]) ho hp (o' := ⟨o.ty, [.c (.th k (af.set i ((af.getD i []).set j y)))]⟩) (cG.Pn hr) zq.os zq.tape zq.output (aC.mN _ _ _) gP ⟨_, g1, rfl⟩
  (eM.tab (k:=k) (af:=af.set i ((af.getD i []).set j y)) (KM rfl) ⟨by
   obtain⟨co,fo,q1,q2⟩:=T.outer;exact⟨co,fo,(gP _ hpb).trans q1,q2⟩,by rw[adq];exact T.len,by rw[adq];exact T.room,by
   intro i' r' l' hr' hl';by_cases hii:i'=i;subst hii;rw[hr] at hr';cases hr';rw[adg,if_pos rfl,if_pos hi,PE] at hl';cases hl';refine⟨by rw[adq];exact hl,c',ty,fz,g1,by omega,?_,by rw[g2];exact hfz⟩;intro j' x hx;rw[adg] at hx;by_cases hjj:j=j';subst hjj;rw[if_pos rfl,if_pos (by omega)] at hx;cases hx;have:=g4 0 (by simp) (by omega);simpa using this;rw[if_neg hjj] at hx;rw[g3 _ (by simp;omega)];exact hv j' x hx;rw[adg,if_neg (Ne.symm hii)] at hl';obtain⟨q0,cq,tq,fq,q1,q2⟩:=T.row i' r' l' hr' hl';refine⟨q0,cq,tq,fq,(gP _ fun e=>?_).trans q1,q2⟩;have h1:i'<p.sats.length:=by unfold cG.sats;rw[ac1];exact(List.getElem?_eq_some_iff.1 hr').1
   have h2:=(adh h1 hnd.2 (j:=i)).1 (by
    show p.sats[i']? = p.sats[i]?;unfold cG.sats;rw[acZ,acZ,hr,hr'];show some r'.1=some r.1;rw[e])
   exact hii h2,T.nodup⟩)
 refine bS.Vg ?_ g.up;simp[Instr.storeAt,Instr.sureAddr,storeVar,eP hs,Value.cells,hst]
theorem Ib{t:TypeId}{kd:D}(h:sK P t=some kd):∃ kt et td,P.underlying t=some (.map kt et)/\P.underlying kt=some td/\qp td kd=true/\aC.plainKey td=true:=by
 unfold sK at h;split at h;rename_i kt et hu;split at h;rename_i td kd' h1 h2;obtain⟨h5,h⟩:=eB h;cases h;refine⟨kt,et,td,hu,h1,h5,?_⟩;unfold qp at h5;split at h5;rfl;rfl;cases h5;cases h;cases h
theorem zW{td:TypeDesc}{kd:D}(h:qp td kd=true){k:kd.ty}{u:Value}(hu:cW Z kd k u):∀{fs:List Fd}{l:List (kd.ty×W)}{es:List MapEntry}(i:Nat),qo kd fs=some l->fu η Z (fs.flatMap Fd.cells) es->
 (zU kd k l=none->Instr.findNow td u es i=some none)/\(∀ v,zU kd k l=some v->∃ j v',Instr.findNow td u es i=some (some (j,v'))/\v≠.cL/\aJ η Z v v')
 | [],l,es,i,e,r=>by
   simp only[qo] at e;cases e;cases es with
   | nil=>exact⟨fun _=>rfl,fun v e=>by cases e⟩
   | cons _ _=>simp[fu] at r
 | .c kw::.c vw::fs,l,es,i,e,r=>by
   simp only[qo] at e;split at e
   . rename_i x l' hx hl;obtain⟨_,e⟩:=aC.aK e;cases e;cases es with
     | nil=>simp[fu,Fd.cells] at r
     | cons e0 es =>
       have r:(kw≠.cL/\aJ η Z kw e0.key)/\(vw≠.cL/\aJ η Z vw e0.val)/\fu η Z (fs.flatMap Fd.cells) es:=r;obtain⟨r1,r2,r3⟩:=r;obtain⟨s1,_⟩:=vY h hu (lU hx r1.2);simp only[zU,Instr.findNow,s1];cases hb:kd.j6 k x with
       | true=>exact⟨fun e=>(by cases e),fun v hv=>(by cases hv;exact⟨i,_,rfl,r2.1,r2.2⟩)⟩
       | false=>exact zW h hu (i+1) hl r3
   cases e
 | [.c _],_,_,_,e,_=>by simp[qo] at e
 | .a _ _ _::_,_,_,_,e,_=>by simp[qo] at e
 | .m _ _ _::_,_,_,_,e,_=>by simp[qo] at e
 | .c _::.a _ _ _::_,_,_,_,e,_=>by simp[qo] at e
 | .c _::.m _ _ _::_,_,_,_,e,_=>by simp[qo] at e
theorem Cx{kd:D}{fs:List Fd}{l:List (kd.ty×W)}(e:wS kd fs=some l):∃ r,fs=.c .mh::r/\qo kd r=some l:=by
 unfold wS at e;split at e;exact⟨_,rfl,e⟩;cases e
theorem St.entsF(R:St base η Z S w){n:Nat}{o:Ob}{r:List Fd}(ho:S.get n=some o)(hl:o.fs=.c .mh::r){u:Value}(hu:aJ η Z (.mp n) u) :
 ∃ p es clock,η n=some p/\u=.map (some p.block)/\base<=p.block/\Z p.block=none/\w.heap[p.block]? = some (.map es clock)/\fu η Z (r.flatMap Fd.cells) es.toList:=by
 obtain⟨p,hp,rfl⟩:=hu;obtain⟨h1,h2,L⟩:=R.au n o p ho hp;have cK:o.cells=.mh::r.flatMap Fd.cells:=by unfold Ob.cells;rw[hl];rfl
 obtain⟨es,k,h3,h4⟩:=L.maps (by unfold Ob.isMap;rw[cK];rfl);rw[cK] at h4;exact⟨p,es,k,hp,rfl,h1,h2,h3,h4⟩
theorem OU(R:St base η Z S w){t:TypeId}:bS P base η Z S w (do pure (Next.value (<-Instr.makeMap t none))) (.p (.c (.mp S.next))) (S.add ⟨t,[.c .mh]⟩):=by
 obtain⟨g,hn⟩:=R.U6 (w':={ w with heap:=w.heap.push (.map #[] 0) }) (Ob.mk t [.c .mh]) (by unfold Ob.cells;simp[Fd.cells]) rfl rfl rfl rfl;exact bS.of (u:=.map (some w.heap.size)) (by simp[Instr.makeMap,newObj,Sem.run]) g.up ⟨by simp,_,hn,rfl⟩
theorem RV(R:St base η Z S w){t:TypeId}{kd:D}(hd:sK P t=some kd){n:Nat}{o:Ob}{l:List (kd.ty×W)}(ho:S.get n=some o)(hl:wS kd o.fs=some l){u uk:Value}(hu:aJ η Z (.mp n) u){k:kd.ty}(hk:cW Z kd k uk){v:W}(hv:zU kd k l=some v) :
 bS P base η Z S w (do pure (Next.value (<-Instr.lookup t u uk false))) (.p (.c v)) S:=by
 obtain⟨kt,et,td,ht,hkt,hkey,hpk⟩:=Ib hd;obtain⟨r,hfs,hr⟩:=Cx hl;obtain⟨p,es,clock,hp,rfl,_,_,wT,hes⟩:=R.entsF ho hfs hu;have hg:(getObj p.block).run P w=.ok (.map es clock) w:=by simp[getObj,Sem.run,wT]
 obtain⟨j,v',g1,g2,g3⟩:=(zW hkey hk 0 hr hes).2 v hv;have hrun:(Instr.lookup t (.map (some p.block)) uk false).run P w=.ok v' w:=by simp[Instr.lookup,run_underlying ht,aC.lR w hkt hpk,hg,aC.mS w hkt g1]
 exact bS.of hrun (bX.refl R) ⟨g2,g3⟩
theorem Cy{k v:W}{e:MapEntry}(h1:k≠.cL/\aJ η Z k e.key)(h2:v≠.cL/\aJ η Z v e.val):∀{l:List W}{es:List MapEntry},fu η Z l es->fu η Z (l++[k,v]) (es++[e])
 | [],[],_=>⟨h1,h2,trivial⟩
 | _::_::l,_::es,⟨a,b,c⟩=>⟨a,b,Cy h1 h2 c⟩
 | [],_::_,h=>by simp[fu] at h
 | [_],_,h=>by simp[fu] at h
 | _::_::_,[],h=>by simp[fu] at h
theorem EG(R:St base η Z S w){t:TypeId}{kd:D}(hd:sK P t=some kd){n:Nat}{o:Ob}{l:List (kd.ty×W)}(ho:S.get n=some o)(hl:wS kd o.fs=some l){u uk uv:Value}(hu:aJ η Z (.mp n) u){k:kd.ty}(hk:cW Z kd k uk){v:W}(hv:v≠.cL/\aJ η Z v uv)(hno:zU kd k l=none) :
 bS P base η Z S w (do Instr.mapUpdate t u uk uv;pure Next.skip) (.aL []) (S.put n ⟨o.ty,o.fs++[.c (kd.w k),.c v]⟩):=by
 obtain⟨kt,et,td,ht,hkt,hkey,hpk⟩:=Ib hd;obtain⟨r,hfs,hr⟩:=Cx hl;obtain⟨p,es,clock,hp,rfl,hb,hZ,wT,hes⟩:=R.entsF ho hfs hu;have hg:(getObj p.block).run P w=.ok (.map es clock) w:=by simp[getObj,Sem.run,wT]
 have hset:∀ o,(setObj p.block o).run P w=.ok () (w.putObj p.block o):=fun o=>by simp[setObj,Sem.run,wT,World.putObj]
 have a:=(zW hkey hk 0 hr hes).1 hno;have cK:(Ob.mk o.ty (o.fs++[.c (kd.w k),.c v])).cells=.mh::(r.flatMap Fd.cells++[kd.w k,v]):=by unfold Ob.cells;rw[hfs];simp[Fd.cells]
 have hm:(Ob.mk o.ty (o.fs++[.c (kd.w k),.c v])).isMap:=by unfold Ob.isMap;rw[cK];rfl
 have g:=R.write (w':=w.putObj p.block (.map (es.push { key:=uk,val:=uv,born:=clock }) (clock+1))) ho hp (o':=Ob.mk o.ty (o.fs++[.c (kd.w k),.c v])) rfl rfl rfl (by simp[World.putObj]) (fun b hb=>by simp only[World.putObj];rw[ado (Ne.symm hb)])
  (eM.map hm ⟨es.push { key:=uk,val:=uv,born:=clock },clock+1,aC.vR (dN wT),by
   rw[cK,List.tail_cons,Array.toList_push];exact Cy ⟨D.jA _ _,(D.gN kd).2 hk⟩ hv hes⟩)
 refine bS.Vg ?_ g.up;simp[Instr.mapUpdate,run_underlying ht,hg,aC.lR w hkt hpk,aC.mS w hkt a,hset]
theorem Zo(R:St base η Z S w){t:TypeId}{d:TypeDesc}(hu:P.underlying t=some d)(hd:∀ ms,d≠.interface ms){x:Value}:bS P base η Z S w (do pure (Next.value (<-Instr.makeInterface t x))) (.p (.c (.val (.iface t x)))) S:=by
 refine bS.of (u:=.iface t x) ?_ (bX.refl R) ⟨by simp,by simp only[aJ,aV];exact⟨trivial,rfl⟩⟩;unfold Instr.makeInterface;simp only[Sem.run_bind,run_underlying hu,Result.andThen_ok];cases d<;>first|exact absurd rfl (hd _)|rfl
theorem Zp(R:St base η Z S w){src dst el:TypeId}(hs:P.underlying src=some .string)(hd:P.underlying dst=some (.slice el))(he:P.underlying el=some (.int .u8))(s:ByteArray):bS P base η Z S w (do pure (Next.value (<-convert src dst (.string s)))) (.p (.c (.rd (.int .u8) (ai s)))) S:=by
 have hge:=grownCap_ge w s.size 0 el;generalize hcap:grownCap w s.size 0 el=cap at hge;have hcap':(Question.appendCap s.size 0 el).cut (w.tape w.drawn (Question.appendCap s.size 0 el))=cap:=hcap;let c:Array Value:=s.data.map (fun b=>Value.int .u8 b.toNat)++adH (cap-s.size) (.int .u8 0);have hsz:s.data.size=s.size:=rfl;have hcs:c.size=cap:=by
  simp only[c,Array.size_append,Array.size_map,Array.size_replicate];omega
 let w':World:={ w with heap:=w.heap.push (.cells c el (cap,cap+1)),drawn:=w.drawn+1 };have hrun:(convert src dst (.string s)).run P w=.ok (.slice (some ⟨w.heap.size,0,none⟩) s.size cap) w':=by
  simp only[convert,Sem.run_bind,run_underlying hs,run_underlying hd,run_underlying he,Result.andThen_ok];simp only[Conv.stringToBytes,Sem.run_bind,run_choose,Question.forced,Bool.false_eq_true,if_false,Result.andThen_ok,newRow,newObj,Sem.run,Sem.run_pure,hcap',markStringish,shape,World.shape?,freeze];have hc0:Array.map (fun b=>Value.int IntKind.u8 (b.toNat:Int)) s.data++adH (cap-s.size) (Value.int IntKind.u8 0)=c:=rfl;rw[hc0];have e1:((w.heap.push (Obj.cells c el))[w.heap.size]?)=some (Obj.cells c el):=by simp
  simp only[e1,Sem.run,Result.andThen_ok,World.freeze,Nat.one_ne_zero,if_false,hcs];have e2:(w.heap.push (Obj.cells c el)).modify w.heap.size (fun x=>match x with
   | .cells c elem (lo,hi)=>.cells c elem (if lo==hi then(cap,cap+1) else(min lo cap,max hi (cap+1)))
   | o=>o)=w.heap.push (Obj.cells c el (cap,cap+1)):=by
   apply Array.ext_getElem?;intro i;rw[adn,adr,adr];by_cases hi:w.heap.size=i;subst hi;simp;rw[if_neg hi,if_neg (by omega),if_neg (by omega)]
  exact congrArg (fun hp=>Result.ok (Value.slice (some { block:=w.heap.size,off:=0 }) s.size cap) { w with heap:=hp,drawn:=w.drawn+1 }) e2
 have hfree:Z w.heap.size=none:=by
  cases h:Z w.heap.size with
  | none=>rfl
  | some x=>have:=R.Zb h;omega
 have hzle:Z.le (Z.add w.heap.size c):=fun b x hb=>by
  unfold aF.add;split;rename_i h;subst h;rw[hfree] at hb;cases hb;exact hb
 have hold:∀ b,b<w.heap.size->w'.heap[b]? = w.heap[b]?:=fun b hb=>by
  show (w.heap.push _)[b]? = _;rw[adr,if_neg (by omega)]
 have hown:∀ b,Own η S b->b<w.heap.size:=fun b ⟨n,o,p,h1,h2,hb⟩=>R.jY h1 h2 hb;have hst : St base η (Z.add w.heap.size c) S w' := by
  refine R.wO hzle (fun b cs hb=>?_) (by show _<=(w.heap.push _).size;simp) (fun b ho=>hold b (hown b ho)) (fun b ho=>?_);unfold aF.add at hb;split at hb;rename_i h;cases hb;subst h;exact⟨el,(cap,cap+1),by show (w.heap.push _)[w.heap.size]? = _;simp⟩;obtain⟨ty,fz,e⟩:=R.zs b cs hb;exact⟨ty,fz,(hold b (dN e)).trans e⟩;unfold aF.add;have:=hown b ho;rw[if_neg (by omega)];obtain⟨n,o,p,h1,h2,hb⟩:=ho;exact(R.all h1 h2 hb).2.1
 refine bS.of hrun ⟨Eta.le.refl _,hst,⟨rfl,rfl,rfl,(by show _<=(w.heap.push _).size;simp),fun b hb _=>hold b hb,fun _ h=>.inl h,hzle,fun b cs hb=>?_,rfl⟩⟩ ⟨by simp,?_⟩;unfold aF.add at hb;split at hb;rename_i h;exact .inr (.inr (by omega));exact .inl hb;simp only[aJ,aV,cW];have hl:(ai s).length=s.size:=by simp[ai]
 refine⟨_,_,_,rfl,hl,hge,.inr ⟨w.heap.size,0,c,rfl,by unfold aF.add;rw[if_pos rfl],fun i x hx=>?_⟩⟩;simp only[ai,acZ,ady] at hx;cases hb:s.data[i]? with
 | none=>rw[hb] at hx;cases hx
 | some b =>
   rw[hb] at hx;cases hx;refine⟨.int .u8 (b.toNat:Int),?_,rfl⟩;have hi:=(Array.getElem?_eq_some_iff.1 hb).1;have hi2:i<(s.data.map (fun b=>Value.int IntKind.u8 (b.toNat:Int))).size:=by simpa using hi
   show c[0+i]? = _;rw[adB,Array.getElem?_append_left hi2];simp[hb]
theorem Vy(R : St base η Z S w)(FR : bD n η Z F a.tmps){o : Oper}{l : L}(ht : K8 P o = some l){c : Cd}{v : A}{S' : ak}(e : kF F S l = some (c, v, S'))(hc : c) : bS P base η Z S w (execOp a.eval o) v S' := by
 unfold K8 at ht;unfold execOp;split at ht<;>rename_i hop<;>simp only[hop]
 -- maps
 rename_i t;split at ht;rename_i kd vd hd;cases ht;simp only[kF] at e;cases e;exact RU R kd vd;split at ht;cases ht;simp only[kF] at e;cases e;exact OU R;cases ht;rename_i t m' k' v';split at ht;rename_i kd vd m k v' hd hm hk hv;cases ht;simp only[kF] at e;split at e;rename_i p n q x r y hme hke lg;split at e;rename_i kk c2 z S1 nB hfz;split at e;rename_i o1 kr;split at e;rename_i l hl;cases e;obtain⟨hp,hq,hr,hc2⟩:=hc;have hy:=(aO FR hv lg hr).2;obtain⟨Z1,mv,hrz,hS⟩:=mD R hfz hc2 hy;have hkr:cW Z1 kd kk (a.eval k'):=cW.mono mv.step.cZ _ (lU nB (aO FR hk hke hq).2);exact bS.before mv (H9 mv.st hd kr hl ((aO FR hm hme hp).2.mono (Eta.le.refl _) mv.step.cZ) hkr hrz);cases e;cases e;cases e;cases e;rename_i m k v _ hm hk hv;split at ht;rename_i kd hd;cases ht;simp only[kF] at e;split at e;rename_i p n q x r y hme hke lg;split at e;rename_i kk o1 nB kr;split at e;rename_i l hl;split at e;rename_i hno;obtain⟨_,e⟩:=aC.aK e;cases e;obtain⟨hp,hq,hr⟩:=hc;have hy:=aO FR hv lg hr;exact EG R hd kr hl (aO FR hm hme hp).2 (lU nB (aO FR hk hke hq).2) ⟨hy.1,hy.2⟩ hno;cases e;cases e;cases e;cases e;cases ht;cases ht;rename_i t m' k' v';split at ht;rename_i kd vd m k v' hd hm hk hv;cases ht;simp only[kF] at e;split at e;rename_i p n q x r y hme hke lg;split at e;rename_i kk c2 z S1 nB hfz;split at e;rename_i o1 kr;split at e;rename_i l hl;cases e;obtain⟨hp,hq,hr,hc2⟩:=hc;have hy:=(aO FR hv lg hr).2;obtain⟨Z1,mv,hrz,hS⟩:=mD R hfz hc2 hy;have hkr:cW Z1 kd kk (a.eval k'):=cW.mono mv.step.cZ _ (lU nB (aO FR hk hke hq).2);exact bS.before mv (H9 mv.st hd kr hl ((aO FR hm hme hp).2.mono (Eta.le.refl _) mv.step.cZ) hkr hrz);cases e;cases e;cases e;cases e;rename_i m k v _ hm hk hv;split at ht;rename_i kd hd;cases ht;simp only[kF] at e;split at e;rename_i p n q x r y hme hke lg;split at e;rename_i kk o1 nB kr;split at e;rename_i l hl;split at e;rename_i hno;obtain⟨_,e⟩:=aC.aK e;cases e;obtain⟨hp,hq,hr⟩:=hc;have hy:=aO FR hv lg hr;exact EG R hd kr hl (aO FR hm hme hp).2 (lU nB (aO FR hk hke hq).2) ⟨hy.1,hy.2⟩ hno;cases e;cases e;cases e;cases e;cases ht;cases ht;rename_i t m' k' ok;split at ht;rename_i kd vd m k hd hm hk;cases ht;simp only[kF] at e;split at e;rename_i p n q x hme hke;split at e;rename_i kk o1 nB kr;split at e;rename_i l hl;have g:=fun(hc:Cd.and p q)=>Vt (P:=P) R hd kr hl (aO FR hm hme hc.1).2 (lU nB (aO FR hk hke hc.2).2) ok;cases ok<;>simp only[cond_true,cond_false] at e g<;>cases e<;>exact g hc;cases e;cases e;cases e
 . rename_i m k _ hm hk;cases ok with
   | true=>cases ht
   | false =>
   simp only[cond_false] at ht;split at ht;rename_i kd hd;cases ht;simp only[kF] at e;split at e;rename_i p n q x hme hke;split at e;rename_i kk o1 nB kr;split at e;rename_i l hl;split at e;rename_i v hv;cases e;exact RV R hd kr hl (aO FR hm hme hc.1).2 (lU nB (aO FR hk hke hc.2).2) hv;cases e;cases e;cases e;cases e;cases ht
 cases ht
 -- nil
 split at ht;split at ht;cases ht;simp only[kF] at e;cases e;exact⟨.value (.slice none 0 0),_,w,η,Z,rfl,.inl rfl,R.o5 (by rw[iI];rfl),by simp,.inl ⟨rfl,rfl⟩⟩;cases ht;cases ht;split at ht;split at ht;cases ht;simp only[kF] at e;cases e;exact⟨.value (.slice none 0 0),_,w,η,Z,rfl,.inl rfl,R.o5 (by rw[iI];rfl),by simp,.inl ⟨rfl,rfl⟩⟩;cases ht;cases ht
 -- alloc
 split at ht;rename_i el hel;cases ht;simp only[kF] at e;cases e;exact OT R hel;split at ht;rename_i fs i hfs hi;split at ht;rename_i z hz;obtain⟨hzs,ht⟩:=eB ht;cases ht;simp only[kF] at e;cases e;obtain⟨h1,h2⟩:=Gl (η:=η) (Z:=Z) hzs;exact(RE R hi hz h1 h2).alike (ak.mg rfl (by simp[Ob.cells,Ob.of,wH]));cases ht;cases ht
 -- bytes as a text
 rename_i x y pt it;split at ht;rename_i el x' y' hpt hx hy;obtain⟨hc1,ht⟩:=eB ht;cases ht;simp only[kF] at e;split at e;rename_i p m off i q kk k hxe tY;split at e;rename_i o1 kr;obtain⟨hb,e1⟩:=aC.aK e;clear e;simp only[acQ] at hb;have hoff:=acP hb.1;have hty:=acP hb.2;subst hoff;split at e1;rename_i l hl;cases e1;obtain⟨hp,hq,hb3⟩:=hc;obtain⟨h0,hk,h63⟩:=(show 0<k/\i+k<=l.length/\k<=9223372036854775807 from hb3);obtain⟨k',rfl⟩:∃ k':Nat,k=k':=⟨k.toNat,by omega⟩;have h1:=(aO FR hx hxe hp).2;have h2:=dw FR hy tY hq;have hk':i+k'<=adE (α:=Int) l:=Int.ofNat_le.1 hk;have g:=Vx (P:=P) (base:=base) (pt:=pt) (it:=it) (ty:=o.type) (kk:=kk) (k:=k') R hpt hc1 kr hty hl h1 (by omega) hk' (by omega);rw[Int.toNat_natCast];exact bS.run (by simp[resolve,invoke,builtin,h2]) g;cases e1;cases e;cases e;cases ht
 -- box
 · split at ht
   rename_i x hx;split at ht;rename_i el hel;cases ht;simp only[kF] at e;split at e;rename_i p v hv;obtain⟨hb,e1⟩:=aC.aK e;clear e;cases e1;exact Vw R (fk FR hx hv hc) (isNN_eq hb);cases e;cases ht;simp only[kF] at e;split at e;rename_i p v hv;cases e;exact(Zi R (fk FR hx hv hc)).alike (ak.mg rfl (by simp[Ob.cells,Ob.of,wH,K5]));cases e;cases ht
 -- store
 · split at ht
   · rename_i k x' v' hk hx hv
     split at ht;rename_i hk0;subst hk0;cases ht;simp only[kF] at e;split at e;rename_i p m off q hxe lg;cases e;obtain⟨_,pl,_,hpv⟩:=aO FR hx hxe hc.1;obtain⟨ws,hvv,_,Cz⟩:=fk FR hv lg hc.2;have hw0:ws=[]:=by cases ws with|nil=>rfl|cons _ _=>exact Cz.elim
     subst hw0;refine bS.Vg ?_ (bX.refl R);rw[hpv,hvv];simp[Instr.storeAt,Instr.sureAddr,storeVar,eP hk,Value.cells,storeCells];cases e;rename_i hk0;cases ht;simp only[kF] at e;split at e;rename_i p m off q v hxe lg;obtain⟨hl,e⟩:=aC.aK e;have hl:=acP hl;split at e;rename_i o ho;obtain⟨ho,hmo⟩:=kZ ho;obtain⟨hnf,e⟩:=aC.aK e;split at e;rename_i c' fs' hput;cases e;obtain⟨hp,hq,hc'⟩:=hc;obtain⟨h1,h2⟩:=Cu hput hc';have hle:=h2 (by rintro h0;rw[h0] at hl;simp at hl;omega);have hnb:¬o.bytes:=nbF_ok hnf fun h0=>by
      have hle:off+v.cells.length<=o.cells.length:=hle;rw[h0] at hle;have hle:off+v.cells.length<=0:=hle;omega
     refine(sZ R hk ho hmo hnb (aO FR hx hxe hp).2 (fk FR hv lg hq) hl ?_).alike (ak.pN rfl ?_);rw[<-hl];exact h2 (by rintro h0;rw[h0] at hl;simp at hl;omega);rw[Ob.fD];exact h1;cases e;cases e;rename_i p m i j q y hxe lg;obtain⟨hl,e⟩:=aC.aK e;have hl:=pP hl;subst hl;split at e;rename_i k' af hto;obtain⟨o1,kr,_,PF⟩:=nT hto;split at e;rename_i o2 EA;rw[kr] at EA;cases EA;cases e;obtain⟨hp,hq,hi,hj⟩:=hc;have hy:=(fk FR hv lg hq).2;simp only[aJ,aV] at hy;rw[hy];exact J3 R hk kr PF (aO FR hx hxe hp).2 hi hj;cases e;cases e
     · rename_i p m off i q y hxe lg
       obtain⟨hl,e⟩:=aC.aK e;have hl:=pP hl;subst hl;split at e;rename_i c1 S1 PG;cases e;obtain⟨hp,hq,hc1⟩:=hc;obtain⟨nB,hpu1⟩:=aC.aK PG;clear PG;have nB:=acP nB;subst nB;have hy:=fk FR hv lg hq;have hx1:aJ η Z (.ptr m (0+i)) _:=(aO FR hx hxe hp).2;rw[adB] at hx1;exact Vs R hk hpu1 hc1 hx1 hy;split at e;rename_i o ho;obtain⟨ho,hmo⟩:=kZ ho;split at e
       . rename_i c' k d l hg;cases zu:d.ql with
         | true=>rw[zu] at e;cases e
         | false =>
         rw[zu] at e;simp only[cond_false] at e;split at e;rename_i c2 z S1 hfz;split at e;rename_i o1 fs' kr hput;cases e;obtain⟨hp,hq,hc',hc2,hi0⟩:=hc;have hi:i<l.length:=hi0;have hy:=fk FR hv lg hq;obtain⟨Z1,mv,hr,hS⟩:=mD R hfz hc2 hy.2;have Zk:S1.get m=some o:=by
          rcases hS m with h|h;rw[h] at kr;cases kr;rw[h];exact ho
         obtain⟨pre,post,g1,g2,g3⟩:=OQ hg hc' hput;have cK:o.cells.length=pre.length+l.length+post.length:=by unfold Ob.cells;rw[g1];simp;omega
         have hnb:¬o.bytes:=fun hB=>by
          obtain⟨n,e⟩:=hB (d.w l[i]) (by unfold Ob.cells;rw[g1];exact List.mem_append_left _ (List.mem_append_right _ (List.mem_map.2 ⟨_,List.getElem_mem hi,rfl⟩)));exact D.RO zu _ _ e
         refine bS.before mv ((sZ mv.st hk Zk hmo hnb (v:=.c (d.w z)) ((aO FR hx hxe hp).2.mono (Eta.le.refl _) mv.step.cZ:aJ η Z1 (.ptr m (off+i)) _) ⟨D.jA _ _,(D.gN d).2 hr⟩ rfl (by omega)).alike (ak.pN rfl ?_));rw[Ob.fD];show fs'.flatMap Fd.cells=(o.cells).set (off+i) (d.w z);unfold Ob.cells;rw[g1,g2,List.map_set,adf,adf,adm _ _ (by omega),List.set_append_left _ _ (by simp;omega)];congr 3;omega;cases e;cases e
       cases e;cases e
     cases e
   cases ht
 -- makeInterface
 rename_i t x;split at ht;cases ht;rename_i d x' hu hd hx;cases ht;simp only[kF] at e;split at e;rename_i c' v' lg;split at e;rename_i u hu';cases e;have:=V.uW hu' (fk FR hx lg hc);rw[this];exact Zo R hd fun ms h=>hu ms (by rw[<-h]);cases e;cases e;cases ht
 -- typeAssert
 rename_i x xt t;split at ht;cases ht;rename_i d i x' hu hd hi hx;split at ht;rename_i z hz;split at ht;rename_i zv hzv;cases ht;have Cq:(zeroValue t).run P w=.ok z w:=by simp[zeroValue,typeInfo,hi,hz]
 obtain⟨r1,r2,r3⟩:=aC.Rp (P:=P) (w:=w) hd (fun ms h=>hu ms (by rw[<-h])) xt true;have hzrel:dP η Z zv z:=Bu hzv;have aL:∀{y:V}{u:Value}{b:Bool},dP η Z y u->cN η Z (.aL [y,.c (.bool b)]) (.tuple #[u,.bool b]):=fun h=>⟨[_,_],rfl,h,⟨by simp,by simp only[aJ,aV]⟩,trivial⟩;simp only[kF] at e;split at e;rename_i c' hxe;cases e;have CA:a.eval x=.nilIface:=by have:=(aO FR hx hxe hc).2;simpa only[aJ,aV] using this
 rw[CA];exact bS.of (r3 z Cq) (bX.refl R) (aL hzrel)
 . rename_i c' t' v' hxe;have CA:∀ hc:c',a.eval x=.iface t' v':=fun hc=>by have:=(aO FR hx hxe hc).2;simp only[aJ,aV] at this;exact this.1
   cases hb:acT t' t with
   | true =>
     have ht':=acP hb;subst ht';simp only[hb,cond_true] at e;split at e;rename_i y hy;cases e;rw[CA hc];exact bS.of (r1 v') (bX.refl R) (aL (Bu hy));cases e
   | false =>
     simp only[hb,cond_false] at e;cases e;rw[CA hc];exact bS.of (r2 t' v' z (fun h=>by subst h;rw[adO] at hb;cases hb) Cq) (bX.refl R) (aL hzrel)
 cases e;cases ht;cases ht;cases ht
 -- makeSlice
 · split at ht
   rename_i el l' c' hu hl hc';split at ht;rename_i i d hi hd;split at ht;rename_i z hz;obtain⟨⟨h1,h2,h3⟩,ht⟩:=eB ht;cases ht;simp only[kF] at e;split at e
   . rename_i p kl l q kc c hle hce;cases hd0:d.isSl<;>rw[hd0] at e<;>simp only[cond_true,cond_false] at e<;>cases e
     all_goals
      obtain⟨hp,hq,h4,h5,h6⟩:=hc;rw[dw FR hl hle hp,dw FR hc' hce hq];have h7:c<=140737488355328:=by
       have:(1:Int)*c<=(i.bytes:Int)*c:=Int.mul_le_mul_of_nonneg_right (by omega) (by omega);omega
      exact(Vh R hu hi h1 hz h3 h4 h5 h6 h7).alike (ak.mg rfl (by rw[Ob.fD,iI];simp))
   cases e;cases ht;cases ht;cases ht
 -- buildSlice
 · rename_i t len parts
   split at ht
   · rename_i el hu
     split at ht
     · rename_i k ps z hk hps hz
       obtain⟨⟨h1,h2,h3,h4⟩,ht⟩:=eB ht;cases ht;subst h2;simp only[kF] at e;split at e;rename_i p vs hvs;obtain⟨hal,e⟩:=aC.aK e;split at e
       . rename_i c' fs S1 hlit;cases e;obtain⟨us,g1,g2,g3⟩:=HX FR hps hvs hc.1;have plain:∀ S1 fs,S1=S->fs=(vs.flatMap V.cells).map Fd.c->bS P base η Z S w (do pure (Next.value (<-Instr.buildSlice t ps.length (parts.map fun(x:Nat×Operand)=>(x.1,a.eval x.2))))) (.p (.c (.sl S1.next 0 ps.length k))) (S1.add ⟨el,fs⟩):=by
          rintro S1 fs rfl rfl;exact KY R hu hk hz h3 h4 g1 g2 g3 (H7 hal)
         unfold litV at hlit;split at hlit;rename_i fs1 hone;cases hlit;exact(plain _ _ rfl rfl).alike (ak.mg rfl (by
          show fs.flatMap Fd.cells=((vs.flatMap V.cells).map Fd.c).flatMap Fd.cells;rw[wH];exact K7 hone))
         split at hlit;rename_i d hd;split at hlit;rename_i c2 ys S2 hfz;cases hlit;have hk1:k=1:=by
          split at hd;assumption;cases hd
         subst hk1;obtain⟨Z1,mv,hr⟩:=H6 R hfz hc.2 g1;refine bS.before mv ((KY mv.st hu hk hz h3 h4 hr g2 g3 ?_).alike (ak.mg rfl ?_));intro v hv;obtain⟨y,_,rfl⟩:=List.mem_map.1 hv;rfl;rw[Ob.fD,flat_w,iI];cases hlit;exact plain _ _ rfl rfl;cases hlit;exact plain _ _ rfl rfl
       cases e;cases e
     cases ht
   cases ht
 -- append
 rename_i x y t ts;split at ht
 · rename_i el x' y' hu hx hy
   split at ht
   · rename_i i z d hi hz hd
     have main : ∀ td, P.underlying ts = some td → (∀ k, td ≠ .int k) → (i.size = 1 ∧ z.length = 1 ∧ 1 ≤ i.bytes) → l = .append el i.bytes d x' y' → bS P base η Z S w (do pure (Next.value (← Builtin.append_ #[t, ts] o.type #[a.eval x, a.eval y]))) v S' := by
      rintro td htd hnt ⟨hs,hzl,hby⟩ rfl;have second : ∀{Z : aF}{S : ak}(_ : St base η Z S w)(_ : bD n η Z F a.tmps){yw : W}{c : Cd}{v : A}{S' : ak}, RR F S el i.bytes d x' yw = some (c, v, S') → c → aJ η Z yw (a.eval y) → bS P base η Z S w (do pure (Next.value (← Builtin.append_ #[t, ts] o.type #[a.eval x, a.eval y]))) v S' := by
       intro Z S R FR yw c v S' e hc Cr;unfold RR at e;split at e
       · rename_i q ys hsrc
         split at e;rename_i r hxw;cases e;obtain⟨hq,hr,hb0⟩:=hc;have hb:ys.length*i.bytes<=140737488355328:=hb0;have s1:=x5 (P:=P) R hsrc hq Cr;rw[(aO FR hx hxw hr).2.nil_eq];have bN:ys.length<=ys.length*i.bytes:=ade _ hby;have g:=uU (base:=base) (S:=S) (ty:=o.type) R hu htd hnt hi hz (by omega) (by omega) (by rw[hs];exact s1) (by rw[hs,ac5];simpa using hb) (by rw[hs,ac5];simp;omega);rw[hs,ac5,ac1] at g;exact g.alike (ak.mg rfl (by rw[Ob.fD,iI]));rename_i r m off len sz hxw;obtain⟨hs0,e1⟩:=aC.aK e;have hs1:=pP hs0;subst hs1;clear e;split at e1;rename_i o' ho';obtain⟨Zq,e2⟩:=aC.aK e1;have hty:=acP Zq;clear e1;split at e2;rename_i l' hl';cases e2;obtain⟨hq,hr,hcc⟩:=hc;have s1:=x5 (P:=P) R hsrc hq Cr;have cK:o'.cells=l'.map d.w:=Fd.j5 hl';have hcc2:(off+len<=l'.length/\(len+ys.length)*i.bytes<=140737488355328)/\(¬o'.bytes∨o'.cells=[]∨(off=0/\len*1=o'.cells.length/\∀ x∈ys.map d.w,∃ n,x=W.int .u8 n)):=by
          cases zu:d.ql with
          | false =>
            rw[zu] at hcc;have hcc:off+len<=l'.length/\(len+ys.length)*i.bytes<=140737488355328:=hcc;exact⟨hcc,(BA cK zu).imp id .inl⟩
          | true =>
            rw[zu] at hcc;have hcc:off=0/\len=l'.length/\(len+ys.length)*i.bytes<=140737488355328:=hcc;refine⟨⟨by omega,hcc.2.2⟩,.inr (.inr ⟨hcc.1,by rw[cK,ac1];omega,fun x hx=>?_⟩)⟩;obtain⟨y,_,rfl⟩:=List.mem_map.1 hx;exact D.w_u8 zu y
         obtain⟨⟨nB,hb⟩,hap⟩:=hcc2;have bN:len+ys.length<=(len+ys.length)*i.bytes:=ade _ hby;have g:=Ey (base:=base) (S:=S) (ty:=o.type) R hu htd hnt hi hz (by omega) (by omega) (by rw[hs];exact s1) (by rw[hs];exact(aO FR hx hxw hr).2) ho' (Ob.jC cK) hty (by rw[hs,cK];simp;exact nB) (by rw[hs];exact hap) (by rw[hs,ac5];simpa using hb) (by rw[hs,ac5];simp;omega);rw[hs,ac5,ac1] at g;exact g.alike (ak.mg rfl (by rw[Ob.fD,iI,cK];simp[adt,adj]));cases e2;cases e1;cases e
       cases e
      simp only[kF] at e;split at e;rename_i p yw PI;split at e;rename_i m k l0 hrow;obtain⟨q,oq,om,ro,lw,rfl,hq,hqm,Ck,Vr,hcm,hlw⟩:=RQ hrow;split at e;rename_i r hxw;cases e;obtain⟨hp,hr,hl0,hk0,hb0⟩:=hc;have s0:=KZ (P:=P) R (sz:=1) (aO FR hy PI hp).2 hq hqm (by rw[Ck];simp);rw[Ck] at s0;rw[(aO FR hx hxw hr).2.nil_eq];exact Gk (ty:=o.type) R hu htd hnt hi hz (by omega) hs s0 Vr hcm hlw hl0 hk0 hb0;rename_i r n' off len sz hxw;split at e;rename_i k' af hto;obtain⟨o1,kr,_,PF⟩:=nT hto;obtain⟨hb1,e1⟩:=aC.aK e;clear e;simp only[acQ,ac2] at hb1;have hs1:=pP hb1.1;subst hs1;split at e1;rename_i o2 EA;rw[kr] at EA;cases EA;obtain⟨Zq,e⟩:=aC.aK e1;clear e1;have hty:=acP Zq;cases e;obtain⟨hp,hr,nB,hln,hkk,hl0,hk0,hb0⟩:=hc;subst nB;subst hln;subst hkk;have s0:=KZ (P:=P) R (sz:=1) (aO FR hy PI hp).2 hq hqm (by rw[Ck];simp);rw[Ck] at s0;have bN:af.length+1<=(af.length+1)*i.bytes:=ade _ hby;exact EB (ty:=o.type) R hu htd hnt hi hz (by omega) hs s0 Vr hcm hlw hl0 hk0 (aO FR hx hxw hr).2 kr PF hty (fun e=>by subst e;exact Bool.noConfusion ((adO _).symm.trans hb1.2)) hb0 (by omega);cases e1
      · split at e
        rename_i c2 v2 S2 happ;cases e;have Cr:=(aO FR hy PI hc.1).2;have hc2:=hc.2;unfold appR at happ;simp only at happ;split at happ;rename_i c3 S3 hsh;split at happ;rename_i c4 v4 S4 happ2;cases happ;obtain⟨Z1,mv,_⟩:=Gm R hsh hc2.1;exact bS.before mv (second mv.st (FR.mono (Eta.le.refl _) mv.step.cZ) happ2 hc2.2 (aJ.mono (Eta.le.refl _) mv.step.cZ Cr));cases happ;cases happ;cases e
      cases e;split at e;rename_i c2 v2 S2 happ;cases e;exact second R FR happ hc.2 (aO FR hy PI hc.1).2;cases e;cases e
     split at ht;rename_i htd;obtain⟨h1,ht⟩:=eB ht;exact bS.run (by simp[resolve,invoke,builtin]) (main _ htd (by simp) h1 (Option.some.inj ht).symm);rename_i htd;obtain⟨h1,ht⟩:=eB ht;exact bS.run (by simp[resolve,invoke,builtin]) (main _ htd (by simp) h1 (Option.some.inj ht).symm);rename_i kn htd;split at ht;rename_i zv hzv;obtain⟨⟨h1,h2,h3⟩,ht⟩:=eB ht;cases ht;clear main;simp only[kF] at e;split at e;rename_i p q k n hxe tY;cases e;obtain⟨hp,hq,h4,h5⟩:=hc;have g:=(RI (ty:=o.type) (k:=k) R hu htd hi h1 hzv h3 h4 h2 h5).alike (zo:=S.add ⟨el,[.a 0 d (acV n.toNat d.zero)]⟩) (ak.mg rfl (by rw[Ob.fD,iI];simp));rw[<-dw FR hy tY hq,<-(aO FR hx hxe hp).2.nil_eq] at g;exact bS.run (by simp[resolve,invoke,builtin]) g;cases e;cases ht;cases ht
   cases ht
 cases ht
 -- copy
 rename_i x y t ts;split at ht
 · rename_i el x' y' hu hx hy
   split at ht;rename_i k d hk hd;obtain⟨hk1,ht⟩:=eB ht;subst hk1;cases ht;simp only[kF] at e;split at e;rename_i p yw PI;split at e;rename_i q ys hsrc;split at e;rename_i r m off len sz hxw;obtain⟨Dq,e1⟩:=aC.aK e;simp only[acQ,ac2] at Dq;have hs1:=pP Dq.1;subst hs1;clear e;split at e1;rename_i o' ho';split at e1;rename_i l' hl';cases e1;obtain⟨hp,hq,hr,Zs⟩:=hc;have nB:off+len<=l'.length:=Zs;have s1:=x5 (P:=P) R hsrc hq (aO FR hy PI hp).2;have cK:o'.cells=l'.map d.w:=Fd.j5 hl';have g:=Vn (base:=base) (S:=S) (ty:=o.type) (ts:=#[t,ts]) R rfl hu hk s1 (by omega) (aO FR hx hxw hr).2 ho' (Ob.jC cK) (BA cK Dq.2) (by rw[cK];simp;exact nB);rw[ac5,ac1,adD] at g;refine bS.run (by simp[resolve,invoke,builtin]) (g.alike (ak.pN rfl ?_));rw[Ob.fD,iI,cK,<-adj];exact H8 (by simp;omega);cases e1;cases e1;cases e;cases e;cases e;cases ht
 cases ht
 -- clear
 rename_i x t;split at ht;rename_i el x' hu hx;split at ht;rename_i i d hi hd;split at ht;rename_i z hz;obtain⟨hzz,ht⟩:=eB ht;cases ht;simp only[kF] at e;split at e;rename_i p m off len sz hxw;obtain⟨Dq,e1⟩:=aC.aK e;simp only[acQ,ac2] at Dq;have hs1:=pP Dq.1;subst hs1;clear e;split at e1;rename_i o' ho';split at e1;rename_i l' hl';cases e1;obtain⟨hp,Zs⟩:=hc;have nB:off+len<=l'.length:=Zs;have cK:o'.cells=l'.map d.w:=Fd.j5 hl';have g:=RM (base:=base) (S:=S) (ty:=o.type) (ts:=#[t]) R rfl hu hi hz hzz (aO FR hx hxw hp).2 ho' (Ob.jC cK) (BA cK Dq.2) (by rw[cK];simp;exact nB);refine bS.run (by simp[resolve,invoke,builtin]) (g.alike (ak.pN rfl ?_));rw[Ob.fD,iI,cK];have:=H8 (d:=d) (l:=l') (ys:=acV len d.zero) (off:=off) (by simp;omega);rw[this,List.map_replicate];cases e1;cases e1;cases e;cases ht;cases ht;cases ht
 -- convert
 rename_i s d x;split at ht;rename_i el x' hs hd hx;split at ht;rename_i he;cases ht;simp only[kF] at e;split at e;rename_i c' sv hse;cases e;rw[nS FR hx hse hc];exact Zp R hs hd he sv;cases e;cases ht;rename_i el x' hs hd hx;split at ht;rename_i he;cases ht;simp only[kF] at e;split at e;rename_i p y tY;split at e;cases e;rename_i y' hns;split at e;rename_i q l hsrc;cases e;have hw:=(aO FR hx tY hc.1).2;obtain⟨h1,h2⟩:=RS (S:=S) (fun s hh=>hns s hh) hsrc hw;obtain⟨u,hu1,hu2⟩:=Zj (P:=P) hs hd he (x5 (P:=P) R hsrc hc.2 hw) h1 h2;exact⟨_,u,w,η,Z,hu1,.inl rfl,bX.refl R,hu2⟩;cases e;cases e;cases ht;cases ht
 -- len of a map
 rename_i x t;split at ht;rename_i kd vd x' hd hx;cases ht;simp only[kF] at e;split at e;rename_i p n hxe;split at e;rename_i o1 kr;split at e;rename_i l hl;cases e;refine bS.run (by simp[resolve,invoke,builtin]) (Vu (ty:=o.type) R hd kr hl (aO FR hx hxe hc).2);cases e;cases e;cases e;cases ht;cases ht
end
def BB(k:Nat):List Ob->List (Nat×Ob)
 | []=>[]
 | o::l=>(k,o)::BB (k+1) l
def ak.ofList(l:List Ob):ak:={ next:=l.length,au:=BB 0 l }
theorem Ic:∀(l:List Ob)(k n:Nat),find (BB k l) n=if n<k then none else l[n-k]?
 | [],k,n=>by simp[BB,find]
 | o :: l, k, n => by
   simp only[BB,find];by_cases h:k=n;subst h;simp;rw[if_neg h,Ic l (k+1) n];by_cases h1:n<k;rw[if_pos (by omega),if_pos h1];rw[if_neg (by omega),if_neg h1];have:n-k=(n-(k+1))+1:=by omega
   rw[this];simp
theorem ak.aT(l:List Ob)(n:Nat):(ak.ofList l).get n=l[n]?:=by
 show find (BB 0 l) n=_;rw[Ic];simp
def wU(g:Nat->Option Nat):List (Nat×Nat)->Option (List (Nat×Nat))
 | []=>some []
 | (n,o)::l=>match g n,wU g l with|some m,some r=>some ((m,o)::r)|_,_=>none
def W.ren(g:Nat->Option Nat):W->Option W
 | .ptr n off=>match g n with|some m=>some (.ptr m off)|none=>none
 | .pe n off i=>match g n with|some m=>some (.pe m off i)|none=>none
 | .sl n off len sz=>match g n with|some m=>some (.sl m off len sz)|none=>none
 | .func f caps=>match wU g caps with|some r=>some (.func f r)|none=>none
 | .yield l=>some (.yield l)
 | .cL=>none
 | .mp n=>match g n with|some m=>some (.mp m)|none=>none
 | .ba n=>match g n with|some m=>some (.ba m)|none=>none
 | .fj f n off=>match g n with|some m=>some (.fj f m off)|none=>none
 | .row n i len=>match g n with|some m=>some (.row m i len)|none=>none
 | .qg n i j=>match g n with|some m=>some (.qg m i j)|none=>none
 | x=>some x
def EH(g:Nat->Option Nat):List W->Option (List W)
 | []=>some []
 | x::l=>match x.ren g,EH g l with|some y,some r=>some (y::r)|_,_=>none
def V.ren(g:Nat->Option Nat):V->Option V
 | .c x=>match x.ren g with|some y=>some (.c y)|none=>none
 | .agg cs=>match EH g cs with|some r=>some (.agg r)|none=>none
def uX(g:Nat->Option Nat):List V->Option (List V)
 | []=>some []
 | x::l=>match x.ren g,uX g l with|some y,some r=>some (y::r)|_,_=>none
def A.ren(g:Nat->Option Nat):A->Option A
 | .p v=>match v.ren g with|some y=>some (.p y)|none=>none
 | .aL vs=>match uX g vs with|some r=>some (.aL r)|none=>none
 | .cond _ _=>none
 | .dec b=>some (.dec b)
def Fd.ren(s:Bool)(g:Nat->Option Nat):Fd->Option Fd
 | .c x=>match x.ren g with|some y=>some (.c y)|none=>bif s then none else some (.c .cL)
 | .a n d l=>some (.a n d l)
 | .m kd vd l=>some (.m kd vd l)
def EI(s:Bool)(g:Nat->Option Nat):List Fd->Option (List Fd)
 | []=>some []
 | x::l=>match x.ren s g,EI s g l with|some y,some r=>some (y::r)|_,_=>none
def Fd.sK:Fd->Bool
 | .c .mh=>true
 | .m _ _ _=>true
 | _=>false
def Ob.ren(g:Nat->Option Nat)(o:Ob):Option Ob:=match EI (o.fs.any Fd.sK) g o.fs with|some fs=>some ⟨o.ty,fs⟩|none=>none
def iX(g:Nat->Option Nat):List Ob->Option (List Ob)
 | []=>some []
 | x::l=>match x.ren g,iX g l with|some y,some r=>some (y::r)|_,_=>none
def W.eH:W->Bool
 | .ro _ _ | .rp _ _ | .rd _ _ | .re _ _ _=>false
 | _=>true
def D.plain:D->Bool
 | .sl _=>false
 | _=>true
def V.eH:V->Bool
 | .c x=>x.eH
 | .agg cs=>cs.all W.eH
def A.eH:A->Bool
 | .p v=>v.eH
 | .aL vs=>vs.all V.eH
 | .cond _ _=>false
 | .dec _=>true
def Fd.eH:Fd->Bool
 | .c x=>x.eH
 | .a _ d _=>d.plain
 | .m kd vd _=>kd.plain&&vd.plain
def Ob.eH(o:Ob):Bool:=o.fs.all Fd.eH
section
variable {η aI:Eta} {Z Z':aF} {g:Nat->Option Nat}
theorem Lc(h:∀ n m,g n=some m->∀ p,η n=some p->aI m=some p):∀{caps r:List (Nat×Nat)}{vs:List Value},wU g caps=some r->bp (ic η) caps vs->bp (ic aI) r vs
 | [],r,vs,e,hl=>by simp only[wU] at e;cases e;cases vs with|nil=>trivial|cons _ _=>exact hl.elim
 | (n, o) :: l, r, vs, e, hl => by
   simp only[wU] at e;split at e
   . rename_i m r' hm hr;cases e;cases vs with
     | nil=>exact hl.elim
     | cons v vs =>
       obtain⟨⟨p,hp,hv⟩,hl⟩:=hl;exact⟨⟨p,h n m hm p hp,hv⟩,Lc h hr hl⟩
   cases e
theorem W.kA(h:∀ n m,g n=some m->∀ p,η n=some p->aI m=some p){x y:W}(hz:x.eH=true∨Z.le Z')(e:x.ren g=some y){v:Value}(r:aJ η Z x v):aJ aI Z' y v:=by
 have frozen:∀ x:W,x.eH=false->x.ren g=some x:=by intro x hx;cases x<;>simp_all[W.eH,W.ren]
 cases x with
 | ptr n off =>
   simp only[W.ren] at e;split at e;rename_i m hm;cases e;obtain⟨p,hp,hv⟩:=r;exact⟨p,h n m hm p hp,hv⟩;cases e
 | pe n off i =>
   simp only[W.ren] at e;split at e;rename_i m hm;cases e;obtain⟨p,hp,hv⟩:=r;exact⟨p,h n m hm p hp,hv⟩;cases e
 | sl n off len sz =>
   simp only[W.ren] at e;split at e;rename_i m hm;cases e;rcases r with r|⟨p,c,a,hp,r⟩;exact .inl r;exact .inr ⟨p,c,a,h n m hm p hp,r⟩;cases e
 | func f caps =>
   simp only[W.ren] at e;split at e;rename_i r' hr;cases e;obtain⟨vs,hv,hl⟩:=r;exact⟨vs,hv,Lc h hr hl⟩;cases e
 | yield l=>cases e;exact r
 | cL=>cases e
 | mh=>cases e;exact r
 | mp n =>
   simp only[W.ren] at e;split at e;rename_i m hm;cases e;obtain⟨p,hp,hv⟩:=r;exact⟨p,h n m hm p hp,hv⟩;cases e
 | ba n =>
   simp only[W.ren] at e;split at e;rename_i m hm;cases e;obtain⟨p,hp,hv⟩:=r;exact⟨p,h n m hm p hp,hv⟩;cases e
 | fj f n off =>
   simp only[W.ren] at e;split at e;rename_i m hm;cases e;obtain⟨u,hu,p,hp,hv⟩:=r;exact⟨u,hu,p,h n m hm p hp,hv⟩;cases e
 | row n i len =>
   simp only[W.ren] at e;split at e;rename_i m hm;cases e;obtain⟨p,r0,c,hp,hv⟩:=r;exact⟨p,r0,c,h n m hm p hp,hv⟩;cases e
 | qg n i j =>
   simp only[W.ren] at e;split at e;rename_i m hm;cases e;obtain⟨p,r0,hp,hv⟩:=r;exact⟨p,r0,h n m hm p hp,hv⟩;cases e
 | th k af=>cases e;exact r
 | bool b=>cases e;exact r
 | int k n=>cases e;exact r
 | str s=>cases e;exact r
 | dz=>cases e;exact r
 | nil=>cases e;exact r
 | mU=>cases e;exact r
 | ep=>cases e;exact r
 | val _=>cases e;exact r
 | ro _ _=>cases e;rcases hz with hz|hz;cases hz;exact aV.mono hz r
 | rp _ _=>cases e;rcases hz with hz|hz;cases hz;exact aV.mono hz r
 | rd _ _=>cases e;rcases hz with hz|hz;cases hz;exact aV.mono hz r
 | re _ _ _=>cases e;rcases hz with hz|hz;cases hz;exact aV.mono hz r
theorem W.Dr{x y:W}(e:x.ren g=some y):y≠.cL:=by
 cases x<;>simp only[W.ren] at e<;>first
  | (cases e;done)
  | (cases e;simp;done)
  | (split at e<;>cases e;simp)
theorem W.ren_mh{x:W}(e:x.ren g=some .mh):x=.mh:=by
 cases x<;>simp only[W.ren] at e<;>first
  | rfl
  | (cases e;done)
  | (split at e<;>cases e)
theorem W.ren_th{x:W}{k:Nat}{af:List (List Int)}(e:x.ren g=some (.th k af)):x=.th k af:=by
 cases x<;>simp only[W.ren] at e<;>first
  | (cases e;rfl)
  | (cases e;done)
  | (split at e<;>cases e)
theorem Ie(h:∀ n m,g n=some m->∀ p,η n=some p->aI m=some p):∀{l r:List W}{vs:List Value},(l.all W.eH=true∨Z.le Z')->EH g l=some r->bp (aJ η Z) l vs->bp (aJ aI Z') r vs/\∀ x∈r,x≠.cL
 | [],r,vs,_,e,hl=>by simp only[EH] at e;cases e;cases vs with|nil=>exact⟨trivial,by simp⟩|cons _ _=>exact hl.elim
 | x :: l, r, vs, hz, e, hl => by
   simp only[EH] at e;split at e
   . rename_i y r' hy hr;cases e;cases vs with
     | nil=>exact hl.elim
     | cons v vs =>
       simp only[adz,acQ] at hz;obtain⟨a,b⟩:=Ie h (hz.imp (·.2) id) hr hl.2;refine⟨⟨W.kA h (hz.imp (·.1) id) hy hl.1,a⟩,fun z hz'=>?_⟩;rcases List.mem_cons.1 hz' with rfl|hz';exact W.Dr hy;exact b z hz'
   cases e
theorem V.kA(h:∀ n m,g n=some m->∀ p,η n=some p->aI m=some p){x y:V}(hz:x.eH=true∨Z.le Z')(e:x.ren g=some y){v:Value}(r:dP η Z x v):dP aI Z' y v:=by
 cases x with
 | c x =>
   simp only[V.ren] at e;split at e;rename_i y' hy;cases e;exact⟨W.Dr hy,W.kA h hz hy r.2⟩;cases e
 | agg cs =>
   simp only[V.ren] at e;split at e;rename_i r' hr;cases e;obtain⟨vs,hv,_,hl⟩:=r;obtain⟨a,b⟩:=Ie h hz hr hl;exact⟨vs,hv,b,a⟩;cases e
theorem pQ(h:∀ n m,g n=some m->∀ p,η n=some p->aI m=some p):∀{l r:List V}{vs:List Value},(l.all V.eH=true∨Z.le Z')->uX g l=some r->bp (dP η Z) l vs->bp (dP aI Z') r vs
 | [],r,vs,_,e,hl=>by simp only[uX] at e;cases e;cases vs with|nil=>trivial|cons _ _=>exact hl.elim
 | x :: l, r, vs, hz, e, hl => by
   simp only[uX] at e;split at e
   . rename_i y r' hy hr;cases e;cases vs with
     | nil=>exact hl.elim
     | cons v vs =>
       simp only[adz,acQ] at hz;exact⟨V.kA h (hz.imp (·.1) id) hy hl.1,pQ h (hz.imp (·.2) id) hr hl.2⟩
   cases e
theorem A.kA(h:∀ n m,g n=some m->∀ p,η n=some p->aI m=some p){x y:A}(hz:x.eH=true∨Z.le Z')(e:x.ren g=some y){v:Value}(r:cN η Z x v):cN aI Z' y v:=by
 cases x with
 | p x =>
   simp only[A.ren] at e;split at e;rename_i y' hy;cases e;exact V.kA h hz hy r;cases e
 | aL vs =>
   simp only[A.ren] at e;split at e;rename_i r' hr;cases e;obtain⟨us,hv,hl⟩:=r;exact⟨us,hv,pQ h hz hr hl⟩;cases e
 | cond _ _=>cases e
 | dec b=>cases e;exact r
theorem D.RW(d:D)(y:d.ty):(d.w y).ren g=some (d.w y):=by cases d<;>rfl
theorem D.Gp{d:D}(h:d.plain=true)(y:d.ty):(d.w y).eH=true:=by cases d<;>first|rfl|cases h
theorem Ld{kd vd:D}:∀{l:List (kd.ty×vd.ty)}{i:Nat}{z:W},(ow kd vd l)[i]? = some z->z.ren g=some z/\(kd.plain=true->vd.plain=true->z.eH=true)
 | [],i,z,h=>by simp[ow] at h
 | (k,v)::l,0,z,h=>by simp[ow] at h;subst h;exact⟨D.RW _ _,fun h1 _=>D.Gp h1 _⟩
 | (k,v)::l,1,z,h=>by simp[ow] at h;subst h;exact⟨D.RW _ _,fun _ h2=>D.Gp h2 _⟩
 | (k,v)::l,i+2,z,h=>Ld (l:=l) (i:=i) (by simpa[ow] using h)
theorem CB{s : Bool} : ∀{fs r : List Fd}, EI s g fs = some r → (r.flatMap Fd.cells).length = (fs.flatMap Fd.cells).length ∧ ∀(i : Nat) y, (r.flatMap Fd.cells)[i]? = some y → ∃ x, (fs.flatMap Fd.cells)[i]? = some x ∧ (x.ren g = some y ∨ (s = false ∧ y = .cL ∧ x.ren g = none)) ∧ (fs.all Fd.eH = true → x.eH = true)
 | [],r,e=>by simp only[EI] at e;cases e;exact⟨rfl,by simp⟩
 | f :: fs, r, e => by
   simp only[EI] at e;split at e;rename_i f' r' hf hr;cases e;obtain⟨h1,h2⟩:=CB hr;have h3 : f'.cells.length = f.cells.length ∧ ∀(i : Nat) y, f'.cells[i]? = some y → ∃ x, f.cells[i]? = some x ∧ (x.ren g = some y ∨ (s = false ∧ y = .cL ∧ x.ren g = none)) ∧ (f.eH = true → x.eH = true) := by
    cases f with
    | c x =>
      simp only[Fd.ren] at hf;split at hf
      . rename_i y hy;cases hf;refine⟨rfl,fun i z hz=>?_⟩;cases i with
        | zero=>simp[Fd.cells] at hz ⊢;subst hz;exact⟨.inl hy,fun h=>h⟩
        | succ i=>simp[Fd.cells] at hz
      rename_i hnone;cases s with
      | true=>cases hf
      | false =>
        cases hf;refine⟨rfl,fun i z hz=>?_⟩;cases i with
        | zero=>simp[Fd.cells] at hz ⊢;subst hz;exact⟨.inr ⟨rfl,hnone⟩,fun h=>h⟩
        | succ i=>simp[Fd.cells] at hz
    | a n d l =>
      simp only[Fd.ren] at hf;cases hf;refine⟨rfl,fun i z hz=>⟨z,hz,?_,?_⟩⟩
      . simp only[Fd.cells,acZ] at hz;cases hh:l[i]? with
        | none=>rw[hh] at hz;cases hz
        | some y=>rw[hh] at hz;cases hz;exact .inl (D.RW _ _)
      intro hp;simp only[Fd.cells,acZ] at hz;cases hh:l[i]? with
      | none=>rw[hh] at hz;cases hz
      | some y=>rw[hh] at hz;cases hz;exact D.Gp hp _
    | m kd vd l =>
      simp only[Fd.ren] at hf;cases hf;refine⟨rfl,fun i z hz=>⟨z,hz,?_⟩⟩;cases i with
      | zero=>simp[Fd.cells] at hz;subst hz;exact⟨.inl rfl,fun _=>rfl⟩
      | succ i =>
        have hz':(ow kd vd l)[i]? = some z:=by simpa[Fd.cells] using hz
        obtain⟨h5,h6⟩:=Ld (g:=g) hz';exact⟨.inl h5,fun hp=>by simp only[Fd.eH,acQ] at hp;exact h6 hp.1 hp.2⟩
   simp only[acY,adb,adz,acQ];refine⟨by omega,fun i y hy=>?_⟩;by_cases hi:i<f'.cells.length;rw[acX hi] at hy;rw[acX (by omega)];obtain⟨x,a,b,c⟩:=h3.2 i y hy;exact⟨x,a,b,fun hh=>c hh.1⟩;rw[acU (by omega)] at hy;rw[acU (by omega),<-h3.1];obtain⟨x,a,b,c⟩:=h2 _ y hy;exact⟨x,a,b,fun hh=>c hh.2⟩;cases e
theorem Ob.uY{o o':Ob}(e:o.ren g=some o'):o'.ty=o.ty/\o'.cells.length=o.cells.length/\∀(i:Nat) y,o'.cells[i]? = some y->∃ x,o.cells[i]? = some x/\(x.ren g=some y∨(o.fs.any Fd.sK=false/\y=.cL/\x.ren g=none))/\(o.eH=true->x.eH=true):=by
 unfold Ob.ren at e;split at e;rename_i fs hfs;cases e;obtain⟨a,b⟩:=CB hfs;exact⟨rfl,a,b⟩;cases e
theorem RX{o:Ob}(h:o.isMap):o.fs.any Fd.sK=true:=by
 have hm:W.mh∈o.fs.flatMap Fd.cells:=acR h;obtain⟨f,hf,hx⟩:=List.mem_flatMap.1 hm;rw[List.any_eq_true];refine⟨f,hf,?_⟩;cases f with
 | c y=>simp[Fd.cells] at hx;subst hx;rfl
 | a n d l =>
   simp only[Fd.cells,List.mem_map] at hx;obtain⟨y,_,hy⟩:=hx;cases d<;>cases hy
 | m kd vd l=>rfl
theorem eM.ren(h:∀ n m,g n=some m->∀ p,η n=some p->aI m=some p){o o':Ob}(hz:o.eH=true∨Z.le Z')(e:o.ren g=some o'){p:cG}{w:World}(L:eM η Z o p w):eM aI Z' o' p w:=by
 obtain⟨e1,e2,e3⟩:=Ob.uY e;have hm1:o'.isMap->o.isMap:=fun hm=>by
  obtain⟨x,hx,hxy,_⟩:=e3 0 _ hm;rcases hxy with hxy|⟨_,hxy,_⟩;rw[W.ren_mh hxy] at hx;exact hx;cases hxy
 have PF:∀ k af,o'.iV k af->o.iV k af:=fun k af hm=>by
  obtain⟨x,hx,hxy,_⟩:=e3 0 _ hm;rcases hxy with hxy|⟨_,hxy,_⟩;rw[W.ren_th hxy] at hx;exact hx;cases hxy
 have hi2:o.fG->o'.fG:=fun hm=>by
  obtain⟨s,hs,hsp⟩:=Ob.U7 hm;have h0:0<o'.cells.length:=by rw[e2];exact(List.getElem?_eq_some_iff.1 hs).1
  obtain⟨x,hx,hxy,_⟩:=e3 0 _ (acS h0);have:x=s:=Option.some.inj (hx.symm.trans hs);subst this;rcases hm with hm|⟨k,af,hm⟩;have:x=.mh:=Option.some.inj (hx.symm.trans hm);subst this;have hxy:(W.mh).ren g=some o'.cells[0]:=hxy.elim id fun h=>by cases h.2.2
  have:o'.cells[0]=.mh:=(Option.some.inj hxy).symm;left;show o'.cells[0]? = some .mh;rw[acS h0,this];have:x=.th k af:=Option.some.inj (hx.symm.trans hm);subst this;have hxy:(W.th k af).ren g=some o'.cells[0]:=hxy.elim id fun h=>by cases h.2.2
  have:o'.cells[0]=.th k af:=(Option.some.inj hxy).symm;refine .inr ⟨k,af,?_⟩;show o'.cells[0]? = some (.th k af);rw[acS h0,this]
 refine⟨fun hm=>?_,fun hm=>by rw[e2];exact L.size fun h=>hm (hi2 h),fun k af hm=>by rw[e1];exact L.tabs k af (PF k af hm),fun hm=>?_⟩;obtain⟨c,fz,a,b,d,f⟩:=L.there fun h=>hm (hi2 h);have f':zJ o' p fz:=by
  rcases f with f|⟨hB,ht⟩;exact .inl f;refine .inr ⟨fun y hy=>?_,by rw[e2];exact ht⟩;obtain⟨i,hi⟩:=ac8 hy;obtain⟨x,hx,hxy,_⟩:=e3 i y hi;obtain⟨n,rfl⟩:=hB x (acR hx);have hxy:(W.int .u8 n).ren g=some y:=hxy.elim id fun h=>by cases h.2.2
  exact⟨n,(Option.some.inj hxy).symm⟩
 refine⟨c,fz,by rw[e1];exact a,b,fun i y hy=>?_,f'⟩;obtain⟨x,hx,hxy,hzf⟩:=e3 i y hy;obtain⟨v,hv,hr,h1⟩:=d i x hx;rcases hxy with hxy|⟨_,rfl,_⟩;exact⟨v,hv,W.kA h (hz.imp hzf id) hxy hr,h1⟩;exact⟨v,hv,trivial,h1⟩;obtain⟨es,k,a,b⟩:=L.maps (hm1 hm);refine⟨es,k,a,fu.map (g:=fun x y=>x.ren g=some y/\(o.eH=true->x.eH=true)) (fun x y v hxy hr=>⟨W.Dr hxy.1,W.kA h (hz.imp hxy.2 id) hxy.1 hr⟩) (by simp[e2]) (fun i y hy=>?_) b⟩;rw[<-adK,acW] at hy;obtain⟨x,hx,hxy,hzf⟩:=e3 _ y hy;have hxy:x.ren g=some y:=hxy.elim id fun h=>by rw[RX (hm1 hm)] at h;cases h.1
 exact⟨x,by rw[<-adK,acW];exact hx,hxy,hzf⟩
end
theorem lq{g:Nat->Option Nat}:∀{l r:List Ob},iX g l=some r->r.length=l.length/\∀(i:Nat) o',r[i]? = some o'->∃ o,l[i]? = some o/\o.ren g=some o'
 | [],r,e=>by simp only[iX] at e;cases e;exact⟨rfl,by simp⟩
 | x :: l, r, e => by
   simp only[iX] at e;split at e
   . rename_i y r' hy hr;cases e;obtain⟨a,b⟩:=lq hr;refine⟨by simp[a],fun i o' ho=>?_⟩;cases i with
     | zero=>simp at ho;subst ho;exact⟨x,rfl,hy⟩
     | succ i=>simp at ho ⊢;exact b i o' ho
   cases e
def tab64:List Int:=[0,1,56,2,57,49,28,3,61,58,42,50,38,29,17,4,62,47,59,36,45,43,51,22,53,39,33,30,24,18,12,5,63,55,48,27,60,41,37,16,46,35,44,21,52,32,23,11,54,26,40,15,34,20,31,10,25,14,19,9,13,8,7,6]
def tab32:List Int:=[0,1,28,2,29,14,24,3,30,22,20,15,25,17,4,8,31,27,13,23,21,19,16,7,26,12,18,6,11,5,10,9]
def RY:List Int:=[1,10,100,1000,10000,100000,1000000,10000000,100000000,1000000000,10000000000,100000000000,1000000000000,10000000000000,100000000000000,1000000000000000,10000000000000000,100000000000000000,1000000000000000000,10000000000000000000]
def RZ:List (String×IntKind×List Int):=[("math/bits.deBruijn32tab",.u8,tab32),("math/bits.deBruijn64tab",.u8,tab64),("internal/strconv.uint64pow10",.u64,RY)]
def jf(P:Program)(Z:aF):Prop:=∀ x∈RZ,∀ g,P.globalNamed x.1=some g->Z g=some (x.2.2.map (Value.int x.2.1)).toArray
theorem jf.mono{P:Program}{Z Z':aF}(h:jf P Z)(hz:Z.le Z'):jf P Z':=fun x hx g hg=>hz _ _ (h x hx g hg)
def Le(P:Program)(f:FuncId)(args:List A)(S:ak)(r:A)(S':ak):Prop :=
 ∀ base η Z w vs,St base η Z S w->bp (cN η Z) args vs->jf P Z->CallsIn Fence.wide 0 P f vs.toArray w fun e w'=>∃ u aI Z',e=.returned u/\bX base η Z S w aI Z' S' w'/\cN aI Z' r u
structure iF(ay base:Nat)(η:Eta)(Z:aF)(S:ak)(w:World)(aI:Eta)(Z':aF)(S':ak)(w':World):Prop where
 le:∀ n p,n<ay->η n=some p->aI n=some p
 st:St base aI Z' S' w'
 step:Step η Z S w aI Z' S' w'
def bq(P:Program)(f:FuncId)(ay:Nat)(args:List A)(au:List Ob)(r:A)(bg:List Ob):Prop :=
 ∀ base η Z w vs,St base η Z (.ofList au) w->bp (cN η Z) args vs->jf P Z->CallsIn Fence.wide 0 P f vs.toArray w fun e w'=>∃ u aI Z',e=.returned u/\iF ay base η Z (.ofList au) w aI Z' (.ofList bg) w'/\cN aI Z' r u
def bA(P:Program)(f:FuncId)(args:List A)(au:List Ob)(r:A)(bg:List Ob):Prop:=bq P f au.length args au r bg
def idxOf:List Nat->Nat->Option Nat
 | [],_=>none
 | x::l,n=>if x=n then some 0 else match idxOf l n with|some i=>some (i+1)|none=>none
theorem gH:∀{l:List Nat}{n i:Nat},idxOf l n=some i->l[i]? = some n
 | [],_,_,e=>by cases e
 | x :: l, n, i, e => by
   simp only[idxOf] at e;split at e;rename_i h;cases e;subst h;rfl;split at e;rename_i j hj;cases e;simpa using gH hj;cases e
theorem tf:∀{l:List Nat}{n:Nat},idxOf l n=none->∀(i:Nat),l[i]?≠some n
 | [],_,_,i=>by simp
 | x :: l, n, e, i => by
   simp only[idxOf] at e;split at e;cases e;rename_i hne;split at e;cases e;rename_i hj;cases i with
   | zero=>simp;exact hne
   | succ i=>simpa using tf hj i
theorem Zt{l:List Nat}(hnd:l.Nodup){n i:Nat}(h:l[i]? = some n):idxOf l n=some i:=by
 cases e:idxOf l n with
 | none=>exact absurd h (tf e i)
 | some j =>
   have hj:=gH e;have h1:=(List.getElem?_eq_some_iff.1 h).1;have:=(adh h1 hnd).1 (h.trans hj.symm);rw[this]
def zX(rs:List Nat)(nx:Nat)(i:Nat):Option Nat:=if i<rs.length then rs[i]? else some (nx+(i-rs.length))
def mO(S:ak):List Nat->List Ob->ak
 | n::rs,o::os=>mO (S.put n o) rs os
 | _,_=>S
def r7(S:ak):List Ob->ak
 | []=>S
 | o::os=>r7 (S.add o) os
def ak.eF(S:ak)(rs:List Nat)(os:List Ob):ak:=r7 (mO S rs (os.take rs.length)) (os.drop rs.length)
theorem zY:∀{rs:List Nat}{os:List Ob}{S:ak},(mO S rs os).cJ=S.cJ
 | [],_,_=>by simp[mO]
 | _::_,[],_=>by simp[mO]
 | n::rs,o::os,S=>by rw[mO,zY];rfl
theorem zZ:∀{os:List Ob}{S:ak},(r7 S os).cJ=S.cJ
 | [],_=>rfl
 | o::os,S=>by rw[r7,zZ];rfl
theorem ak.R3{S:ak}{rs:List Nat}{os:List Ob}:(S.eF rs os).cJ=S.cJ:=by unfold ak.eF;rw[zZ,zY]
theorem rN:∀{rs:List Nat}{os:List Ob}{S:ak},(mO S rs os).next=S.next
 | [],_,_=>by cases ‹List Ob›<;>rfl
 | _::_,[],_=>rfl
 | n::rs,o::os,S=>by rw[mO,rN];rfl
theorem EJ:∀{rs:List Nat}{os:List Ob}{S:ak},rs.Nodup->os.length=rs.length->(∀ n∈rs,∃ o,S.get n=some o)->∀ n,(mO S rs os).get n=match idxOf rs n with|some i=>os[i]?|none=>S.get n
 | [],[],S,_,_,_,n=>rfl
 | [],_::_,S,_,h,_,n=>by simp at h
 | _::_,[],S,_,h,_,n=>by simp at h
 | k :: rs, o :: os, S, hnd, hl, hin, n => by
   rw[mO];have R4:=List.nodup_cons.1 hnd;obtain⟨o0,HL⟩:=hin k (by simp);have hget:∀ m,(S.put k o).get m=if m=k then some o else S.get m:=fun m=>by rw[ak.jm,HL];rfl
   rw[EJ R4.2 (by simpa using hl) (fun m hm=>by
    obtain⟨x,hx⟩:=hin m (by simp[hm]);rw[hget];by_cases h:m=k;rw[if_pos h];exact⟨o,rfl⟩;rw[if_neg h];exact⟨x,hx⟩)]
   simp only[idxOf];by_cases h:k=n;subst h;rw[if_pos rfl];have:idxOf rs k=none:=by
    cases e:idxOf rs k with
    | none=>rfl
    | some i=>exact absurd (acR (gH e)) R4.1
   rw[this];simp[hget];rw[if_neg h];cases idxOf rs n with
   | none=>simp[hget,Ne.symm h]
   | some i=>simp
theorem CC:∀{os:List Ob}{S:ak},(r7 S os).next=S.next+os.length
 | [],_=>rfl
 | o::os,S=>by rw[r7,CC];show S.next+1+_=_;simp;omega
theorem EK:∀{os:List Ob}{S:ak},(∀ n,S.next<=n->S.get n=none)->∀ n,(r7 S os).get n=if S.next<=n then os[n-S.next]? else S.get n
 | [],S,hf,n=>by
   show S.get n=_;by_cases h:S.next<=n
   rw[if_pos h,hf n h];simp;rw[if_neg h]
 | o :: os, S, hf, n => by
   have hadd:∀ m,(S.add o).get m=if m=S.next then some o else S.get m:=fun m=>ak.fU (hf _ (ads _))
   rw[r7,EK (S:=S.add o) (fun m hm=>by
    have:(S.add o).next=S.next+1:=rfl
    rw[hadd,if_neg (by omega)];exact hf m (by omega))]
   have hn:(S.add o).next=S.next+1:=rfl
   rw[hn,hadd];by_cases h:S.next<=n
   . rw[if_pos h];by_cases h1:n=S.next
     subst h1;rw[if_neg (by omega),if_pos rfl];simp
     . rw[if_pos (by omega)];have:n-S.next=(n-(S.next+1))+1:=by omega
       rw[this];simp
   rw[if_neg (by omega),if_neg h,if_neg (by omega)]
theorem Zu{S:ak}{rs:List Nat}{os:List Ob}(hnd:rs.Nodup)(hl:rs.length<=os.length)(hin:∀ n∈rs,∃ o,S.get n=some o)(hf:∀ n o,S.get n=some o->n<S.next)(n:Nat) :
 (S.eF rs os).get n=match idxOf rs n with|some i=>os[i]?|none=>if S.next<=n then os[rs.length+(n-S.next)]? else S.get n:=by
 have hp:=EJ (os:=os.take rs.length) hnd (by simp;omega) hin;have uN:∀ n i,idxOf rs n=some i->n<S.next/\i<rs.length:=by
  intro n i e;have:=gH e;obtain⟨o,ho⟩:=hin n (acR this);exact⟨hf n o ho,(List.getElem?_eq_some_iff.1 this).1⟩
 have hnone:∀ m,(mO S rs (os.take rs.length)).next<=m->(mO S rs (os.take rs.length)).get m=none:=by
  intro m hm;rw[rN] at hm;rw[hp];cases e:idxOf rs m with
  | some i=>have:=uN m i e;omega
  | none =>
    simp only;cases e':S.get m with
    | none=>rfl
    | some o=>have:=hf m o e';omega
 unfold ak.eF;rw[EK hnone,rN,hp];cases e:idxOf rs n with
 | some i =>
   obtain⟨h1,h2⟩:=uN n i e;simp only;rw[if_neg (by omega),ac0,if_pos h2]
 | none =>
   simp only;split;rw[acW];rfl
theorem Vz{S:ak}{rs:List Nat}{os:List Ob}:(S.eF rs os).next=S.next+(os.length-rs.length):=by
 unfold ak.eF;rw[CC,rN];simp
def iG(S:ak):List Nat->Option (List Ob)
 | []=>some []
 | n::l=>match S.get n,iG S l with|some o,some r=>some (o::r)|_,_=>none
theorem mE:∀{S:ak}{rs:List Nat}{l:List Ob},iG S rs=some l->l.length=rs.length/\∀(i:Nat) n,rs[i]? = some n->∃ o,S.get n=some o/\l[i]? = some o
 | S,[],l,e=>by simp only[iG] at e;cases e;exact⟨rfl,by simp⟩
 | S,k::rs,l,e=>by
   simp only[iG] at e;split at e
   . rename_i o r ho hr;cases e;obtain⟨a,b⟩:=mE hr;refine⟨by simp[a],fun i n hi=>?_⟩;cases i with
     | zero=>simp at hi;subst hi;exact⟨o,ho,rfl⟩
     | succ i=>simpa using b i n (by simpa using hi)
   cases e
def gK(S:ak):List Nat->ak
 | []=>S
 | m::ms=>gK (S.del m) ms
theorem x6:∀{ms:List Nat}{S:ak}{n:Nat}{o:Ob},(gK S ms).get n=some o->S.get n=some o/\n ∉ ms
 | [],_,_,_,h=>⟨h,by simp⟩
 | m::ms,S,n,o,h=>by
   obtain⟨a,b⟩:=x6 (S:=S.del m) h;rw[ak.iM] at a;split at a;cases a;rename_i hne;exact⟨a,by simp[hne,b]⟩
theorem pS:∀{ms:List Nat}{S:ak},(gK S ms).next=S.next
 | [],_=>rfl
 | m::ms,S=>by rw[gK,pS];rfl
theorem z6:∀{ms:List Nat}{S:ak}{n:Nat},n ∉ ms->(gK S ms).get n=S.get n
 | [],_,_,_=>rfl
 | m::ms,S,n,h=>by
   simp only[List.mem_cons,not_or] at h;rw[gK,z6 h.2,ak.iM,if_neg h.1]
theorem x7:∀{ms:List Nat}{S:ak},(gK S ms).cJ=S.cJ
 | [],_=>rfl
 | m::ms,S=>by rw[gK,x7];rfl
section
variable {P:Program}
def Seen(η:Eta)(S:ak)(ms:List Nat)(b:Nat):Prop:=∃ m,m∈ms/\∃ o p,S.get m=some o/\η m=some p/\p.has b
open Classical in
def sM(η:Eta)(Z:aF)(S:ak)(w:World)(ms:List Nat):aF:=fun b=>if Seen η S ms b then(match w.heap[b]? with|some (.cells c _ _)=>some c|_=>none) else Z b
theorem Gq{base:Nat}{η:Eta}{Z:aF}{S:ak}{w:World}(R:St base η Z S w)(ms:List Nat):Z.le (sM η Z S w ms):=by
 intro b c h;unfold sM;rw[if_neg];exact h;rintro⟨m,_,o,p,ho,hp,hb⟩;rw[(R.all ho hp hb).2.1] at h;cases h
def dH(η:Eta)(rs:List Nat):Eta:=fun i=>match rs[i]? with|some n=>η n|none=>none
open Classical in
theorem EL{f:FuncId}{S:ak}{rs ms:List Nat}{args tg:List A}{fP bY iJ rO:List Ob}{r0 r:A}{ay:Nat}(x9:bq P f ay tg bY r0 iJ)(hnd:rs.Nodup)(yc:∀ m∈ms,m ∉ rs)
 (ga:iG S rs=some fP) (iK:iX (idxOf rs) fP=some bY) (hkr:ay<=rs.length) (bN:ay<=iJ.length) (hr:r0.ren (zX (rs.take ay) S.next)=some r) (hos:iX (zX (rs.take ay) S.next) iJ=some rO)
 (hz:ms=[]∨(r0.eH=true/\iJ.all Ob.eH=true))
 (hargs:∀ base η Z w vs,St base η Z S w->bp (cN η Z) args vs->bp (cN (dH η rs) (sM η Z S w ms)) tg vs):Le P f args S r ((gK S (rs.drop ay)).eF (rs.take ay) rO):=by
 intro base η Z w vs R hvs hK;obtain⟨hl1,kP⟩:=mE ga;obtain⟨hl2,lK⟩:=lq iK;obtain⟨hl3,hg3⟩:=lq hos;have hin:∀ n∈rs,∃ o,S.get n=some o:=fun n hn=>by
  obtain⟨i,hi⟩:=ac8 hn;obtain⟨o,ho,_⟩:=kP i n hi;exact⟨o,ho⟩
 have hnext:∀ n∈rs,n<S.next:=fun n hn=>let ⟨o,ho⟩:=hin n hn;R.known n o ho
 have Zv:=Gq R ms;have hidx:∀ n m,idxOf rs n=some m->∀ p,η n=some p->dH η rs m=some p:=by
  intro n m e p hp;unfold dH;rw[gH e];exact hp
 -- an object that is handed over
 have hand:∀(i:Nat) o,bY[i]? = some o->∃ n oS,rs[i]? = some n/\S.get n=some oS/\oS.ren (idxOf rs)=some o:=by
  intro i o ho;obtain⟨oS,h1,h2⟩:=lK i o ho;have hi:i<rs.length:=by have:=(List.getElem?_eq_some_iff.1 h1).1;omega
  obtain⟨o',h3,h4⟩:=kP i rs[i] (acS hi);have:oS=o':=Option.some.inj (h1.symm.trans h4);subst this;exact⟨rs[i],oS,acS hi,h3,h2⟩
 have hseen:∀ n o p b,n∈rs->S.get n=some o->η n=some p->p.has b->¬Seen η S ms b:=by
  rintro n o p b hn ho hp hb0 ⟨m,hm,o',p',ho',hp',hb⟩;exact R.jB m n o' o p' p b ho' ho (fun h=>yc m hm (h▸hn)) hp' hp hb hb0
 have R0 : St base (dH η rs) (sM η Z S w ms) (.ofList bY) w := by
  refine⟨?_,?_,?_,?_,?_,?_,R.gO,?_⟩;intro i o p ho hp;rw[ak.aT] at ho;obtain⟨n,oS,h1,h2,h3⟩:=hand i o ho;unfold dH at hp;rw[h1] at hp;obtain⟨a,b,L⟩:=R.au n oS p h2 hp;refine⟨a,?_,L.ren hidx (.inr Zv) h3⟩;unfold sM;rw[if_neg (hseen n oS p _ (acR h1) h2 hp p.iw)];exact b;intro i o ho hp;rw[ak.aT] at ho;obtain⟨n,oS,h1,h2,h3⟩:=hand i o ho;unfold dH at hp;rw[h1] at hp;have:=R.cJ n oS h2 hp;have h4:=(Ob.uY h3).2.1;rw[this] at h4;exact ac6 h4;intro i o ho;rw[ak.aT] at ho;exact(List.getElem?_eq_some_iff.1 ho).1;intro i j o o' p p' b ho ho' hne hp hp';rw[ak.aT] at ho ho';obtain⟨n,oS,h1,h2,h3⟩:=hand i o ho;obtain⟨n',oS',h1',h2',h3'⟩:=hand j o' ho';unfold dH at hp hp';rw[h1] at hp;rw[h1'] at hp';refine R.jB n n' oS oS' p p' b h2 h2' ?_ hp hp';rintro rfl;exact hne ((adh (List.getElem?_eq_some_iff.1 h1).1 hnd).1 (h1.trans h1'.symm));intro b c hb;unfold sM at hb;split at hb;split at hb;rename_i hh;cases hb;exact⟨_,_,hh⟩;cases hb;exact R.zs b c hb
  . intro i hi;unfold dH;have:rs[i]? = none:=List.getElem?_eq_none (by have:(ak.ofList bY).next=bY.length:=rfl;omega);rw[this]
  intro i o p ho hp b hb;rw[ak.aT] at ho;obtain⟨n,oS,h1,h2,h3⟩:=hand i o ho;unfold dH at hp;rw[h1] at hp;obtain⟨q1,q2,q3⟩:=R.sat n oS p h2 hp b hb;refine⟨q1,?_,q3⟩;unfold sM;rw[if_neg (hseen n oS p b (acR h1) h2 hp (.inr hb))];exact q2
 refine(x9 base _ _ w vs R0 (hargs base η Z w vs R hvs) (hK.mono Zv)).mono ?_
 rintro e w' ⟨u,yd,zw,rfl,mv,VA⟩
  -- names turned back
 generalize VB:rs.take ay=rk at *;have hrkl:rk.length=ay:=by rw[<-VB];simp;omega
 have hrkn:rk.Nodup:=by rw[<-VB];exact hnd.sublist (List.take_sublist _ _)
 have hrkm:∀(i:Nat) n,rk[i]? = some n->i<ay/\rs[i]? = some n:=by
  intro i n h;have hi:=(List.getElem?_eq_some_iff.1 h).1;rw[<-VB,ac0] at h;split at h;rename_i hh;exact⟨hh,h⟩;cases h
 have Ia:∀ n o,(gK S (rs.drop ay)).get n=some o->S.get n=some o/\n ∉ rs.drop ay:=fun n o h=>x6 h;have hnrs : ∀ n o, (gK S (rs.drop ay)).get n = some o → idxOf rk n = none → idxOf rs n = none := by
  intro n o ho e;cases e':idxOf rs n with
  | none=>rfl
  | some i =>
    have hi:=gH e';exfalso;rcases adL i ay with hh|hh;refine tf e i ?_;rw[<-VB,ac0,if_pos hh];exact hi;refine(Ia n o ho).2 ?_;refine acR (i:=i-ay) ?_;rw[acW,show ay+(i-ay)=i by omega];exact hi
 have PJ:∀ n∈rk,∃ o,(gK S (rs.drop ay)).get n=some o:=by
  intro n hn;obtain⟨i,hi⟩:=ac8 hn;obtain⟨hik,hi'⟩:=hrkm i n hi;obtain⟨o,ho⟩:=hin n (acR hi');refine⟨o,?_⟩;rw[z6];exact ho;intro hd;obtain⟨j,hj⟩:=ac8 hd;rw[acW] at hj;have:=(adh (List.getElem?_eq_some_iff.1 hi').1 hnd).1 (hi'.trans hj.symm);omega
 have VD:∀ n∈rk,n<S.next:=fun n hn=>by
  obtain⟨o,ho⟩:=PJ n hn;exact R.known n o (Ia n o ho).1
 let aI:Eta:=fun n=>match idxOf rk n with|some i=>yd i|none=>if S.next<=n then yd (rk.length+(n-S.next)) else η n
 let Z':aF:=fun b=>if Seen η S ms b then none else zw b;have Zw:∀(i:Nat) n,rk[i]? = some n->aI n=yd i:=by
  intro i n h;show (match idxOf rk n with|some i=>yd i|none=>_)=_;rw[Zt hrkn h]
 have hidxN:∀ n,S.next<=n->idxOf rk n=none:=by
  intro n hn;cases e:idxOf rk n with
  | none=>rfl
  | some i=>have:=VD n (acR (gH e));omega
 have Zx:∀ n,S.next<=n->aI n=yd (rk.length+(n-S.next)):=by
  intro n hn;show (match idxOf rk n with|some i=>yd i|none=>_)=_;rw[hidxN n hn];simp only[if_pos hn]
 have hη3:∀ n,n<S.next->idxOf rk n=none->aI n=η n:=by
  intro n hn e;show (match idxOf rk n with|some i=>yd i|none=>_)=_;rw[e];simp only[if_neg (Nat.not_le.2 hn)]
 have hup:∀ n m,zX rk S.next n=some m->∀ p,yd n=some p->aI m=some p:=by
  intro n m e p hp;unfold zX at e;split at e;rw[Zw n m e];exact hp
  . rename_i hn;cases e;rw[Zx _ (by omega),show rk.length+(S.next+(n-rk.length)-S.next)=n by omega];exact hp
 have hzz:r0.eH=true∨zw.le Z':=by
  rcases hz with rfl|hz;right;intro b c h;show (if Seen η S [] b then none else zw b)=_;rw[if_neg (by rintro⟨m,hm,_⟩;simp at hm)];exact h;exact .inl hz.1
 have hzo:∀(i:Nat) o,iJ[i]? = some o->o.eH=true∨zw.le Z':=by
  intro i o ho;rcases hz with rfl|hz;right;intro b c h;show (if Seen η S [] b then none else zw b)=_;rw[if_neg (by rintro⟨m,hm,_⟩;simp at hm)];exact h;exact .inl (List.all_eq_true.1 hz.2 o (acR ho))
 have Zy:∀ b,Own (dH η rs) (.ofList bY) b->Own η S b:=by
  rintro b ⟨i,o,p,ho,hp,hb⟩;rw[ak.aT] at ho;obtain⟨n,oS,h1,h2,h3⟩:=hand i o ho;unfold dH at hp;rw[h1] at hp;exact⟨n,oS,p,h2,hp,hb⟩
 have hget:=Zu (S:=gK S (rs.drop ay)) (os:=rO) hrkn (by omega) PJ (fun n o h=>by rw[pS];exact R.known n o (Ia n o h).1);rw[pS] at hget;have VE:((gK S (rs.drop ay)).eF rk rO).next=S.next+(iJ.length-rk.length):=by rw[Vz,hl3,pS]
 -- where an object of the new store comes from
 have src : ∀ n o, ((gK S (rs.drop ay)).eF rk rO).get n = some o → (∃(i : Nat)(o1 : Ob), iJ[i]? = some o1 ∧ o1.ren (zX rk S.next) = some o ∧ aI n = yd i ∧ zX rk S.next i = some n) ∨ (idxOf rs n = none ∧ n < S.next ∧ S.get n = some o ∧ aI n = η n) := by
  intro n o ho;rw[hget] at ho;cases e:idxOf rk n with
  | some i =>
    rw[e] at ho;obtain⟨o1,h1,h2⟩:=hg3 i o ho;have hi:=gH e;refine .inl ⟨i,o1,h1,h2,Zw i n hi,?_⟩;unfold zX;rw[if_pos (List.getElem?_eq_some_iff.1 hi).1];exact hi
  | none =>
    rw[e] at ho;simp only at ho;split at ho;rename_i hn;obtain⟨o1,h1,h2⟩:=hg3 _ o ho;refine .inl ⟨_,o1,h1,h2,Zx n hn,?_⟩;unfold zX;rw[if_neg (by omega)];congr 1;omega;rename_i hn;exact .inr ⟨hnrs n o ho e,by omega,(Ia n o ho).1,hη3 n (by omega) e⟩
 have wV:∀ n o p b,idxOf rs n=none->S.get n=some o->η n=some p->p.has b->¬Own (dH η rs) (.ofList bY) b:=by
  rintro n o p b e ho hp hb0 ⟨i,o',q,ho',hq,hb⟩;rw[ak.aT] at ho';obtain⟨k,oS,h1,h2,h3⟩:=hand i o' ho';unfold dH at hq;rw[h1] at hq;exact R.jB k n oS o q p b h2 ho (fun hh=>by subst hh;exact tf e i h1) hq hp hb hb0
 have hle':η.le aI:=by
  intro n p hp;cases e:idxOf rk n with
  | some i =>
    have hi:=gH e;rw[Zw i n hi];obtain⟨hik,hi'⟩:=hrkm i n hi;refine mv.le i p hik ?_;unfold dH;rw[hi'];exact hp
  | none=>rw[hη3 n (R.lt hp) e];exact hp
 have hZle':Z.le Z':=by
  intro b c h;show (if Seen η S ms b then none else zw b)=_;rw[if_neg (by
   rintro⟨m,_,o,p,ho,hp,hb⟩;rw[(R.all ho hp hb).2.1] at h;cases h)]
  exact mv.step.cZ b c (Zv b c h)
 have old : ∀ n o p, idxOf rs n = none → S.get n = some o → η n = some p → ∀ b, p.has b → Z' b = none := by
  intro n o p e hS hp b hb;have hlt:=R.jY hS hp hb;have hno:=wV n o p b e hS hp hb;show (if Seen η S ms b then none else zw b)=_;split;rfl;rename_i hns;cases hc:zw b with
  | none=>rfl
  | some c =>
    rcases mv.step.gT _ c hc with hh|hh|hh;unfold sM at hh;rw[if_neg hns,(R.all hS hp hb).2.1] at hh;cases hh;exact absurd hh hno;omega
 refine⟨u,aI,Z',rfl,⟨hle',⟨?_,?_,?_,?_,?_,?_,mv.st.gO,?_⟩,⟨mv.step.os,mv.step.tape,mv.step.output,mv.step.size,?_,?_,hZle',?_,ak.R3.trans x7⟩⟩,A.kA hup hzz hr VA⟩;intro n o p ho hp;rcases src n o ho with ⟨i,o1,h1,h2,h3,_⟩|⟨e,hn,hS,h3⟩;rw[h3] at hp;obtain⟨a,b,L⟩:=mv.st.au i o1 p (by rw[ak.aT];exact h1) hp;refine⟨a,?_,L.ren hup (hzo i o1 h1) h2⟩;show (if Seen η S ms p.block then none else zw p.block)=_;rw[b];split<;>rfl;rw[h3] at hp;obtain⟨a,b,L⟩:=R.au n o p hS hp;exact⟨a,old n o p e hS hp _ p.iw,L.mono hle' hZle' fun b hb=>mv.step.block b (R.jY hS hp hb) (wV n o p b e hS hp hb)⟩;intro n o ho hp;rcases src n o ho with ⟨i,o1,h1,h2,h3,_⟩|⟨e,hn,hS,h3⟩;rw[h3] at hp;have h4:=mv.st.cJ i o1 (by rw[ak.aT];exact h1) hp;have h5:=(Ob.uY h2).2.1;rw[h4] at h5;exact ac6 h5;rw[h3] at hp;exact R.cJ n o hS hp;intro n o ho;rw[VE];rcases src n o ho with ⟨i,o1,h1,h2,h3,h4⟩|⟨e,hn,hS,h3⟩;have hi:=(List.getElem?_eq_some_iff.1 h1).1;unfold zX at h4;split at h4;have:=VD n (acR h4);omega;cases h4;omega;omega;intro n n' o o' p p' b ho ho' hne hp hp' hb hb';rcases src n o ho with ⟨i,o1,h1,h2,h3,h4⟩|⟨e,hn,hS,h3⟩;rw[h3] at hp;rcases src n' o' ho' with ⟨i',o1',h1',h2',h3',h4'⟩|⟨e',hn',hS',h3'⟩;rw[h3'] at hp';refine mv.st.jB i i' o1 o1' p p' b (by rw[ak.aT];exact h1) (by rw[ak.aT];exact h1') ?_ hp hp' hb hb';rintro rfl;rw[h4] at h4';cases h4';exact hne rfl;rw[h3'] at hp';rcases mv.step.own b ⟨i,o1,p,by rw[ak.aT];exact h1,hp,hb⟩ with hh|hh;exact wV n' o' p' b e' hS' hp' hb' hh;have:=R.jY hS' hp' hb';omega;rw[h3] at hp;rcases src n' o' ho' with ⟨i',o1',h1',h2',h3',h4'⟩|⟨e',hn',hS',h3'⟩;rw[h3'] at hp';rcases mv.step.own b ⟨i',o1',p',by rw[ak.aT];exact h1',hp',hb'⟩ with hh|hh;exact wV n o p b e hS hp hb hh;have:=R.jY hS hp hb;omega;rw[h3'] at hp';exact R.jB n n' o o' p p' b hS hS' hne hp hp' hb hb';intro b c hb;have hb':(if Seen η S ms b then none else zw b)=some c:=hb;split at hb';cases hb';exact mv.st.zs b c hb';intro n hn;rw[VE] at hn;rw[Zx n (by omega)];refine mv.st.fresh _ ?_;show iJ.length<=_;omega;intro n o p ho hp b hb;rcases src n o ho with ⟨i,o1,h1,h2,h3,_⟩|⟨e,hn,hS,h3⟩;rw[h3] at hp;obtain⟨q1,q2,q3⟩:=mv.st.sat i o1 p (by rw[ak.aT];exact h1) hp b hb;refine⟨q1,?_,q3⟩;show (if Seen η S ms b then none else zw b)=_;rw[q2];split<;>rfl;rw[h3] at hp;obtain⟨q1,q2,ob,q3,q4⟩:=R.sat n o p hS hp b hb;exact⟨q1,old n o p e hS hp b (.inr hb),ob,(mv.step.block b (R.jY hS hp (.inr hb)) (wV n o p b e hS hp (.inr hb))).trans q3,q4⟩;intro b hb hno;exact mv.step.block b hb fun hh=>hno (Zy b hh);rintro b ⟨n,o,p,ho,hp,hb⟩;rcases src n o ho with ⟨i,o1,h1,h2,h3,_⟩|⟨e,hn,hS,h3⟩;rw[h3] at hp;rcases mv.step.own b ⟨i,o1,p,by rw[ak.aT];exact h1,hp,hb⟩ with hh|hh;exact .inl (Zy _ hh);exact .inr hh;rw[h3] at hp;exact .inl ⟨n,o,p,hS,hp,hb⟩;intro b c hb;have hb':(if Seen η S ms b then none else zw b)=some c:=hb;split at hb';cases hb';rename_i hns;rcases mv.step.gT b c hb' with hh|hh|hh;unfold sM at hh;rw[if_neg hns] at hh;exact .inl hh;exact .inr (.inl (Zy b hh));exact .inr (.inr hh)
end
structure bQ where
 cI:List Bool
 ay:Option Nat:=none
 f:List A->List Ob->Option (Cd×A×List Ob)
 roots:Option (List Bool):=none
abbrev bW:=List (FuncId×bQ)
def look:bW->FuncId->Option bQ
 | [],_=>none
 | (g,c)::l,f=>bif acT g f then some c else look l f
def enters (P:Program) (f:FuncId):Bool:=match P.funcs[f]? with|some fn=>fn.body.isSome&&!(fn.name == "runtime.NumGoroutine")|none=>false
structure aM(P:Program)(f:FuncId)(con:bQ):Prop where
 enters:enters P f=true
 sem:∀ args au c r bg,con.f args au=some (c,r,bg)->c->bq P f (con.ay.getD au.length) args au r bg
def bt(P:Program)(Γ:bW):Prop:=∀ f con,look Γ f=some con->aM P f con
theorem aG{P:Program}:bt P []:=fun _ _ h=>by cases h
theorem ar{P:Program}{f:FuncId}{con:bQ}{Γ:bW}(h:aM P f con)(dV:bt P Γ):bt P ((f,con)::Γ):=by
 intro g con' e;simp only[look] at e;cases hb:acT f g with
 | true=>rw[hb] at e;cases e;have:=acP hb;subst this;exact h
 | false=>rw[hb] at e;exact dV g con' e
def BD(S:ak):W->Option (Cd×List Int×List Nat)
 | .sl m off len sz=>bif acT sz 1 then match S.get m with
  | some o=>match Fd.list (.int .i64) o.fs with
    | some l=>some (.p (off+len<=adE (α:=Int) l),(adI (α:=Int) off l).take len,[m])
    | none=>none
  | none=>none
   else none
 | .row n i len=>match uQ S n with
   | some (k,af)=>some (.p (i<af.length/\len=k),af.getD i [],[n])
   | none=>none
 | .rd (.int .i64) l=>some (.t,l,[])
 | _=>none
def Kc(S:ak):W->Option (Cd×W×List Nat)
 | .sl m off len sz=>bif acT sz 1 then match S.get m with
  | some o=>match o.fs with
    | [.a _ d l]=>some (.p (off+len<=l.length),.rd d ((l.drop off).take len),[m])
    | [.c x,.c y]=>bif acT off 0&&acT len 2 then match BD S x,BD S y with
      | some (c1,l1,EM),some (c2,l2,PK)=>some (.and c1 c2,.rd (.sl (.int .i64)) [l1,l2],m::(EM++PK))
      | _,_=>none
      else none
    | _=>none
  | none=>none
   else none
 | .row n i len=>match uQ S n with
   | some (k,af)=>some (.p (i<af.length/\len=k),.rd (.int .i64) (af.getD i []),[n])
   | none=>none
 | x=>bif x.clean then some (.t,x,[]) else none
def z7(S:ak):List W->Option (Cd×List W×List Nat)
 | []=>some (.t,[],[])
 | x::l=>match Kc S x,z7 S l with|some (c,y,ms),some (c',ys,ms')=>some (.and c c',y::ys,ms++ms')|_,_=>none
def EN(S:ak):V->Option (Cd×V×List Nat)
 | .c x=>match Kc S x with|some (c,y,ms)=>some (c,.c y,ms)|none=>none
 | .agg cs=>match z7 S cs with|some (c,ys,ms)=>some (c,.agg ys,ms)|none=>none
def rP(S:ak):List Bool->List V->Option (Cd×List V×List Nat)
 | _,[]=>some (.t,[],[])
 | true::bs,v::vs=>match rP S bs vs with|some (c,ys,ms)=>some (c,v::ys,ms)|none=>none
 | false::bs,v::vs=>match EN S v,rP S bs vs with|some (c,y,ms),some (c',ys,ms')=>some (.and c c',y::ys,ms++ms')|_,_=>none
 | [],v::vs=>match EN S v,rP S [] vs with|some (c,y,ms),some (c',ys,ms')=>some (.and c c',y::ys,ms++ms')|_,_=>none
def o6(η:Eta)(S:ak)(w:World)(ms:List Nat)(Z':aF):Prop:=∀ m∈ms,∀ o p,S.get m=some o->η m=some p->(¬o.fG->∃ c ty fz,w.heap[p.block]? = some (.cells c ty fz)/\Z' p.block=some c)/\∀ k af,o.iV k af->∀ b∈p.sats,∃ c ty fz,w.heap[b]? = some (.cells c ty fz)/\Z' b=some c
section
variable {P:Program} {base:Nat} {η:Eta} {Z Z':aF} {S:ak} {w:World}
theorem o6.left{ms ms':List Nat}(h:o6 η S w (ms++ms') Z'):o6 η S w ms Z':=fun m hm=>h m (by simp[hm])
theorem o6.right{ms ms':List Nat}(h:o6 η S w (ms++ms') Z'):o6 η S w ms' Z':=fun m hm=>h m (by simp[hm])
theorem Ig(R : St base η Z S w)(hle : Z.le Z'){x : W}{c : Cd}{l : List Int}{ms : List Nat}(e : BD S x = some (c, l, ms))(hc : c)(hs : o6 η S w ms Z'){v : Value}(r : aJ η Z x v) : cW Z' (.sl (.int .i64)) l v := by
 unfold BD at e;split at e
 · rename_i m off len sz
   obtain⟨h1,e1⟩:=aC.aK e;have h1':sz=1:=acP h1;subst h1';clear e;split at e1
   · rename_i o ho
     split at e1
     · rename_i l hfs
       cases e1;have hc':off+len<=adE (α:=Int) l:=hc;have cK:o.cells=l.map (D.int .i64).w:=Fd.j5 hfs;simp only[aJ] at r;rcases r with ⟨h0,rfl⟩|⟨p,cap,ad,hp,rfl,hcap,hroom,had⟩;subst h0;exact⟨none,0,0,rfl,by simp,ads _,.inl (by simp)⟩;by_cases h0:len=0;subst h0;exact⟨some ad,0,cap,rfl,by simp,adx _,.inl (by simp)⟩;obtain⟨cs,ty,fz,hh,hz⟩:=(hs m (by simp) o p ho hp).1 (Ob.jC cK);obtain⟨_,_,L⟩:=R.au m o p ho hp;obtain⟨c',zP,hc1,_,hv,_⟩:=L.there (Ob.jC cK);rw[hh] at hc1;cases hc1;refine⟨some ad,len,cap,rfl,by simp;omega,hcap,.inr ⟨p.block,p.off+off,cs,?_,hz,?_⟩⟩;rcases had with h|h;omega;rw[h];intro i x hx;have hx':o.cells[off+i]? = some ((D.int .i64).w x):=by
        have hx:(List.take len (adI (α:=Int) off l))[i]? = some x:=hx;rw[ac0] at hx;split at hx;rw[acW] at hx;rw[cK,acZ];have hx:(show List Int from l)[off+i]? = some x:=hx;exact congrArg (Option.map (D.int .i64).w) hx;cases hx
       obtain⟨u,h1,h2,_⟩:=hv _ _ hx';exact⟨u,by rw[<-h1];congr 1;omega,cW.mono hle (.int .i64) ((D.gN (.int .i64)).1 h2)⟩
     cases e1
   cases e1
 rename_i m i len;split at e;rename_i k af hk;obtain⟨o,ho,_,hto⟩:=nT hk;cases e;obtain⟨hi,rfl⟩:=(hc:i<af.length/\len=k);obtain⟨p,r0,cap,hp,hr,rfl,hcap⟩:=r;obtain⟨_,_,L⟩:=R.au m o p ho hp;have T:=L.tabs _ af hto;have PE:af.getD i []=af[i]:=by rw[ac9,acS hi];rfl
 obtain⟨hl,c1,t1,fz1,q1,_,q3,_⟩:=T.row i r0 af[i] hr (acS hi);obtain⟨c2,t2,fz2,q4,q5⟩:=(hs m (by simp) o p ho hp).2 _ af hto r0.1 (List.mem_map.2 ⟨r0,acR hr,rfl⟩);rw[q1] at q4;cases q4;rw[PE];refine⟨_,len,cap,rfl,hl,hcap,.inr ⟨r0.1,r0.2,c1,rfl,q5,fun j x hx=>⟨_,q3 j x hx,?_⟩⟩⟩;simp only[cW];cases e;cases e;simp only[aJ,aV] at r;exact cW.mono hle _ r;cases e
theorem Lf{x:W}{c:Cd}{l:List Int}{ms:List Nat}(e:BD S x=some (c,l,ms)):x≠.mh/\∀ k af,x≠.th k af:=by
 refine⟨?_,fun k af=>?_⟩<;>rintro rfl<;>simp only[BD] at e<;>cases e
theorem Ih(R : St base η Z S w)(hle : Z.le Z'){x y : W}{c : Cd}{ms : List Nat}(e : Kc S x = some (c, y, ms))(hc : c)(hs : o6 η S w ms Z'){v : Value}(r : aJ η Z x v)(hx : x ≠ .cL) : aJ η Z' y v ∧ y ≠ .cL := by
 unfold Kc at e;split at e
 · rename_i m off len sz
   obtain⟨h1,e1⟩:=aC.aK e;have h1':sz=1:=acP h1;subst h1';clear e;split at e1
   · rename_i o ho
     split at e1;rename_i k d l hfs;cases e1;have hc':off+len<=l.length:=hc;refine⟨?_,by simp⟩;have cK:o.cells=l.map d.w:=by unfold Ob.cells;rw[hfs];simp[Fd.cells]
     simp only[aJ,aV];rcases r with ⟨h0,rfl⟩|⟨p,cap,ad,hp,rfl,hcap,hroom,had⟩;subst h0;exact⟨none,0,0,rfl,by simp,ads _,.inl (by simp)⟩;by_cases h0:len=0;subst h0;exact⟨some ad,0,cap,rfl,by simp,adx _,.inl (by simp)⟩;obtain⟨cs,ty,fz,hh,hz⟩:=(hs m (by simp) o p ho hp).1 (Ob.jC cK);obtain⟨_,_,L⟩:=R.au m o p ho hp;obtain⟨c',zP,hc1,_,hv,_⟩:=L.there (Ob.jC cK);rw[hh] at hc1;cases hc1;refine⟨some ad,len,cap,rfl,by simp;omega,hcap,.inr ⟨p.block,p.off+off,cs,?_,hz,?_⟩⟩;rcases had with h|h;omega;rw[h];intro i x hx;have hx':o.cells[off+i]? = some (d.w x):=by
      rw[ac0] at hx;split at hx;rw[acW] at hx;rw[cK];simp[hx];cases hx
     obtain⟨u,h1,h2,_⟩:=hv _ _ hx';exact⟨u,by rw[<-h1];congr 1;omega,cW.mono hle d ((D.gN d).1 h2)⟩;rename_i x y hfs;obtain⟨h2,e2⟩:=aC.aK e1;clear e1;simp only[acQ] at h2;have hoff:=acP h2.1;have bN:=acP h2.2;subst hoff bN;split at e2;rename_i c1 l1 EM c2 l2 PK g1 g2;cases e2;refine⟨?_,by simp⟩;have cK:o.cells=[x,y]:=by unfold Ob.cells;rw[hfs];rfl
     have hnm:¬o.fG:=by
      rintro (hm|⟨k,af,hm⟩);unfold Ob.isMap at hm;rw[cK] at hm;cases hm;exact(Lf g1).1 rfl;unfold Ob.iV at hm;rw[cK] at hm;cases hm;exact(Lf g1).2 _ _ rfl
     simp only[aJ,aV];rcases r with ⟨h0,rfl⟩|⟨p,cap,ad,hp,rfl,hcap,hroom,had⟩;cases h0;obtain⟨cs,ty,fz,hh,hz⟩:=(hs m (by simp) o p ho hp).1 hnm;obtain⟨_,_,L⟩:=R.au m o p ho hp;obtain⟨c',zP,hc1,_,hv,_⟩:=L.there hnm;rw[hh] at hc1;cases hc1;have hs1:o6 η S w EM Z':=fun q hq=>hs q (by simp[hq]);have hs2:o6 η S w PK Z':=fun q hq=>hs q (by simp[hq]);refine⟨some ad,2,cap,rfl,rfl,hcap,.inr ⟨p.block,p.off+0,cs,?_,hz,?_⟩⟩;rcases had with h|h;omega;rw[h]
     . intro i z hz'
       match i,hz' with
       | 0,hz' =>
         cases hz';obtain⟨u,h1,h2,_⟩:=hv 0 x (by rw[cK];rfl);exact⟨u,h1,Ig R hle g1 hc.1 hs1 h2⟩
       | 1,hz' =>
         cases hz';obtain⟨u,h1,h2,_⟩:=hv 1 y (by rw[cK];rfl);exact⟨u,h1,Ig R hle g2 hc.2 hs2 h2⟩
       | i+2,hz'=>cases hz'
     cases e2;cases e1
   cases e1
 rename_i m i len;split at e;rename_i k af hk;obtain⟨o,ho,_,hto⟩:=nT hk;cases e;obtain⟨hi,rfl⟩:=(hc:i<af.length/\len=k);obtain⟨p,r0,cap,hp,hr,rfl,hcap⟩:=r;obtain⟨_,_,L⟩:=R.au m o p ho hp;have T:=L.tabs _ af hto;have PE:af.getD i []=af[i]:=by rw[ac9,acS hi];rfl
 obtain⟨hl,c1,t1,fz1,q1,_,q3,_⟩:=T.row i r0 af[i] hr (acS hi);obtain⟨c2,t2,fz2,q4,q5⟩:=(hs m (by simp) o p ho hp).2 _ af hto r0.1 (List.mem_map.2 ⟨r0,acR hr,rfl⟩);rw[q1] at q4;cases q4;refine⟨?_,by simp⟩;simp only[aJ,aV];rw[PE];refine⟨_,len,cap,rfl,hl,hcap,.inr ⟨r0.1,r0.2,c1,rfl,q5,fun j x hx=>⟨_,q3 j x hx,?_⟩⟩⟩;simp only[cW];cases e;obtain⟨h1,e1⟩:=aC.aK e;cases e1;exact⟨r.mono (Eta.le.refl _) hle,hx⟩
theorem EO(R:St base η Z S w)(hle:Z.le Z'):∀{l r:List W}{c:Cd}{ms:List Nat}{vs:List Value},z7 S l=some (c,r,ms)->c->o6 η S w ms Z'->bp (aJ η Z) l vs->(∀ x∈l,x≠.cL)->bp (aJ η Z') r vs/\∀ x∈r,x≠.cL
 | [],r,c,ms,vs,e,_,_,hl,_=>by simp only[z7] at e;cases e;cases vs with|nil=>exact⟨trivial,by simp⟩|cons _ _=>exact hl.elim
 | x :: l, r, c, ms, vs, e, hc, hs, hl, hd => by
   simp only[z7] at e;split at e
   . rename_i c1 y EM c2 ys PK h1 h2;cases e;cases vs with
     | nil=>exact hl.elim
     | cons v vs =>
       obtain⟨a,b⟩:=Ih R hle h1 hc.1 hs.left hl.1 (hd x (by simp));obtain⟨a',b'⟩:=EO R hle h2 hc.2 hs.right hl.2 (fun z hz=>hd z (by simp[hz]));refine⟨⟨a,a'⟩,fun z hz=>?_⟩;rcases List.mem_cons.1 hz with rfl|hz;exact b;exact b' z hz
   cases e
theorem Ii(R:St base η Z S w)(hle:Z.le Z'){x y:V}{c:Cd}{ms:List Nat}(e:EN S x=some (c,y,ms))(hc:c)(hs:o6 η S w ms Z'){v:Value}(r:dP η Z x v):dP η Z' y v:=by
 cases x with
 | c x =>
   simp only[EN] at e;split at e;rename_i c1 y' EM h1;cases e;obtain⟨a,b⟩:=Ih R hle h1 hc hs r.2 r.1;exact⟨b,a⟩;cases e
 | agg cs =>
   simp only[EN] at e;split at e;rename_i c1 ys EM h1;cases e;obtain⟨vs,hv,hd,hl⟩:=r;obtain⟨a,b⟩:=EO R hle h1 hc hs hl hd;exact⟨vs,hv,b,a⟩;cases e
theorem pT(R:St base η Z S w)(hle:Z.le Z'):∀{bs:List Bool}{l r:List V}{c:Cd}{ms:List Nat}{vs:List Value},rP S bs l=some (c,r,ms)->c->o6 η S w ms Z'->bp (dP η Z) l vs->bp (dP η Z') r vs
 | bs,[],r,c,ms,vs,e,_,_,hl=>by
   have:(c,r,ms)=(.t,[],[]):=by cases bs<;>(simp only[rP] at e;cases e;rfl)
   cases this;cases vs with
   | nil=>trivial
   | cons _ _=>exact hl.elim
 | true::bs,x::l,r,c,ms,vs,e,hc,hs,hl=>by
   simp only[rP] at e;split at e
   . rename_i c1 ys EM h1;cases e;cases vs with
     | nil=>exact hl.elim
     | cons v vs=>exact⟨hl.1.mono (Eta.le.refl _) hle,pT R hle h1 hc hs hl.2⟩
   cases e
 | false::bs,x::l,r,c,ms,vs,e,hc,hs,hl=>by
   simp only[rP] at e;split at e
   . rename_i c1 y EM c2 ys PK h1 h2;cases e;cases vs with
     | nil=>exact hl.elim
     | cons v vs=>exact⟨Ii R hle h1 hc.1 hs.left hl.1,pT R hle h2 hc.2 hs.right hl.2⟩
   cases e
 | [],x::l,r,c,ms,vs,e,hc,hs,hl=>by
   simp only[rP] at e;split at e
   . rename_i c1 y EM c2 ys PK h1 h2;cases e;cases vs with
     | nil=>exact hl.elim
     | cons v vs=>exact⟨Ii R hle h1 hc.1 hs.left hl.1,pT R hle h2 hc.2 hs.right hl.2⟩
   cases e
theorem VF(R:St base η Z S w)(ms:List Nat):o6 η S w ms (sM η Z S w ms):=by
 intro m hm o p ho hp;obtain⟨_,_,L⟩:=R.au m o p ho hp;refine⟨fun hmo=>?_,fun k af ht b hb=>?_⟩;obtain⟨c,fz,hc,_⟩:=L.there hmo;refine⟨c,o.ty,fz,hc,?_⟩;unfold sM;rw[if_pos ⟨m,hm,o,p,ho,hp,.inl rfl⟩,hc];obtain⟨c,t,fz,hc⟩:=(L.tabs k af ht).sat hb;refine⟨c,t,fz,hc,?_⟩;unfold sM;rw[if_pos ⟨m,hm,o,p,ho,hp,.inr hb⟩,hc]
theorem z8 : ∀{ms : List Nat}{S : ak}{Z : aF}, St base η Z S w → ∃ Z', bX base η Z S w η Z' (gK S ms) w ∧ o6 η S w ms Z'
 | [],S,Z,R=>⟨Z,bX.refl R,fun m hm=>by simp at hm⟩
 | m :: ms, S, Z, R => by
   have key : ∃ Z1, bX base η Z S w η Z1 (S.del m) w ∧ ∀ o p, S.get m = some o → η m = some p → (¬o.fG → ∃ c ty fz, w.heap[p.block]? = some (.cells c ty fz) ∧ Z1 p.block = some c) ∧ ∀ k af, o.iV k af → ∀ b ∈ p.sats, ∃ c ty fz, w.heap[b]? = some (.cells c ty fz) ∧ Z1 b = some c := by
    cases ho:S.get m with
    | none=>exact⟨Z,⟨Eta.le.refl _,R.del m,Step.del m⟩,fun o p h=>by cases h⟩
    | some o =>
      cases hp:η m with
      | none=>exact⟨Z,⟨Eta.le.refl _,R.del m,Step.del m⟩,fun o p _ h=>by cases h⟩
      | some p =>
        by_cases hmo:o.fG;rcases id hmo with hmp|⟨k,af,ht⟩;exact⟨Z,⟨Eta.le.refl _,R.del m,Step.del m⟩,fun o' p' h1 _=>by cases h1;exact⟨fun h3=>absurd hmo h3,fun k af ht=>(Ob.Ge hmp ht).elim⟩⟩;obtain⟨Z1,mv,hs⟩:=R.Vf ho hp ht;refine⟨Z1,mv,fun o' p' h1 h2=>?_⟩;cases h1;cases h2;exact⟨fun h3=>absurd hmo h3,fun _ _ _=>hs⟩;obtain⟨c,ty,fz,hh,mv,_⟩:=R.freeze ho hp hmo;refine⟨_,mv,fun o' p' h1 h2=>?_⟩;cases h1;cases h2;exact⟨fun _=>⟨c,ty,fz,hh,by unfold aF.add;rw[if_pos rfl]⟩,fun k af ht=>absurd (.inr ⟨k,af,ht⟩) hmo⟩
   obtain⟨Z1,HY,s1⟩:=key;obtain⟨Z2,iE,s2⟩:=z8 (ms:=ms) HY.st;refine⟨Z2,HY.trans iE,fun k hk o p ho hp=>?_⟩;by_cases hkm:k=m;subst hkm;obtain⟨t1,t2⟩:=s1 o p ho hp;exact⟨fun hmo=>let ⟨c,ty,fz,h1,h2⟩:=t1 hmo;⟨c,ty,fz,h1,iE.step.cZ _ _ h2⟩,fun k' af ht b hb=>let ⟨c,ty,fz,h1,h2⟩:=t2 k' af ht b hb;⟨c,ty,fz,h1,iE.step.cZ _ _ h2⟩⟩;rcases List.mem_cons.1 hk with h|h;exact absurd h hkm;exact s2 k h o p (by rw[ak.iM,if_neg hkm];exact ho) hp
end
def W.names:W->List Nat
 | .ptr n _=>[n]
 | .pe n _ _=>[n]
 | .sl n _ _ _=>[n]
 | .func _ caps=>caps.map (·.1)
 | .mp n=>[n]
 | .ba n=>[n]
 | .fj _ n _=>[n]
 | .row n _ _=>[n]
 | .qg n _ _=>[n]
 | _=>[]
def V.names:V->List Nat
 | .c x=>x.names
 | .agg cs=>cs.flatMap W.names
def Lg(l:List Nat)(n:Nat):List Nat:=bif l.any (acT n ·) then l else l++[n]
def qU:List Bool->List V->List Nat->List Nat
 | true::bs,v::vs,acc=>qU bs vs (v.names.foldl Lg acc)
 | false::bs,_::vs,acc=>qU bs vs acc
 | _,_,acc=>acc
def Fd.names:Fd->List Nat
 | .c x=>x.names
 | .a _ _ _=>[]
 | .m _ _ _=>[]
def wW(S:ak):Nat->List Nat->List Nat
 | 0,rs=>rs
 | k+1,rs=>wW S k (rs.foldl (fun acc n=>match S.get n with|some o=>(o.fs.flatMap Fd.names).foldl Lg acc|none=>acc) rs)
def r8:List Nat->Bool
 | []=>true
 | x::l=>!(l.any (acT x ·))&&r8 l
theorem jD:∀{l:List Nat},r8 l=true->l.Nodup
 | [],_=>List.nodup_nil
 | x::l,h=>by
   simp only[r8,acQ,ac2,adC,Nat.beq_eq] at h;exact List.nodup_cons.2 ⟨fun hx=>h.1 x hx rfl,jD h.2⟩
def EP(ms rs:List Nat):Bool:=ms.all fun m=>!(rs.any (acT m ·))
theorem Aa{ms rs:List Nat}(h:EP ms rs=true):∀ m∈ms,m ∉ rs:=by
 intro m hm hr;simp only[EP,List.all_eq_true,ac2,adC,Nat.beq_eq] at h;exact h m hm m hr rfl
def EQ(S:ak)(n:Nat):Bool:=match S.get n with|some _=>true|none=>false
def Ke(Γ:bW)(S:ak)(g:FuncId)(args:List V):Option (Cd×A×ak×Bool) :=
 match look Γ g with
 | some con =>
   match rP S con.cI args with
   | some (c1, ye, ms) =>
     let rs:=(wW S 2 (qU (con.roots.getD con.cI) args [])).filter (EQ S)
     bif r8 rs && EP ms rs then
      match iG S rs with
      | some fP => match iX (idxOf rs) fP, uX (idxOf rs) ye with
        | some bY,some tg=>match con.f (tg.map A.p) bY with
          | some (c2,r0,iJ) =>
            let k:=con.ay.getD rs.length
            bif Nat.ble k rs.length&&Nat.ble k iJ.length then
             match r0.ren (zX (rs.take k) S.next),iX (zX (rs.take k) S.next) iJ with
             | some r,some rO=>some (.and c1 c2,r,(gK (bif ms.isEmpty||(r0.eH&&iJ.all Ob.eH) then S else gK S ms) (rs.drop k)).eF (rs.take k) rO,rs.isEmpty&&(iJ.isEmpty&&(ms.isEmpty||(r0.eH&&iJ.all Ob.eH))))
             | _,_=>none
            else none
          | none=>none
        | _,_=>none
      | none=>none
     else none
   | none=>none
 | none=>none
section
variable {P:Program} {S:ak}
theorem kB{η:Eta}{Z:aF}:∀{l:List V}{vs:List Value},bp (cN η Z) (l.map A.p) vs↔bp (dP η Z) l vs
 | [],[]=>adS
 | [],_::_=>adS
 | _::_,[]=>adS
 | x::l,v::vs=>by
   show (cN η Z (.p x) v/\_)↔(dP η Z x v/\_);rw[show bp (cN η Z) (List.map A.p l) vs↔bp (dP η Z) l vs from kB];rfl
theorem vZ{ms:List Nat}:∀{rs:List Nat},(∀ m∈ms,m ∉ rs)->iG (gK S ms) rs=iG S rs
 | [],_=>rfl
 | n::rs,h=>by
   simp only[iG];rw[z6 (fun hh=>h n hh (by simp)),vZ (fun m hm hr=>h m hm (by simp[hr]))]
theorem Lh{Γ : bW}(dV : bt P Γ){g : FuncId}{args : List V}{c : Cd}{r : A}{S' : ak}{b : Bool}(e : Ke Γ S g args = some (c, r, S', b))(hc : c) : Le P g (args.map A.p) S r S' ∧ enters P g = true ∧ (b = true → S' = S) := by
 unfold Ke at e;split at e
 . rename_i con hcon;split at e
   · rename_i c1 ye ms Kf
     simp only at e;generalize (wW S 2 (qU (con.roots.getD con.cI) args [])).filter (EQ S)=rs at e;obtain⟨hb,e⟩:=aC.aK e;simp only[acQ] at hb;split at e;rename_i fP ga;split at e;rename_i bY tg iK hargs;split at e;rename_i c2 r0 iJ hf;generalize hk:con.ay.getD rs.length=k at e;obtain⟨bN,e⟩:=aC.aK e;simp only[acQ,Nat.ble_eq] at bN;split at e
     . rename_i r' rO hr hos;cases e;have x9:=(dV g con hcon).sem _ _ _ _ _ hf hc.2;have hol:bY.length=rs.length:=(lq iK).1.trans (mE ga).1;rw[hol,hk] at x9;refine⟨?_,(dV g con hcon).enters,fun hb'=>?_⟩
       rotate_left
       simp only[acQ,adF] at hb';obtain⟨h1,h2,h3⟩:=hb';subst h1;subst h2;have:rO=[]:=ac6 (lq hos).1;subst this;rw[h3,List.drop_nil,List.take_nil];rfl;have yc:=Aa hb.2;have hnd:=jD hb.1;have hidx:∀(η:Eta) n m,idxOf rs n=some m->∀ p,η n=some p->dH η rs m=some p:=by
        intro η n m e p hp;unfold dH;rw[gH e];exact hp
       cases hm:(ms.isEmpty||(r0.eH&&iJ.all Ob.eH)) with
       | true =>
         simp only[cond_true];refine EL x9 hnd yc ga iK bN.1 bN.2 hr hos ?_ ?_;simp only[adw,adF,acQ] at hm;exact hm;intro base η Z w vs R hvs;refine kB.2 (pQ (hidx η) (.inr (aF.le.refl _)) hargs ?_);exact pT R (Gq R ms) Kf hc.1 (VF R ms) (kB.1 hvs)
       | false =>
         simp only[cond_false];have hcall:Le P g (ye.map A.p) (gK S ms) r ((gK (gK S ms) (rs.drop k)).eF (rs.take k) rO):=by
          refine EL (ms:=[]) x9 hnd (by simp) (by rw[vZ yc];exact ga) iK bN.1 bN.2 (by rw[pS];exact hr) (by rw[pS];exact hos) (.inl rfl) ?_;intro base η Z w vs R hvs;refine kB.2 (pQ (hidx η) (.inr (Gq R [])) hargs (kB.1 hvs))
         intro base η Z w vs R hvs hK;obtain⟨Z1,mv,sees⟩:=z8 (ms:=ms) R;refine(hcall base η Z1 w vs mv.st (kB.2 (pT R mv.step.cZ Kf hc.1 sees (kB.1 hvs))) (hK.mono mv.step.cZ)).mono ?_;rintro e1 w1 ⟨u,aI,Z',rfl,HY,hr1⟩;exact⟨u,aI,Z',rfl,mv.trans HY,hr1⟩
     cases e;cases e;cases e;cases e
   cases e
 cases e
end
end Go.aW
namespace Go.aW
open Go.RowKit
open Go.aC (T WF)
inductive O where
 | q (q:Q)
 | l (l:L)
 | call (f:cj) (args:List cj)
 | CD (neg:Bool) (x:cj)
structure kG where
 dst:Option Nat
 guard:Option (Nat×Bool)
 o:O
def PL(P:Program)(o:Op):Option O :=
 match o with
 | .binOp .eql t x (.const (.slice none 0 0)) _=>match P.underlying t with|some (.slice _)=>(cw x).map (.CD false)|_=>none
 | .binOp .neq t x (.const (.slice none 0 0)) _=>match P.underlying t with|some (.slice _)=>(cw x).map (.CD true)|_=>none
 | _=>none
def Ab(P:Program)(sq:Bool)(o:Oper):Option O :=
 match o.op with
 | .call { callee:=.value x,args,.. }=>match cw x,oZ args.toList with|some f,some l=>some (.call f l)|_,_=>none
 | _=>match PL P o.op with|some k=>some k|none=>bif sq then(match K8 P o with|some l=>some (.l l)|none=>match uR P o.op with|some q=>some (.q q)|none=>none)
   else(match uR P o.op with|some q=>some (.q q)|none=>bif aC.cY o.op then(match K8 P o with|some l=>some (.l l)|none=>none) else none)
def trG(ops:Array Oper)(o:Oper):Option (Option (Nat×Bool)) :=
 match o.guard with
 | none=>some none
 | some (j,want)=>match (ops[j]?).bind (·.dst) with|some d=>some (some (d,want))|none=>none
def Gr(nt:Nat):Option Nat->Bool
 | none=>true
 | some d=>adR d nt
def qq(P:Program)(sq:Bool)(nt:Nat)(ops:Array Oper)(o:Oper):Option kG :=
 match trG ops o,Ab P sq o with
 | some g,some k=>bif Gr nt o.dst then some ⟨o.dst,g,k⟩ else none
 | _,_=>none
def j7(P:Program)(sq:Bool)(nt:Nat)(ops:Array Oper):List Oper->Option (List kG)
 | []=>some []
 | o::l=>match qq P sq nt ops o,j7 P sq nt ops l with|some x,some r=>some (x::r)|_,_=>none
inductive R1 where
 | pure (c:Cd) (v:A)
 | Lj (c:Cd) (v:A) (S:ak)
def Ac(F:Fr):cj->Option A
 | .tmp t=>match F.get t with|some (.p v)=>some (.p v)|some (.dec b)=>some (.dec b)|some (.aL vs)=>some (.aL vs)|_=>none
 | .w (.bool b)=>some (.dec b)
 | .w x=>some (.p (.c x))
 | .agg cs=>some (.p (.agg cs))
def known(F:Fr):cj->Option Bool
 | .tmp t=>match F.get t with|some (.dec b)=>some b|_=>none
 | .w (.bool b)=>some b
 | _=>none
def qA(F:Fr)(S:ak)(q:Q):Option (Cd×A) :=
 match q with
 | .move x=>match Ac F x with
   | some v=>some (.t,v)
   | none=>match oC F x with|some (c,v)=>some (c,.p v)|none=>none
 | .pick b x y=>match known F b with
   | some true=>match Ac F x with|some v=>some (.t,v)|none=>none
   | some false=>match Ac F y with|some v=>some (.t,v)|none=>none
   | none=>match eu F S (.pick b x y) with|some (c,v)=>some (c,.p v)|none=>none
 | .not x=>match known F x with
   | some b=>some (.t,.dec (!b))
   | none=>match eu F S (.not x) with|some (c,v)=>some (c,.p v)|none=>none
 | q=>match eu F S q with|some (c,v)=>some (c,.p v)|none=>none
def r9(Γ:bW)(F:Fr)(S:ak):O->Option R1
 | .q q=>match qA F S q with|some (c,v)=>some (.pure c v)|none=>none
 | .l l=>match kF F S l with
   | some (c,v,S')=>match l with
     | .b2s _=>some (.pure c v)
     | _=>some (.Lj c v S')
   | none=>none
 | .call f args=>match gk F f,mV F args with
   | some (p,.func g caps),some (q,vs)=>match Ke Γ S g (vs++caps.map fun x=>.c (.ptr x.1 x.2)) with
     | some (c,r,S',b)=>bif b then some (.pure (.and p (.and q c)) r) else some (.Lj (.and p (.and q c)) r S')
     | none=>none
   | some (p,.fj g n off),some (q,vs)=>match Ke Γ S g (.c (.ptr n off)::vs) with
     | some (c,r,S',b)=>bif b then some (.pure (.and p (.and q c)) r) else some (.Lj (.and p (.and q c)) r S')
     | none=>none
   | _,_=>none
 | .CD _ _=>none
def Ll(F:Fr):O->Option (Cd×(Bool->Prop))
 | .CD neg x=>match gk F x with
   | some (c,.nil)=>some (c,fun b=>b=!neg)
   | some (c,.sl _ _ len _)=>some (c,fun b=>(b=!neg)->len=0)
   | some (c,.rd _ l)=>some (c,fun b=>(b=!neg)->l=[])
   | _=>none
 | _=>none
section
variable {P:Program} {base nt:Nat} {η:Eta} {Z:aF} {S:ak} {w:World} {F:Fr} {a:Act}
theorem BG(FR:bD nt η Z F a.tmps){t:Nat}{x:A}(h:F.get t=some x):cN η Z x (a.eval (.tmp t)):=by
 obtain⟨u,hu,hr⟩:=FR.2 t _ h;have:a.eval (.tmp t)=u:=by simp[Act.eval,Array.getD_eq_getD_getElem?,hu]
 rw[this];exact hr
theorem yg(FR:bD nt η Z F a.tmps){x':Operand}{x:cj}(hx:cw x'=some x){v:A}(e:Ac F x=some v):cN η Z v (a.eval x'):=by
 cases x with
 | tmp t =>
   have hx':x'=.tmp t:=by
    cases x' with
    | tmp t'=>cases hx;rfl
    | const u=>simp only[cw] at hx;split at hx<;>cases hx
    | global g=>cases hx
    | func f=>cases hx
   subst hx';simp only[Ac] at e;split at e;rename_i v' hv;cases e;exact BG FR hv;rename_i b hv;cases e;exact BG FR hv;rename_i vs hv;cases e;exact BG FR hv;cases e
 | w y =>
   have:=fk FR hx (c:=.t) (v:=.c y) rfl trivial;cases y with
   | bool b =>
     simp only[Ac] at e;cases e;have h2:=this.2;simp only[aJ,aV] at h2;exact h2
   | _=>simp only[Ac] at e;cases e;exact this
 | agg cs =>
   have:=fk FR hx (c:=.t) (v:=.agg cs) rfl trivial;simp only[Ac] at e;cases e;exact this
theorem uZ(FR:bD nt η Z F a.tmps){x':Operand}{x:cj}(hx:cw x'=some x){b:Bool}(e:known F x=some b):a.eval x'=.bool b:=by
 unfold known at e;split at e;rename_i t;split at e;rename_i b' hv;cases e;have hx':x'=.tmp t:=by
  cases x' with
  | tmp t'=>cases hx;rfl
  | const u=>simp only[cw] at hx;split at hx<;>cases hx
  | global g=>cases hx
  | func f=>cases hx
 subst hx';exact BG FR hv;cases e;rename_i b';cases e;have:=fk FR hx (c:=.t) (v:=.c (.bool b)) rfl trivial;simpa[aJ,aV] using this.2;cases e
def tj(P:Program)(η:Eta)(Z:aF)(w:World)(s:Sem Next)(v:A):Prop:=∃ u,s.run P w=.ok (.value u) w/\cN η Z v u
theorem qA_ok(R : St base η Z S w)(FR : bD nt η Z F a.tmps){o : Oper}{q : Q}(ht : uR P o.op = some q){c : Cd}{v : A}(e : qA F S q = some (c, v))(hc : c) : tj P η Z w (execOp a.eval o) v := by
 have plain:∀{c:Cd}{v':V},eu F S q=some (c,v')->c->tj P η Z w (execOp a.eval o) (.p v'):=by
  intro c v' e hc;obtain⟨u,h1,h2⟩:=Vc R FR ht e hc;exact⟨u,h1,h2⟩
 unfold qA at e;split at e;rename_i x;split at e
 . rename_i v' hv;cases e
   -- a move
   unfold uR at ht;unfold execOp;split at ht<;>rename_i hop<;>simp only[hop];obtain⟨y,hy,e2⟩:=map_some ht;cases e2;exact⟨_,rfl,yg FR hy hv⟩;obtain⟨y,hy,e2⟩:=map_some ht;cases e2;exact⟨_,rfl,yg FR hy hv⟩
   all_goals exfalso
   all_goals first
    | (obtain⟨y,hy,e2⟩:=map_some ht;cases e2;done)
    | (repeat' (split at ht))<;>first|(cases ht;done)|(obtain⟨y,hy,e2⟩:=map_some ht;cases e2;done)
 split at e;rename_i c' v' hv;cases e;exact plain (by simp only[eu];exact hv) hc;cases e;rename_i b x y;have hpick : ∃ b' x' y', o.op = .pick b' x' y' ∧ cw b' = some b ∧ cw x' = some x ∧ cw y' = some y := by
  unfold uR at ht;split at ht
  all_goals first
   | (rename_i b' x' y' hop
      split at ht;rename_i h1 h2 h3;cases ht;exact⟨b',x',y',hop,h1,h2,h3⟩;cases ht)
   | (exfalso
      first
      | (obtain⟨y,hy,e2⟩:=map_some ht;cases e2;done)
      | (repeat' (split at ht))<;>first|(cases ht;done)|(obtain⟨y,hy,e2⟩:=map_some ht;cases e2;done))
 obtain⟨b',x',y',hop,hb,hx,hy⟩:=hpick;have hrun:∀ t:Bool,a.eval b'=.bool t->(execOp a.eval o).run P w=.ok (.value (if t then a.eval x' else a.eval y')) w:=by
  intro t ht';unfold execOp;rw[hop];cases t<;>simp[ht',asBool]
 split at e;rename_i hk;have:=hrun true (uZ FR hb hk);split at e;rename_i v' hv;cases e;exact⟨_,this,yg FR hx hv⟩;cases e;rename_i hk;have:=hrun false (uZ FR hb hk);split at e;rename_i v' hv;cases e;exact⟨_,this,yg FR hy hv⟩;cases e;split at e;rename_i c' v' hv;cases e;exact plain hv hc;cases e;rename_i x;split at e;rename_i b hk;cases e;have hq:eu F S (.not x)=some (match wK F x with|some (p,a)=>(p,.c (.bool (!a)))|none=>(.t,.c (.bool false)))->True:=fun _=>trivial
 -- the operand is known: the same answer by the plain way
 have hev:wK F x=some (.t,b):=by
  unfold known at hk;split at hk;split at hk;rename_i b' hv;cases hk;simp[wK,oC,hv];cases hk;cases hk;rfl;cases hk
 have h2:=plain (c:=.t) (v':=.c (.bool (!b))) (by simp only[eu,hev]) trivial;obtain⟨u,h3,h4⟩:=h2;refine⟨u,h3,?_⟩;have h5:=h4.2;simp only[aJ,aV] at h5;exact h5;split at e;rename_i c' v' hv;cases e;exact plain hv hc;cases e;split at e;rename_i c' v' hv;cases e;exact plain hv hc;cases e
theorem BH{o:Op}{k:O}(h:PL P o=some k):∃ neg x,k=.CD neg x:=by
 unfold PL at h;split at h;split at h
 . cases hx:cw _ with
   | none=>rw[hx] at h;cases h
   | some y=>rw[hx] at h;cases h;exact⟨_,_,rfl⟩
 cases h;split at h
 . cases hx:cw _ with
   | none=>rw[hx] at h;cases h
   | some y=>rw[hx] at h;cases h;exact⟨_,_,rfl⟩
 cases h;cases h
theorem VG{t el:TypeId}(hu:P.underlying t=some (.slice el)){v:Value}{a:Option Addr}{len cap:Nat}(hv:v=.slice a len cap):(Op.equal t v (.slice none 0 0)).run P w=.ok a.isNone w:=by
 subst hv;have key:(Op.equalIn (9999+1) t (.slice a len cap) (.slice none 0 0)).run P w=.ok a.isNone w:=by
  rw[Op.equalIn];simp only[Sem.run_bind,run_underlying hu,Result.andThen_ok];cases a<;>rfl
 exact key
theorem nilE_ok(FR:bD nt η Z F a.tmps){o:Oper}{k:O}(ht:PL P o.op=some k){c:Cd}{p:Bool->Prop}(e:Ll F k=some (c,p))(hc:c):∃ b,p b/\tj P η Z w (execOp a.eval o) (.p (.c (.bool b))):=by
 have key : ∀(neg : Bool)(x : cj)(x' : Operand)(t el : TypeId), cw x' = some x → P.underlying t = some (.slice el) → (execOp a.eval o).run P w = (do pure (Next.value (.bool ((← Op.equal t (a.eval x') (.slice none 0 0)) != neg))) : Sem Next).run P w → Ll F (.CD neg x) = some (c, p) → ∃ b, p b ∧ tj P η Z w (execOp a.eval o) (.p (.c (.bool b))) := by
  intro neg x x' t el hx hu hrun e;have fin:∀(ad:Option Addr)(len cap:Nat),a.eval x'=.slice ad len cap->p (ad.isNone != neg)->∃ b,p b/\tj P η Z w (execOp a.eval o) (.p (.c (.bool b))):=by
   intro ad len cap hev hp;refine⟨_,hp,.bool (ad.isNone != neg),?_,⟨by simp,by simp[aJ,aV]⟩⟩;rw[hrun];simp[VG hu hev]
  simp only[Ll] at e;split at e;rename_i c' hv;cases e;have:=(aO FR hx hv hc).2;simp only[aJ,aV] at this;exact fin _ _ _ this (by cases neg<;>rfl);rename_i c' m off len sz hv;cases e;rcases (aO FR hx hv hc).2 with ⟨h0,hev⟩|⟨pl,cap,ad,_,hev,_⟩;exact fin _ _ _ hev (fun _=>h0);exact fin _ _ _ hev (fun h=>by cases neg<;>simp at h);rename_i c' d l hv;cases e;have:=(aO FR hx hv hc).2;simp only[aJ,aV,cW] at this;obtain⟨ad,len,cap,hev,_,_,h4⟩:=this;rcases h4 with h4|⟨b,off,cells,h4,_⟩;exact fin _ _ _ hev (fun _=>h4);refine fin _ _ _ hev (fun h=>?_);rw[h4] at h;cases neg<;>simp at h;cases e
 unfold PL at ht;split at ht;rename_i t x _ hop;split at ht
 . rename_i el hu;cases hx:cw x with
   | none=>rw[hx] at ht;cases ht
   | some y =>
     rw[hx] at ht;cases ht;refine key false y x t el hx hu ?_ e;unfold execOp;rw[hop];have hb:binOp .eql t (a.eval x) (.slice none 0 0)=(do pure (.bool (<-Op.equal t (a.eval x) (.slice none 0 0)))):=by
      cases a.eval x<;>rfl
     have hg:eqGuard .eql t x (.const (.slice none 0 0)) (a.eval x) (.slice none 0 0)=pure ():=by
      unfold eqGuard;cases a.eval x<;>rfl
     have hev:a.eval (.const (.slice none 0 0))=.slice none 0 0:=rfl;simp[hev,hb,hg]
 cases ht;rename_i t x _ hop;split at ht
 . rename_i el hu;cases hx:cw x with
   | none=>rw[hx] at ht;cases ht
   | some y =>
     rw[hx] at ht;cases ht;refine key true y x t el hx hu ?_ e;unfold execOp;rw[hop];have hb:binOp .neq t (a.eval x) (.slice none 0 0)=(do pure (.bool (!(<-Op.equal t (a.eval x) (.slice none 0 0))))):=by
      cases a.eval x<;>rfl
     have hg:eqGuard .neq t x (.const (.slice none 0 0)) (a.eval x) (.slice none 0 0)=pure ():=by
      unfold eqGuard;cases a.eval x<;>rfl
     have hev:a.eval (.const (.slice none 0 0))=.slice none 0 0:=rfl;simp[hev,hb,hg]
 cases ht;cases ht
end
section
variable {P:Program} {base nt:Nat} {η:Eta} {Z:aF} {S:ak} {w:World} {F:Fr} {a:Act}
def VH(base:Nat)(η:Eta)(Z:aF)(S:ak)(w:World)(v:A)(S':ak)(o:Oper)(a:Act)(next:Act->World->Prop):Prop :=
 ∀ u w' aI Z',bX base η Z S w aI Z' S' w'->cN aI Z' v u->next (a.put o.dst u) w'
def Ad(P:Program)(base:Nat)(η:Eta)(Z:aF)(S:ak)(w:World)(o:Oper)(a:Act)(v:A)(S':ak):Prop :=
 ∀ Fc,WF Fc->∀(next:Act->World->Prop)(Q:Exit->Act->World->Prop),VH base η Z S w v S' o a next->o.wpIn Fc 0 P a w next Q
theorem tj.does{o:Oper}{v:A}(R:St base η Z S w)(hd:∀ c,o.op≠.defer c)(h:tj P η Z w (execOp a.eval o) v):Ad P base η Z S w o a v S:=by
 intro Fc hF next Q hn
 refine⟨fun f _=>hF.fn f,?_⟩;rw[Oper.semAt_eq _ _ _ hd];obtain⟨u,h1,h2⟩:=h;rw[h1];exact hn u w η Z (bX.refl R) h2
theorem bS.does{o:Oper}{v:A}{S':ak}(hd:∀ c,o.op≠.defer c)(h:bS P base η Z S w (execOp a.eval o) v S'):Ad P base η Z S w o a v S':=by
 intro Fc hF next Q hn
 refine⟨fun f _=>hF.fn f,?_⟩;rw[Oper.semAt_eq _ _ _ hd];obtain⟨nx,u,w',aI,Z',h1,h2,h3,h4⟩:=h;rw[h1];rcases h2 with rfl|⟨rfl,rfl⟩;exact hn u w' aI Z' h3 h4;exact hn _ w' aI Z' h3 h4
theorem VI{o:Op}{q:Q}(h:uR P o=some q):∀ c,o≠.defer c:=by
 rintro c rfl;simp[uR] at h
theorem Ij{o:Oper}{l:L}(h:K8 P o=some l):∀ c,o.op≠.defer c:=by
 intro c hc;unfold K8 at h;rw[hc] at h;cases h
theorem mF {f:FuncId} (h:enters P f=true):∃ fn c,P.funcs[f]? = some fn/\fn.body=some c/\fn.name≠ "runtime.NumGoroutine" := by
 unfold enters at h;split at h;rename_i fn hf;simp only[acQ,ac2,beq_eq_false_iff_ne] at h;obtain⟨c,hc⟩:=Option.isSome_iff_exists.1 h.1;exact⟨fn,c,hf,hc,h.2⟩;cases h
theorem qt(FR : bD nt η Z F a.tmps) : ∀{l' : List Operand}{l : List cj}, oZ l' = some l → ∀{c : Cd}{vs : List V}, mV F l = some (c, vs) → c → bp (dP η Z) vs (l'.map a.eval)
 | [],l,hl,c,vs,e,_=>by
   simp only[oZ] at hl;cases hl;simp only[mV] at e;cases e;trivial
 | x :: l', l, hl, c, vs, e, hc => by
   simp only[oZ] at hl;split at hl;rename_i y hy;split at hl;rename_i r hr;cases hl;simp only[mV] at e;split at e;rename_i p v hv;split at e;rename_i q vs' hvs;cases e;exact⟨fk FR hy hv hc.1,qt FR hr hvs hc.2⟩;cases e;cases e;cases hl;cases hl
theorem Ik{caps:List (Nat×Nat)}{cs:List Value}(h:bp (ic η) caps cs):bp (dP η Z) (caps.map fun x=>V.c (.ptr x.1 x.2)) cs:=by
 induction caps generalizing cs with
 | nil=>cases cs with|nil=>trivial|cons _ _=>exact h.elim
 | cons x l ih=>cases cs with|nil=>exact h.elim|cons y m=>exact⟨⟨by simp,h.1⟩,ih h.2⟩
def R1.cd:R1->Cd
 | .pure c _=>c
 | .Lj c _ _=>c
def R1.v:R1->A
 | .pure _ v=>v
 | .Lj _ v _=>v
def R1.st(S:ak):R1->ak
 | .pure _ _=>S
 | .Lj _ _ S'=>S'
theorem ER{Γ : bW}(dV : bt P Γ)(hT : jf P Z){sq : Bool}(R : St base η Z S w)(FR : bD nt η Z F a.tmps){o : Oper}{k : O}(ht : Ab P sq o = some k){r : R1}(e : r9 Γ F S k = some r)(hc : r.cd) : Ad P base η Z S w o a r.v (r.st S) := by
 have hq:∀ q,uR P o.op=some q->k=.q q->Ad P base η Z S w o a r.v (r.st S):=by
  rintro q hq rfl;simp only[r9] at e;split at e;rename_i c v hv;cases e;exact tj.does R (VI hq) (qA_ok R FR hq hv hc);cases e
 have hl : ∀ l, K8 P o = some l → k = .l l → Ad P base η Z S w o a r.v (r.st S) := by
  rintro l hl rfl;simp only[r9] at e;split at e;rename_i c v S' hv;split at e;rename_i x;cases e;have hS : S' = S := by
   simp only[kF] at hv;split at hv;split at hv;cases hv;split at hv;cases hv;rfl;cases hv;cases hv
  subst hS;exact bS.does (Ij hl) (Vy R FR hl hv hc);cases e;exact bS.does (Ij hl) (Vy R FR hl hv hc);cases e
 unfold Ab at ht;split at ht;rename_i x args ts hop;split at ht;rename_i f l hf hal;cases ht;simp only[r9] at e;split at e;rename_i p g caps q vs Ae lg;split at e
 . rename_i c r0 S' b hcall;have hcd:r.cd=.and p (.and q c)/\r.v=r0/\r.st S=(if b=true then S else S'):=by
    cases b with
    | true=>simp only[cond_true] at e;cases e;exact⟨rfl,rfl,rfl⟩
    | false=>simp only[cond_false] at e;cases e;exact⟨rfl,rfl,rfl⟩
   rw[hcd.1] at hc;obtain⟨hp,l9,hc'⟩:=hc;obtain⟨wF,hent,hsame⟩:=Lh dV hcall hc';have hst:r.st S=S':=by
    rw[hcd.2.2];split;rename_i hb;exact(hsame hb).symm;rfl
   rw[hst,hcd.2.1];intro Fc hF next Q hn
   refine⟨fun f _=>hF.fn f,?_⟩;have hd:∀ c,o.op≠.defer c:=fun c hc=>by rw[hop] at hc;cases hc
   rw[Oper.semAt_eq _ _ _ hd];obtain⟨_,cs,Af,hcs⟩:=aO FR hf Ae hp;have hvs:=qt FR hal lg l9;obtain⟨fn,body,h1,h2,h3⟩:=mF hent;have yh:(execOp a.eval o).run P w=.ok (.enter g ((args.toList.map a.eval).toArray++cs.toArray)) w:=by
    unfold execOp;rw[hop];have hargs:(args.toList.map a.eval).toArray=args.map a.eval:=by apply adG;simp
    simp only[resolve,Af,Deferred.ofValue,pure_bind,invoke,hargs];have:(#[]:Array Value)++args.map a.eval=args.map a.eval:=by simp
    rw[this];simp[callFunc,h1,h3,h2]
   rw[yh];refine⟨hF.depth,hF.calls ?_⟩;have happ:(args.toList.map a.eval).toArray++cs.toArray=(args.toList.map a.eval++cs).toArray:=by simp
   rw[happ];refine(wF base η Z w _ R (kB.2 (hvs.append (Ik hcs))) hT).mono ?_;rintro e1 w1 ⟨u,aI,Z',rfl,mv,hr1⟩;exact hn u w1 aI Z' mv hr1
 cases e;rename_i p g n off q vs Ae lg;split at e
 . rename_i c r0 S' b hcall;have hcd:r.cd=.and p (.and q c)/\r.v=r0/\r.st S=(if b=true then S else S'):=by
    cases b with
    | true=>simp only[cond_true] at e;cases e;exact⟨rfl,rfl,rfl⟩
    | false=>simp only[cond_false] at e;cases e;exact⟨rfl,rfl,rfl⟩
   rw[hcd.1] at hc;obtain⟨hp,l9,hc'⟩:=hc;obtain⟨wF,hent,hsame⟩:=Lh dV hcall hc';have hst:r.st S=S':=by
    rw[hcd.2.2];split;rename_i hb;exact(hsame hb).symm;rfl
   rw[hst,hcd.2.1];intro Fc hF next Q hn
   refine⟨fun f _=>hF.fn f,?_⟩;have hd:∀ c,o.op≠.defer c:=fun c hc=>by rw[hop] at hc;cases hc
   rw[Oper.semAt_eq _ _ _ hd];obtain⟨_,pu,Af,PG⟩:=aO FR hf Ae hp;have hvs:=qt FR hal lg l9;obtain⟨fn,body,h1,h2,h3⟩:=mF hent;have yh:(execOp a.eval o).run P w=.ok (.enter g (pu::args.toList.map a.eval).toArray) w:=by
    unfold execOp;rw[hop];have hargs:#[pu]++args.map a.eval=(pu::args.toList.map a.eval).toArray:=by apply adG;simp
    simp only[resolve,Af,Deferred.ofValue,pure_bind,invoke,hargs];have:(pu::args.toList.map a.eval).toArray++(#[]:Array Value)=(pu::args.toList.map a.eval).toArray:=by simp
    first|rw[this]|skip
    simp[callFunc,h1,h3,h2]
   rw[yh];refine⟨hF.depth,hF.calls ?_⟩;refine(wF base η Z w (pu::args.toList.map a.eval) R (kB.2 ⟨⟨by simp,PG⟩,hvs⟩) hT).mono ?_;rintro e1 w1 ⟨u,aI,Z',rfl,mv,hr1⟩;exact hn u w1 aI Z' mv hr1
 cases e;cases e;cases ht;split at ht;rename_i k' hk';cases ht;obtain⟨neg,x,rfl⟩:=BH hk';simp only[r9] at e;cases e;cases sq with
 | true =>
   simp only[cond_true] at ht;split at ht;rename_i l hl';cases ht;exact hl l hl' rfl;split at ht;rename_i q l9;cases ht;exact hq q l9 rfl;cases ht
 | false =>
   simp only[cond_false] at ht;split at ht;rename_i q l9;cases ht;exact hq q l9 rfl;obtain⟨_,ht⟩:=aC.aK ht;split at ht;rename_i l hl';cases ht;exact hl l hl' rfl;cases ht
end
inductive Gd where
 | run
 | skip
 | cond (g:Prop)
 | bool (d:Nat) (b want:Bool)
def guardE(F:Fr):Option (Nat×Bool)->Option Gd
 | none=>some .run
 | some (d,want)=>match F.get d with
   | some (.dec b)=>bif b==want then some .run else some .skip
   | some (.p (.c (.bool b)))=>some (.bool d b want)
   | some (.cond c (.c (.bool b)))=>some (.cond (c/\b=want))
   | some (.aL [])=>some .skip
   | _=>none
def lV(F:Fr):Option Nat->A->Fr
 | none,_=>F
 | some d,v=>aC.T.set F d v
section
variable {P:Program} {base nt:Nat} {η:Eta} {Z:aF} {S:ak} {w:World} {F:Fr} {a:Act}
theorem qV(FR:bD nt η Z F a.tmps){dst:Option Nat}(hd:Gr nt dst=true){v:A}{u:Value}(h:cN η Z v u):bD nt η Z (lV F dst v) (a.put dst u).tmps:=by
 cases dst with
 | none=>exact FR
 | some d=>exact FR.set (by simpa[Gr,Nat.blt_eq] using hd) h
def Gd.when:Gd->Prop
 | .run=>True
 | .skip=>False
 | .cond g=>g
 | .bool _ b want=>b=want
theorem j8(FR:bD nt η Z F a.tmps){ops:Array Oper}{o:Oper}{g:Option (Nat×Bool)}(hg:trG ops o=some g){k:Gd}(e:guardE F g=some k):(Region.wanted o (yielded ops a.tmps)=true)↔k.when:=by
 unfold trG at hg;unfold Region.wanted;split at hg;rename_i hn;cases hg;simp only[guardE] at e;cases e;rw[hn];simp[Gd.when];rename_i j want hn;split at hg;rename_i d hd;cases hg;rw[hn];simp only;unfold yielded;rw[hd];simp only[Option.bind_some];simp only[guardE] at e;split at e;rename_i b hb;obtain⟨v,hv,hr⟩:=FR.2 d _ hb;have hr':v=.bool b:=hr;subst hr';rw[hv];cases b<;>cases want<;>(cases e;simp[Gd.when]);rename_i b hb;cases e;obtain⟨v,hv,hr⟩:=FR.2 d _ hb;have hr':v=.bool b:=by have:=hr.2;simpa[aJ,aV] using this
 subst hr';rw[hv];simp[Gd.when];rename_i c b hb;cases e;obtain⟨v,hv,hr⟩:=FR.2 d _ hb;by_cases hc:c;have hr':v=.bool b:=by have:=(hr.1 hc).2;simpa[aJ,aV] using this
 subst hr';rw[hv];simp[Gd.when,hc];have hr':v=undef:=hr.2 hc;subst hr';rw[hv];simp[Gd.when,hc,undef];rename_i hb;cases e;obtain⟨v,hv,hr⟩:=FR.2 d _ hb;obtain⟨vs,hvv,hl⟩:=hr;rw[hv,hvv];simp[Gd.when];cases e;cases hg
end
section
variable {P:Program} {base nt:Nat} {η:Eta} {Z:aF} {S:ak} {w:World} {F:Fr} {a:Act}
theorem iY{sq:Bool}{ops:Array Oper}{o:Oper}{x:kG}(h:qq P sq nt ops o=some x):x.dst=o.dst/\trG ops o=some x.guard/\Ab P sq o=some x.o/\Gr nt o.dst=true:=by
 unfold qq at h;split at h;rename_i g k hg hk;obtain⟨hd,h⟩:=aC.aK h;cases h;exact⟨rfl,hg,hk,hd⟩;cases h
theorem put_defers(a:Act)(dst:Option Nat)(u:Value):(a.put dst u).defers=a.defers:=by cases dst<;>rfl
theorem Il:cN η Z (.aL []) undef:=⟨[],rfl,trivial⟩
theorem cd_imp{c:Cd}{g:Prop}{k:Prop}(h:ij (c.list.map (g->·)) k):(g->c)/\k:=by
 have:=iN (c:=.imp g c) (k:=k) h;exact this
end
end Go.aW
