/- The walk by values, second part: operations that write; calls by contracts. It holds for every program and every world, under the hypotheses that each theorem names. -/
import Derived.Test.YtlbmkeimafgemaaGreatDoorLoom1
import Derived.RangeFuncCalls
import Derived.Test.YtlbmkeimafgemaaGreatDoorMill1
open Nat renaming eq_of_beq_eq_true->abZ,beq->ab3,div_one->aci,le_mul_of_pos_right->acr,mul_le_mul_right->acE,le_refl->acH,zero_le->acM,zero_add->acQ,mul_one->acS,lt_or_ge->ac0,sub_self->ac1,beq_refl->ac3,mod_one->ac4,min->ac5,blt->ac6
open Bool renaming and_eq_true->ab0,not_eq_true'->acf,or_eq_true->acL
open List renaming mem_of_getElem?->ab1,getElem?_eq_getElem->ab2,getElem?_append_right->ab4,replicate->ab5,getElem?_drop->ab6,getElem?_append_left->ab7,flatMap_cons->ab8,getElem?_map->ab9,getElem?_take->acd,length_map->ace,getElem?_cons_zero->acg,getElem?_cons_succ->ach,eq_nil_of_length_eq_zero->acj,getElem?_toArray->ack,getElem?_of_mem->acn,getD_eq_getElem?_getD->aco,flatMap_append->acp,length_append->acq,append_assoc->acs,getElem?_set->acu,getElem?_inj->acv,take_of_length_le->acw,map_take->acy,length_cons->acz,length_singleton->acA,set_append_right->acB,length_set->acF,map_drop->acI,ext_getElem?->acJ,getElem?_replicate->acK,all_cons->acO,any_eq_false->acR,length->acT,isEmpty_iff->acU,drop->acX,map_cons->acY,drop_one->acZ,flatMap->ac2
open Array renaming getElem?_modify->acC,getElem?_setIfInBounds_ne->acD,getElem?_push->acG,getElem?_toList->acN,length_toList->acP,ext'->acV,replicate->acW
open Iff renaming rfl->ac7
noncomputable section
namespace Go.aT
open Go.RowKit
open Go.aA (T)
section
variable {P:Program} {base n:Nat} {η:Eta} {Z:Zeta} {S:ak} {w:World} {F:Fr} {a:Act}
theorem bg.takeN{α β:Type}{R:α->β->Prop}{l:List α}{m:List β}(h:bg R l m)(k:Nat):bg R (l.take k) (m.take k):=bg.take k h
theorem UD(R:St base η Z S w){t ty el:TypeId}{ts:Array TypeId}{sz:Nat}(ht:ts[0]? = some t)(hu:P.underlying t=some (.slice el))(hs:gT P el=some sz)
 {uy:Value} {cs:List W} (hsrc:Src P η Z w uy sz cs) (hsz:sz≠0) {u:Value} {m off len:Nat} (hx:aI η Z (.sl m off len sz) u) {o:Ob} (ho:S.get m=some o) (hmo:¬o.eU) (hnb:¬o.bytes∨o.cells=[]) (hb:off+len*sz<=o.cells.length) :
 Good P base η Z S w (do pure (Next.value (<-Builtin.copy_ ts ty #[u,uy]))) (.p (.c (.int .i64 ((ac5 (cs.length/sz) len:Nat):Int)))) (S.put m (Ob.of o.ty (jE o.cells off (cs.take (len*sz))))):=by
 obtain⟨k,vs,h1,h2,h3,h4,h5,h6⟩:=hsrc;have hdiv:cs.length/sz=k:=by rw[h1];exact Nat.mul_div_cancel _ (by omega)
 rw[hdiv];have hmin:∃ j,ac5 k len=j/\j<=k/\j<=len:=⟨_,rfl,Nat.min_le_left _ _,Nat.min_le_right _ _⟩;obtain⟨j,hj,hjk,hjl⟩:=hmin;rw[hj];have hcs:cs.take (len*sz)=cs.take (j*sz):=by
  by_cases hkl:k<=len;have:j=k:=by rw[<-hj];exact Nat.min_eq_left hkl
  subst this;rw[acw (by rw[h1];exact acE _ hkl),acw (by omega)];have:j=len:=by rw[<-hj];exact Nat.min_eq_right (by omega)
  rw[this]
 rw[hcs];have hrun:=h6 w j rfl hjk;have hjs:j*sz<=len*sz:=acE _ hjl;have hjs2:j*sz<=k*sz:=acE _ hjk;rcases hx with ⟨rfl,rfl⟩|⟨pl,cap,ad,hpl,rfl,hcap,hroom,had⟩;have hj0:j=0:=by omega
 subst hj0;refine Good.alike (S':=S) (Good.of (u:=goInt 0) ?_ (Moves.refl R) eP) ?_;have hmin0:k.min 0=0:=hj;simp only[Builtin.copy_,ht,Sem.run_bind,ack,acg,ach,run_underlying hu,Result.andThen_ok,h5,dW hs,hmin0,hrun,Sem.run_pure];rfl;refine⟨⟨rfl,rfl⟩,fun i=>?_⟩;rw[ak.iR];by_cases hi:i=m;subst hi;rw[if_pos rfl,ho];exact⟨rfl,by simp[jE]⟩
 . rw[if_neg hi];cases S.get i with
   | none=>trivial
   | some x=>exact⟨rfl,rfl⟩
 by_cases h0:j=0;subst h0;refine Good.alike (S':=S) (Good.of (u:=goInt 0) ?_ (Moves.refl R) eP) ?_;simp only[Nat.zero_mul,List.take_zero] at hrun;simp only[Builtin.copy_,ht,Sem.run_bind,ack,acg,ach,run_underlying hu,Result.andThen_ok,h5,dW hs,hj,hrun,Sem.run_pure,storeCells];rfl;refine⟨⟨rfl,rfl⟩,fun i=>?_⟩;rw[ak.iR];by_cases hi:i=m;subst hi;rw[if_pos rfl,ho];exact⟨rfl,by simp[jE]⟩
 . rw[if_neg hi];cases S.get i with
   | none=>trivial
   | some x=>exact⟨rfl,rfl⟩
 have hca:ad=⟨pl.block,pl.off+off,none⟩:=by
  rcases had with rfl|rfl;omega;rfl
 subst hca;have hlt:=(h3.takeN (j*sz)).length;have cn:(cs.take (j*sz)).length=j*sz:=by simp;omega
 have hn0:¬o.bytes:=by
  rcases hnb with h|h;exact h;exfalso;rw[h] at hb;have hb:off+len*sz<=0:=hb;have:1*1<=j*sz:=Nat.mul_le_mul (by omega) (by omega);omega
 obtain⟨hst,g⟩:=R.store (P:=P) ho hpl hmo hn0 (h3.takeN (j*sz)) (fun v hv=>h4 v (List.mem_of_mem_take hv)) (off:=off) (by omega) (o':=Ob.of o.ty (jE o.cells off (cs.take (j*sz)))) rfl (by simp);refine Good.of (u:=goInt j) ?_ g.up eP;simp only[Builtin.copy_,ht,Sem.run_bind,ack,acg,ach,run_underlying hu,Result.andThen_ok,h5,dW hs,hj,hrun,hst,Sem.run_pure]
theorem QW(R : St base η Z S w){t ty el : TypeId}{ts : Array TypeId}{i : TypeInfo}{z : W}{zv : Value}(ht : ts[0]? = some t)(hu : P.underlying t = some (.slice el))(hi : P.info? el = some i)(hzv : i.zero = some zv)(hz : zk z zv = true)
 {u:Value} {m off len:Nat} (hx:aI η Z (.sl m off len 1) u) {o:Ob} (ho:S.get m=some o) (hmo:¬o.eU) (hnb:¬o.bytes∨o.cells=[]) (hb:off+len<=o.cells.length) :
 Good P base η Z S w (do pure (Next.value (<-Builtin.clear_ ts ty #[u]))) (.aJ []) (S.put m (Ob.of o.ty (jE o.cells off (ab5 len z)))):=by
 have pS:∀{u:Value},(Builtin.clear_ ts ty #[u]).run P w=.ok (.tuple #[]) w->len=0->Good P base η Z S w (do pure (Next.value (<-Builtin.clear_ ts ty #[u]))) (.aJ []) (S.put m (Ob.of o.ty (jE o.cells off (ab5 len z)))):=by
  rintro u hr rfl;refine Good.alike (S':=S) (Good.of (u:=.tuple #[]) hr (Moves.refl R) ⟨[],rfl,trivial⟩) ⟨⟨rfl,rfl⟩,fun i=>?_⟩;rw[ak.iR];by_cases hi:i=m;subst hi;rw[if_pos rfl,ho];exact⟨rfl,by simp[jE]⟩;rw[if_neg hi];cases S.get i with
  | none=>trivial
  | some x=>exact⟨rfl,rfl⟩
 rcases hx with ⟨rfl,rfl⟩|⟨pl,cap,ad,hpl,rfl,hcap,hroom,had⟩;exact pS (by simp[Builtin.clear_,ht,run_underlying hu]) rfl;by_cases h0:len=0;subst h0;exact pS (by simp[Builtin.clear_,ht,run_underlying hu]) rfl
 · have hca : ad = ⟨pl.block, pl.off + off, none⟩ := by
    rcases had with rfl|rfl;omega;rfl
   subst hca;obtain⟨hr,_,hone,hy⟩:=v7 (η:=η) (Z:=Z) hz;have hrel : bg (aI η Z) (ab5 len z) (ab5 len zv) := by
    apply bg.rG;simp;intro j x v hx hv;rw[acK] at hx hv;split at hx;rename_i hj;rw[if_pos hj] at hv;cases hx;cases hv;exact hr;cases hx
   have hn0:¬o.bytes:=by
    rcases hnb with h|h;exact h;exfalso;rw[h] at hb;have hb:off+len<=0:=hb;omega
   obtain⟨hst,g⟩:=R.store (P:=P) ho hpl hmo hn0 hrel (fun v hv=>by rw[(List.mem_replicate.1 hv).2];exact hone) (off:=off) (by simp;omega) (o':=Ob.of o.ty (jE o.cells off (ab5 len z))) rfl (by simp);have hzc:(Builtin.zeroCells zv.cells len).toList=ab5 len zv:=by
    rw[hy];unfold Builtin.zeroCells;apply acJ;intro j;rw[acK];by_cases hj:j<len;simp[hj,ac4];simp[hj]
   have BL:(zeroValue el).run P w=.ok zv w:=by simp[zeroValue,typeInfo,hi,hzv]
   refine Good.of (u:=.tuple #[]) ?_ g.up ⟨[],rfl,trivial⟩;simp only[Builtin.clear_,ht,Sem.run_bind,ack,acg,run_underlying hu,Result.andThen_ok];cases len with
   | zero=>exact absurd rfl h0
   | succ n=>simp only[BL,Result.andThen_ok,hzc,hst,Sem.run_pure]
def bt(l:List Int):ByteArray:=⟨(l.map fun n=>UInt8.ofNat n.toNat).toArray⟩
theorem CQ(l:List Int):bt l=l.foldl (fun r n=>r.push (UInt8.ofNat n.toNat)) ByteArray.empty:=aA.QC l
theorem CR{k:IntKind}:∀{l:List Int}{vs:List Value},bg (aI η Z) (l.map (D.int k).w) vs->vs=l.map (Value.int k)
 | [],[],_=>rfl
 | n::l,v::vs,⟨a,b⟩=>by
   have:v=.int k n:=by simpa[D.w,aI,aQ] using a
   subst this;simp only[acY];rw[<-CR b]
theorem Yz{src dst el:TypeId}(hs:P.underlying src=some (.slice el))(hd:P.underlying dst=some .string)(he:P.underlying el=some (.int .u8)){u:Value}{l:List Int}(hsrc:Src P η Z w u 1 (l.map (D.int .u8).w))(hu:∃ ad len c,u=.slice ad len c)(hnil:∀ len c,u=.slice none len c->l=[]) :
 Says P η Z w (do pure (Next.value (<-convert src dst u))) (.c (.str (bt l))):=by
 obtain⟨ad,len,c,rfl⟩:=hu;obtain⟨m,vs,h1,h2,h3,h4,h5,h6⟩:=hsrc;have hlen:len=m:=by
  have:=h5 w;simp[Builtin.lenOf] at this;exact this
 subst hlen;have hvs:=CR h3;cases ad with
 | none =>
   have:=hnil len c rfl;subst this;refine Says.of (u:=.string (bt [])) ?_ qy;simp[convert,run_underlying hs,run_underlying hd,run_underlying he,Conv.bytesToString];rfl
 | some ad =>
   have w9:=h6 w len rfl (acH _);rw[acw (by omega),hvs] at w9;simp only[Builtin.firstCells,acS] at w9;have:=run_bytesToString (P:=P) w ad len c l w9;refine Says.of (u:=.string (bt l)) ?_ qy;simp only[convert,Sem.run_bind,run_underlying hs,run_underlying hd,run_underlying he,Result.andThen_ok,this,CQ]
end
def v8(P:Program):Nat->TypeId->Option D
 | 0,_=>none
 | k+1,t=>match P.underlying t with
   | some (.int k)=>some (.int k)
   | some .bool=>some .bool
   | some .string=>some .str
   | some (.slice el)=>match v8 P k el with|some d=>some (.sl d)|none=>none
   | _=>none
def QX(P:Program):Nat->TypeId->Option (List Fd)
 | 0,_=>none
 | k+1,t=>match P.underlying t with
   | some (.struct fs)=>fs.toList.foldr (fun f r=>match QX P k f.type,r with|some a,some b=>some (a++b)|_,_=>none) (some [])
   | some (.array n el)=>match v8 P 4 el with|some d=>some [.a n d (ab5 n d.zero)]|none=>none
   | some _=>match QG P t with|some z=>some [.c z]|none=>none
   | none=>none
def OV:List W->List Value->Bool
 | [],[]=>true
 | x::l,v::m=>zk x v&&OV l m
 | _,_=>false
theorem FH{η:Eta}{Z:Zeta}:∀{l:List W}{m:List Value},OV l m=true->bg (aI η Z) l m/\∀ v∈m,v.oneCell'=true
 | [],[],_=>⟨trivial,by simp⟩
 | x::l,v::m,h=>by
   simp only[OV,ab0] at h;obtain⟨a,b⟩:=FH (η:=η) (Z:=Z) h.2;obtain⟨c,_,d,_⟩:=v7 (η:=η) (Z:=Z) h.1;refine⟨⟨c,a⟩,fun u hu=>?_⟩;rcases List.mem_cons.1 hu with rfl|hu;exact d;exact b u hu
 | [],_::_,h=>by cases h
 | _::_,[],h=>by cases h
def pT:List Fd->Nat->Fd->Option (List Fd)
 | [],_,_=>none
 | .c x::fs,k,f=>match k with
   | 0=>some (f::fs)
   | k+1=>match pT fs k f with|some r=>some (.c x::r)|none=>none
 | .a n d l::fs,k,f=>match k with
   | 0=>some (f::fs)
   | k+1=>bif ac6 (k+1) n then none else match pT fs (k+1-n) f with|some r=>some (.a n d l::r)|none=>none
 | .m _ _ _::_,_,_=>none
theorem xh:∀{fs:List Fd}{off:Nat}{c:Cd}{f f':Fd}{fs':List Fd},ja fs off=some (c,f)->c->pT fs off f'=some fs'->∃ pre post,fs=pre++f::post/\fs'=pre++f'::post/\(pre.flatMap Fd.cells).length=off
 | [],_,_,_,_,_,e,_,_=>by cases e
 | .c x::fs,0,c,f,f',fs',e,_,h=>by
   simp only[ja] at e;simp only[pT] at h;cases e;cases h;exact⟨[],fs,rfl,rfl,rfl⟩
 | .c x::fs,k+1,c,f,f',fs',e,hc,h=>by
   simp only[ja] at e;simp only[pT] at h;split at h;rename_i r hr;cases h;obtain⟨pre,post,rfl,rfl,hl⟩:=xh e hc hr;exact⟨.c x::pre,post,rfl,rfl,by rw[ab8,acq,hl];simp only[Fd.cells,acA];omega⟩;cases h
 | .a n d l::fs,0,c,f,f',fs',e,_,h=>by
   simp only[ja] at e;simp only[pT] at h;cases e;cases h;exact⟨[],fs,rfl,rfl,rfl⟩
 | .a n d l :: fs, k + 1, c, f, f', fs', e, hc, h => by
   simp only[ja] at e;simp only[pT] at h;cases hb:ac6 (k+1) n with
   | true=>rw[hb] at e;cases e
   | false =>
     rw[hb] at e h;simp only[cond_false] at e h;have hn:n<=k+1:=by
      rcases ac0 (k+1) n with h|h;rw[(Nat.blt_eq (x:=k+1) (y:=n)).mpr h] at hb;cases hb;exact h
     split at e;rename_i c' f'' he;cases e;split at h;rename_i r hr;cases h;obtain⟨pre,post,rfl,rfl,hl⟩:=xh he hc.2 hr;exact⟨.a n d l::pre,post,rfl,rfl,by rw[ab8,acq,hl];simp only[Fd.cells,ace];have:l.length=n:=hc.1;omega⟩;cases h;cases e
theorem NX{fs fs':List Fd}{off:Nat}{c:Cd}{x y:W}(e:ja fs off=some (c,.c x))(hc:c)(h:pT fs off (.c y)=some fs'):fs'.flatMap Fd.cells=(fs.flatMap Fd.cells).set off y/\off<(fs.flatMap Fd.cells).length:=by
 obtain⟨pre,post,rfl,rfl,hl⟩:=xh e hc h;rw[acp,acp,ab8,ab8];refine⟨?_,by simp only[acq,Fd.cells,acA];omega⟩;rw[acB _ _ (by omega),hl,ac1];rfl
theorem NY{fs fs':List Fd}{off n n':Nat}{d:D}{l l':List d.ty}{c:Cd}(e:ja fs off=some (c,.a n d l))(hc:c)(h:pT fs off (.a n' d l')=some fs') :
 ∃ pre post,fs.flatMap Fd.cells=pre++l.map d.w++post/\fs'.flatMap Fd.cells=pre++l'.map d.w++post/\pre.length=off:=by
 obtain⟨pre,post,rfl,rfl,hl⟩:=xh e hc h;exact⟨pre.flatMap Fd.cells,post.flatMap Fd.cells,by simp[acp,Fd.cells],by simp[acp,Fd.cells],hl⟩
def D8(fs : List Fd)(off : Nat) : List W → Option (Cd × List Fd)
 | []=>some (.t,fs)
 | y :: cs => match ja fs off with
   | some (c,.c _)=>match pT fs off (.c y) with
     | some fs'=>match D8 fs' (off+1) cs with
       | some (c',r)=>some (.and c c',r)
       | none=>none
     | none=>none
   | _=>none
theorem BO : ∀{cs : List W}{fs fs' : List Fd}{off : Nat}{c : Cd}, D8 fs off cs = some (c, fs') → c → fs'.flatMap Fd.cells = jE (fs.flatMap Fd.cells) off cs ∧ (cs ≠ [] → off + cs.length ≤ (fs.flatMap Fd.cells).length)
 | [],fs,fs',off,c,e,_=>by
   simp only[D8] at e;cases e;exact⟨rfl,fun h=>absurd rfl h⟩
 | y :: cs, fs, fs', off, c, e, hc => by
   simp only[D8] at e;split at e;rename_i c1 x hg;split at e;rename_i fs1 hp;split at e;rename_i c2 r hr;cases e;obtain⟨h1,h2⟩:=NX hg hc.1 hp;obtain⟨h3,h4⟩:=BO hr hc.2;rw[h1] at h3 h4;refine⟨h3,fun _=>?_⟩;by_cases h0:cs=[];subst h0;rw[acA];omega;have:=h4 h0;rw[acF] at this;rw[acz];omega;cases e;cases e;cases e
def Fd.list(d:D):List Fd->Option (List d.ty)
 | [.a _ d' l]=>if h:d'=d then some (h▸l) else none
 | _=>none
theorem Fd.jF{d:D}{fs:List Fd}{l:List d.ty}(h:Fd.list d fs=some l):fs.flatMap Fd.cells=l.map d.w:=by
 unfold Fd.list at h;split at h;split at h;rename_i hd;subst hd;cases h;simp[Fd.cells];cases h;cases h
def Ko(S:ak):(d:D)->W->Option (Cd×d.ty×ak)
 | .sl e,.sl m off len sz=>bif ab3 sz 1 then match S.get m with
  | some o=>match Fd.list e o.fs with
    | some l=>some (.p (off+len<=l.length),((l.drop off).take len:List e.ty),S.del m)
    | none=>none
  | none=>none
   else none
 | d,x=>match d.of x with|some y=>some (.t,y,S)|none=>none
section
variable {P:Program} {base n:Nat} {η:Eta} {Z:Zeta} {S:ak} {w:World} {F:Fr} {a:Act}
theorem mE{d:D}{x:W}{y:d.ty}(e:d.of x=some y){v:Value}(h:aI η Z x v):cE Z d y v:=D.Uj e (aI.Yn (D.JW e) h)
theorem o5{sz:Nat}(h:ab3 sz 1=true):sz=1:=abZ h
theorem UE(R : St base η Z S w){m off len : Nat}{o : Ob}(ho : S.get m = some o){e : D}{l : List e.ty}(hl : Fd.list e o.fs = some l)(hb : off + len ≤ l.length){v : Value}(h : aI η Z (.sl m off len 1) v) :
 ∃ Z',Moves base η Z S w η Z' (S.del m) w/\cE Z' (.sl e) ((l.drop off).take len) v:=by
 have hc:=Fd.jF hl;have hz:len=0->∀ ad cap Z',v=.slice ad 0 cap->cE Z' (.sl e) ((l.drop off).take len) v:=by
  rintro rfl ad cap Z' rfl;exact⟨ad,0,cap,rfl,by simp,acM _,.inl (by simp)⟩
 rcases h with ⟨h0,rfl⟩|⟨p,c,ad,hp,rfl,hcap,hroom,had⟩;exact⟨Z,⟨Eta.le.refl _,R.del m,Step.del m⟩,hz h0 _ _ _ rfl⟩;by_cases h0:len=0;subst h0;exact⟨Z,⟨Eta.le.refl _,R.del m,Step.del m⟩,hz rfl _ _ _ rfl⟩;obtain⟨cs,ty,fz,hh,mv,hv⟩:=R.freeze ho hp (Ob.ji (o:=o) hc);refine⟨_,mv,some ad,len,c,rfl,by simp;omega,hcap,.inr ⟨p.block,p.off+off,cs,?_,?_,?_⟩⟩;rcases had with h|h;omega;rw[h];unfold Zeta.add;rw[if_pos rfl];intro i x hx;have hx':(l.map e.w)[off+i]? = some (e.w x):=by
  rw[acd] at hx;split at hx;rw[ab6] at hx;simp[hx];cases hx
 obtain⟨u,h1,h2⟩:=hv (off+i) _ (by unfold Ob.cells;rw[hc];exact hx');exact⟨u,by rw[<-h1];congr 1;omega,cE.mono mv.step.cG e ((D.gC e).1 h2)⟩
theorem zm(R:St base η Z S w){d:D}{x:W}{c:Cd}{y:d.ty}{S':ak}(e:Ko S d x=some (c,y,S'))(hc:c){v:Value}(h:aI η Z x v) :
 ∃ Z',Moves base η Z S w η Z' S' w/\cE Z' d y v/\(S'=S∨∃ m,S'=S.del m):=by
 unfold Ko at e;split at e;rename_i d m off len sz;obtain⟨hs,e⟩:=aA.aH e;have hs1:=o5 hs;subst hs1;split at e;rename_i o ho;split at e;rename_i l hl;cases e;obtain⟨Z',a,b⟩:=UE R ho hl hc h;exact⟨Z',a,b,.inr ⟨m,rfl⟩⟩;cases e;cases e;split at e;rename_i y' hy;cases e;exact⟨Z,Moves.refl R,mE hy h,.inl rfl⟩;cases e
def Fd.hole:List Fd->Option ((d:D)×(List d.ty×W×List d.ty))
 | [.a k d l,.c x,.a k' d' l']=>bif ab3 k 1&&ab3 k' 1 then(if h:d'=d then some ⟨d,l,x,h▸l'⟩ else none) else none
 | _=>none
theorem Fd.OW{fs:List Fd}{d:D}{l l':List d.ty}{x:W}(h:Fd.hole fs=some ⟨d,l,x,l'⟩):∃ k k',fs=[.a k d l,.c x,.a k' d l']:=by
 unfold Fd.hole at h;split at h;rename_i k d1 l1 x1 k' d2 l2;obtain⟨_,h⟩:=aA.aH h;split at h;rename_i hd;subst hd;cases h;exact⟨k,k',rfl⟩;cases h;cases h
def D.pU:D->Bool
 | .int .u8=>true
 | _=>false
theorem D.w_u8{d:D}(h:d.pU=true)(x:d.ty):∃ n,d.w x=.int .u8 n:=by
 unfold D.pU at h;split at h;exact⟨x,rfl⟩;cases h
theorem D.QY{d:D}(h:d.pU=false)(x:d.ty)(n:Int):d.w x≠.int .u8 n:=by
 intro e;cases d with
 | int k =>
   have e:W.int k x=.int .u8 n:=e;cases e;cases h
 | bool=>cases e
 | str=>cases e
 | sl d=>cases e
def shut(S:ak)(m:Nat):Option (Cd×ak):=match S.tB m with
 | some o=>match Fd.hole o.fs with
   | some ⟨d,l,x,l'⟩=>bif d.pU then none else(match Ko S d x with
     | some (c,y,S1)=>match S1.get m with
       | some _=>some (c,S1.put m ⟨o.ty,[.a 1 d (l++y::l')]⟩)
       | none=>none
     | none=>none)
   | none=>none
 | none=>none
theorem FI(R : St base η Z S w){m : Nat}{c : Cd}{S' : ak}(e : shut S m = some (c, S'))(hc : c) : ∃ Z', Moves base η Z S w η Z' S' w ∧ ∀ i, i ≠ m → S'.get i = none ∨ S'.get i = S.get i := by
 unfold shut at e;split at e
 · rename_i o ho
   obtain⟨ho,hmo⟩:=kF ho;split at e
   · rename_i d l x l' hh
     cases yQ:d.pU with
     | true=>rw[yQ] at e;cases e
     | false =>
     rw[yQ] at e;simp only[cond_false] at e;split at e;rename_i c1 y S1 hf;split at e
     . rename_i o1 jQ;cases e;obtain⟨k,k',hfs⟩:=Fd.OW hh;have cn:o.cells=l.map d.w++x::l'.map d.w:=by unfold Ob.cells;rw[hfs];simp[Fd.cells]
       have hx:o.cells[l.length]? = some x:=by rw[cn,ab4 (by simp)];simp
       cases hp:η m with
       | none=>rw[R.cj m o ho hp] at hx;simp at hx
       | some p =>
         obtain⟨_,_,L⟩:=R.ar m o p ho hp;obtain⟨cs,fz,h1,h2,h3,tE⟩:=L.there hmo;obtain⟨v,hv,hr,hone⟩:=h3 _ _ hx;obtain⟨Z1,mv,hd,hS⟩:=zm R hf hc hr;have h4:=tE.plain fun hB=>by
          obtain⟨n,e⟩:=hB x (ab1 hx);subst e;have hr:v=.int .u8 n:=by simpa only[aI,aQ] using hr
          subst hr;cases d with
          | int k =>
            have hd:Value.int .u8 n=.int k y:=hd;cases hd;cases yQ
          | bool=>have hd:Value.int .u8 n=.bool y:=hd;cases hd
          | str=>have hd:Value.int .u8 n=.string y:=hd;cases hd
          | sl d=>obtain⟨_,_,_,hd,_⟩:=hd;cases hd
         have hget:∀ i,S1.get i=none∨S1.get i=S.get i:=by
          intro i;rcases hS with rfl|⟨m',rfl⟩;exact .inr rfl;rw[ak.ia];by_cases hi:i=m';rw[if_pos hi];exact .inl rfl;rw[if_neg hi];exact .inr rfl
         have YA:S1.get m=some o:=by
          rcases hget m with h|h;rw[h] at jQ;cases jQ;rw[h];exact ho
         have g : mK base η Z1 S1 w η (S1.put m ⟨o.ty, [.a 1 d (l ++ y :: l')]⟩) w := by
          refine mv.st.write YA hp rfl rfl rfl rfl (fun _ _=>rfl) (dN.plain (Ob.ji (d:=d) (l:=l++y::l') (by unfold Ob.cells;simp[Fd.cells])) ⟨cs,fz,h1,h2,?_,h4⟩ ?_);intro i z hz;have hz':(l.map d.w++d.w y::l'.map d.w)[i]? = some z:=by
           rw[<-hz];unfold Ob.cells;simp[Fd.cells]
          by_cases hi:i=l.length;subst hi;rw[ab4 (by simp)] at hz';simp at hz';subst hz';exact⟨v,hv,(D.gC d).2 hd,hone⟩;obtain⟨v',a,b,e⟩:=h3 i z (by
           rw[cn,<-hz'];rcases Nat.lt_or_gt_of_ne hi with hi|hi;rw[ab7 (by simpa using hi),ab7 (by simpa using hi)];rw[ab4 (by simp;omega),ab4 (by simp;omega)];simp only[ace];obtain⟨j,hj⟩:∃ j,i-l.length=j+1:=⟨i-l.length-1,by omega⟩;rw[hj];rfl)
          exact⟨v',a,b.mono (Eta.le.refl _) mv.step.cG,e⟩;have:=L.size hmo;rw[cn] at this;unfold Ob.cells;simp[Fd.cells] at this ⊢;omega
         refine⟨Z1,mv.trans g.up,fun i hi=>?_⟩;rw[ak.iR,if_neg hi];exact hget i
     cases e;cases e
   cases e
 cases e
def sw(S:ak)(d:D)(x:W):Option (Cd×d.ty×ak) :=
 match Ko S d x with
 | some r=>some r
 | none=>match x with
   | .sl m off len sz=>match shut S m with
     | some (c,S1)=>match Ko S1 d (.sl m off len sz) with
       | some (c',y,S2)=>some (.and c c',y,S2.del m)
       | none=>none
     | none=>none
   | _=>none
theorem lS(R : St base η Z S w){d : D}{x : W}{c : Cd}{y : d.ty}{S' : ak}(e : sw S d x = some (c, y, S'))(hc : c){v : Value}(h : aI η Z x v) :
 ∃ Z',Moves base η Z S w η Z' S' w/\cE Z' d y v/\∀ i,S'.get i=none∨S'.get i=S.get i:=by
 have gb:∀{S S':ak},(S'=S∨∃ m,S'=S.del m)->∀ i,S'.get i=none∨S'.get i=S.get i:=by
  intro S S' hS i;rcases hS with rfl|⟨m',rfl⟩;exact .inr rfl;rw[ak.ia];by_cases hi:i=m';rw[if_pos hi];exact .inl rfl;rw[if_neg hi];exact .inr rfl
 unfold sw at e;split at e;rename_i r hr;cases e;obtain⟨Z',a,b,hS⟩:=zm R hr hc h;exact⟨Z',a,b,gb hS⟩
 · split at e
   rename_i m off len sz _;split at e;rename_i c1 S1 hs;split at e;rename_i c2 y2 S2 hf;cases e;obtain⟨Z1,GZ,g1⟩:=FI R hs hc.1;obtain⟨Z2,gU,hd,hS⟩:=zm GZ.st hf hc.2 (h.mono (Eta.le.refl _) GZ.step.cG);refine⟨Z2,(GZ.trans gU).trans ⟨Eta.le.refl _,gU.st.del m,Step.del m⟩,hd,fun i=>?_⟩;rw[ak.ia];by_cases hi:i=m;rw[if_pos hi];exact .inl rfl;rw[if_neg hi];rcases gb hS i with h|h;exact .inl h;rw[h];exact g1 i hi;cases e;cases e;cases e
end
def FJ(S:ak)(d:D):List V->Option (Cd×List d.ty×ak)
 | []=>some (.t,[],S)
 | .c x::l=>match sw S d x with
   | some (c,y,S1)=>match FJ S1 d l with
     | some (c',ys,S2)=>some (.and c c',y::ys,S2)
     | none=>none
   | none=>none
 | _=>none
def ai(s:ByteArray):List Int:=s.data.toList.map fun b=>(b.toNat:Int)
def strD:(d:D)->ByteArray->Option (Cd×List d.ty)
 | .int .u8,s=>some (.t,ai s)
 | _,_=>none
def CS(S:ak)(d:D)(x:W):Option (Cd×List d.ty) :=
 match x with
 | .nil=>some (.t,[])
 | .rd d' l=>if h:d'=d then some (.t,h▸l) else none
 | .sl m off len sz=>bif ab3 sz 1 then match S.get m with
  | some o=>match Fd.list d o.fs with
    | some l=>some (.p (off+len<=l.length),(l.drop off).take len)
    | none=>none
  | none=>none
   else none
 | .str s=>strD d s
 | _=>none
def D.same:(d:D)->W->Option d.ty
 | .int k,.int k' n=>if k'=k then some n else none
 | .bool,.bool b=>some b
 | .str,.str s=>some s
 | _,_=>none
theorem D.same_w{d:D}{x:W}{y:d.ty}(e:d.same x=some y):d.w y=x:=by
 cases d<;>cases x<;>simp only[D.same] at e<;>try cases e
 rename_i k k' n;split at e;rename_i hk;subst hk;cases e;rfl;cases e;rfl;rfl
def A7(d:D):Nat->List W->Option (List d.ty×List W)
 | 0,l=>some ([],l)
 | n+1,x::l=>match d.same x,A7 d n l with|some y,some (ys,r)=>some (y::ys,r)|_,_=>none
 | _+1,[]=>none
theorem Kp{d:D}:∀{n:Nat}{l r:List W}{ys:List d.ty},A7 d n l=some (ys,r)->l=ys.map d.w++r
 | 0,l,r,ys,e=>by simp only[A7] at e;cases e;rfl
 | n+1,[],r,ys,e=>by simp only[A7] at e;cases e
 | n + 1, x :: l, r, ys, e => by
   simp only[A7] at e;split at e;rename_i y ys' r' h1 h2;cases e;rw[Kp h2,acY,D.same_w h1];rfl;cases e
def nE:List Fd->List W->Option (List Fd)
 | [],[]=>some []
 | .c _::fs,x::l=>match nE fs l with|some r=>some (.c x::r)|none=>none
 | .a n d _::fs,l=>match A7 d n l with
   | some (ys,r)=>(match nE fs r with|some q=>some (.a n d ys::q)|none=>none)
   | none=>none
 | _,_=>none
theorem xj:∀{fs:List Fd}{l:List W}{r:List Fd},nE fs l=some r->r.flatMap Fd.cells=l
 | [],[],r,e=>by simp only[nE] at e;cases e;rfl
 | [],_::_,r,e=>by simp only[nE] at e;cases e
 | .c _::fs,[],r,e=>by simp only[nE] at e;cases e
 | .c _::fs,x::l,r,e=>by
   simp only[nE] at e;split at e;rename_i q h;cases e;rw[ab8,xj h];rfl;cases e
 | .a n d _::fs,l,r,e=>by
   simp only[nE] at e;split at e;rename_i ys q h;split at e;rename_i q' h';cases e;rw[ab8,xj h',Kp h];rfl;cases e;cases e
def Kq(fs:Option (List Fd))(l:List W):List Fd :=
 match fs with
 | some fs=>(match nE fs l with|some r=>r|none=>l.map .c)
 | none=>l.map .c
theorem Kr{fs:Option (List Fd)}{l:List W}:(Kq fs l).flatMap Fd.cells=l:=by
 unfold Kq;split;split;rename_i h;exact xj h;exact vU l;exact vU l
def YB:List W->Bool
 | [.cZ,.nil]=>true
 | _=>false
theorem isNN_eq{l:List W}(h:YB l=true):l=[.cZ,.nil]:=by
 unfold YB at h;split at h;rfl;cases h
def D.jG:(d:D)->d.ty->d.ty->Bool
 | .int _,a,b=>decide ((show Int from a)=b)
 | .str,a,b=>decide ((show ByteArray from a)=b)
 | _,_,_=>false
def D.isKey:D->Bool
 | .int _=>true
 | .str=>true
 | _=>false
theorem D.kG{d:D}(h:d.isKey=true){a b:d.ty}:d.jG a b=true↔a=b:=by
 cases d<;>simp only[D.isKey] at h<;>first|(cases h;done)|(simp only[D.jG];exact decide_eq_true_iff)
def ju(kd vd:D)(k:kd.ty)(v:vd.ty):List (kd.ty×vd.ty)->List (kd.ty×vd.ty)
 | []=>[(k,v)]
 | (k',v')::l=>bif kd.jG k k' then(k,v)::l else(k',v')::ju kd vd k v l
def kW(kd vd:D)(k:kd.ty):List (kd.ty×vd.ty)->Option vd.ty
 | []=>none
 | (k',v')::l=>bif kd.jG k k' then some v' else kW kd vd k l
def pV(kd vd:D)(l:List (kd.ty×vd.ty))(k:kd.ty):vd.ty:=match kW kd vd k l with|some v=>v|none=>vd.zero
def tF(kd vd:D)(l:List (kd.ty×vd.ty))(k:kd.ty):Bool:=(kW kd vd k l).isSome
theorem zn{kd vd:D}(h:kd.isKey=true)(k:kd.ty)(v:vd.ty)(k2:kd.ty):∀(l:List (kd.ty×vd.ty)),(k2=k->kW kd vd k2 (ju kd vd k v l)=some v)/\(k2≠k->kW kd vd k2 (ju kd vd k v l)=kW kd vd k2 l)
 | []=>by
   simp only[ju,kW];refine⟨fun e=>?_,fun e=>?_⟩;rw[(D.kG h).2 e];rfl;cases hb:kd.jG k2 k with
   | true=>exact absurd ((D.kG h).1 hb) e
   | false=>rfl
 | (k',v')::l=>by
   simp only[ju];cases hb:kd.jG k k' with
   | true =>
     have:=(D.kG h).1 hb;subst this;simp only[cond_true,kW];refine⟨fun e=>?_,fun e=>?_⟩;rw[(D.kG h).2 e];rfl;cases hb2:kd.jG k2 k with
     | true=>exact absurd ((D.kG h).1 hb2) e
     | false=>rfl
   | false =>
     simp only[cond_false,kW];obtain⟨h1,h2⟩:=zn h k v k2 l;cases hb2:kd.jG k2 k' with
     | true =>
       have:=(D.kG h).1 hb2;subst this;refine⟨fun e=>?_,fun _=>rfl⟩;rw[(D.kG h).2 e.symm] at hb;cases hb
     | false=>exact⟨h1,h2⟩
inductive L where
 | mkmap (ty:TypeId) (kd vd:D)
 | ju (kd vd:D) (m k v:bR)
 | pV (kd vd:D) (m k:bR) (ok:Bool)
 | UF (ty:TypeId)
 | QZ (kd:D) (m k v:bR)
 | mgetF (kd:D) (m k:bR)
 | alloc (ty:TypeId) (fs:List Fd)
 | UG (ty el:TypeId)
 | boxB (ty el:TypeId) (x:bR)
 | ustr (el:TypeId) (x n:bR)
 | nil (el:TypeId) (d:D)
 | box (ty:TypeId) (fs:Option (List Fd)) (x:bR)
 | store (n:Nat) (x v:bR)
 | make (el:TypeId) (bytes:Nat) (d:D) (l c:bR)
 | lit (el:TypeId) (sz:Nat) (d:Option D) (h:Bool) (parts:List bR)
 | append (el:TypeId) (bytes:Nat) (d:D) (x y:bR)
 | zeros (el:TypeId) (bytes:Nat) (d:D) (x y:bR)
 | copy (d:D) (x y:bR)
 | clear (d:D) (x:bR)
 | b2s (x:bR)
 | mki (t:TypeId) (x:bR)
 | tas (t:TypeId) (z:V) (x:bR)
 | st0 (x v:bR)
 | s2b (x:bR)
 | mlen (kd vd:D) (x:bR)
def Jw(sz:Nat):List V->Bool
 | []=>true
 | v::l=>ab3 v.cells.length sz&&Jw sz l
def spl{α:Type}(l:List α)(off:Nat)(ys:List α):List α:=l.take off++ys++l.drop (off+ys.length)
def Ks(d:Option D)(h:Bool)(vs:List V):Option (List Fd):=match d,vs with
 | some d,[.c (.sl m off len sz)]=>bif h&&ab3 sz 1 then some [.a 1 d [],.c (.sl m off len sz),.a 1 d []] else none
 | _,_=>none
theorem Kt{d:Option D}{h:Bool}{vs:List V}{fs:List Fd}(e:Ks d h vs=some fs):fs.flatMap Fd.cells=vs.flatMap V.cells:=by
 unfold Ks at e;split at e;obtain⟨_,e⟩:=aA.aH e;cases e;rfl;cases e
def Fd.one:List Fd->Option W
 | [.a _ _ l,.c x,.a _ _ l']=>match l,l' with
   | [],[]=>some x
   | _,_=>none
 | _=>none
theorem Fd.G4{fs:List Fd}{x:W}(e:Fd.one fs=some x):fs.flatMap Fd.cells=[x]:=by
 unfold Fd.one at e;split at e;split at e;cases e;rfl;cases e;cases e
def rowOf(S:ak)(d:D):W->Option (Nat×Nat×List Int)
 | .sl q off len sz => match d, S.tB q with
   | .sl (.int .i64),some o=>match Fd.one o.fs with
     | some (.sl m off' k sz')=>bif ab3 off 0&&ab3 len 1&&ab3 sz 1&&ab3 sz' 1 then match S.get m with
      | some om=>match Fd.list (.int .i64) om.fs with
        | some l=>(match off' with|0=>some (m,k,(l:List Int))|j+1=>some (m,k,acX (α:=Int) (j+1) l))
        | none=>none
      | none=>none
       else none
     | _=>none
   | _,_=>none
 | _=>none
theorem Q0{S : ak}{d : D}{y : W}{m k : Nat}{l : List Int}(e : rowOf S d y = some (m, k, l)) : ∃(q : Nat)(o om : Ob)(ro : Nat)(l0 : List Int), y = .sl q 0 1 1 ∧ S.get q = some o ∧ ¬o.eU ∧ o.cells = [.sl m ro k 1] ∧ S.get m = some om ∧ om.cells = l0.map (W.int .i64) ∧ l = l0.drop ro := by
 unfold rowOf at e;split at e;rename_i q off len sz;split at e;rename_i o ho;obtain⟨ho,hmo⟩:=kF ho;split at e;rename_i m' off' k' sz' h1;obtain⟨hb,e⟩:=aA.aH e;simp only[ab0] at hb;obtain⟨⟨⟨b1,b2⟩,b3⟩,b5⟩:=hb;have b1:=abZ b1;have b2:=abZ b2;have b3:=abZ b3;have b5:=abZ b5;subst b1;subst b2;subst b3;subst b5;split at e;rename_i om UH;split at e
 . rename_i l' hl;cases off' with
   | zero =>
     cases e;exact⟨q,o,om,0,_,rfl,ho,hmo,Fd.G4 h1,UH,Fd.jF hl,rfl⟩
   | succ j =>
     cases e;exact⟨q,o,om,j+1,l',rfl,ho,hmo,Fd.G4 h1,UH,Fd.jF hl,rfl⟩
 cases e;cases e;cases e;cases e;cases e
def litV(S:ak)(d:Option D)(h:Bool)(vs:List V):Option (Cd×List Fd×ak) :=
 match Ks d h vs with
 | some fs=>some (.t,fs,S)
 | none=>match d with
 | some d=>match FJ S d vs with
   | some (c,ys,S1)=>some (c,[.a 0 d ys],S1)
   | none=>some (.t,(vs.flatMap V.cells).map .c,S)
 | none=>some (.t,(vs.flatMap V.cells).map .c,S)
def Fd.nb:Fd->Bool
 | .c (.int .u8 _)=>false
 | .c _=>true
 | _=>false
def nbF(fs:List Fd):Bool:=fs.any Fd.nb||(match fs with | [.a _ d _]=>!d.pU|_=>false)
theorem nbF_ok{o:Ob}(h:nbF o.fs=true)(h0:o.cells≠[]):¬o.bytes:=by
 intro hB;unfold nbF at h;rw[acL] at h;rcases h with h|h
 . obtain⟨f,hf,hn⟩:=List.any_eq_true.1 h;cases f with
   | c x =>
     obtain⟨n,e⟩:=hB x (by unfold Ob.cells;exact List.mem_flatMap.2 ⟨_,hf,by simp[Fd.cells]⟩);subst e;cases hn
   | a _ _ _=>cases hn
   | m _ _ _=>cases hn
 split at h
 . rename_i k d l hfs;have cn:o.cells=l.map d.w:=by unfold Ob.cells;rw[hfs];simp[Fd.cells]
   cases l with
   | nil=>exact h0 (by rw[cn];rfl)
   | cons x l =>
     obtain⟨n,e⟩:=hB (d.w x) (by rw[cn];simp);exact D.QY (by simpa using h) x n e
 cases h
theorem A8{o:Ob}{d:D}{l:List d.ty}(cn:o.cells=l.map d.w)(h:d.pU=false):¬o.bytes∨o.cells=[]:=by
 cases l with
 | nil=>right;rw[cn];rfl
 | cons x l =>
   left;intro hB;obtain⟨n,e⟩:=hB (d.w x) (by rw[cn];simp);exact D.QY h x n e
def opn(S:ak)(m i:Nat)(y:W):Option (Cd×ak):=match S.tB m with
 | some o=>match o.fs with
   | [.a k d l]=>bif ab3 k 1&&!d.pU then some (.p (i<l.length),S.put m ⟨o.ty,[.a 1 d (l.take i),.c y,.a 1 d (l.drop (i+1))]⟩) else none
   | _=>none
 | none=>none
def again(S:ak)(m i:Nat)(y:W):Option (Cd×ak):=match S.tB m with
 | some o=>match Fd.hole o.fs with
   | some ⟨d,l,.sl k _ _ _,l'⟩=>match S.get k with
     | none=>some (.p (i=l.length),S.put m ⟨o.ty,[.a 1 d l,.c y,.a 1 d l']⟩)
     | some _=>none
   | _=>none
 | none=>none
def YC(S:ak)(m i:Nat)(y:W):Option (Cd×ak):=match y with
 | .sl _ _ _ _ => match opn S m i y with
   | some r=>some r
   | none=>match again S m i y with
     | some r=>some r
     | none=>match shut S m with
       | some (c,S1)=>match opn S1 m i y with
         | some (c',S')=>some (.and c c',S')
         | none=>none
       | none=>none
 | _=>none
def D.isSl:D->Bool
 | .sl _=>true
 | _=>false
def Ob.qz(kd vd:D)(o:Ob):Option (List (kd.ty×vd.ty)):=match o.fs with
 | [.m kd' vd' l]=>if h:kd'=kd/\vd'=vd then some (h.1▸h.2▸l) else none
 | _=>none
theorem Ob.ents_fs{kd vd:D}{o:Ob}{l:List (kd.ty×vd.ty)}(h:o.qz kd vd=some l):o.fs=[.m kd vd l]:=by
 unfold Ob.qz at h;split at h;rename_i kd' vd' l' hfs;split at h;rename_i hd;obtain⟨rfl,rfl⟩:=hd;cases h;exact hfs;cases h;cases h
def pW(kd:D):List Fd->Option (List (kd.ty×W))
 | []=>some []
 | .c k::.c v::r=>match kd.of k,pW kd r with
   | some x,some l=>bif v.aj then some ((x,v)::l) else none
   | _,_=>none
 | _=>none
def wg(kd:D):List Fd->Option (List (kd.ty×W))
 | .c .mh::r=>pW kd r
 | _=>none
def zo(kd:D)(k:kd.ty):List (kd.ty×W)->Option W
 | []=>none
 | (k',v)::l=>bif kd.jG k k' then some v else zo kd k l
def W.ur:W->Option Value
 | .bool b=>some (.bool b)
 | .int k n=>some (.int k n)
 | .str s=>some (.string s)
 | .dD=>some .nilIface
 | .val v=>some v
 | _=>none
def D9:List W->Option (List Value)
 | []=>some []
 | x::l=>match x.ur,D9 l with|some u,some r=>some (u::r)|_,_=>none
def V.ur:V->Option Value
 | .c x=>x.ur
 | .agg cs=>match D9 cs with|some us=>some (.agg us.toArray)|none=>none
theorem W.uw{η:Eta}{Z:Zeta}{x:W}{u v:Value}(e:x.ur=some u)(h:aI η Z x v):v=u:=by
 cases x<;>simp only[W.ur] at e<;>first
  | (cases e;done)
  | (cases e;simp only[aI,aQ] at h;exact h)
  | (cases e;simp only[aI,aQ] at h;exact h.1)
theorem Ea{η:Eta}{Z:Zeta}:∀{cs:List W}{us vs:List Value},D9 cs=some us->bg (aI η Z) cs vs->vs=us
 | [],us,vs,e,h=>by
   cases e;cases vs with
   | nil=>rfl
   | cons _ _=>exact h.elim
 | x :: l, us, vs, e, h => by
   simp only[D9] at e;split at e
   . rename_i u r hu hr;cases e;cases vs with
     | nil=>exact h.elim
     | cons v vs=>rw[W.uw hu h.1,Ea hr h.2]
   cases e
theorem V.uw{η:Eta}{Z:Zeta}{x:V}{u v:Value}(e:x.ur=some u)(h:cW η Z x v):v=u:=by
 cases x with
 | c x=>exact W.uw e h.2
 | agg cs =>
   simp only[V.ur] at e;split at e;rename_i us zh;cases e;obtain⟨ws,hw,_,hl⟩:=h;rw[hw,Ea zh hl];cases e
def Q5(F:Fr)(S:ak)(el:TypeId)(bytes:Nat)(d:D)(x:bR)(y:W):Option (Cd×A×ak) :=
 match CS S d y with
  | some (q,ys)=>match fO F x with
    | some (r,.nil)=>some (.and q (.and r (.p (ys.length*bytes<=140737488355328))),.p (.c (.sl S.next 0 ys.length 1)),S.add ⟨el,[.a 0 d ys]⟩)
    | some (r,.sl n off len sz)=>bif ab3 sz 1 then match S.get n with
     | some o=>bif ab3 o.ty el then match Fd.list d o.fs with
      | some l=>some (.and q (.and r (bif d.pU then .p (off=0/\len=l.length/\(len+ys.length)*bytes<=140737488355328) else .p (off+len<=l.length/\(len+ys.length)*bytes<=140737488355328))),.p (.c (.sl S.next 0 (len+ys.length) 1)),(S.del n).add ⟨el,[.a 0 d ((l.drop off).take len++ys)]⟩)
      | none=>none
       else none
     | none=>none
      else none
    | _=>none
  | none=>none
def appR(F:Fr)(S:ak)(el:TypeId)(bytes:Nat)(d:D)(x:bR)(y:W):Option (Cd×A×ak):=match y with
 | .sl q _ _ _=>match shut S q with
   | some (c,S1)=>match Q5 F S1 el bytes d x y with
     | some (c2,v,S2)=>some (.and c c2,v,S2)
     | none=>none
   | none=>none
 | _=>none
def j4(F:Fr)(S:ak):L->Option (Cd×A×ak)
 | .mki t x=>match nW F x with
   | some (c,v)=>match v.ur with
     | some u=>some (c,.p (.c (.val (.iface t u))),S)
     | none=>none
   | none=>none
 | .tas t z x=>match fO F x with
   | some (c,.dD)=>some (c,.aJ [z,.c (.bool false)],S)
   | some (c,.val (.iface t' v))=>bif ab3 t' t then(match OI v with|some y=>some (c,.aJ [y,.c (.bool true)],S)|none=>none) else some (c,.aJ [z,.c (.bool false)],S)
   | _=>none
 | .st0 x v=>match fO F x,nW F v with
   | some (p,.ptr _ _),some (q,.agg [])=>some (.and p q,.aJ [],S)
   | _,_=>none
 | .s2b x=>match y9 F x with
   | some (c,s)=>some (c,.p (.c (.rd (.int .u8) (ai s))),S)
   | none=>none
 | .mlen kd vd x=>match fO F x with
   | some (p,.mp n)=>match S.get n with
     | some o=>match o.qz kd vd with
       | some l=>some (p,.p (.c (.int .i64 (l.length:Nat))),S)
       | none=>none
     | none=>none
   | _=>none
 | .UF ty=>some (.t,.p (.c (.mp S.next)),S.add ⟨ty,[.c .mh]⟩)
 | .QZ kd m k v => match fO F m, fO F k, fO F v with
   | some (p,.mp n),some (q,x),some (r,y)=>match kd.of x,S.get n with
     | some k,some o=>match wg kd o.fs with
       | some l=>match zo kd k l with
         | none=>bif y.aj then some (.and p (.and q r),.aJ [],S.put n ⟨o.ty,o.fs++[.c (kd.w k),.c y]⟩) else none
         | some _=>none
       | none=>none
     | _,_=>none
   | _,_,_=>none
 | .mgetF kd m k=>match fO F m,fO F k with
   | some (p,.mp n),some (q,x)=>match kd.of x,S.get n with
     | some k,some o=>match wg kd o.fs with
       | some l=>match zo kd k l with
         | some v=>some (.and p q,.p (.c v),S)
         | none=>none
       | none=>none
     | _,_=>none
   | _,_=>none
 | .mkmap ty kd vd=>some (.t,.p (.c (.mp S.next)),S.add ⟨ty,[.m kd vd []]⟩)
 | .ju kd vd m k v => match fO F m, fO F k, fO F v with
   | some (p,.mp n),some (q,x),some (r,y)=>match kd.of x,sw S vd y with
     | some k,some (c,z,S1)=>match S1.get n with
       | some o=>match o.qz kd vd with
         | some l=>some (.and p (.and q (.and r c)),.aJ [],S1.put n ⟨o.ty,[.m kd vd (aT.ju kd vd k z l)]⟩)
         | none=>none
       | none=>none
     | _,_=>none
   | _,_,_=>none
 | .pV kd vd m k ok => match fO F m, fO F k with
   | some (p,.mp n),some (q,x)=>match kd.of x,S.get n with
     | some k,some o=>match o.qz kd vd with
       | some l=>bif ok
         then some (.and p q,.aJ [.c (vd.w (aT.pV kd vd l k)),.c (.bool (tF kd vd l k))],S)
         else some (.and p q,.p (.c (vd.w (aT.pV kd vd l k))),S)
       | none=>none
     | _,_=>none
   | _,_=>none
 | .alloc ty fs=>some (.t,.p (.c (.ptr S.next 0)),S.add ⟨ty,fs⟩)
 | .UG ty el=>some (.t,.p (.c (.ptr S.next 0)),(S.add ⟨ty,[.c (.ba S.next),.c (.sl (S.next+1) 0 0 1)]⟩).add ⟨el,[.a 0 (.int .u8) []]⟩)
 | .boxB ty el x=>match nW F x with
   | some (p,v)=>bif YB v.cells then some (p,.p (.c (.ptr S.next 0)),(S.add ⟨ty,[.c (.ba S.next),.c (.sl (S.next+1) 0 0 1)]⟩).add ⟨el,[.a 0 (.int .u8) []]⟩) else none
   | none=>none
 | .ustr el x n=>match fO F x,jY F n with
   | some (p,.pe m off i),some (q,_,k)=>match S.get m with
     | some o=>bif ab3 off 0&&ab3 o.ty el then match Fd.list (.int .u8) o.fs with
      | some l=>some (.and p (.and q (.p (0<k/\i+k<=l.length/\k<=9223372036854775807))),.p (.c (.str (bt ((l.drop i).take k.toNat)))),S)
      | none=>none
       else none
     | none=>none
   | _,_=>none
 | .nil el d=>some (.t,.p (.c (.sl S.next 0 0 1)),S.add ⟨el,[.a 0 d []]⟩)
 | .box ty fs x=>match nW F x with
   | some (p,v)=>some (p,.p (.c (.ptr S.next 0)),S.add ⟨ty,Kq fs v.cells⟩)
   | none=>none
 | .store n x v=>match fO F x,nW F v with
   | some (p,.ptr m off),some (q,v)=>bif ab3 v.cells.length n then match S.tB m with
    | some o=>bif nbF o.fs then(match D8 o.fs off v.cells with
      | some (c,fs')=>some (.and p (.and q c),.aJ [],S.put m ⟨o.ty,fs'⟩)
      | none=>none) else none
    | none=>none
     else none
   | some (p,.pN m i j),some (q,.c (.int .i64 y))=>bif ab3 n 1 then match uj S m with
     | some (k,af)=>match S.get m with
       | some o=>some (.and p (.and q (.p (i<af.length/\j<k))),.aJ [],S.put m ⟨o.ty,[.c (.th k (af.set i ((af.getD i []).set j y)))]⟩)
       | none=>none
     | none=>none
     else none
   | some (p,.pe m off i),some (q,.c y)=>bif ab3 n 1 then match (bif ab3 off 0 then YC S m i y else none) with
     | some (c,S1)=>some (.and p (.and q c),.aJ [],S1)
     | none=>match S.tB m with
       | some o=>match ja o.fs off with
         | some (c,.a k d l)=>bif d.pU then none else match sw S d y with
           | some (c2,z,S1)=>match S1.get m,pT o.fs off (.a k d (l.set i z)) with
             | some _,some fs'=>some (.and p (.and q (.and c (.and c2 (.p (i<l.length))))),.aJ [],S1.put m ⟨o.ty,fs'⟩)
             | _,_=>none
           | none=>none
         | _=>none
       | none=>none
     else none
   | _,_=>none
 | .make el bytes d l c=>match jY F l,jY F c with
   | some (p,_,l),some (q,_,c)=>bif d.isSl
     then some (.and p (.and q (.p (0<=l/\l<=c/\(bytes:Int)*c<=140737488355328))),.p (.c (.sl S.next 0 l.toNat 1)),S.add ⟨el,[.a 1 d (ab5 c.toNat d.zero)]⟩)
     else some (.and p (.and q (.p (0<=l/\l<=c/\(bytes:Int)*c<=140737488355328))),.p (.c (.sl S.next 0 l.toNat 1)),S.add ⟨el,[.a 0 d (ab5 c.toNat d.zero)]⟩)
   | _,_=>none
 | .lit el sz d h parts=>match mD F parts with
   | some (p,vs)=>bif Jw sz vs then match litV S d h vs with
    | some (c,fs,S1)=>some (.and p c,.p (.c (.sl S1.next 0 parts.length sz)),S1.add ⟨el,fs⟩)
    | none=>none
     else none
   | none=>none
 | .zeros el bytes d x y=>match fO F x,jY F y with
   | some (p,.nil),some (q,_,n)=>some (.and p (.and q (.p (0<n/\(bytes:Int)*n<=140737488355328))),.p (.c (.sl S.next 0 n.toNat 1)),S.add ⟨el,[.a 0 d (ab5 n.toNat d.zero)]⟩)
   | _,_=>none
 | .append el bytes d x y=>match fO F y with
   | some (p, y) => match rowOf S d y with
    | some (m,k,l)=>match fO F x with
      | some (r,.nil)=>some (.and p (.and r (.p (l.length=k/\0<k/\bytes<=140737488355328))),.p (.c (.sl S.next 0 1 1)),(S.del m).add ⟨el,[.c (.th k [l])]⟩)
      | some (r,.sl n off len sz)=>match uj S n with
        | some (k',af)=>bif ab3 sz 1&&!(ab3 n m) then(match S.get n with
         | some o=>bif ab3 o.ty el then some (.and p (.and r (.p (off=0/\len=af.length/\k'=k/\l.length=k/\0<k/\(af.length+1)*bytes<=140737488355328))),.p (.c (.sl S.next 0 (af.length+1) 1)),((S.del n).del m).add ⟨el,[.c (.th k (af++[l]))]⟩) else none
         | none=>none) else none
        | none=>match appR F S el bytes d x y with
          | some (c,v,S1)=>some (.and p c,v,S1)
          | none=>none
      | _=>none
    | none=>match Q5 F S el bytes d x y with
     | some (c,v,S1)=>some (.and p c,v,S1)
     | none=>none
   | none=>none
 | .copy d x y => match fO F y with
   | some (p, y) => match CS S d y with
     | some (q,ys)=>match fO F x with
       | some (r,.sl n off len sz)=>bif ab3 sz 1&&!d.pU then match S.get n with
        | some o=>match Fd.list d o.fs with
          | some l=>some (.and p (.and q (.and r (.p (off+len<=l.length)))),.p (.c (.int .i64 ((ac5 ys.length len:Nat):Int))),S.put n ⟨o.ty,[.a 0 d (spl l off (ys.take len))]⟩)
          | none=>none
        | none=>none
         else none
       | _=>none
     | none=>none
   | none=>none
 | .clear d x=>match fO F x with
   | some (p,.sl n off len sz)=>bif ab3 sz 1&&!d.pU then match S.get n with
    | some o=>match Fd.list d o.fs with
      | some l=>some (.and p (.p (off+len<=l.length)),.aJ [],S.put n ⟨o.ty,[.a 0 d (spl l off (ab5 len d.zero))]⟩)
      | none=>none
    | none=>none
     else none
   | _=>none
 | .b2s x=>match fO F x with
   | some (p,y)=>match y with
     | .str _=>none
     | y=>match CS S (.int .u8) y with
       | some (q,l)=>some (.and p q,.p (.c (.str (bt l))),S)
       | none=>none
   | none=>none
def pY:TypeDesc->D->Bool
 | .int k,.int k'=>decide (k=k')
 | .string,.str=>true
 | _,_=>false
def vo(P:Program)(t:TypeId):Option (D×D):=match P.underlying t with
 | some (.map kt et)=>match P.underlying kt,v8 P 4 kt,P.info? et,v8 P 4 et with
   | some td,some kd,some i,some vd=>match i.zero with
     | some z=>if pY td kd=true/\zk (vd.w vd.zero) z=true then some (kd,vd) else none
     | none=>none
   | _,_,_,_=>none
 | _=>none
def r5(P:Program)(t:TypeId):Option D:=match P.underlying t with
 | some (.map kt _)=>match P.underlying kt,v8 P 4 kt with
   | some td,some kd=>if pY td kd=true then some kd else none
   | _,_=>none
 | _=>none
def Jy(P:Program)(t:TypeId):Option TypeId:=match P.underlying t with
 | some (.struct ⟨[f,g]⟩)=>match P.underlying f.type,P.underlying g.type,P.info? t with
   | some (.pointer t'),some (.slice el),some i=>match P.underlying el,i.zero with
     | some (.int .u8),some z=>if t'=t/\OV [.cZ,.nil] z.cells.toList=true then some el else none
     | _,_=>none
   | _,_,_=>none
 | _=>none
def unnamed(P:Program)(t:TypeId):Bool:=match P.info? t with
 | some { desc:=.slice _,.. }=>true
 | _=>false
def Ku(P : Program)(o : Oper) : Option L :=
 match o.op with
 | .makeMap t none=>match vo P t with|some (kd,vd)=>some (.mkmap t kd vd)|none=>match r5 P t with|some _=>some (.UF t)|none=>none
 | .mapUpdate t m k v=>match vo P t,bU m,bU k,bU v with|some (kd,vd),some m,some k,some v=>some (.ju kd vd m k v)|none,some m,some k,some v=>(match r5 P t with|some kd=>some (.QZ kd m k v)|none=>none)|_,_,_,_=>none
 | .insert t m k v=>match vo P t,bU m,bU k,bU v with|some (kd,vd),some m,some k,some v=>some (.ju kd vd m k v)|none,some m,some k,some v=>(match r5 P t with|some kd=>some (.QZ kd m k v)|none=>none)|_,_,_,_=>none
 | .lookup t m k ok=>match vo P t,bU m,bU k with|some (kd,vd),some m,some k=>some (.pV kd vd m k ok)|none,some m,some k=>(bif ok then none else match r5 P t with|some kd=>some (.mgetF kd m k)|none=>none)|_,_,_=>none
 | .assign (.const (.slice none 0 0))=>match P.underlying o.type with
   | some (.slice el)=>match v8 P 4 el with|some d=>some (.nil el d)|none=>none
   | _=>none
 | .move (.const (.slice none 0 0))=>match P.underlying o.type with
   | some (.slice el)=>match v8 P 4 el with|some d=>some (.nil el d)|none=>none
   | _=>none
 | .alloc t=>match Jy P t with
   | some el=>some (.UG t el)
   | none=>match QX P 8 t,P.info? t with
     | some fs,some i=>match i.zero with
       | some z=>if OV (fs.flatMap Fd.cells) z.cells.toList then some (.alloc t fs) else none
       | none=>none
     | _,_=>none
 | .call { callee:=.builtin .unsafeString,args:=⟨[x,y]⟩,argTypes:=⟨[pt,_]⟩ }=>match P.underlying pt,bU x,bU y with
   | some (.pointer el),some x,some y=>if P.cellsOf el=1 then some (.ustr el x y) else none
   | _,_,_=>none
 | .box t x=>match bU x with|some x=>(match Jy P t with|some el=>some (.boxB t el x)|none=>some (.box t (QX P 8 t) x))|none=>none
 | .store t x v=>match gT P t,bU x,bU v with|some n,some x,some v=>if n=0 then some (.st0 x v) else some (.store n x v)|_,_,_=>none
 | .makeInterface t x=>match P.underlying t,bU x with
   | some (.interface _),_=>none
   | some _,some x=>some (.mki t x)
   | _,_=>none
 | .typeAssert x _ t true=>match P.underlying t,P.info? t,bU x with
   | some (.interface _),_,_=>none
   | some _,some i,some x=>(match i.zero with
     | some z=>(match OI z with|some z=>some (.tas t z x)|none=>none)
     | none=>none)
   | _,_,_=>none
 | .makeSlice t l c=>match P.underlying t,bU l,bU c with
   | some (.slice el),some l,some c=>match P.info? el,v8 P 4 el with
     | some i,some d=>match i.zero with
       | some z=>if i.size=1/\1<=i.bytes/\zk (d.w d.zero) z=true then some (.make el i.bytes d l c) else none
       | none=>none
     | _,_=>none
   | _,_,_=>none
 | .buildSlice t len parts=>match P.underlying t with
   | some (.slice el)=>match gT P el,DZ 0 parts.toList,jZ P el with
     | some n,some ps,some z=>if n≠0/\ps.length=len/\len*n<=16777216/\z.length=n then some (.lit el n (if n=1 then v8 P 4 el else none) (unnamed P el) ps) else none
     | _,_,_=>none
   | _=>none
 | .call { callee := .builtin .append, args := ⟨[x, y]⟩, argTypes := ⟨[t, ts]⟩ } => match P.underlying t, bU x, bU y with
   | some (.slice el),some x,some y=>match P.info? el,jZ P el,v8 P 4 el with
     | some i,some z,some d=>match P.underlying ts with
       | some (.slice _)=>if i.size=1/\z.length=1/\1<=i.bytes then some (.append el i.bytes d x y) else none
       | some .string=>if i.size=1/\z.length=1/\1<=i.bytes then some (.append el i.bytes d x y) else none
       | some (.int _)=>match i.zero with
         | some zv=>if i.size=1/\1<=i.bytes/\zk (d.w d.zero) zv=true then some (.zeros el i.bytes d x y) else none
         | none=>none
       | _=>none
     | _,_,_=>none
   | _,_,_=>none
 | .call { callee:=.builtin .copy,args:=⟨[x,y]⟩,argTypes:=⟨[t,_]⟩ }=>match P.underlying t,bU x,bU y with
   | some (.slice el),some x,some y=>match gT P el,v8 P 4 el with|some n,some d=>if n=1 then some (.copy d x y) else none|_,_=>none
   | _,_,_=>none
 | .call { callee:=.builtin .clear,args:=⟨[x]⟩,argTypes:=⟨[t]⟩ }=>match P.underlying t,bU x with
   | some (.slice el),some x=>match P.info? el,v8 P 4 el with
     | some i,some d=>match i.zero with
       | some z=>if zk (d.w d.zero) z=true then some (.clear d x) else none
       | none=>none
     | _,_=>none
   | _,_=>none
 | .convert s d x=>match P.underlying s,P.underlying d,bU x with
   | some .string,some (.slice el),some x=>match P.underlying el with|some (.int .u8)=>some (.s2b x)|_=>none
   | some (.slice el),some .string,some x=>match P.underlying el with|some (.int .u8)=>some (.b2s x)|_=>none
   | _,_,_=>none
 | .call { callee:=.builtin .len,args:=⟨[x]⟩,argTypes:=⟨[t]⟩ }=>match vo P t,bU x with
   | some (kd,vd),some x=>some (.mlen kd vd x)
   | _,_=>none
 | _=>none
section
variable {P:Program} {base n:Nat} {η:Eta} {Z:Zeta} {S:ak} {w:World} {F:Fr} {a:Act}
theorem YD(s:ByteArray):(ai s).map (D.int .u8).w=zj s.data.toList:=by
 simp[ai,zj,D.w]
theorem Good.run{s s':Sem Next}{v:A}{S':ak}(h:s.run P w=s'.run P w)(g:Good P base η Z S w s' v S'):Good P base η Z S w s v S':=by
 unfold Good at g ⊢;rw[h];exact g
theorem xq(R:St base η Z S w){d:D}{x:W}{c:Cd}{ys:List d.ty}(e:CS S d x=some (c,ys))(hc:c){u:Value}(h:aI η Z x u):Src P η Z w u 1 (ys.map d.w):=by
 unfold CS at e;split at e;cases e;rw[h.nil_eq];exact uo _;rename_i d' l;split at e;rename_i hd;subst hd;cases e;exact src_rd R h;cases e;rename_i m off len sz;obtain⟨hs,e1⟩:=aA.aH e;have hs1:=o5 hs;subst hs1;split at e1;rename_i o ho;split at e1;rename_i l hl;cases e1;have cn:o.cells=l.map d.w:=Fd.jF hl;have:=Kl (P:=P) R h ho (Ob.ji cn) (by rw[cn];simp;exact hc);rw[cn,acS,<-acI,<-acy] at this;exact this;cases e1;cases e1;rename_i s;have:u=.string s:=by simpa only[aI,aQ] using h
 subst this;unfold strD at e;split at e;cases e;have h1:=src_str (P:=P) (η:=η) (Z:=Z) (w:=w) (s:=s);rw[<-YD] at h1;exact h1;cases e;cases e
theorem Q6{x:W}{c:Cd}{ys:List Int}(hx:∀ s,x≠.str s)(e:CS S (.int .u8) x=some (c,ys)){u:Value}(h:aI η Z x u):(∃ ad len cap,u=.slice ad len cap)/\∀ len cap,u=.slice none len cap->ys=[]:=by
 unfold CS at e;split at e;cases e;rw[h.nil_eq];exact⟨⟨none,0,0,rfl⟩,fun _ _ _=>rfl⟩;rename_i d' l;split at e;rename_i hd;subst hd;cases e;obtain⟨ad,len,cap,rfl,hl,hcap,hcs⟩:=h.rd;refine⟨⟨ad,len,cap,rfl⟩,fun len' cap' hh=>?_⟩;cases hh;rcases hcs with hcs|⟨b,off,cells,hh,_⟩;exact hcs;cases hh;cases e;rename_i m off len sz;obtain⟨hs,e1⟩:=aA.aH e;split at e1;rename_i o ho;split at e1;rename_i l hl;cases e1;rcases h with ⟨h0,rfl⟩|⟨p,cap,ad,hp,rfl,_⟩;subst h0;exact⟨⟨none,0,0,rfl⟩,fun _ _ _=>by simp⟩;exact⟨⟨some ad,len,cap,rfl⟩,fun _ _ hh=>by cases hh⟩;cases e1;cases e1;rename_i s;exact absurd rfl (hx s);cases e
theorem G5:∀{vs:List V}{us:List Value}{S S':ak}{Z:Zeta}{d:D}{c:Cd}{ys:List d.ty},St base η Z S w->FJ S d vs=some (c,ys,S')->c->bg (cW η Z) vs us->
 ∃ Z',Moves base η Z S w η Z' S' w/\bg (cW η Z') (ys.map fun y=>V.c (d.w y)) us
 | [],[],S,S',Z,d,c,ys,R,e,_,_=>by
   simp only[FJ] at e;cases e;exact⟨Z,Moves.refl R,trivial⟩
 | .c x::vs,u::us,S,S',Z,d,c,ys,R,e,hc,⟨h1,h2⟩=>by
   simp only[FJ] at e;split at e;rename_i c1 y S1 hf;split at e;rename_i c2 ys' S2 hfs;cases e;obtain⟨Z1,m1,r1,_⟩:=lS R hf hc.1 h1.2;obtain⟨Z2,m2,r2⟩:=G5 m1.st hfs hc.2 (h2.mono fun _ _=>cW.mono (Eta.le.refl _) m1.step.cG);exact⟨Z2,m1.trans m2,⟨D.jg _ _,(D.gC d).2 (cE.mono m2.step.cG d r1)⟩,r2⟩;cases e;cases e
 | .agg _::_,_::_,_,_,_,_,_,_,_,e,_,_=>by simp only[FJ] at e;cases e
theorem flat_w{d:D}(ys:List d.ty):(ys.map fun y=>V.c (d.w y)).flatMap V.cells=ys.map d.w:=by
 induction ys with
 | nil=>rfl
 | cons y ys ih=>simp[V.cells,ih]
theorem G6{sz:Nat}:∀{vs:List V},Jw sz vs=true->∀ v∈vs,v.cells.length=sz
 | [],_=>by simp
 | v::vs,h=>by
   simp only[Jw,ab0] at h;intro x hx;rcases List.mem_cons.1 hx with rfl|hx;exact abZ h.1;exact G6 h.2 x hx
theorem gY(ty:TypeId){d:D}(k:Nat)(l:List d.ty):(Ob.mk ty [.a k d l]).cells=l.map d.w:=by
 unfold Ob.cells;simp[Fd.cells]
theorem G7{d:D}{l ys:List d.ty}{off:Nat}(h:off+ys.length<=l.length):(spl l off ys).map d.w=jE (l.map d.w) off (ys.map d.w):=by
 apply acJ;intro i;rw[CO (by simpa using h)];unfold spl;simp only[ab9,ace];have h1:(l.take off).length=off:=by simp;omega
 by_cases hi:i<off;rw[if_neg (by omega),acs,ab7 (by omega),acd,if_pos hi];by_cases hi2:i<off+ys.length;rw[if_pos (by omega),acs,ab4 (by omega),h1,ab7 (by omega)];rw[if_neg (by omega),ab4 (by simp;omega),ab6];congr 2;simp;omega
theorem Kv(R:St base η Z S w){t:TypeId}(hk:gT P t=some 1){m i:Nat}{y:W}{c:Cd}{S':ak}(e:opn S m i y=some (c,S'))(hc:c){vx vy:Value}(hx:aI η Z (.ptr m i) vx)(hy:cW η Z (.c y) vy) :
 Good P base η Z S w (do Instr.storeAt t vx vy;pure Next.skip) (.aJ []) S':=by
 unfold opn at e;split at e;rename_i o ho;obtain⟨ho,hmo⟩:=kF ho;split at e;rename_i k d l hfs;obtain⟨hb1,e⟩:=aA.aH e;cases e;simp only[ab0,acf] at hb1;have hc:i<l.length:=hc;have cn:o.cells=l.map d.w:=by unfold Ob.cells;rw[hfs];simp[Fd.cells]
 have hnb:¬o.bytes:=(A8 cn hb1.2).resolve_right fun h0=>by
  rw[cn,List.map_eq_nil_iff] at h0;rw[h0] at hc;exact absurd hc (Nat.not_lt_zero _)
 refine(sD R hk ho hmo hnb (v:=.c y) hx hy rfl (by rw[cn];simp;omega)).alike (ak.oY rfl ?_);rw[Ob.eN];show ac2 Fd.cells [.a 1 d (l.take i),.c y,.a 1 d (l.drop (i+1))]=(o.cells).set i y;rw[cn];simp only[ab8,List.flatMap_nil,Fd.cells,List.append_nil,acy,acI];rw[List.set_eq_take_append_cons_drop,if_pos (by simpa using hc)];rfl;cases e;cases e
theorem Q7(R : St base η Z S w){t : TypeId}(hk : gT P t = some 1){m i : Nat}{y : W}{c : Cd}{S' : ak}(e : again S m i y = some (c, S'))(hc : c){vx vy : Value}(hx : aI η Z (.ptr m i) vx)(hy : cW η Z (.c y) vy) :
 Good P base η Z S w (do Instr.storeAt t vx vy;pure Next.skip) (.aJ []) S':=by
 unfold again at e;split at e;rename_i o ho;obtain⟨ho,hmo⟩:=kF ho;split at e;rename_i d l k off len sz l' hh;split at e;cases e;have hc:i=l.length:=hc;subst hc;obtain⟨k1,k2,hfs⟩:=Fd.OW hh;have cn:o.cells=l.map d.w++W.sl k off len sz::l'.map d.w:=by unfold Ob.cells;rw[hfs];simp[Fd.cells]
 have hnb:¬o.bytes:=fun hB=>by
  obtain⟨n,e⟩:=hB (W.sl k off len sz) (by rw[cn];simp);cases e
 refine(sD R hk ho hmo hnb (v:=.c y) hx hy rfl (by rw[cn];simp)).alike (ak.oY rfl ?_);rw[Ob.eN];show ac2 Fd.cells [.a 1 d l,.c y,.a 1 d l']=(o.cells).set l.length y;rw[cn,acB _ _ (by simp)];simp[Fd.cells];cases e;cases e;cases e
theorem UI(R : St base η Z S w){t : TypeId}(hk : gT P t = some 1){m i : Nat}{y : W}{c : Cd}{S' : ak}(e : YC S m i y = some (c, S'))(hc : c){vx vy : Value}(hx : aI η Z (.ptr m i) vx)(hy : cW η Z (.c y) vy) :
 Good P base η Z S w (do Instr.storeAt t vx vy;pure Next.skip) (.aJ []) S':=by
 unfold YC at e;split at e
 · split at e
   rename_i r hr;cases e;exact Kv R hk hr hc hx hy
   · split at e
     rename_i r hr;cases e;exact Q7 R hk hr hc hx hy;split at e;rename_i c1 S1 hs;split at e;rename_i c2 S2 hr;cases e;obtain⟨Z1,mv,_⟩:=FI R hs hc.1;exact Good.before mv (Kv mv.st hk hr hc.2 (hx.mono (Eta.le.refl _) mv.step.cG) (hy.mono (Eta.le.refl _) mv.step.cG));cases e;cases e
 cases e
def jT(Z:Zeta)(kd vd:D):List (kd.ty×vd.ty)->List MapEntry->Prop
 | [],[]=>True
 | (k,v)::l,e::es=>cE Z kd k e.key/\cE Z vd v e.val/\jT Z kd vd l es
 | _,_=>False
theorem vr{kd vd:D}:∀{l:List (kd.ty×vd.ty)}{es:List MapEntry},eH η Z (nQ kd vd l) es↔jT Z kd vd l es
 | [],[]=>by simp[nQ,eH,jT]
 | [],_::_=>by simp[nQ,eH,jT]
 | (_,_)::_,[]=>by simp[nQ,eH,jT]
 | (k,v)::l,e::es=>by
   simp only[nQ,eH,jT,D.gC,vr (l:=l)];exact⟨fun⟨⟨_,a⟩,⟨_,b⟩,c⟩=>⟨a,b,c⟩,fun⟨a,b,c⟩=>⟨⟨D.jg _ _,a⟩,⟨D.jg _ _,b⟩,c⟩⟩
theorem bytes_beq{a b:ByteArray}:(a==b)=true↔a=b:=by
 rw[<-aA.Ym];constructor;intro h;have:=Array.toList_inj.1 (aA.y4 h);exact ByteArray.ext this;intro h;rw[h];exact aA.vf _
theorem vv{td:TypeDesc}{kd:D}(h:pY td kd=true){k k':kd.ty}{u u':Value}(hu:cE Z kd k u)(hu':cE Z kd k' u'):Instr.sameNow td u u'=some (kd.jG k k')/\(kd.jG k k'=true->∀ n,Instr.sameBits n u' u=true):=by
 unfold pY at h;split at h;rename_i a b;have hab:=of_decide_eq_true h;subst hab;simp only[cE] at hu hu';subst hu;subst hu';refine⟨by simp[Instr.sameNow,D.jG];rfl,fun hk n=>?_⟩;have:=of_decide_eq_true hk;cases n<;>simp[Instr.sameBits]<;>exact this.symm;simp only[cE] at hu hu';subst hu;subst hu';refine⟨by simp only[Instr.sameNow,D.jG];exact congrArg some (Bool.eq_iff_iff.2 (bytes_beq.trans decide_eq_true_iff.symm)),fun hk n=>?_⟩;have h1:(show ByteArray from k)=k':=of_decide_eq_true hk;have h2:((show ByteArray from k')==k)=true:=bytes_beq.2 h1.symm;cases n<;>simp only[Instr.sameBits]<;>exact h2;cases h
theorem BP{td:TypeDesc}{kd vd:D}(h:pY td kd=true){k:kd.ty}{u:Value}(hu:cE Z kd k u):∀{l:List (kd.ty×vd.ty)}{es:List MapEntry}(i:Nat),jT Z kd vd l es->
 (kW kd vd k l=none->Instr.findNow td u es i=some none)/\(∀ v,kW kd vd k l=some v->∃ j v',Instr.findNow td u es i=some (some (j,v'))/\cE Z vd v v')
 | [],[],i,_=>⟨fun _=>rfl,fun v e=>by cases e⟩
 | (k',v')::l,e::es,i,⟨h1,h2,h3⟩=>by
   obtain⟨s1,_⟩:=vv h hu h1;simp only[kW,Instr.findNow,s1];cases hb:kd.jG k k' with
   | true=>exact⟨fun e=>(by cases e),fun v hv=>(by cases hv;exact⟨i,_,rfl,h2⟩)⟩
   | false=>exact BP h hu (i+1) h3
 | [],_::_,_,h=>h.elim
 | _::_,[],_,h=>h.elim
theorem BQ{td:TypeDesc}{kd vd:D}(h:pY td kd=true){k:kd.ty}{u:Value}(hu:cE Z kd k u){v:vd.ty}{y:Value}(hv:cE Z vd v y):∀{l:List (kd.ty×vd.ty)}{es:List MapEntry}(i:Nat),jT Z kd vd l es->
 (Instr.findNow td u es i=some none/\∀ c,jT Z kd vd (ju kd vd k v l) (es++[{ key:=u,val:=y,born:=c }]))∨
 (∃ j v' e,i<=j/\Instr.findNow td u es i=some (some (j,v'))/\es[j-i]? = some e/\(∀ n,Instr.sameBits n e.key u=true)/\jT Z kd vd (ju kd vd k v l) (es.set (j-i) { e with key:=u,val:=y }))
 | [],[],i,_=>.inl ⟨rfl,fun c=>⟨hu,hv,trivial⟩⟩
 | (k',v')::l,e::es,i,⟨h1,h2,h3⟩=>by
   obtain⟨s1,s2⟩:=vv h hu h1;simp only[ju,Instr.findNow,s1];cases hb:kd.jG k k' with
   | true =>
     refine .inr ⟨i,e.val,e,acH _,rfl,by simp,s2 hb,?_⟩;simp only[ac1,List.set_cons_zero,cond_true];exact⟨hu,hv,h3⟩
   | false =>
     rcases BQ h hu hv (i+1) h3 with ⟨a,b⟩|⟨j,v2,e2,a,b,c,d,f⟩;exact .inl ⟨a,fun c=>⟨h1,h2,b c⟩⟩;have hj:j-i=(j-(i+1))+1:=by omega
     refine .inr ⟨j,v2,e2,by omega,b,?_,d,?_⟩;rw[hj,ach];exact c;rw[hj,List.set_cons_succ];exact⟨h1,h2,f⟩
 | [],_::_,_,h=>h.elim
 | _::_,[],_,h=>h.elim
theorem zq{t:TypeId}{kd vd:D}(h:vo P t=some (kd,vd)):∃ kt et td z,P.underlying t=some (.map kt et)/\P.underlying kt=some td/\pY td kd=true/\aA.plainKey td=true/\(∀ w,(zeroValue et).run P w=.ok z w)/\zk (vd.w vd.zero) z=true:=by
 unfold vo at h;split at h;rename_i kt et hu;split at h;rename_i td kd' i vd' h1 h2 h3 h4;split at h;rename_i z hz;obtain⟨⟨h5,h6⟩,h⟩:=dH h;cases h;refine⟨kt,et,td,z,hu,h1,h5,?_,fun w=>?_,h6⟩;unfold pY at h5;split at h5;rfl;rfl;cases h5;simp[zeroValue,typeInfo,h3,hz];cases h;cases h;cases h
theorem St.qz(R:St base η Z S w){n:Nat}{o:Ob}{kd vd:D}{l:List (kd.ty×vd.ty)}(ho:S.get n=some o)(hl:o.qz kd vd=some l){u:Value}(hu:aI η Z (.mp n) u) :
 ∃ p es clock,η n=some p/\u=.map (some p.block)/\base<=p.block/\Z p.block=none/\w.heap[p.block]? = some (.map es clock)/\jT Z kd vd l es.toList:=by
 obtain⟨p,hp,rfl⟩:=hu;obtain⟨h1,h2,L⟩:=R.ar n o p ho hp;have hfs:=Ob.ents_fs hl;have cn:o.cells=.mh::nQ kd vd l:=by unfold Ob.cells;rw[hfs];simp[Fd.cells]
 obtain⟨es,k,h3,h4⟩:=L.maps (by unfold Ob.isMap;rw[cn];rfl);rw[cn] at h4;exact⟨p,es,k,hp,rfl,h1,h2,h3,vr.1 h4⟩
theorem Q8(R:St base η Z S w){t:TypeId}(kd vd:D):Good P base η Z S w (do pure (Next.value (<-Instr.makeMap t none))) (.p (.c (.mp S.next))) (S.add ⟨t,[.m kd vd []]⟩):=by
 obtain⟨g,hn⟩:=R.Ul (w':={ w with heap:=w.heap.push (.map #[] 0) }) (Ob.mk t [.m kd vd []]) (by unfold Ob.cells;simp[Fd.cells,nQ]) rfl rfl rfl rfl;exact Good.of (u:=.map (some w.heap.size)) (by simp[Instr.makeMap,newObj,Sem.run]) g.up ⟨by simp,_,hn,rfl⟩
theorem UJ(R:St base η Z S w){t:TypeId}{kd vd:D}(hd:vo P t=some (kd,vd)){n:Nat}{o:Ob}{l:List (kd.ty×vd.ty)}(ho:S.get n=some o)(hl:o.qz kd vd=some l){u uk:Value}(hu:aI η Z (.mp n) u){k:kd.ty}(hk:cE Z kd k uk)(ok:Bool) :
 Good P base η Z S w (do pure (Next.value (<-Instr.lookup t u uk ok))) (bif ok then .aJ [.c (vd.w (pV kd vd l k)),.c (.bool (tF kd vd l k))] else .p (.c (vd.w (pV kd vd l k)))) S:=by
 obtain⟨kt,et,td,z,ht,hkt,hkey,hpk,hz,hz'⟩:=zq hd;obtain⟨p,es,clock,hp,rfl,_,_,wh,hes⟩:=R.qz ho hl hu;have hg:(getObj p.block).run P w=.ok (.map es clock) w:=by simp[getObj,Sem.run,wh]
 obtain⟨f1,f2⟩:=BP hkey hk 0 hes;obtain⟨zr,zl,z1,_⟩:=v7 (η:=η) (Z:=Z) hz';have key:∃ y b,(Instr.lookup t (.map (some p.block)) uk ok).run P w=.ok (if ok then .tuple #[y,.bool b] else y) w/\aI η Z (vd.w (pV kd vd l k)) y/\tF kd vd l k=b:=by
  unfold pV tF;cases hm:kW kd vd k l with
  | none =>
    exact⟨z,false,by simp[Instr.lookup,run_underlying ht,aA.kZ w hkt hpk,hg,aA.mA w hkt (f1 hm),hz],zr,rfl⟩
  | some v =>
    obtain⟨j,v',g1,g2⟩:=f2 v hm;exact⟨v',true,by simp[Instr.lookup,run_underlying ht,aA.kZ w hkt hpk,hg,aA.mA w hkt g1],(D.gC vd).2 g2,rfl⟩
 obtain⟨y,b,hrun,hy,hb⟩:=key;refine Good.of hrun (Moves.refl R) ?_;cases ok;exact⟨D.jg _ _,hy⟩;exact⟨[y,.bool b],rfl,⟨D.jg _ _,hy⟩,⟨by simp,by simp[aI,aQ,hb]⟩,trivial⟩
theorem Kw{Z:Zeta}{kd vd:D}:∀{l:List (kd.ty×vd.ty)}{es:List MapEntry},jT Z kd vd l es->es.length=l.length
 | [],[],_=>rfl
 | _::l,_::es,⟨_,_,h⟩=>by rw[acz,acz,Kw h]
 | [],_::_,h=>h.elim
 | _::_,[],h=>h.elim
theorem UK(R:St base η Z S w){t ty:TypeId}{kd vd:D}(hd:vo P t=some (kd,vd)){n:Nat}{o:Ob}{l:List (kd.ty×vd.ty)}(ho:S.get n=some o)(hl:o.qz kd vd=some l){u:Value}(hu:aI η Z (.mp n) u) :
 Good P base η Z S w (do pure (Next.value (<-Builtin.len_ #[t] ty #[u]))) (.p (.c (.int .i64 (l.length:Nat)))) S:=by
 obtain⟨kt,et,td,z,ht,hkt,hkey,hpk,hz,hz'⟩:=zq hd;obtain⟨p,es,clock,hp,rfl,_,_,wh,hes⟩:=R.qz ho hl hu;have hg:(getObj p.block).run P w=.ok (.map es clock) w:=by simp[getObj,Sem.run,wh]
 have hsz:es.size=l.length:=by rw[<-acP];exact Kw hes
 refine Good.of (u:=.int .i64 (l.length:Nat)) ?_ (Moves.refl R) ⟨by simp,by simp[aI,aQ]⟩;simp[Builtin.len_,run_underlying ht,hg,hsz,goInt]
theorem G8(R:St base η Z S w){t:TypeId}{kd vd:D}(hd:vo P t=some (kd,vd)){n:Nat}{o:Ob}{l:List (kd.ty×vd.ty)}(ho:S.get n=some o)(hl:o.qz kd vd=some l){u uk uv:Value}(hu:aI η Z (.mp n) u){k:kd.ty}(hk:cE Z kd k uk){v:vd.ty}(hv:cE Z vd v uv) :
 Good P base η Z S w (do Instr.mapUpdate t u uk uv;pure Next.skip) (.aJ []) (S.put n ⟨o.ty,[.m kd vd (ju kd vd k v l)]⟩):=by
 obtain⟨kt,et,td,z,ht,hkt,hkey,hpk,hz,hz'⟩:=zq hd;obtain⟨p,es,clock,hp,rfl,hb,hZ,wh,hes⟩:=R.qz ho hl hu;have hg:(getObj p.block).run P w=.ok (.map es clock) w:=by simp[getObj,Sem.run,wh]
 have hset:∀ o,(setObj p.block o).run P w=.ok () (w.putObj p.block o):=fun o=>by simp[setObj,Sem.run,wh,World.putObj]
 have fin:∀(UL:Array MapEntry)(c:Nat),jT Z kd vd (ju kd vd k v l) UL.toList->(Instr.mapUpdate t (.map (some p.block)) uk uv).run P w=.ok () (w.putObj p.block (.map UL c))->
  Good P base η Z S w (do Instr.mapUpdate t (.map (some p.block)) uk uv;pure Next.skip) (.aJ []) (S.put n ⟨o.ty,[.m kd vd (ju kd vd k v l)]⟩):=by
  intro UL c h2 hrun;have cn:(Ob.mk o.ty [.m kd vd (ju kd vd k v l)]).cells=.mh::nQ kd vd (ju kd vd k v l):=by unfold Ob.cells;simp[Fd.cells]
  have hm:(Ob.mk o.ty [.m kd vd (ju kd vd k v l)]).isMap:=by unfold Ob.isMap;rw[cn];rfl
  have g:=R.write (w':=w.putObj p.block (.map UL c)) ho hp (o':=Ob.mk o.ty [.m kd vd (ju kd vd k v l)]) rfl rfl rfl (by simp[World.putObj]) (fun b hb=>by simp only[World.putObj];rw[acD (Ne.symm hb)])
   (dN.map hm ⟨UL,c,aA.u7 (cS wh),by rw[cn];exact vr.2 h2⟩)
  exact Good.Uw hrun g.up
 rcases BQ hkey hk hv 0 hes with ⟨a,b⟩|⟨j,v2,e2,_,h1,h4,h5,f⟩;refine fin (es.push { key:=uk,val:=uv,born:=clock }) (clock+1) (by simpa using b clock) ?_;simp[Instr.mapUpdate,run_underlying ht,hg,aA.kZ w hkt hpk,aA.mA w hkt a,hset]
 · rw[Nat.sub_zero] at h4 f
   have hj:j<es.size:=by have:=(List.getElem?_eq_some_iff.1 h4).1;simpa using this
   have hmod:es.modify j (fun e=>{ e with key:=uk,val:=uv })=(es.toList.set j { e2 with key:=uk,val:=uv }).toArray:=by
    apply acV;rw[Array.toList_modify];apply acJ;intro i;rw[List.getElem?_modify,acu];by_cases hij:j=i;subst hij;simp only[if_pos,acP,hj];rw[h4];rfl;simp[hij]
   have h4':es[j]? = some e2:=by rw[<-acN];exact h4
   refine fin (es.toList.set j { e2 with key:=uk,val:=uv }).toArray clock (by simpa using f) ?_;simp[Instr.mapUpdate,run_underlying ht,hg,aA.kZ w hkt hpk,aA.mA w hkt h1,Instr.keyThatStays,h4',h5,hset,hmod]
set_option maxHeartbeats 1000000 in
theorem liesAt_bytes'{e:TypeId}(hc:P.cellsOf e=1)(count off n:Nat)(hn:off+n<=count):liesAt P P.depth e count off e n=true:=by
 have hd:P.depth=(2*(P.types.size+Made.depth)+1)+1:=rfl;rw[hd];simp only[liesAt,acL];left;rw[hd];simp[rowAt,hc,hn,sameLayout,ac4]
theorem NZ(R : St base η Z S w){t el : TypeId}(h : Jy P t = some el) :
 Good P base η Z S w (do pure (Next.value (<-Instr.alloc t true (.tuple #[])))) (.p (.c (.ptr S.next 0))) ((S.add ⟨t,[.c (.ba S.next),.c (.sl (S.next+1) 0 0 1)]⟩).add ⟨el,[.a 0 (.int .u8) []]⟩):=by
 obtain⟨i, z, hi, hz, hzs⟩ : ∃ i z, P.info? t = some i ∧ i.zero = some z ∧ OV [.cZ, .nil] z.cells.toList = true := by
  unfold Jy at h;split at h;split at h;rename_i hi;split at h;rename_i hz;obtain⟨⟨_,h2⟩,_⟩:=dH h;exact⟨_,_,hi,hz,h2⟩;cases h;cases h;cases h
 obtain⟨h1,h3⟩:=FH (η:=η) (Z:=Z) hzs;have hz':(zeroValue t).run P w=.ok z w:=by simp[zeroValue,typeInfo,hi,hz]
 obtain⟨w',hr,g,hn⟩:=oZ (P:=P) R t h1 h3;generalize η.add S.next ⟨w.heap.size,0,z.cells.size,[]⟩=dR at g hn
 have G9:(S.add (Ob.of t [.cZ,.nil])).get S.next=some (Ob.of t [.cZ,.nil]):=by rw[ak.fu R.fw,if_pos rfl]
 have m2:=g.st.oJ (o:=⟨el,[.a 0 (.int .u8) []]⟩) (by rw[gY];rfl);have Kx:((S.add (Ob.of t [.cZ,.nil])).add ⟨el,[.a 0 (.int .u8) []]⟩).get S.next=some (Ob.of t [.cZ,.nil]):=by
  rw[ak.fu g.st.fw,if_neg (by show S.next≠S.next+1;omega)];exact G9
 obtain⟨_,_,L⟩:=m2.st.ar _ _ _ Kx hn;have hm1:¬(Ob.of t [.cZ,.nil]).eU:=by simp[Ob.eU,Ob.isMap,Ob.iB]
 have hm2:¬(Ob.mk t [.c (.ba S.next),.c (.sl (S.next+1) 0 0 1)]).eU:=by simp[Ob.eU,Ob.isMap,Ob.iB,Ob.cells,Fd.cells]
 obtain⟨c,fz,c1,c2,c3,c4⟩:=L.there hm1
 have g3:=m2.st.write (w':=w') Kx hn (o':=⟨t,[.c (.ba S.next),.c (.sl (S.next+1) 0 0 1)]⟩) rfl rfl rfl rfl (fun _ _=>rfl)
  (dN.plain hm2 ⟨c,fz,c1,c2,fun i x hx=>by
   have e:(Ob.mk t [.c (.ba S.next),.c (.sl (S.next+1) 0 0 1)]).cells=[.ba S.next,.sl (S.next+1) 0 0 1]:=rfl;rw[e] at hx
   match i,hx with
   | 0,hx =>
     cases hx;obtain⟨v,hv,hr,ho⟩:=c3 0 .cZ (by simp);have:v=.pointer none:=by simpa only[aI,aQ] using hr
     exact⟨v,hv,⟨_,hn,rfl,.inl this⟩,ho⟩
   | 1,hx =>
     cases hx;obtain⟨v,hv,hr,ho⟩:=c3 1 .nil (by simp);have:v=.slice none 0 0:=by simpa only[aI,aQ] using hr
     exact⟨v,hv,.inl ⟨rfl,this⟩,ho⟩
   | i+2,hx=>simp at hx,c4.plain fun hB=>by obtain⟨q,e⟩:=hB .cZ (by simp);cases e⟩ (by
     have:=L.size hm1;rw[Ob.eN] at this;exact this))
 have gd:Good P base η Z S w (do pure (Next.value (<-Instr.alloc t true (.tuple #[])))) (.p (.c (.ptr S.next 0))) _:=Good.of (u:=.pointer (some ⟨w.heap.size,0,none⟩)) (by simp[Instr.alloc,hz',newVar,hr]) ((g.up.trans m2).trans g3.up) ⟨by simp,_,hn,by simp⟩;refine gd.alike ⟨⟨rfl,rfl⟩,fun n=>?_⟩;have hA:∀ k,((S.add ⟨t,[.c (.ba S.next),.c (.sl (S.next+1) 0 0 1)]⟩).add ⟨el,[.a 0 (.int .u8) []]⟩).get k=if k=S.next+1 then some ⟨el,[.a 0 (.int .u8) []]⟩ else if k=S.next then some ⟨t,[.c (.ba S.next),.c (.sl (S.next+1) 0 0 1)]⟩ else S.get k:=by
  intro k;have h0:(S.add ⟨t,[.c (.ba S.next),.c (.sl (S.next+1) 0 0 1)]⟩).get (S.next+1)=none:=by
   rw[ak.fu R.fw,if_neg (by omega)];cases hk:S.get (S.next+1) with
   | none=>rfl
   | some o=>have:=R.known _ _ hk;omega
  rw[ak.fu (S:=S.add _) h0];show (if k=S.next+1 then _ else _)=_;rw[ak.fu R.fw]
 have hB:∀ k,(((S.add (Ob.of t [.cZ,.nil])).add ⟨el,[.a 0 (.int .u8) []]⟩).put S.next ⟨t,[.c (.ba S.next),.c (.sl (S.next+1) 0 0 1)]⟩).get k=if k=S.next then some ⟨t,[.c (.ba S.next),.c (.sl (S.next+1) 0 0 1)]⟩ else if k=S.next+1 then some ⟨el,[.a 0 (.int .u8) []]⟩ else S.get k:=by
  intro k;rw[ak.iR,Kx,ak.fu g.st.fw];by_cases h1:k=S.next
  rw[if_pos h1,if_pos h1];rfl
  . rw[if_neg h1,if_neg h1];by_cases h2:k=S.next+1
    rw[if_pos h2];exact if_pos h2;rw[if_neg h2,ak.fu R.fw,if_neg h1];exact if_neg h2
 rw[hA,hB];by_cases h1:n=S.next
 subst h1;rw[if_pos rfl,if_neg (by omega),if_pos rfl];exact⟨rfl,rfl⟩
 . rw[if_neg h1];by_cases h2:n=S.next+1
   subst h2;rw[if_pos rfl,if_pos rfl];exact⟨rfl,rfl⟩;rw[if_neg h2,if_neg h2,if_neg h1];cases S.get n with
   | none=>trivial
   | some o=>exact⟨rfl,rfl⟩
theorem UM(R:St base η Z S w){t el:TypeId}{v:V}{u:Value}(h:cW η Z v u)(hv:v.cells=[.cZ,.nil]) :
 Good P base η Z S w (do pure (Next.value (<-Instr.box t u))) (.p (.c (.ptr S.next 0))) ((S.add ⟨t,[.c (.ba S.next),.c (.sl (S.next+1) 0 0 1)]⟩).add ⟨el,[.a 0 (.int .u8) []]⟩):=by
 obtain⟨h1,_,h3⟩:=h.cells;rw[hv] at h1;obtain⟨w',hr,g,hn⟩:=oZ (P:=P) R t h1 h3;generalize η.add S.next ⟨w.heap.size,0,u.cells.size,[]⟩=dR at g hn
 have G9:(S.add (Ob.of t [.cZ,.nil])).get S.next=some (Ob.of t [.cZ,.nil]):=by rw[ak.fu R.fw,if_pos rfl]
 have m2:=g.st.oJ (o:=⟨el,[.a 0 (.int .u8) []]⟩) (by rw[gY];rfl);have Kx:((S.add (Ob.of t [.cZ,.nil])).add ⟨el,[.a 0 (.int .u8) []]⟩).get S.next=some (Ob.of t [.cZ,.nil]):=by
  rw[ak.fu g.st.fw,if_neg (by show S.next≠S.next+1;omega)];exact G9
 obtain⟨_,_,L⟩:=m2.st.ar _ _ _ Kx hn;have hm1:¬(Ob.of t [.cZ,.nil]).eU:=by simp[Ob.eU,Ob.isMap,Ob.iB]
 have hm2:¬(Ob.mk t [.c (.ba S.next),.c (.sl (S.next+1) 0 0 1)]).eU:=by simp[Ob.eU,Ob.isMap,Ob.iB,Ob.cells,Fd.cells]
 obtain⟨c,fz,c1,c2,c3,c4⟩:=L.there hm1
 have g3:=m2.st.write (w':=w') Kx hn (o':=⟨t,[.c (.ba S.next),.c (.sl (S.next+1) 0 0 1)]⟩) rfl rfl rfl rfl (fun _ _=>rfl)
  (dN.plain hm2 ⟨c,fz,c1,c2,fun i x hx=>by
   have e:(Ob.mk t [.c (.ba S.next),.c (.sl (S.next+1) 0 0 1)]).cells=[.ba S.next,.sl (S.next+1) 0 0 1]:=rfl;rw[e] at hx
   match i,hx with
   | 0,hx =>
     cases hx;obtain⟨v,hv,hr,ho⟩:=c3 0 .cZ (by simp);have:v=.pointer none:=by simpa only[aI,aQ] using hr
     exact⟨v,hv,⟨_,hn,rfl,.inl this⟩,ho⟩
   | 1,hx =>
     cases hx;obtain⟨v,hv,hr,ho⟩:=c3 1 .nil (by simp);have:v=.slice none 0 0:=by simpa only[aI,aQ] using hr
     exact⟨v,hv,.inl ⟨rfl,this⟩,ho⟩
   | i+2,hx=>simp at hx,c4.plain fun hB=>by obtain⟨q,e⟩:=hB .cZ (by simp);cases e⟩ (by
     have:=L.size hm1;rw[Ob.eN] at this;exact this))
 have gd:Good P base η Z S w (do pure (Next.value (<-Instr.box t u))) (.p (.c (.ptr S.next 0))) _:=Good.of (u:=.pointer (some ⟨w.heap.size,0,none⟩)) (by simp[Instr.box,newVar,hr]) ((g.up.trans m2).trans g3.up) ⟨by simp,_,hn,by simp⟩;refine gd.alike ⟨⟨rfl,rfl⟩,fun n=>?_⟩;have hA:∀ k,((S.add ⟨t,[.c (.ba S.next),.c (.sl (S.next+1) 0 0 1)]⟩).add ⟨el,[.a 0 (.int .u8) []]⟩).get k=if k=S.next+1 then some ⟨el,[.a 0 (.int .u8) []]⟩ else if k=S.next then some ⟨t,[.c (.ba S.next),.c (.sl (S.next+1) 0 0 1)]⟩ else S.get k:=by
  intro k;have h0:(S.add ⟨t,[.c (.ba S.next),.c (.sl (S.next+1) 0 0 1)]⟩).get (S.next+1)=none:=by
   rw[ak.fu R.fw,if_neg (by omega)];cases hk:S.get (S.next+1) with
   | none=>rfl
   | some o=>have:=R.known _ _ hk;omega
  rw[ak.fu (S:=S.add _) h0];show (if k=S.next+1 then _ else _)=_;rw[ak.fu R.fw]
 have hB:∀ k,(((S.add (Ob.of t [.cZ,.nil])).add ⟨el,[.a 0 (.int .u8) []]⟩).put S.next ⟨t,[.c (.ba S.next),.c (.sl (S.next+1) 0 0 1)]⟩).get k=if k=S.next then some ⟨t,[.c (.ba S.next),.c (.sl (S.next+1) 0 0 1)]⟩ else if k=S.next+1 then some ⟨el,[.a 0 (.int .u8) []]⟩ else S.get k:=by
  intro k;rw[ak.iR,Kx,ak.fu g.st.fw];by_cases h1:k=S.next
  rw[if_pos h1,if_pos h1];rfl
  . rw[if_neg h1,if_neg h1];by_cases h2:k=S.next+1
    rw[if_pos h2];exact if_pos h2;rw[if_neg h2,ak.fu R.fw,if_neg h1];exact if_neg h2
 rw[hA,hB];by_cases h1:n=S.next
 subst h1;rw[if_pos rfl,if_neg (by omega),if_pos rfl];exact⟨rfl,rfl⟩
 . rw[if_neg h1];by_cases h2:n=S.next+1
   subst h2;rw[if_pos rfl,if_pos rfl];exact⟨rfl,rfl⟩;rw[if_neg h2,if_neg h2,if_neg h1];cases S.get n with
   | none=>trivial
   | some o=>exact⟨rfl,rfl⟩
theorem UN(R:St base η Z S w){pt it ty el:TypeId}(hp:P.underlying pt=some (.pointer el))(hc:P.cellsOf el=1){m i:Nat}{o:Ob}{l:List Int}(ho:S.get m=some o)(hty:o.ty=el)(hl:Fd.list (.int .u8) o.fs=some l)
 {u:Value} (hu:aI η Z (.pe m 0 i) u) {kk:IntKind} {k:Nat} (h0:0<k) (hk:i+k<=l.length) (h63:k<=9223372036854775807) :
 Good P base η Z S w (do pure (Next.value (<-Builtin.unsafeString_ #[pt,it] ty #[u,.int kk k]))) (.p (.c (.str (bt ((l.drop i).take k))))) S:=by
 obtain⟨pl,hpl,rfl⟩:=hu;have cn:=Fd.jF hl;have hmo:¬o.eU:=Ob.ji (o:=o) cn;obtain⟨hb,hz,L⟩:=R.ar m o pl ho hpl;obtain⟨c,fz,c1,c2,c3,c4⟩:=L.there hmo;have hroom:=L.size hmo;have hlen:o.cells.length=l.length:=by unfold Ob.cells;rw[cn];simp
 obtain⟨vs,v1,v2,v3,v4⟩:=R.reads ho hpl hmo (off:=i) (k:=k) (by omega);have hvs:vs=(((l.drop i).take k).map fun n=>Value.int .u8 n):=by
  have e:(o.cells.drop i).take k=((l.drop i).take k).map (D.int .u8).w:=by
   unfold Ob.cells;rw[cn];simp[acI,acy]
  rw[e] at v1;exact CR v1
 have w9 : ∀(l : List Int)(a : Addr)(acc : ByteArray), (∀ j x, l[j]? = some x → w.cell? (a.add j) = some (.int .u8 x)) → (loadBytes a acc l.length).run P w = .ok (l.foldl (fun r n => r.push (UInt8.ofNat n.toNat)) acc) w := by
  intro l
  induction l with
  | nil=>intro a acc _;simp[loadBytes]
  | cons x l ih =>
    intro a acc h;have h0:w.cell? a=some (.int .u8 x):=by
     have:=h 0 x rfl;simpa[Addr.add] using this
    have ih:=ih (a.add 1) (acc.push (UInt8.ofNat x.toNat)) (fun j y hy=>by
     have:=h (j+1) y (by simpa using hy);have e:(a.add 1).add j=a.add (j+1):=by
      unfold Addr.add;by_cases hj:j=0;subst hj;simp;simp[hj];omega
     rw[e];exact this)
    simp only[acz,loadBytes,Sem.run_bind,run_load,h0,Result.andThen];exact ih
 have hkl:((l.drop i).take k).length=k:=by simp;omega
 have hrd:=w9 ((l.drop i).take k) ⟨pl.block,pl.off+i,none⟩ .empty (fun j x hx=>by
  rw[Addr.add_lit];refine v4 j _ ?_;rw[hvs,ab9,hx];rfl)
 rw[hkl,<-CQ] at hrd;have hsh:w.shape? pl.block=some (el,c.size):=by rw[<-hty];simp[World.shape?,c1]
 have hlies:=liesAt_bytes' (P:=P) hc (c.size/P.cellsOf el) (pl.off+i) k (by rw[hc,aci];omega);have hrun:(Builtin.unsafeString_ #[pt,it] ty #[.pointer (some ⟨pl.block,pl.off+i,none⟩),.int kk k]).run P w=.ok (.string (bt ((l.drop i).take k))) (w.freeze ⟨pl.block,pl.off+i,none⟩ k):=by
  have hdef:Builtin.unsafeString_ #[pt,it] ty #[.pointer (some ⟨pl.block,pl.off+i,none⟩),.int kk k] =
   (do
    let n <-asInt (.int kk k)
    if n<0 then runtimePanic (.error "unsafe.String: len out of range")
    if n>IntKind.i64.max then unsupported (.unsafePointer "String: a length above the largest int")
    if n=0 then pure (.string .empty)
    else if <-variablesAt ⟨pl.block,pl.off+i,none⟩ (<-elemOf pt) n.toNat then do
     let s <-loadBytes ⟨pl.block,pl.off+i,none⟩ .empty n.toNat
     freeze ⟨pl.block,pl.off+i,none⟩ n.toNat
     pure (.string s)
    else unsupported (.unsafePointer "String: not so many bytes at ptr")):=rfl
  rw[hdef];have hmax:IntKind.i64.max=9223372036854775807:=rfl;have e1:¬((k:Int)<0):=by omega
  have e2:¬((9223372036854775807:Int)<(k:Int)):=by omega
  have e3:k≠0:=by omega
  simp[asInt,asIntOf,hmax,e2,e3,variablesAt,elemOf,run_underlying hp,hsh,hlies,hrd,freeze,Sem.run];intro h;omega
 have gk:∀ q,q≠pl.block->(w.freeze ⟨pl.block,pl.off+i,none⟩ k).heap[q]? = w.heap[q]?:=by
  intro q hq;unfold World.freeze;rw[if_neg (by omega)];simp[acC,Ne.symm hq]
 have hsz:(w.freeze ⟨pl.block,pl.off+i,none⟩ k).heap.size=w.heap.size:=by
  unfold World.freeze;rw[if_neg (by omega)];simp
 have Kn : ∃ zi, (w.freeze ⟨pl.block, pl.off + i, none⟩ k).heap[pl.block]? = some (.cells c o.ty zi) ∧ y8 o pl zi := by
  have hB:o.bytes:=by
   intro x hx;unfold Ob.cells at hx;rw[cn] at hx;obtain⟨y,_,rfl⟩:=List.mem_map.1 hx;exact⟨y,rfl⟩
  refine⟨if fz.1==fz.2 then(pl.off+i,pl.off+i+k) else(min fz.1 (pl.off+i),max fz.2 (pl.off+i+k)),?_,?_⟩;unfold World.freeze;rw[if_neg (by omega)];simp only[acC,if_true,c1,Option.map_some];refine .inr ⟨hB,?_⟩;rw[hlen];split;show pl.off+i+k<=_;omega;rename_i hne;show max fz.2 (pl.off+i+k)<=_;rcases c4.tail with h|h;exact absurd (by simpa using h) hne;rw[hlen] at h;omega
 obtain⟨zi,hb1,hb2⟩:=Kn;simp only[acQ]
 have g:=R.write (w':=w.freeze ⟨pl.block,pl.off+i,none⟩ k) ho hpl (o':=o) (by unfold World.freeze;rw[if_neg (by omega)]) (by unfold World.freeze;rw[if_neg (by omega)]) (by unfold World.freeze;rw[if_neg (by omega)]) hsz gk
  (dN.Uk hmo ⟨c,zi,hb1,c2,c3,hb2⟩ hroom)
 refine(show Good P base η Z S w (do pure (Next.value (<-Builtin.unsafeString_ #[pt,it] ty #[.pointer (some ⟨pl.block,pl.off+i,none⟩),.int kk k]))) (.p (.c (.str (bt ((l.drop i).take k))))) (S.put m o) from Good.of hrun g.up qy).alike ⟨⟨rfl,rfl⟩,fun q=>?_⟩;rw[ak.iR];by_cases hq:q=m;subst hq;rw[if_pos rfl,ho];exact⟨rfl,rfl⟩;rw[if_neg hq];cases S.get q with
 | none=>trivial
 | some x=>exact⟨rfl,rfl⟩
theorem Jp(R:St base η Z S w){t:TypeId}(hs:gT P t=some 1){m i j k:Nat}{af:List (List Int)}{o:Ob}(ho:S.get m=some o)(hto:o.iB k af){u:Value}(hx:aI η Z (.pN m i j) u)(hi:i<af.length)(hj:j<k){y:Int} :
 Good P base η Z S w (do Instr.storeAt t u (.int .i64 y);pure Next.skip) (.aJ []) (S.put m ⟨o.ty,[.c (.th k (af.set i ((af.getD i []).set j y)))]⟩):=by
 obtain⟨p,r,hp,hr,rfl⟩:=hx;obtain⟨_,_,L⟩:=R.ar m o p ho hp;have T:=L.tabs k af hto;have OX:af.getD i []=af[i]:=by rw[aco,ab2 hi];rfl
 obtain⟨hl,c,ty,fz,hc,hsz,hv,hfz⟩:=T.row i r af[i] hr (ab2 hi)
 have hst:=run_storeCells_cells (P:=P) r.1 (r.2+j) [Value.int .i64 y] 0 w
  (fun q hq=>by
   have hq0:q=0:=by simpa using hq
   subst hq0;have:r.2+j+0<c.size:=by omega
   simp[World.cell?,hc];simpa using this)
  (fun q hq=>by
   have hq0:q=0:=by simpa using hq
   subst hq0;have:=hfz (r.2+j+0) (by omega) (by omega);simp only[World.frozen?,hc];simpa using this) (by intro x hx;rw[List.mem_singleton] at hx;subst hx;rfl)
 simp only[Nat.add_zero] at hst;obtain⟨c',g1,g2,g3,g4⟩:=aA.l8 [Value.int .i64 y] (r.2+j) w c hc;have yP:=aA.iS (base:=0) (bk:=r.1) (acM _) [Value.int .i64 y] (r.2+j) w;have hnd:=T.nodup;rw[List.nodup_cons] at hnd;have hrb:r.1∈p.sats:=List.mem_map.2 ⟨r,ab1 hr,rfl⟩;have hpb:p.block≠r.1:=fun e=>hnd.1 (e▸hrb);have gk:∀ b,b≠r.1->(w.setCells r.1 (r.2+j) [Value.int .i64 y]).heap[b]? = w.heap[b]?:=fun b hb=>aA.gS hb _ _ _
 have g := R.Un (w' := w.setCells r.1 (r.2 + j) [Value.int .i64 y]) ho hp (o' := ⟨o.ty, [.c (.th k (af.set i ((af.getD i []).set j y)))]⟩) (Place.OD hr) yP.os yP.tape yP.output (aA.l9 _ _ _) gk ⟨_, g1, rfl⟩
  (dN.tab (k:=k) (af:=af.set i ((af.getD i []).set j y)) (J7 rfl) ⟨by
   obtain⟨co,fo,q1,q2⟩:=T.outer;exact⟨co,fo,(gk _ hpb).trans q1,q2⟩,by rw[acF];exact T.len,by rw[acF];exact T.room,by
   intro i' r' l' hr' hl';by_cases hii:i'=i;subst hii;rw[hr] at hr';cases hr';rw[acu,if_pos rfl,if_pos hi,OX] at hl';cases hl';refine⟨by rw[acF];exact hl,c',ty,fz,g1,by omega,?_,by rw[g2];exact hfz⟩;intro j' x hx;rw[acu] at hx;by_cases hjj:j=j';subst hjj;rw[if_pos rfl,if_pos (by omega)] at hx;cases hx;have:=g4 0 (by simp) (by omega);simpa using this;rw[if_neg hjj] at hx;rw[g3 _ (by simp;omega)];exact hv j' x hx;rw[acu,if_neg (Ne.symm hii)] at hl';obtain⟨q0,cq,tq,fq,q1,q2⟩:=T.row i' r' l' hr' hl';refine⟨q0,cq,tq,fq,(gk _ fun e=>?_).trans q1,q2⟩;have h1:i'<p.sats.length:=by unfold Place.sats;rw[ace];exact(List.getElem?_eq_some_iff.1 hr').1
   have h2:=(acv h1 hnd.2 (j:=i)).1 (by
    show p.sats[i']? = p.sats[i]?;unfold Place.sats;rw[ab9,ab9,hr,hr'];show some r'.1=some r.1;rw[e])
   exact hii h2,T.nodup⟩)
 refine Good.Uw ?_ g.up;simp[Instr.storeAt,Instr.sureAddr,storeVar,dW hs,Value.cells,hst]
theorem He{t:TypeId}{kd:D}(h:r5 P t=some kd):∃ kt et td,P.underlying t=some (.map kt et)/\P.underlying kt=some td/\pY td kd=true/\aA.plainKey td=true:=by
 unfold r5 at h;split at h;rename_i kt et hu;split at h;rename_i td kd' h1 h2;obtain⟨h5,h⟩:=dH h;cases h;refine⟨kt,et,td,hu,h1,h5,?_⟩;unfold pY at h5;split at h5;rfl;rfl;cases h5;cases h;cases h
theorem zu{td:TypeDesc}{kd:D}(h:pY td kd=true){k:kd.ty}{u:Value}(hu:cE Z kd k u):∀{fs:List Fd}{l:List (kd.ty×W)}{es:List MapEntry}(i:Nat),pW kd fs=some l->eH η Z (fs.flatMap Fd.cells) es->
 (zo kd k l=none->Instr.findNow td u es i=some none)/\(∀ v,zo kd k l=some v->∃ j v',Instr.findNow td u es i=some (some (j,v'))/\v≠.dead/\aI η Z v v')
 | [],l,es,i,e,r=>by
   simp only[pW] at e;cases e;cases es with
   | nil=>exact⟨fun _=>rfl,fun v e=>by cases e⟩
   | cons _ _=>simp[eH] at r
 | .c kw::.c vw::fs,l,es,i,e,r=>by
   simp only[pW] at e;split at e
   . rename_i x l' hx hl;obtain⟨_,e⟩:=aA.aH e;cases e;cases es with
     | nil=>simp[eH,Fd.cells] at r
     | cons e0 es =>
       have r:(kw≠.dead/\aI η Z kw e0.key)/\(vw≠.dead/\aI η Z vw e0.val)/\eH η Z (fs.flatMap Fd.cells) es:=r;obtain⟨r1,r2,r3⟩:=r;obtain⟨s1,_⟩:=vv h hu (mE hx r1.2);simp only[zo,Instr.findNow,s1];cases hb:kd.jG k x with
       | true=>exact⟨fun e=>(by cases e),fun v hv=>(by cases hv;exact⟨i,_,rfl,r2.1,r2.2⟩)⟩
       | false=>exact zu h hu (i+1) hl r3
   cases e
 | [.c _],_,_,_,e,_=>by simp[pW] at e
 | .a _ _ _::_,_,_,_,e,_=>by simp[pW] at e
 | .m _ _ _::_,_,_,_,e,_=>by simp[pW] at e
 | .c _::.a _ _ _::_,_,_,_,e,_=>by simp[pW] at e
 | .c _::.m _ _ _::_,_,_,_,e,_=>by simp[pW] at e
theorem BR{kd:D}{fs:List Fd}{l:List (kd.ty×W)}(e:wg kd fs=some l):∃ r,fs=.c .mh::r/\pW kd r=some l:=by
 unfold wg at e;split at e;exact⟨_,rfl,e⟩;cases e
theorem St.entsF(R:St base η Z S w){n:Nat}{o:Ob}{r:List Fd}(ho:S.get n=some o)(hl:o.fs=.c .mh::r){u:Value}(hu:aI η Z (.mp n) u) :
 ∃ p es clock,η n=some p/\u=.map (some p.block)/\base<=p.block/\Z p.block=none/\w.heap[p.block]? = some (.map es clock)/\eH η Z (r.flatMap Fd.cells) es.toList:=by
 obtain⟨p,hp,rfl⟩:=hu;obtain⟨h1,h2,L⟩:=R.ar n o p ho hp;have cn:o.cells=.mh::r.flatMap Fd.cells:=by unfold Ob.cells;rw[hl];rfl
 obtain⟨es,k,h3,h4⟩:=L.maps (by unfold Ob.isMap;rw[cn];rfl);rw[cn] at h4;exact⟨p,es,k,hp,rfl,h1,h2,h3,h4⟩
theorem N0(R:St base η Z S w){t:TypeId}:Good P base η Z S w (do pure (Next.value (<-Instr.makeMap t none))) (.p (.c (.mp S.next))) (S.add ⟨t,[.c .mh]⟩):=by
 obtain⟨g,hn⟩:=R.Ul (w':={ w with heap:=w.heap.push (.map #[] 0) }) (Ob.mk t [.c .mh]) (by unfold Ob.cells;simp[Fd.cells]) rfl rfl rfl rfl;exact Good.of (u:=.map (some w.heap.size)) (by simp[Instr.makeMap,newObj,Sem.run]) g.up ⟨by simp,_,hn,rfl⟩
theorem Q9(R:St base η Z S w){t:TypeId}{kd:D}(hd:r5 P t=some kd){n:Nat}{o:Ob}{l:List (kd.ty×W)}(ho:S.get n=some o)(hl:wg kd o.fs=some l){u uk:Value}(hu:aI η Z (.mp n) u){k:kd.ty}(hk:cE Z kd k uk){v:W}(hv:zo kd k l=some v) :
 Good P base η Z S w (do pure (Next.value (<-Instr.lookup t u uk false))) (.p (.c v)) S:=by
 obtain⟨kt,et,td,ht,hkt,hkey,hpk⟩:=He hd;obtain⟨r,hfs,hr⟩:=BR hl;obtain⟨p,es,clock,hp,rfl,_,_,wh,hes⟩:=R.entsF ho hfs hu;have hg:(getObj p.block).run P w=.ok (.map es clock) w:=by simp[getObj,Sem.run,wh]
 obtain⟨j,v',g1,g2,g3⟩:=(zu hkey hk 0 hr hes).2 v hv;have hrun:(Instr.lookup t (.map (some p.block)) uk false).run P w=.ok v' w:=by simp[Instr.lookup,run_underlying ht,aA.kZ w hkt hpk,hg,aA.mA w hkt g1]
 exact Good.of hrun (Moves.refl R) ⟨g2,g3⟩
theorem BS{k v:W}{e:MapEntry}(h1:k≠.dead/\aI η Z k e.key)(h2:v≠.dead/\aI η Z v e.val):∀{l:List W}{es:List MapEntry},eH η Z l es->eH η Z (l++[k,v]) (es++[e])
 | [],[],_=>⟨h1,h2,trivial⟩
 | _::_::l,_::es,⟨a,b,c⟩=>⟨a,b,BS h1 h2 c⟩
 | [],_::_,h=>by simp[eH] at h
 | [_],_,h=>by simp[eH] at h
 | _::_::_,[],h=>by simp[eH] at h
theorem Eb(R:St base η Z S w){t:TypeId}{kd:D}(hd:r5 P t=some kd){n:Nat}{o:Ob}{l:List (kd.ty×W)}(ho:S.get n=some o)(hl:wg kd o.fs=some l){u uk uv:Value}(hu:aI η Z (.mp n) u){k:kd.ty}(hk:cE Z kd k uk){v:W}(hv:v≠.dead/\aI η Z v uv)(hno:zo kd k l=none) :
 Good P base η Z S w (do Instr.mapUpdate t u uk uv;pure Next.skip) (.aJ []) (S.put n ⟨o.ty,o.fs++[.c (kd.w k),.c v]⟩):=by
 obtain⟨kt,et,td,ht,hkt,hkey,hpk⟩:=He hd;obtain⟨r,hfs,hr⟩:=BR hl;obtain⟨p,es,clock,hp,rfl,hb,hZ,wh,hes⟩:=R.entsF ho hfs hu;have hg:(getObj p.block).run P w=.ok (.map es clock) w:=by simp[getObj,Sem.run,wh]
 have hset:∀ o,(setObj p.block o).run P w=.ok () (w.putObj p.block o):=fun o=>by simp[setObj,Sem.run,wh,World.putObj]
 have a:=(zu hkey hk 0 hr hes).1 hno;have cn:(Ob.mk o.ty (o.fs++[.c (kd.w k),.c v])).cells=.mh::(r.flatMap Fd.cells++[kd.w k,v]):=by unfold Ob.cells;rw[hfs];simp[Fd.cells]
 have hm:(Ob.mk o.ty (o.fs++[.c (kd.w k),.c v])).isMap:=by unfold Ob.isMap;rw[cn];rfl
 have g:=R.write (w':=w.putObj p.block (.map (es.push { key:=uk,val:=uv,born:=clock }) (clock+1))) ho hp (o':=Ob.mk o.ty (o.fs++[.c (kd.w k),.c v])) rfl rfl rfl (by simp[World.putObj]) (fun b hb=>by simp only[World.putObj];rw[acD (Ne.symm hb)])
  (dN.map hm ⟨es.push { key:=uk,val:=uv,born:=clock },clock+1,aA.u7 (cS wh),by
   rw[cn,List.tail_cons,Array.toList_push];exact BS ⟨D.jg _ _,(D.gC kd).2 hk⟩ hv hes⟩)
 refine Good.Uw ?_ g.up;simp[Instr.mapUpdate,run_underlying ht,hg,aA.kZ w hkt hpk,aA.mA w hkt a,hset]
theorem YE(R:St base η Z S w){t:TypeId}{d:TypeDesc}(hu:P.underlying t=some d)(hd:∀ ms,d≠.interface ms){x:Value}:Good P base η Z S w (do pure (Next.value (<-Instr.makeInterface t x))) (.p (.c (.val (.iface t x)))) S:=by
 refine Good.of (u:=.iface t x) ?_ (Moves.refl R) ⟨by simp,by simp only[aI,aQ];exact⟨trivial,rfl⟩⟩;unfold Instr.makeInterface;simp only[Sem.run_bind,run_underlying hu,Result.andThen_ok];cases d<;>first|exact absurd rfl (hd _)|rfl
theorem YF(R:St base η Z S w){src dst el:TypeId}(hs:P.underlying src=some .string)(hd:P.underlying dst=some (.slice el))(he:P.underlying el=some (.int .u8))(s:ByteArray):Good P base η Z S w (do pure (Next.value (<-convert src dst (.string s)))) (.p (.c (.rd (.int .u8) (ai s)))) S:=by
 have hge:=grownCap_ge w s.size 0 el;generalize hcap:grownCap w s.size 0 el=cap at hge;have hcap':(Question.appendCap s.size 0 el).cut (w.tape w.drawn (Question.appendCap s.size 0 el))=cap:=hcap;let c:Array Value:=s.data.map (fun b=>Value.int .u8 b.toNat)++acW (cap-s.size) (.int .u8 0);have hsz:s.data.size=s.size:=rfl;have hcs:c.size=cap:=by
  simp only[c,Array.size_append,Array.size_map,Array.size_replicate];omega
 let w':World:={ w with heap:=w.heap.push (.cells c el (cap,cap+1)),drawn:=w.drawn+1 };have hrun:(convert src dst (.string s)).run P w=.ok (.slice (some ⟨w.heap.size,0,none⟩) s.size cap) w':=by
  simp only[convert,Sem.run_bind,run_underlying hs,run_underlying hd,run_underlying he,Result.andThen_ok];simp only[Conv.stringToBytes,Sem.run_bind,run_choose,Question.forced,Bool.false_eq_true,if_false,Result.andThen_ok,newRow,newObj,Sem.run,Sem.run_pure,hcap',markStringish,shape,World.shape?,freeze];have hc0:Array.map (fun b=>Value.int IntKind.u8 (b.toNat:Int)) s.data++acW (cap-s.size) (Value.int IntKind.u8 0)=c:=rfl;rw[hc0];have e1:((w.heap.push (Obj.cells c el))[w.heap.size]?)=some (Obj.cells c el):=by simp
  simp only[e1,Sem.run,Result.andThen_ok,World.freeze,Nat.one_ne_zero,if_false,hcs];have e2:(w.heap.push (Obj.cells c el)).modify w.heap.size (fun x=>match x with
   | .cells c elem (lo,hi)=>.cells c elem (if lo==hi then(cap,cap+1) else(min lo cap,max hi (cap+1)))
   | o=>o)=w.heap.push (Obj.cells c el (cap,cap+1)):=by
   apply Array.ext_getElem?;intro i;rw[acC,acG,acG];by_cases hi:w.heap.size=i;subst hi;simp;rw[if_neg hi,if_neg (by omega),if_neg (by omega)]
  exact congrArg (fun hp=>Result.ok (Value.slice (some { block:=w.heap.size,off:=0 }) s.size cap) { w with heap:=hp,drawn:=w.drawn+1 }) e2
 have hfree:Z w.heap.size=none:=by
  cases h:Z w.heap.size with
  | none=>rfl
  | some x=>have:=R.Yr h;omega
 have hzle:Z.le (Z.add w.heap.size c):=fun b x hb=>by
  unfold Zeta.add;split;rename_i h;subst h;rw[hfree] at hb;cases hb;exact hb
 have hold:∀ b,b<w.heap.size->w'.heap[b]? = w.heap[b]?:=fun b hb=>by
  show (w.heap.push _)[b]? = _;rw[acG,if_neg (by omega)]
 have hown:∀ b,Own η S b->b<w.heap.size:=fun b ⟨n,o,p,h1,h2,hb⟩=>R.jz h1 h2 hb;have hst : St base η (Z.add w.heap.size c) S w' := by
  refine R.vZ hzle (fun b cs hb=>?_) (by show _<=(w.heap.push _).size;simp) (fun b ho=>hold b (hown b ho)) (fun b ho=>?_);unfold Zeta.add at hb;split at hb;rename_i h;cases hb;subst h;exact⟨el,(cap,cap+1),by show (w.heap.push _)[w.heap.size]? = _;simp⟩;obtain⟨ty,fz,e⟩:=R.zs b cs hb;exact⟨ty,fz,(hold b (cS e)).trans e⟩;unfold Zeta.add;have:=hown b ho;rw[if_neg (by omega)];obtain⟨n,o,p,h1,h2,hb⟩:=ho;exact(R.all h1 h2 hb).2.1
 refine Good.of hrun ⟨Eta.le.refl _,hst,⟨rfl,rfl,rfl,(by show _<=(w.heap.push _).size;simp),fun b hb _=>hold b hb,fun _ h=>.inl h,hzle,fun b cs hb=>?_,rfl⟩⟩ ⟨by simp,?_⟩;unfold Zeta.add at hb;split at hb;rename_i h;exact .inr (.inr (by omega));exact .inl hb;simp only[aI,aQ,cE];have hl:(ai s).length=s.size:=by simp[ai]
 refine⟨_,_,_,rfl,hl,hge,.inr ⟨w.heap.size,0,c,rfl,by unfold Zeta.add;rw[if_pos rfl],fun i x hx=>?_⟩⟩;simp only[ai,ab9,acN] at hx;cases hb:s.data[i]? with
 | none=>rw[hb] at hx;cases hx
 | some b =>
   rw[hb] at hx;cases hx;refine⟨.int .u8 (b.toNat:Int),?_,rfl⟩;have hi:=(Array.getElem?_eq_some_iff.1 hb).1;have hi2:i<(s.data.map (fun b=>Value.int IntKind.u8 (b.toNat:Int))).size:=by simpa using hi
   show c[0+i]? = _;rw[acQ,Array.getElem?_append_left hi2];simp[hb]
theorem UO(R : St base η Z S w)(FR : bq n η Z F a.tmps){o : Oper}{l : L}(ht : Ku P o = some l){c : Cd}{v : A}{S' : ak}(e : j4 F S l = some (c, v, S'))(hc : c) : Good P base η Z S w (execOp a.eval o) v S' := by
 unfold Ku at ht;unfold execOp;split at ht<;>rename_i hop<;>simp only[hop]
 -- maps
 rename_i t;split at ht;rename_i kd vd hd;cases ht;simp only[j4] at e;cases e;exact Q8 R kd vd;split at ht;cases ht;simp only[j4] at e;cases e;exact N0 R;cases ht;rename_i t m' k' v';split at ht;rename_i kd vd m k v' hd hm hk hv;cases ht;simp only[j4] at e;split at e;rename_i p n q x r y hme hke kH;split at e;rename_i kk c2 z S1 mQ hfz;split at e;rename_i o1 jQ;split at e;rename_i l hl;cases e;obtain⟨hp,hq,hr,hc2⟩:=hc;have hy:=(aN FR hv kH hr).2;obtain⟨Z1,mv,hrz,hS⟩:=lS R hfz hc2 hy;have hkr:cE Z1 kd kk (a.eval k'):=cE.mono mv.step.cG _ (mE mQ (aN FR hk hke hq).2);exact Good.before mv (G8 mv.st hd jQ hl ((aN FR hm hme hp).2.mono (Eta.le.refl _) mv.step.cG) hkr hrz);cases e;cases e;cases e;cases e;rename_i m k v _ hm hk hv;split at ht;rename_i kd hd;cases ht;simp only[j4] at e;split at e;rename_i p n q x r y hme hke kH;split at e;rename_i kk o1 mQ jQ;split at e;rename_i l hl;split at e;rename_i hno;obtain⟨_,e⟩:=aA.aH e;cases e;obtain⟨hp,hq,hr⟩:=hc;have hy:=aN FR hv kH hr;exact Eb R hd jQ hl (aN FR hm hme hp).2 (mE mQ (aN FR hk hke hq).2) ⟨hy.1,hy.2⟩ hno;cases e;cases e;cases e;cases e;cases ht;cases ht;rename_i t m' k' v';split at ht;rename_i kd vd m k v' hd hm hk hv;cases ht;simp only[j4] at e;split at e;rename_i p n q x r y hme hke kH;split at e;rename_i kk c2 z S1 mQ hfz;split at e;rename_i o1 jQ;split at e;rename_i l hl;cases e;obtain⟨hp,hq,hr,hc2⟩:=hc;have hy:=(aN FR hv kH hr).2;obtain⟨Z1,mv,hrz,hS⟩:=lS R hfz hc2 hy;have hkr:cE Z1 kd kk (a.eval k'):=cE.mono mv.step.cG _ (mE mQ (aN FR hk hke hq).2);exact Good.before mv (G8 mv.st hd jQ hl ((aN FR hm hme hp).2.mono (Eta.le.refl _) mv.step.cG) hkr hrz);cases e;cases e;cases e;cases e;rename_i m k v _ hm hk hv;split at ht;rename_i kd hd;cases ht;simp only[j4] at e;split at e;rename_i p n q x r y hme hke kH;split at e;rename_i kk o1 mQ jQ;split at e;rename_i l hl;split at e;rename_i hno;obtain⟨_,e⟩:=aA.aH e;cases e;obtain⟨hp,hq,hr⟩:=hc;have hy:=aN FR hv kH hr;exact Eb R hd jQ hl (aN FR hm hme hp).2 (mE mQ (aN FR hk hke hq).2) ⟨hy.1,hy.2⟩ hno;cases e;cases e;cases e;cases e;cases ht;cases ht;rename_i t m' k' ok;split at ht;rename_i kd vd m k hd hm hk;cases ht;simp only[j4] at e;split at e;rename_i p n q x hme hke;split at e;rename_i kk o1 mQ jQ;split at e;rename_i l hl;have g:=fun(hc:Cd.and p q)=>UJ (P:=P) R hd jQ hl (aN FR hm hme hc.1).2 (mE mQ (aN FR hk hke hc.2).2) ok;cases ok<;>simp only[cond_true,cond_false] at e g<;>cases e<;>exact g hc;cases e;cases e;cases e
 . rename_i m k _ hm hk;cases ok with
   | true=>cases ht
   | false =>
   simp only[cond_false] at ht;split at ht;rename_i kd hd;cases ht;simp only[j4] at e;split at e;rename_i p n q x hme hke;split at e;rename_i kk o1 mQ jQ;split at e;rename_i l hl;split at e;rename_i v hv;cases e;exact Q9 R hd jQ hl (aN FR hm hme hc.1).2 (mE mQ (aN FR hk hke hc.2).2) hv;cases e;cases e;cases e;cases e;cases ht
 cases ht
 -- nil
 split at ht;split at ht;cases ht;simp only[j4] at e;cases e;exact⟨.value (.slice none 0 0),_,w,η,Z,rfl,.inl rfl,R.oJ (by rw[gY];rfl),by simp,.inl ⟨rfl,rfl⟩⟩;cases ht;cases ht;split at ht;split at ht;cases ht;simp only[j4] at e;cases e;exact⟨.value (.slice none 0 0),_,w,η,Z,rfl,.inl rfl,R.oJ (by rw[gY];rfl),by simp,.inl ⟨rfl,rfl⟩⟩;cases ht;cases ht
 -- alloc
 split at ht;rename_i el hel;cases ht;simp only[j4] at e;cases e;exact NZ R hel;split at ht;rename_i fs i hfs hi;split at ht;rename_i z hz;obtain⟨hzs,ht⟩:=dH ht;cases ht;simp only[j4] at e;cases e;obtain⟨h1,h2⟩:=FH (η:=η) (Z:=Z) hzs;exact(QN R hi hz h1 h2).alike (ak.lI rfl (by simp[Ob.cells,Ob.of,vU]));cases ht;cases ht
 -- bytes as a text
 rename_i x y pt it;split at ht;rename_i el x' y' hpt hx hy;obtain⟨hc1,ht⟩:=dH ht;cases ht;simp only[j4] at e;split at e;rename_i p m off i q kk k hxe tD;split at e;rename_i o1 jQ;obtain⟨hb,e1⟩:=aA.aH e;clear e;simp only[ab0] at hb;have hoff:=abZ hb.1;have hty:=abZ hb.2;subst hoff;split at e1;rename_i l hl;cases e1;obtain⟨hp,hq,hb3⟩:=hc;obtain⟨h0,hk,h63⟩:=(show 0<k/\i+k<=l.length/\k<=9223372036854775807 from hb3);obtain⟨k',rfl⟩:∃ k':Nat,k=k':=⟨k.toNat,by omega⟩;have h1:=(aN FR hx hxe hp).2;have h2:=cJ FR hy tD hq;have hk':i+k'<=acT (α:=Int) l:=Int.ofNat_le.1 hk;have g:=UN (P:=P) (base:=base) (pt:=pt) (it:=it) (ty:=o.type) (kk:=kk) (k:=k') R hpt hc1 jQ hty hl h1 (by omega) hk' (by omega);rw[Int.toNat_natCast];exact Good.run (by simp[resolve,invoke,builtin,h2]) g;cases e1;cases e;cases e;cases ht
 -- box
 · split at ht
   rename_i x hx;split at ht;rename_i el hel;cases ht;simp only[j4] at e;split at e;rename_i p v hv;obtain⟨hb,e1⟩:=aA.aH e;clear e;cases e1;exact UM R (eG FR hx hv hc) (isNN_eq hb);cases e;cases ht;simp only[j4] at e;split at e;rename_i p v hv;cases e;exact(Yy R (eG FR hx hv hc)).alike (ak.lI rfl (by simp[Ob.cells,Ob.of,vU,Kr]));cases e;cases ht
 -- store
 · split at ht
   · rename_i k x' v' hk hx hv
     split at ht;rename_i hk0;subst hk0;cases ht;simp only[j4] at e;split at e;rename_i p m off q hxe kH;cases e;obtain⟨_,pl,_,hpv⟩:=aN FR hx hxe hc.1;obtain⟨ws,hvv,_,BU⟩:=eG FR hv kH hc.2;have hw0:ws=[]:=by cases ws with|nil=>rfl|cons _ _=>exact BU.elim
     subst hw0;refine Good.Uw ?_ (Moves.refl R);rw[hpv,hvv];simp[Instr.storeAt,Instr.sureAddr,storeVar,dW hk,Value.cells,storeCells];cases e;rename_i hk0;cases ht;simp only[j4] at e;split at e;rename_i p m off q v hxe kH;obtain⟨hl,e⟩:=aA.aH e;have hl:=abZ hl;split at e;rename_i o ho;obtain⟨ho,hmo⟩:=kF ho;obtain⟨hnf,e⟩:=aA.aH e;split at e;rename_i c' fs' hput;cases e;obtain⟨hp,hq,hc'⟩:=hc;obtain⟨h1,h2⟩:=BO hput hc';have hle:=h2 (by rintro h0;rw[h0] at hl;simp at hl;omega);have hnb:¬o.bytes:=nbF_ok hnf fun h0=>by
      have hle:off+v.cells.length<=o.cells.length:=hle;rw[h0] at hle;have hle:off+v.cells.length<=0:=hle;omega
     refine(sD R hk ho hmo hnb (aN FR hx hxe hp).2 (eG FR hv kH hq) hl ?_).alike (ak.oY rfl ?_);rw[<-hl];exact h2 (by rintro h0;rw[h0] at hl;simp at hl;omega);rw[Ob.eN];exact h1;cases e;cases e;rename_i p m i j q y hxe kH;obtain⟨hl,e⟩:=aA.aH e;have hl:=o5 hl;subst hl;split at e;rename_i k' af hto;obtain⟨o1,jQ,_,OY⟩:=nC hto;split at e;rename_i o2 D6;rw[jQ] at D6;cases D6;cases e;obtain⟨hp,hq,hi,hj⟩:=hc;have hy:=(eG FR hv kH hq).2;simp only[aI,aQ] at hy;rw[hy];exact Jp R hk jQ OY (aN FR hx hxe hp).2 hi hj;cases e;cases e
     · rename_i p m off i q y hxe kH
       obtain⟨hl,e⟩:=aA.aH e;have hl:=o5 hl;subst hl;split at e;rename_i c1 S1 OZ;cases e;obtain⟨hp,hq,hc1⟩:=hc;obtain⟨mQ,hpu1⟩:=aA.aH OZ;clear OZ;have mQ:=abZ mQ;subst mQ;have hy:=eG FR hv kH hq;have hx1:aI η Z (.ptr m (0+i)) _:=(aN FR hx hxe hp).2;rw[acQ] at hx1;exact UI R hk hpu1 hc1 hx1 hy;split at e;rename_i o ho;obtain⟨ho,hmo⟩:=kF ho;split at e
       . rename_i c' k d l hg;cases yQ:d.pU with
         | true=>rw[yQ] at e;cases e
         | false =>
         rw[yQ] at e;simp only[cond_false] at e;split at e;rename_i c2 z S1 hfz;split at e;rename_i o1 fs' jQ hput;cases e;obtain⟨hp,hq,hc',hc2,hi0⟩:=hc;have hi:i<l.length:=hi0;have hy:=eG FR hv kH hq;obtain⟨Z1,mv,hr,hS⟩:=lS R hfz hc2 hy.2;have YA:S1.get m=some o:=by
          rcases hS m with h|h;rw[h] at jQ;cases jQ;rw[h];exact ho
         obtain⟨pre,post,g1,g2,g3⟩:=NY hg hc' hput;have cn:o.cells.length=pre.length+l.length+post.length:=by unfold Ob.cells;rw[g1];simp;omega
         have hnb:¬o.bytes:=fun hB=>by
          obtain⟨n,e⟩:=hB (d.w l[i]) (by unfold Ob.cells;rw[g1];exact List.mem_append_left _ (List.mem_append_right _ (List.mem_map.2 ⟨_,List.getElem_mem hi,rfl⟩)));exact D.QY yQ _ _ e
         refine Good.before mv ((sD mv.st hk YA hmo hnb (v:=.c (d.w z)) ((aN FR hx hxe hp).2.mono (Eta.le.refl _) mv.step.cG:aI η Z1 (.ptr m (off+i)) _) ⟨D.jg _ _,(D.gC d).2 hr⟩ rfl (by omega)).alike (ak.oY rfl ?_));rw[Ob.eN];show fs'.flatMap Fd.cells=(o.cells).set (off+i) (d.w z);unfold Ob.cells;rw[g1,g2,List.map_set,acs,acs,acB _ _ (by omega),List.set_append_left _ _ (by simp;omega)];congr 3;omega;cases e;cases e
       cases e;cases e
     cases e
   cases ht
 -- makeInterface
 rename_i t x;split at ht;cases ht;rename_i d x' hu hd hx;cases ht;simp only[j4] at e;split at e;rename_i c' v' kH;split at e;rename_i u hu';cases e;have:=V.uw hu' (eG FR hx kH hc);rw[this];exact YE R hd fun ms h=>hu ms (by rw[<-h]);cases e;cases e;cases ht
 -- typeAssert
 rename_i x xt t;split at ht;cases ht;rename_i d i x' hu hd hi hx;split at ht;rename_i z hz;split at ht;rename_i zv hzv;cases ht;have BL:(zeroValue t).run P w=.ok z w:=by simp[zeroValue,typeInfo,hi,hz]
 obtain⟨r1,r2,r3⟩:=aA.QD (P:=P) (w:=w) hd (fun ms h=>hu ms (by rw[<-h])) xt true;have hzrel:cW η Z zv z:=A3 hzv;have aJ:∀{y:V}{u:Value}{b:Bool},cW η Z y u->cr η Z (.aJ [y,.c (.bool b)]) (.tuple #[u,.bool b]):=fun h=>⟨[_,_],rfl,h,⟨by simp,by simp only[aI,aQ]⟩,trivial⟩;simp only[j4] at e;split at e;rename_i c' hxe;cases e;have BV:a.eval x=.nilIface:=by have:=(aN FR hx hxe hc).2;simpa only[aI,aQ] using this
 rw[BV];exact Good.of (r3 z BL) (Moves.refl R) (aJ hzrel)
 . rename_i c' t' v' hxe;have BV:∀ hc:c',a.eval x=.iface t' v':=fun hc=>by have:=(aN FR hx hxe hc).2;simp only[aI,aQ] at this;exact this.1
   cases hb:ab3 t' t with
   | true =>
     have ht':=abZ hb;subst ht';simp only[hb,cond_true] at e;split at e;rename_i y hy;cases e;rw[BV hc];exact Good.of (r1 v') (Moves.refl R) (aJ (A3 hy));cases e
   | false =>
     simp only[hb,cond_false] at e;cases e;rw[BV hc];exact Good.of (r2 t' v' z (fun h=>by subst h;rw[ac3] at hb;cases hb) BL) (Moves.refl R) (aJ hzrel)
 cases e;cases ht;cases ht;cases ht
 -- makeSlice
 · split at ht
   rename_i el l' c' hu hl hc';split at ht;rename_i i d hi hd;split at ht;rename_i z hz;obtain⟨⟨h1,h2,h3⟩,ht⟩:=dH ht;cases ht;simp only[j4] at e;split at e
   . rename_i p kl l q kc c hle hce;cases hd0:d.isSl<;>rw[hd0] at e<;>simp only[cond_true,cond_false] at e<;>cases e
     all_goals
      obtain⟨hp,hq,h4,h5,h6⟩:=hc;rw[cJ FR hl hle hp,cJ FR hc' hce hq];have h7:c<=140737488355328:=by
       have:(1:Int)*c<=(i.bytes:Int)*c:=Int.mul_le_mul_of_nonneg_right (by omega) (by omega);omega
      exact(Ux R hu hi h1 hz h3 h4 h5 h6 h7).alike (ak.lI rfl (by rw[Ob.eN,gY];simp))
   cases e;cases ht;cases ht;cases ht
 -- buildSlice
 · rename_i t len parts
   split at ht
   · rename_i el hu
     split at ht
     · rename_i k ps z hk hps hz
       obtain⟨⟨h1,h2,h3,h4⟩,ht⟩:=dH ht;cases ht;subst h2;simp only[j4] at e;split at e;rename_i p vs hvs;obtain⟨hal,e⟩:=aA.aH e;split at e
       . rename_i c' fs S1 hlit;cases e;obtain⟨us,g1,g2,g3⟩:=GY FR hps hvs hc.1;have plain:∀ S1 fs,S1=S->fs=(vs.flatMap V.cells).map Fd.c->Good P base η Z S w (do pure (Next.value (<-Instr.buildSlice t ps.length (parts.map fun(x:Nat×Operand)=>(x.1,a.eval x.2))))) (.p (.c (.sl S1.next 0 ps.length k))) (S1.add ⟨el,fs⟩):=by
          rintro S1 fs rfl rfl;exact Kk R hu hk hz h3 h4 g1 g2 g3 (G6 hal)
         unfold litV at hlit;split at hlit;rename_i fs1 hone;cases hlit;exact(plain _ _ rfl rfl).alike (ak.lI rfl (by
          show fs.flatMap Fd.cells=((vs.flatMap V.cells).map Fd.c).flatMap Fd.cells;rw[vU];exact Kt hone))
         split at hlit;rename_i d hd;split at hlit;rename_i c2 ys S2 hfz;cases hlit;have hk1:k=1:=by
          split at hd;assumption;cases hd
         subst hk1;obtain⟨Z1,mv,hr⟩:=G5 R hfz hc.2 g1;refine Good.before mv ((Kk mv.st hu hk hz h3 h4 hr g2 g3 ?_).alike (ak.lI rfl ?_));intro v hv;obtain⟨y,_,rfl⟩:=List.mem_map.1 hv;rfl;rw[Ob.eN,flat_w,gY];cases hlit;exact plain _ _ rfl rfl;cases hlit;exact plain _ _ rfl rfl
       cases e;cases e
     cases ht
   cases ht
 -- append
 rename_i x y t ts;split at ht
 · rename_i el x' y' hu hx hy
   split at ht
   · rename_i i z d hi hz hd
     have main : ∀ td, P.underlying ts = some td → (∀ k, td ≠ .int k) → (i.size = 1 ∧ z.length = 1 ∧ 1 ≤ i.bytes) → l = .append el i.bytes d x' y' → Good P base η Z S w (do pure (Next.value (← Builtin.append_ #[t, ts] o.type #[a.eval x, a.eval y]))) v S' := by
      rintro td htd hnt ⟨hs,hzl,hby⟩ rfl;have second : ∀{Z : Zeta}{S : ak}(_ : St base η Z S w)(_ : bq n η Z F a.tmps){yw : W}{c : Cd}{v : A}{S' : ak}, Q5 F S el i.bytes d x' yw = some (c, v, S') → c → aI η Z yw (a.eval y) → Good P base η Z S w (do pure (Next.value (← Builtin.append_ #[t, ts] o.type #[a.eval x, a.eval y]))) v S' := by
       intro Z S R FR yw c v S' e hc BM;unfold Q5 at e;split at e
       · rename_i q ys hsrc
         split at e;rename_i r hxw;cases e;obtain⟨hq,hr,hb0⟩:=hc;have hb:ys.length*i.bytes<=140737488355328:=hb0;have s1:=xq (P:=P) R hsrc hq BM;rw[(aN FR hx hxw hr).2.nil_eq];have hlen:ys.length<=ys.length*i.bytes:=acr _ hby;have g:=uq (base:=base) (S:=S) (ty:=o.type) R hu htd hnt hi hz (by omega) (by omega) (by rw[hs];exact s1) (by rw[hs,aci];simpa using hb) (by rw[hs,aci];simp;omega);rw[hs,aci,ace] at g;exact g.alike (ak.lI rfl (by rw[Ob.eN,gY]));rename_i r m off len sz hxw;obtain⟨hs0,e1⟩:=aA.aH e;have hs1:=o5 hs0;subst hs1;clear e;split at e1;rename_i o' ho';obtain⟨YG,e2⟩:=aA.aH e1;have hty:=abZ YG;clear e1;split at e2;rename_i l' hl';cases e2;obtain⟨hq,hr,hcc⟩:=hc;have s1:=xq (P:=P) R hsrc hq BM;have cn:o'.cells=l'.map d.w:=Fd.jF hl';have hcc2:(off+len<=l'.length/\(len+ys.length)*i.bytes<=140737488355328)/\(¬o'.bytes∨o'.cells=[]∨(off=0/\len*1=o'.cells.length/\∀ x∈ys.map d.w,∃ n,x=W.int .u8 n)):=by
          cases yQ:d.pU with
          | false =>
            rw[yQ] at hcc;have hcc:off+len<=l'.length/\(len+ys.length)*i.bytes<=140737488355328:=hcc;exact⟨hcc,(A8 cn yQ).imp id .inl⟩
          | true =>
            rw[yQ] at hcc;have hcc:off=0/\len=l'.length/\(len+ys.length)*i.bytes<=140737488355328:=hcc;refine⟨⟨by omega,hcc.2.2⟩,.inr (.inr ⟨hcc.1,by rw[cn,ace];omega,fun x hx=>?_⟩)⟩;obtain⟨y,_,rfl⟩:=List.mem_map.1 hx;exact D.w_u8 yQ y
         obtain⟨⟨mQ,hb⟩,hap⟩:=hcc2;have hlen:len+ys.length<=(len+ys.length)*i.bytes:=acr _ hby;have g:=D4 (base:=base) (S:=S) (ty:=o.type) R hu htd hnt hi hz (by omega) (by omega) (by rw[hs];exact s1) (by rw[hs];exact(aN FR hx hxw hr).2) ho' (Ob.ji cn) hty (by rw[hs,cn];simp;exact mQ) (by rw[hs];exact hap) (by rw[hs,aci];simpa using hb) (by rw[hs,aci];simp;omega);rw[hs,aci,ace] at g;exact g.alike (ak.lI rfl (by rw[Ob.eN,gY,cn];simp[acI,acy]));cases e2;cases e1;cases e
       cases e
      simp only[j4] at e;split at e;rename_i p yw O0;split at e;rename_i m k l0 hrow;obtain⟨q,oq,om,ro,lw,rfl,hq,hqm,BI,UH,hcm,hlw⟩:=Q0 hrow;split at e;rename_i r hxw;cases e;obtain⟨hp,hr,hl0,hk0,hb0⟩:=hc;have s0:=Kl (P:=P) R (sz:=1) (aN FR hy O0 hp).2 hq hqm (by rw[BI];simp);rw[BI] at s0;rw[(aN FR hx hxw hr).2.nil_eq];exact FE (ty:=o.type) R hu htd hnt hi hz (by omega) hs s0 UH hcm hlw hl0 hk0 hb0;rename_i r n' off len sz hxw;split at e;rename_i k' af hto;obtain⟨o1,jQ,_,OY⟩:=nC hto;obtain⟨hb1,e1⟩:=aA.aH e;clear e;simp only[ab0,acf] at hb1;have hs1:=o5 hb1.1;subst hs1;split at e1;rename_i o2 D6;rw[jQ] at D6;cases D6;obtain⟨YG,e⟩:=aA.aH e1;clear e1;have hty:=abZ YG;cases e;obtain⟨hp,hr,mQ,hln,hkk,hl0,hk0,hb0⟩:=hc;subst mQ;subst hln;subst hkk;have s0:=Kl (P:=P) R (sz:=1) (aN FR hy O0 hp).2 hq hqm (by rw[BI];simp);rw[BI] at s0;have hlen:af.length+1<=(af.length+1)*i.bytes:=acr _ hby;exact D7 (ty:=o.type) R hu htd hnt hi hz (by omega) hs s0 UH hcm hlw hl0 hk0 (aN FR hx hxw hr).2 jQ OY hty (fun e=>by subst e;exact Bool.noConfusion ((ac3 _).symm.trans hb1.2)) hb0 (by omega);cases e1
      · split at e
        rename_i c2 v2 S2 happ;cases e;have BM:=(aN FR hy O0 hc.1).2;have hc2:=hc.2;unfold appR at happ;simp only at happ;split at happ;rename_i c3 S3 hsh;split at happ;rename_i c4 v4 S4 happ2;cases happ;obtain⟨Z1,mv,_⟩:=FI R hsh hc2.1;exact Good.before mv (second mv.st (FR.mono (Eta.le.refl _) mv.step.cG) happ2 hc2.2 (aI.mono (Eta.le.refl _) mv.step.cG BM));cases happ;cases happ;cases e
      cases e;split at e;rename_i c2 v2 S2 happ;cases e;exact second R FR happ hc.2 (aN FR hy O0 hc.1).2;cases e;cases e
     split at ht;rename_i htd;obtain⟨h1,ht⟩:=dH ht;exact Good.run (by simp[resolve,invoke,builtin]) (main _ htd (by simp) h1 (Option.some.inj ht).symm);rename_i htd;obtain⟨h1,ht⟩:=dH ht;exact Good.run (by simp[resolve,invoke,builtin]) (main _ htd (by simp) h1 (Option.some.inj ht).symm);rename_i kn htd;split at ht;rename_i zv hzv;obtain⟨⟨h1,h2,h3⟩,ht⟩:=dH ht;cases ht;clear main;simp only[j4] at e;split at e;rename_i p q k n hxe tD;cases e;obtain⟨hp,hq,h4,h5⟩:=hc;have g:=(QT (ty:=o.type) (k:=k) R hu htd hi h1 hzv h3 h4 h2 h5).alike (yO:=S.add ⟨el,[.a 0 d (ab5 n.toNat d.zero)]⟩) (ak.lI rfl (by rw[Ob.eN,gY];simp));rw[<-cJ FR hy tD hq,<-(aN FR hx hxe hp).2.nil_eq] at g;exact Good.run (by simp[resolve,invoke,builtin]) g;cases e;cases ht;cases ht
   cases ht
 cases ht
 -- copy
 rename_i x y t ts;split at ht
 · rename_i el x' y' hu hx hy
   split at ht;rename_i k d hk hd;obtain⟨hk1,ht⟩:=dH ht;subst hk1;cases ht;simp only[j4] at e;split at e;rename_i p yw O0;split at e;rename_i q ys hsrc;split at e;rename_i r m off len sz hxw;obtain⟨CT,e1⟩:=aA.aH e;simp only[ab0,acf] at CT;have hs1:=o5 CT.1;subst hs1;clear e;split at e1;rename_i o' ho';split at e1;rename_i l' hl';cases e1;obtain⟨hp,hq,hr,YH⟩:=hc;have mQ:off+len<=l'.length:=YH;have s1:=xq (P:=P) R hsrc hq (aN FR hy O0 hp).2;have cn:o'.cells=l'.map d.w:=Fd.jF hl';have g:=UD (base:=base) (S:=S) (ty:=o.type) (ts:=#[t,ts]) R rfl hu hk s1 (by omega) (aN FR hx hxw hr).2 ho' (Ob.ji cn) (A8 cn CT.2) (by rw[cn];simp;exact mQ);rw[aci,ace,acS] at g;refine Good.run (by simp[resolve,invoke,builtin]) (g.alike (ak.oY rfl ?_));rw[Ob.eN,gY,cn,<-acy];exact G7 (by simp;omega);cases e1;cases e1;cases e;cases e;cases e;cases ht
 cases ht
 -- clear
 rename_i x t;split at ht;rename_i el x' hu hx;split at ht;rename_i i d hi hd;split at ht;rename_i z hz;obtain⟨hzz,ht⟩:=dH ht;cases ht;simp only[j4] at e;split at e;rename_i p m off len sz hxw;obtain⟨CT,e1⟩:=aA.aH e;simp only[ab0,acf] at CT;have hs1:=o5 CT.1;subst hs1;clear e;split at e1;rename_i o' ho';split at e1;rename_i l' hl';cases e1;obtain⟨hp,YH⟩:=hc;have mQ:off+len<=l'.length:=YH;have cn:o'.cells=l'.map d.w:=Fd.jF hl';have g:=QW (base:=base) (S:=S) (ty:=o.type) (ts:=#[t]) R rfl hu hi hz hzz (aN FR hx hxw hp).2 ho' (Ob.ji cn) (A8 cn CT.2) (by rw[cn];simp;exact mQ);refine Good.run (by simp[resolve,invoke,builtin]) (g.alike (ak.oY rfl ?_));rw[Ob.eN,gY,cn];have:=G7 (d:=d) (l:=l') (ys:=ab5 len d.zero) (off:=off) (by simp;omega);rw[this,List.map_replicate];cases e1;cases e1;cases e;cases ht;cases ht;cases ht
 -- convert
 rename_i s d x;split at ht;rename_i el x' hs hd hx;split at ht;rename_i he;cases ht;simp only[j4] at e;split at e;rename_i c' sv hse;cases e;rw[nB FR hx hse hc];exact YF R hs hd he sv;cases e;cases ht;rename_i el x' hs hd hx;split at ht;rename_i he;cases ht;simp only[j4] at e;split at e;rename_i p y tD;split at e;cases e;rename_i y' hns;split at e;rename_i q l hsrc;cases e;have hw:=(aN FR hx tD hc.1).2;obtain⟨h1,h2⟩:=Q6 (S:=S) (fun s hh=>hns s hh) hsrc hw;obtain⟨u,hu1,hu2⟩:=Yz (P:=P) hs hd he (xq (P:=P) R hsrc hc.2 hw) h1 h2;exact⟨_,u,w,η,Z,hu1,.inl rfl,Moves.refl R,hu2⟩;cases e;cases e;cases ht;cases ht
 -- len of a map
 rename_i x t;split at ht;rename_i kd vd x' hd hx;cases ht;simp only[j4] at e;split at e;rename_i p n hxe;split at e;rename_i o1 jQ;split at e;rename_i l hl;cases e;refine Good.run (by simp[resolve,invoke,builtin]) (UK (ty:=o.type) R hd jQ hl (aN FR hx hxe hc).2);cases e;cases e;cases e;cases ht;cases ht
end
def A9(k:Nat):List Ob->List (Nat×Ob)
 | []=>[]
 | o::l=>(k,o)::A9 (k+1) l
def ak.ofList(l:List Ob):ak:={ next:=l.length,ar:=A9 0 l }
theorem Hf:∀(l:List Ob)(k n:Nat),find (A9 k l) n=if n<k then none else l[n-k]?
 | [],k,n=>by simp[A9,find]
 | o :: l, k, n => by
   simp only[A9,find];by_cases h:k=n;subst h;simp;rw[if_neg h,Hf l (k+1) n];by_cases h1:n<k;rw[if_pos (by omega),if_pos h1];rw[if_neg (by omega),if_neg h1];have:n-k=(n-(k+1))+1:=by omega
   rw[this];simp
theorem ak.aM(l:List Ob)(n:Nat):(ak.ofList l).get n=l[n]?:=by
 show find (A9 0 l) n=_;rw[Hf];simp
def wi(g:Nat->Option Nat):List (Nat×Nat)->Option (List (Nat×Nat))
 | []=>some []
 | (n,o)::l=>match g n,wi g l with|some m,some r=>some ((m,o)::r)|_,_=>none
def W.ren(g:Nat->Option Nat):W->Option W
 | .ptr n off=>match g n with|some m=>some (.ptr m off)|none=>none
 | .pe n off i=>match g n with|some m=>some (.pe m off i)|none=>none
 | .sl n off len sz=>match g n with|some m=>some (.sl m off len sz)|none=>none
 | .func f caps=>match wi g caps with|some r=>some (.func f r)|none=>none
 | .yield l=>some (.yield l)
 | .dead=>none
 | .mp n=>match g n with|some m=>some (.mp m)|none=>none
 | .ba n=>match g n with|some m=>some (.ba m)|none=>none
 | .eF f n off=>match g n with|some m=>some (.eF f m off)|none=>none
 | .row n i len=>match g n with|some m=>some (.row m i len)|none=>none
 | .pN n i j=>match g n with|some m=>some (.pN m i j)|none=>none
 | x=>some x
def Ec(g:Nat->Option Nat):List W->Option (List W)
 | []=>some []
 | x::l=>match x.ren g,Ec g l with|some y,some r=>some (y::r)|_,_=>none
def V.ren(g:Nat->Option Nat):V->Option V
 | .c x=>match x.ren g with|some y=>some (.c y)|none=>none
 | .agg cs=>match Ec g cs with|some r=>some (.agg r)|none=>none
def ux(g:Nat->Option Nat):List V->Option (List V)
 | []=>some []
 | x::l=>match x.ren g,ux g l with|some y,some r=>some (y::r)|_,_=>none
def A.ren(g:Nat->Option Nat):A->Option A
 | .p v=>match v.ren g with|some y=>some (.p y)|none=>none
 | .aJ vs=>match ux g vs with|some r=>some (.aJ r)|none=>none
 | .cond _ _=>none
 | .dec b=>some (.dec b)
def Fd.ren(s:Bool)(g:Nat->Option Nat):Fd->Option Fd
 | .c x=>match x.ren g with|some y=>some (.c y)|none=>bif s then none else some (.c .dead)
 | .a n d l=>some (.a n d l)
 | .m kd vd l=>some (.m kd vd l)
def Ed(s:Bool)(g:Nat->Option Nat):List Fd->Option (List Fd)
 | []=>some []
 | x::l=>match x.ren s g,Ed s g l with|some y,some r=>some (y::r)|_,_=>none
def Fd.r5:Fd->Bool
 | .c .mh=>true
 | .m _ _ _=>true
 | _=>false
def Ob.ren(g:Nat->Option Nat)(o:Ob):Option Ob:=match Ed (o.fs.any Fd.r5) g o.fs with|some fs=>some ⟨o.ty,fs⟩|none=>none
def iD(g:Nat->Option Nat):List Ob->Option (List Ob)
 | []=>some []
 | x::l=>match x.ren g,iD g l with|some y,some r=>some (y::r)|_,_=>none
def W.dQ:W->Bool
 | .ro _ _ | .rp _ _ | .rd _ _ | .re _ _ _=>false
 | _=>true
def D.plain:D->Bool
 | .sl _=>false
 | _=>true
def V.dQ:V->Bool
 | .c x=>x.dQ
 | .agg cs=>cs.all W.dQ
def A.dQ:A->Bool
 | .p v=>v.dQ
 | .aJ vs=>vs.all V.dQ
 | .cond _ _=>false
 | .dec _=>true
def Fd.dQ:Fd->Bool
 | .c x=>x.dQ
 | .a _ d _=>d.plain
 | .m kd vd _=>kd.plain&&vd.plain
def Ob.dQ(o:Ob):Bool:=o.fs.all Fd.dQ
section
variable {η aG:Eta} {Z Z':Zeta} {g:Nat->Option Nat}
theorem Ky(h:∀ n m,g n=some m->∀ p,η n=some p->aG m=some p):∀{caps r:List (Nat×Nat)}{vs:List Value},wi g caps=some r->bg (gJ η) caps vs->bg (gJ aG) r vs
 | [],r,vs,e,hl=>by simp only[wi] at e;cases e;cases vs with|nil=>trivial|cons _ _=>exact hl.elim
 | (n, o) :: l, r, vs, e, hl => by
   simp only[wi] at e;split at e
   . rename_i m r' hm hr;cases e;cases vs with
     | nil=>exact hl.elim
     | cons v vs =>
       obtain⟨⟨p,hp,hv⟩,hl⟩:=hl;exact⟨⟨p,h n m hm p hp,hv⟩,Ky h hr hl⟩
   cases e
theorem W.jU(h:∀ n m,g n=some m->∀ p,η n=some p->aG m=some p){x y:W}(hz:x.dQ=true∨Z.le Z')(e:x.ren g=some y){v:Value}(r:aI η Z x v):aI aG Z' y v:=by
 have frozen:∀ x:W,x.dQ=false->x.ren g=some x:=by intro x hx;cases x<;>simp_all[W.dQ,W.ren]
 cases x with
 | ptr n off =>
   simp only[W.ren] at e;split at e;rename_i m hm;cases e;obtain⟨p,hp,hv⟩:=r;exact⟨p,h n m hm p hp,hv⟩;cases e
 | pe n off i =>
   simp only[W.ren] at e;split at e;rename_i m hm;cases e;obtain⟨p,hp,hv⟩:=r;exact⟨p,h n m hm p hp,hv⟩;cases e
 | sl n off len sz =>
   simp only[W.ren] at e;split at e;rename_i m hm;cases e;rcases r with r|⟨p,c,a,hp,r⟩;exact .inl r;exact .inr ⟨p,c,a,h n m hm p hp,r⟩;cases e
 | func f caps =>
   simp only[W.ren] at e;split at e;rename_i r' hr;cases e;obtain⟨vs,hv,hl⟩:=r;exact⟨vs,hv,Ky h hr hl⟩;cases e
 | yield l=>cases e;exact r
 | dead=>cases e
 | mh=>cases e;exact r
 | mp n =>
   simp only[W.ren] at e;split at e;rename_i m hm;cases e;obtain⟨p,hp,hv⟩:=r;exact⟨p,h n m hm p hp,hv⟩;cases e
 | ba n =>
   simp only[W.ren] at e;split at e;rename_i m hm;cases e;obtain⟨p,hp,hv⟩:=r;exact⟨p,h n m hm p hp,hv⟩;cases e
 | eF f n off =>
   simp only[W.ren] at e;split at e;rename_i m hm;cases e;obtain⟨u,hu,p,hp,hv⟩:=r;exact⟨u,hu,p,h n m hm p hp,hv⟩;cases e
 | row n i len =>
   simp only[W.ren] at e;split at e;rename_i m hm;cases e;obtain⟨p,r0,c,hp,hv⟩:=r;exact⟨p,r0,c,h n m hm p hp,hv⟩;cases e
 | pN n i j =>
   simp only[W.ren] at e;split at e;rename_i m hm;cases e;obtain⟨p,r0,hp,hv⟩:=r;exact⟨p,r0,h n m hm p hp,hv⟩;cases e
 | th k af=>cases e;exact r
 | bool b=>cases e;exact r
 | int k n=>cases e;exact r
 | str s=>cases e;exact r
 | cZ=>cases e;exact r
 | nil=>cases e;exact r
 | mC=>cases e;exact r
 | dD=>cases e;exact r
 | val _=>cases e;exact r
 | ro _ _=>cases e;rcases hz with hz|hz;cases hz;exact aQ.mono hz r
 | rp _ _=>cases e;rcases hz with hz|hz;cases hz;exact aQ.mono hz r
 | rd _ _=>cases e;rcases hz with hz|hz;cases hz;exact aQ.mono hz r
 | re _ _ _=>cases e;rcases hz with hz|hz;cases hz;exact aQ.mono hz r
theorem W.CU{x y:W}(e:x.ren g=some y):y≠.dead:=by
 cases x<;>simp only[W.ren] at e<;>first
  | (cases e;done)
  | (cases e;simp;done)
  | (split at e<;>cases e;simp)
theorem W.ren_mh{x:W}(e:x.ren g=some .mh):x=.mh:=by
 cases x<;>simp only[W.ren] at e<;>first
  | rfl
  | (cases e;done)
  | (split at e<;>cases e)
theorem W.ren_th{x:W}{k:Nat}{af:List (List Int)}(e:x.ren g=some (.th k af)):x=.th k af:=by
 cases x<;>simp only[W.ren] at e<;>first
  | (cases e;rfl)
  | (cases e;done)
  | (split at e<;>cases e)
theorem Hg(h:∀ n m,g n=some m->∀ p,η n=some p->aG m=some p):∀{l r:List W}{vs:List Value},(l.all W.dQ=true∨Z.le Z')->Ec g l=some r->bg (aI η Z) l vs->bg (aI aG Z') r vs/\∀ x∈r,x≠.dead
 | [],r,vs,_,e,hl=>by simp only[Ec] at e;cases e;cases vs with|nil=>exact⟨trivial,by simp⟩|cons _ _=>exact hl.elim
 | x :: l, r, vs, hz, e, hl => by
   simp only[Ec] at e;split at e
   . rename_i y r' hy hr;cases e;cases vs with
     | nil=>exact hl.elim
     | cons v vs =>
       simp only[acO,ab0] at hz;obtain⟨a,b⟩:=Hg h (hz.imp (·.2) id) hr hl.2;refine⟨⟨W.jU h (hz.imp (·.1) id) hy hl.1,a⟩,fun z hz'=>?_⟩;rcases List.mem_cons.1 hz' with rfl|hz';exact W.CU hy;exact b z hz'
   cases e
theorem V.jU(h:∀ n m,g n=some m->∀ p,η n=some p->aG m=some p){x y:V}(hz:x.dQ=true∨Z.le Z')(e:x.ren g=some y){v:Value}(r:cW η Z x v):cW aG Z' y v:=by
 cases x with
 | c x =>
   simp only[V.ren] at e;split at e;rename_i y' hy;cases e;exact⟨W.CU hy,W.jU h hz hy r.2⟩;cases e
 | agg cs =>
   simp only[V.ren] at e;split at e;rename_i r' hr;cases e;obtain⟨vs,hv,_,hl⟩:=r;obtain⟨a,b⟩:=Hg h hz hr hl;exact⟨vs,hv,b,a⟩;cases e
theorem o6(h:∀ n m,g n=some m->∀ p,η n=some p->aG m=some p):∀{l r:List V}{vs:List Value},(l.all V.dQ=true∨Z.le Z')->ux g l=some r->bg (cW η Z) l vs->bg (cW aG Z') r vs
 | [],r,vs,_,e,hl=>by simp only[ux] at e;cases e;cases vs with|nil=>trivial|cons _ _=>exact hl.elim
 | x :: l, r, vs, hz, e, hl => by
   simp only[ux] at e;split at e
   . rename_i y r' hy hr;cases e;cases vs with
     | nil=>exact hl.elim
     | cons v vs =>
       simp only[acO,ab0] at hz;exact⟨V.jU h (hz.imp (·.1) id) hy hl.1,o6 h (hz.imp (·.2) id) hr hl.2⟩
   cases e
theorem A.jU(h:∀ n m,g n=some m->∀ p,η n=some p->aG m=some p){x y:A}(hz:x.dQ=true∨Z.le Z')(e:x.ren g=some y){v:Value}(r:cr η Z x v):cr aG Z' y v:=by
 cases x with
 | p x =>
   simp only[A.ren] at e;split at e;rename_i y' hy;cases e;exact V.jU h hz hy r;cases e
 | aJ vs =>
   simp only[A.ren] at e;split at e;rename_i r' hr;cases e;obtain⟨us,hv,hl⟩:=r;exact⟨us,hv,o6 h hz hr hl⟩;cases e
 | cond _ _=>cases e
 | dec b=>cases e;exact r
theorem D.Ra(d:D)(y:d.ty):(d.w y).ren g=some (d.w y):=by cases d<;>rfl
theorem D.FK{d:D}(h:d.plain=true)(y:d.ty):(d.w y).dQ=true:=by cases d<;>first|rfl|cases h
theorem Kz{kd vd:D}:∀{l:List (kd.ty×vd.ty)}{i:Nat}{z:W},(nQ kd vd l)[i]? = some z->z.ren g=some z/\(kd.plain=true->vd.plain=true->z.dQ=true)
 | [],i,z,h=>by simp[nQ] at h
 | (k,v)::l,0,z,h=>by simp[nQ] at h;subst h;exact⟨D.Ra _ _,fun h1 _=>D.FK h1 _⟩
 | (k,v)::l,1,z,h=>by simp[nQ] at h;subst h;exact⟨D.Ra _ _,fun _ h2=>D.FK h2 _⟩
 | (k,v)::l,i+2,z,h=>Kz (l:=l) (i:=i) (by simpa[nQ] using h)
theorem BW{s : Bool} : ∀{fs r : List Fd}, Ed s g fs = some r → (r.flatMap Fd.cells).length = (fs.flatMap Fd.cells).length ∧ ∀(i : Nat) y, (r.flatMap Fd.cells)[i]? = some y → ∃ x, (fs.flatMap Fd.cells)[i]? = some x ∧ (x.ren g = some y ∨ (s = false ∧ y = .dead ∧ x.ren g = none)) ∧ (fs.all Fd.dQ = true → x.dQ = true)
 | [],r,e=>by simp only[Ed] at e;cases e;exact⟨rfl,by simp⟩
 | f :: fs, r, e => by
   simp only[Ed] at e;split at e;rename_i f' r' hf hr;cases e;obtain⟨h1,h2⟩:=BW hr;have h3 : f'.cells.length = f.cells.length ∧ ∀(i : Nat) y, f'.cells[i]? = some y → ∃ x, f.cells[i]? = some x ∧ (x.ren g = some y ∨ (s = false ∧ y = .dead ∧ x.ren g = none)) ∧ (f.dQ = true → x.dQ = true) := by
    cases f with
    | c x =>
      simp only[Fd.ren] at hf;split at hf
      . rename_i y hy;cases hf;refine⟨rfl,fun i z hz=>?_⟩;cases i with
        | zero=>simp[Fd.cells] at hz ⊢;subst hz;exact⟨.inl hy,fun h=>h⟩
        | succ i=>simp[Fd.cells] at hz
      rename_i hnone;cases s with
      | true=>cases hf
      | false =>
        cases hf;refine⟨rfl,fun i z hz=>?_⟩;cases i with
        | zero=>simp[Fd.cells] at hz ⊢;subst hz;exact⟨.inr ⟨rfl,hnone⟩,fun h=>h⟩
        | succ i=>simp[Fd.cells] at hz
    | a n d l =>
      simp only[Fd.ren] at hf;cases hf;refine⟨rfl,fun i z hz=>⟨z,hz,?_,?_⟩⟩
      . simp only[Fd.cells,ab9] at hz;cases hh:l[i]? with
        | none=>rw[hh] at hz;cases hz
        | some y=>rw[hh] at hz;cases hz;exact .inl (D.Ra _ _)
      intro hp;simp only[Fd.cells,ab9] at hz;cases hh:l[i]? with
      | none=>rw[hh] at hz;cases hz
      | some y=>rw[hh] at hz;cases hz;exact D.FK hp _
    | m kd vd l =>
      simp only[Fd.ren] at hf;cases hf;refine⟨rfl,fun i z hz=>⟨z,hz,?_⟩⟩;cases i with
      | zero=>simp[Fd.cells] at hz;subst hz;exact⟨.inl rfl,fun _=>rfl⟩
      | succ i =>
        have hz':(nQ kd vd l)[i]? = some z:=by simpa[Fd.cells] using hz
        obtain⟨h5,h6⟩:=Kz (g:=g) hz';exact⟨.inl h5,fun hp=>by simp only[Fd.dQ,ab0] at hp;exact h6 hp.1 hp.2⟩
   simp only[ab8,acq,acO,ab0];refine⟨by omega,fun i y hy=>?_⟩;by_cases hi:i<f'.cells.length;rw[ab7 hi] at hy;rw[ab7 (by omega)];obtain⟨x,a,b,c⟩:=h3.2 i y hy;exact⟨x,a,b,fun hh=>c hh.1⟩;rw[ab4 (by omega)] at hy;rw[ab4 (by omega),<-h3.1];obtain⟨x,a,b,c⟩:=h2 _ y hy;exact⟨x,a,b,fun hh=>c hh.2⟩;cases e
theorem Ob.uz{o o':Ob}(e:o.ren g=some o'):o'.ty=o.ty/\o'.cells.length=o.cells.length/\∀(i:Nat) y,o'.cells[i]? = some y->∃ x,o.cells[i]? = some x/\(x.ren g=some y∨(o.fs.any Fd.r5=false/\y=.dead/\x.ren g=none))/\(o.dQ=true->x.dQ=true):=by
 unfold Ob.ren at e;split at e;rename_i fs hfs;cases e;obtain⟨a,b⟩:=BW hfs;exact⟨rfl,a,b⟩;cases e
theorem Rb{o:Ob}(h:o.isMap):o.fs.any Fd.r5=true:=by
 have hm:W.mh∈o.fs.flatMap Fd.cells:=ab1 h;obtain⟨f,hf,hx⟩:=List.mem_flatMap.1 hm;rw[List.any_eq_true];refine⟨f,hf,?_⟩;cases f with
 | c y=>simp[Fd.cells] at hx;subst hx;rfl
 | a n d l =>
   simp only[Fd.cells,List.mem_map] at hx;obtain⟨y,_,hy⟩:=hx;cases d<;>cases hy
 | m kd vd l=>rfl
theorem dN.ren(h:∀ n m,g n=some m->∀ p,η n=some p->aG m=some p){o o':Ob}(hz:o.dQ=true∨Z.le Z')(e:o.ren g=some o'){p:Place}{w:World}(L:dN η Z o p w):dN aG Z' o' p w:=by
 obtain⟨e1,e2,e3⟩:=Ob.uz e;have hm1:o'.isMap->o.isMap:=fun hm=>by
  obtain⟨x,hx,hxy,_⟩:=e3 0 _ hm;rcases hxy with hxy|⟨_,hxy,_⟩;rw[W.ren_mh hxy] at hx;exact hx;cases hxy
 have OY:∀ k af,o'.iB k af->o.iB k af:=fun k af hm=>by
  obtain⟨x,hx,hxy,_⟩:=e3 0 _ hm;rcases hxy with hxy|⟨_,hxy,_⟩;rw[W.ren_th hxy] at hx;exact hx;cases hxy
 have hi2:o.eU->o'.eU:=fun hm=>by
  obtain⟨s,hs,hsp⟩:=Ob.Um hm;have h0:0<o'.cells.length:=by rw[e2];exact(List.getElem?_eq_some_iff.1 hs).1
  obtain⟨x,hx,hxy,_⟩:=e3 0 _ (ab2 h0);have:x=s:=Option.some.inj (hx.symm.trans hs);subst this;rcases hm with hm|⟨k,af,hm⟩;have:x=.mh:=Option.some.inj (hx.symm.trans hm);subst this;have hxy:(W.mh).ren g=some o'.cells[0]:=hxy.elim id fun h=>by cases h.2.2
  have:o'.cells[0]=.mh:=(Option.some.inj hxy).symm;left;show o'.cells[0]? = some .mh;rw[ab2 h0,this];have:x=.th k af:=Option.some.inj (hx.symm.trans hm);subst this;have hxy:(W.th k af).ren g=some o'.cells[0]:=hxy.elim id fun h=>by cases h.2.2
  have:o'.cells[0]=.th k af:=(Option.some.inj hxy).symm;refine .inr ⟨k,af,?_⟩;show o'.cells[0]? = some (.th k af);rw[ab2 h0,this]
 refine⟨fun hm=>?_,fun hm=>by rw[e2];exact L.size fun h=>hm (hi2 h),fun k af hm=>by rw[e1];exact L.tabs k af (OY k af hm),fun hm=>?_⟩;obtain⟨c,fz,a,b,d,f⟩:=L.there fun h=>hm (hi2 h);have f':y8 o' p fz:=by
  rcases f with f|⟨hB,ht⟩;exact .inl f;refine .inr ⟨fun y hy=>?_,by rw[e2];exact ht⟩;obtain⟨i,hi⟩:=acn hy;obtain⟨x,hx,hxy,_⟩:=e3 i y hi;obtain⟨n,rfl⟩:=hB x (ab1 hx);have hxy:(W.int .u8 n).ren g=some y:=hxy.elim id fun h=>by cases h.2.2
  exact⟨n,(Option.some.inj hxy).symm⟩
 refine⟨c,fz,by rw[e1];exact a,b,fun i y hy=>?_,f'⟩;obtain⟨x,hx,hxy,hzf⟩:=e3 i y hy;obtain⟨v,hv,hr,h1⟩:=d i x hx;rcases hxy with hxy|⟨_,rfl,_⟩;exact⟨v,hv,W.jU h (hz.imp hzf id) hxy hr,h1⟩;exact⟨v,hv,trivial,h1⟩;obtain⟨es,k,a,b⟩:=L.maps (hm1 hm);refine⟨es,k,a,eH.map (g:=fun x y=>x.ren g=some y/\(o.dQ=true->x.dQ=true)) (fun x y v hxy hr=>⟨W.CU hxy.1,W.jU h (hz.imp hxy.2 id) hxy.1 hr⟩) (by simp[e2]) (fun i y hy=>?_) b⟩;rw[<-acZ,ab6] at hy;obtain⟨x,hx,hxy,hzf⟩:=e3 _ y hy;have hxy:x.ren g=some y:=hxy.elim id fun h=>by rw[Rb (hm1 hm)] at h;cases h.1
 exact⟨x,by rw[<-acZ,ab6];exact hx,hxy,hzf⟩
end
theorem kI{g:Nat->Option Nat}:∀{l r:List Ob},iD g l=some r->r.length=l.length/\∀(i:Nat) o',r[i]? = some o'->∃ o,l[i]? = some o/\o.ren g=some o'
 | [],r,e=>by simp only[iD] at e;cases e;exact⟨rfl,by simp⟩
 | x :: l, r, e => by
   simp only[iD] at e;split at e
   . rename_i y r' hy hr;cases e;obtain⟨a,b⟩:=kI hr;refine⟨by simp[a],fun i o' ho=>?_⟩;cases i with
     | zero=>simp at ho;subst ho;exact⟨x,rfl,hy⟩
     | succ i=>simp at ho ⊢;exact b i o' ho
   cases e
def tab64:List Int:=[0,1,56,2,57,49,28,3,61,58,42,50,38,29,17,4,62,47,59,36,45,43,51,22,53,39,33,30,24,18,12,5,63,55,48,27,60,41,37,16,46,35,44,21,52,32,23,11,54,26,40,15,34,20,31,10,25,14,19,9,13,8,7,6]
def tab32:List Int:=[0,1,28,2,29,14,24,3,30,22,20,15,25,17,4,8,31,27,13,23,21,19,16,7,26,12,18,6,11,5,10,9]
def Rc:List Int:=[1,10,100,1000,10000,100000,1000000,10000000,100000000,1000000000,10000000000,100000000000,1000000000000,10000000000000,100000000000000,1000000000000000,10000000000000000,100000000000000000,1000000000000000000,10000000000000000000]
def Rd:List (String×IntKind×List Int):=[("math/bits.deBruijn32tab",.u8,tab32),("math/bits.deBruijn64tab",.u8,tab64),("internal/strconv.uint64pow10",.u64,Rc)]
def iL(P:Program)(Z:Zeta):Prop:=∀ x∈Rd,∀ g,P.globalNamed x.1=some g->Z g=some (x.2.2.map (Value.int x.2.1)).toArray
theorem iL.mono{P:Program}{Z Z':Zeta}(h:iL P Z)(hz:Z.le Z'):iL P Z':=fun x hx g hg=>hz _ _ (h x hx g hg)
def KA(P:Program)(f:FuncId)(args:List A)(S:ak)(r:A)(S':ak):Prop :=
 ∀ base η Z w vs,St base η Z S w->bg (cr η Z) args vs->iL P Z->CallsIn Fence.wide 0 P f vs.toArray w fun e w'=>∃ u aG Z',e=.returned u/\Moves base η Z S w aG Z' S' w'/\cr aG Z' r u
structure gV(keep base:Nat)(η:Eta)(Z:Zeta)(S:ak)(w:World)(aG:Eta)(Z':Zeta)(S':ak)(w':World):Prop where
 le:∀ n p,n<keep->η n=some p->aG n=some p
 st:St base aG Z' S' w'
 step:Step η Z S w aG Z' S' w'
def bn(P:Program)(f:FuncId)(keep:Nat)(args:List A)(ar:List Ob)(r:A)(aY:List Ob):Prop :=
 ∀ base η Z w vs,St base η Z (.ofList ar) w->bg (cr η Z) args vs->iL P Z->CallsIn Fence.wide 0 P f vs.toArray w fun e w'=>∃ u aG Z',e=.returned u/\gV keep base η Z (.ofList ar) w aG Z' (.ofList aY) w'/\cr aG Z' r u
def bA(P:Program)(f:FuncId)(args:List A)(ar:List Ob)(r:A)(aY:List Ob):Prop:=bn P f ar.length args ar r aY
def idxOf:List Nat->Nat->Option Nat
 | [],_=>none
 | x::l,n=>if x=n then some 0 else match idxOf l n with|some i=>some (i+1)|none=>none
theorem fY:∀{l:List Nat}{n i:Nat},idxOf l n=some i->l[i]? = some n
 | [],_,_,e=>by cases e
 | x :: l, n, i, e => by
   simp only[idxOf] at e;split at e;rename_i h;cases e;subst h;rfl;split at e;rename_i j hj;cases e;simpa using fY hj;cases e
theorem sE:∀{l:List Nat}{n:Nat},idxOf l n=none->∀(i:Nat),l[i]?≠some n
 | [],_,_,i=>by simp
 | x :: l, n, e, i => by
   simp only[idxOf] at e;split at e;cases e;rename_i hne;split at e;cases e;rename_i hj;cases i with
   | zero=>simp;exact hne
   | succ i=>simpa using sE hj i
theorem YI{l:List Nat}(hnd:l.Nodup){n i:Nat}(h:l[i]? = some n):idxOf l n=some i:=by
 cases e:idxOf l n with
 | none=>exact absurd h (sE e i)
 | some j =>
   have hj:=fY e;have h1:=(List.getElem?_eq_some_iff.1 h).1;have:=(acv h1 hnd).1 (h.trans hj.symm);rw[this]
def zw(rs:List Nat)(nx:Nat)(i:Nat):Option Nat:=if i<rs.length then rs[i]? else some (nx+(i-rs.length))
def mg(S:ak):List Nat->List Ob->ak
 | n::rs,o::os=>mg (S.put n o) rs os
 | _,_=>S
def rH(S:ak):List Ob->ak
 | []=>S
 | o::os=>rH (S.add o) os
def ak.back(S:ak)(rs:List Nat)(os:List Ob):ak:=rH (mg S rs (os.take rs.length)) (os.drop rs.length)
theorem zx:∀{rs:List Nat}{os:List Ob}{S:ak},(mg S rs os).cj=S.cj
 | [],_,_=>by simp[mg]
 | _::_,[],_=>by simp[mg]
 | n::rs,o::os,S=>by rw[mg,zx];rfl
theorem zy:∀{os:List Ob}{S:ak},(rH S os).cj=S.cj
 | [],_=>rfl
 | o::os,S=>by rw[rH,zy];rfl
theorem ak.Rf{S:ak}{rs:List Nat}{os:List Ob}:(S.back rs os).cj=S.cj:=by unfold ak.back;rw[zy,zx]
theorem qX:∀{rs:List Nat}{os:List Ob}{S:ak},(mg S rs os).next=S.next
 | [],_,_=>by cases ‹List Ob›<;>rfl
 | _::_,[],_=>rfl
 | n::rs,o::os,S=>by rw[mg,qX];rfl
theorem Ee:∀{rs:List Nat}{os:List Ob}{S:ak},rs.Nodup->os.length=rs.length->(∀ n∈rs,∃ o,S.get n=some o)->∀ n,(mg S rs os).get n=match idxOf rs n with|some i=>os[i]?|none=>S.get n
 | [],[],S,_,_,_,n=>rfl
 | [],_::_,S,_,h,_,n=>by simp at h
 | _::_,[],S,_,h,_,n=>by simp at h
 | k :: rs, o :: os, S, hnd, hl, hin, n => by
   rw[mg];have Rg:=List.nodup_cons.1 hnd;obtain⟨o0,GS⟩:=hin k (by simp);have hget:∀ m,(S.put k o).get m=if m=k then some o else S.get m:=fun m=>by rw[ak.iR,GS];rfl
   rw[Ee Rg.2 (by simpa using hl) (fun m hm=>by
    obtain⟨x,hx⟩:=hin m (by simp[hm]);rw[hget];by_cases h:m=k;rw[if_pos h];exact⟨o,rfl⟩;rw[if_neg h];exact⟨x,hx⟩)]
   simp only[idxOf];by_cases h:k=n;subst h;rw[if_pos rfl];have:idxOf rs k=none:=by
    cases e:idxOf rs k with
    | none=>rfl
    | some i=>exact absurd (ab1 (fY e)) Rg.1
   rw[this];simp[hget];rw[if_neg h];cases idxOf rs n with
   | none=>simp[hget,Ne.symm h]
   | some i=>simp
theorem BX:∀{os:List Ob}{S:ak},(rH S os).next=S.next+os.length
 | [],_=>rfl
 | o::os,S=>by rw[rH,BX];show S.next+1+_=_;simp;omega
theorem Ef:∀{os:List Ob}{S:ak},(∀ n,S.next<=n->S.get n=none)->∀ n,(rH S os).get n=if S.next<=n then os[n-S.next]? else S.get n
 | [],S,hf,n=>by
   show S.get n=_;by_cases h:S.next<=n
   rw[if_pos h,hf n h];simp;rw[if_neg h]
 | o :: os, S, hf, n => by
   have hadd:∀ m,(S.add o).get m=if m=S.next then some o else S.get m:=fun m=>ak.fu (hf _ (acH _))
   rw[rH,Ef (S:=S.add o) (fun m hm=>by
    have:(S.add o).next=S.next+1:=rfl
    rw[hadd,if_neg (by omega)];exact hf m (by omega))]
   have hn:(S.add o).next=S.next+1:=rfl
   rw[hn,hadd];by_cases h:S.next<=n
   . rw[if_pos h];by_cases h1:n=S.next
     subst h1;rw[if_neg (by omega),if_pos rfl];simp
     . rw[if_pos (by omega)];have:n-S.next=(n-(S.next+1))+1:=by omega
       rw[this];simp
   rw[if_neg (by omega),if_neg h,if_neg (by omega)]
theorem YJ{S:ak}{rs:List Nat}{os:List Ob}(hnd:rs.Nodup)(hl:rs.length<=os.length)(hin:∀ n∈rs,∃ o,S.get n=some o)(hf:∀ n o,S.get n=some o->n<S.next)(n:Nat) :
 (S.back rs os).get n=match idxOf rs n with|some i=>os[i]?|none=>if S.next<=n then os[rs.length+(n-S.next)]? else S.get n:=by
 have hp:=Ee (os:=os.take rs.length) hnd (by simp;omega) hin;have uf:∀ n i,idxOf rs n=some i->n<S.next/\i<rs.length:=by
  intro n i e;have:=fY e;obtain⟨o,ho⟩:=hin n (ab1 this);exact⟨hf n o ho,(List.getElem?_eq_some_iff.1 this).1⟩
 have hnone:∀ m,(mg S rs (os.take rs.length)).next<=m->(mg S rs (os.take rs.length)).get m=none:=by
  intro m hm;rw[qX] at hm;rw[hp];cases e:idxOf rs m with
  | some i=>have:=uf m i e;omega
  | none =>
    simp only;cases e':S.get m with
    | none=>rfl
    | some o=>have:=hf m o e';omega
 unfold ak.back;rw[Ef hnone,qX,hp];cases e:idxOf rs n with
 | some i =>
   obtain⟨h1,h2⟩:=uf n i e;simp only;rw[if_neg (by omega),acd,if_pos h2]
 | none =>
   simp only;split;rw[ab6];rfl
theorem UQ{S:ak}{rs:List Nat}{os:List Ob}:(S.back rs os).next=S.next+(os.length-rs.length):=by
 unfold ak.back;rw[BX,qX];simp
def gW(S:ak):List Nat->Option (List Ob)
 | []=>some []
 | n::l=>match S.get n,gW S l with|some o,some r=>some (o::r)|_,_=>none
theorem lT:∀{S:ak}{rs:List Nat}{l:List Ob},gW S rs=some l->l.length=rs.length/\∀(i:Nat) n,rs[i]? = some n->∃ o,S.get n=some o/\l[i]? = some o
 | S,[],l,e=>by simp only[gW] at e;cases e;exact⟨rfl,by simp⟩
 | S,k::rs,l,e=>by
   simp only[gW] at e;split at e
   . rename_i o r ho hr;cases e;obtain⟨a,b⟩:=lT hr;refine⟨by simp[a],fun i n hi=>?_⟩;cases i with
     | zero=>simp at hi;subst hi;exact⟨o,ho,rfl⟩
     | succ i=>simpa using b i n (by simpa using hi)
   cases e
def gb(S:ak):List Nat->ak
 | []=>S
 | m::ms=>gb (S.del m) ms
theorem xu:∀{ms:List Nat}{S:ak}{n:Nat}{o:Ob},(gb S ms).get n=some o->S.get n=some o/\n ∉ ms
 | [],_,_,_,h=>⟨h,by simp⟩
 | m::ms,S,n,o,h=>by
   obtain⟨a,b⟩:=xu (S:=S.del m) h;rw[ak.ia] at a;split at a;cases a;rename_i hne;exact⟨a,by simp[hne,b]⟩
theorem o7:∀{ms:List Nat}{S:ak},(gb S ms).next=S.next
 | [],_=>rfl
 | m::ms,S=>by rw[gb,o7];rfl
theorem zA:∀{ms:List Nat}{S:ak}{n:Nat},n ∉ ms->(gb S ms).get n=S.get n
 | [],_,_,_=>rfl
 | m::ms,S,n,h=>by
   simp only[List.mem_cons,not_or] at h;rw[gb,zA h.2,ak.ia,if_neg h.1]
theorem xw:∀{ms:List Nat}{S:ak},(gb S ms).cj=S.cj
 | [],_=>rfl
 | m::ms,S=>by rw[gb,xw];rfl
section
variable {P:Program}
def Seen(η:Eta)(S:ak)(ms:List Nat)(b:Nat):Prop:=∃ m,m∈ms/\∃ o p,S.get m=some o/\η m=some p/\p.has b
open Classical in
def r7(η:Eta)(Z:Zeta)(S:ak)(w:World)(ms:List Nat):Zeta:=fun b=>if Seen η S ms b then(match w.heap[b]? with|some (.cells c _ _)=>some c|_=>none) else Z b
theorem FL{base:Nat}{η:Eta}{Z:Zeta}{S:ak}{w:World}(R:St base η Z S w)(ms:List Nat):Z.le (r7 η Z S w ms):=by
 intro b c h;unfold r7;rw[if_neg];exact h;rintro⟨m,_,o,p,ho,hp,hb⟩;rw[(R.all ho hp hb).2.1] at h;cases h
def cO(η:Eta)(rs:List Nat):Eta:=fun i=>match rs[i]? with|some n=>η n|none=>none
open Classical in
theorem Eg{f:FuncId}{S:ak}{rs ms:List Nat}{args sF:List A}{fj bM gZ qY:List Ob}{r0 r:A}{keep:Nat}(xA:bn P f keep sF bM r0 gZ)(hnd:rs.Nodup)(xB:∀ m∈ms,m ∉ rs)
 (fH:gW S rs=some fj) (hO:iD (idxOf rs) fj=some bM) (hkr:keep<=rs.length) (hlen:keep<=gZ.length) (hr:r0.ren (zw (rs.take keep) S.next)=some r) (hos:iD (zw (rs.take keep) S.next) gZ=some qY)
 (hz:ms=[]∨(r0.dQ=true/\gZ.all Ob.dQ=true))
 (hargs:∀ base η Z w vs,St base η Z S w->bg (cr η Z) args vs->bg (cr (cO η rs) (r7 η Z S w ms)) sF vs):KA P f args S r ((gb S (rs.drop keep)).back (rs.take keep) qY):=by
 intro base η Z w vs R hvs hK;obtain⟨hl1,ko⟩:=lT fH;obtain⟨hl2,kT⟩:=kI hO;obtain⟨hl3,hg3⟩:=kI hos;have hin:∀ n∈rs,∃ o,S.get n=some o:=fun n hn=>by
  obtain⟨i,hi⟩:=acn hn;obtain⟨o,ho,_⟩:=ko i n hi;exact⟨o,ho⟩
 have hnext:∀ n∈rs,n<S.next:=fun n hn=>let ⟨o,ho⟩:=hin n hn;R.known n o ho
 have YK:=FL R ms;have hidx:∀ n m,idxOf rs n=some m->∀ p,η n=some p->cO η rs m=some p:=by
  intro n m e p hp;unfold cO;rw[fY e];exact hp
 -- an object that is handed over
 have hand:∀(i:Nat) o,bM[i]? = some o->∃ n oS,rs[i]? = some n/\S.get n=some oS/\oS.ren (idxOf rs)=some o:=by
  intro i o ho;obtain⟨oS,h1,h2⟩:=kT i o ho;have hi:i<rs.length:=by have:=(List.getElem?_eq_some_iff.1 h1).1;omega
  obtain⟨o',h3,h4⟩:=ko i rs[i] (ab2 hi);have:oS=o':=Option.some.inj (h1.symm.trans h4);subst this;exact⟨rs[i],oS,ab2 hi,h3,h2⟩
 have hseen:∀ n o p b,n∈rs->S.get n=some o->η n=some p->p.has b->¬Seen η S ms b:=by
  rintro n o p b hn ho hp hb0 ⟨m,hm,o',p',ho',hp',hb⟩;exact R.jh m n o' o p' p b ho' ho (fun h=>xB m hm (h▸hn)) hp' hp hb hb0
 have R0 : St base (cO η rs) (r7 η Z S w ms) (.ofList bM) w := by
  refine⟨?_,?_,?_,?_,?_,?_,R.fN,?_⟩;intro i o p ho hp;rw[ak.aM] at ho;obtain⟨n,oS,h1,h2,h3⟩:=hand i o ho;unfold cO at hp;rw[h1] at hp;obtain⟨a,b,L⟩:=R.ar n oS p h2 hp;refine⟨a,?_,L.ren hidx (.inr YK) h3⟩;unfold r7;rw[if_neg (hseen n oS p _ (ab1 h1) h2 hp p.gO)];exact b;intro i o ho hp;rw[ak.aM] at ho;obtain⟨n,oS,h1,h2,h3⟩:=hand i o ho;unfold cO at hp;rw[h1] at hp;have:=R.cj n oS h2 hp;have h4:=(Ob.uz h3).2.1;rw[this] at h4;exact acj h4;intro i o ho;rw[ak.aM] at ho;exact(List.getElem?_eq_some_iff.1 ho).1;intro i j o o' p p' b ho ho' hne hp hp';rw[ak.aM] at ho ho';obtain⟨n,oS,h1,h2,h3⟩:=hand i o ho;obtain⟨n',oS',h1',h2',h3'⟩:=hand j o' ho';unfold cO at hp hp';rw[h1] at hp;rw[h1'] at hp';refine R.jh n n' oS oS' p p' b h2 h2' ?_ hp hp';rintro rfl;exact hne ((acv (List.getElem?_eq_some_iff.1 h1).1 hnd).1 (h1.trans h1'.symm));intro b c hb;unfold r7 at hb;split at hb;split at hb;rename_i hh;cases hb;exact⟨_,_,hh⟩;cases hb;exact R.zs b c hb
  . intro i hi;unfold cO;have:rs[i]? = none:=List.getElem?_eq_none (by have:(ak.ofList bM).next=bM.length:=rfl;omega);rw[this]
  intro i o p ho hp b hb;rw[ak.aM] at ho;obtain⟨n,oS,h1,h2,h3⟩:=hand i o ho;unfold cO at hp;rw[h1] at hp;obtain⟨q1,q2,q3⟩:=R.sat n oS p h2 hp b hb;refine⟨q1,?_,q3⟩;unfold r7;rw[if_neg (hseen n oS p b (ab1 h1) h2 hp (.inr hb))];exact q2
 refine(xA base _ _ w vs R0 (hargs base η Z w vs R hvs) (hK.mono YK)).mono ?_
 rintro e w' ⟨u,xC,yR,rfl,mv,UR⟩
  -- names turned back
 generalize UU:rs.take keep=rk at *;have hrkl:rk.length=keep:=by rw[<-UU];simp;omega
 have hrkn:rk.Nodup:=by rw[<-UU];exact hnd.sublist (List.take_sublist _ _)
 have hrkm:∀(i:Nat) n,rk[i]? = some n->i<keep/\rs[i]? = some n:=by
  intro i n h;have hi:=(List.getElem?_eq_some_iff.1 h).1;rw[<-UU,acd] at h;split at h;rename_i hh;exact⟨hh,h⟩;cases h
 have G9:∀ n o,(gb S (rs.drop keep)).get n=some o->S.get n=some o/\n ∉ rs.drop keep:=fun n o h=>xu h;have hnrs : ∀ n o, (gb S (rs.drop keep)).get n = some o → idxOf rk n = none → idxOf rs n = none := by
  intro n o ho e;cases e':idxOf rs n with
  | none=>rfl
  | some i =>
    have hi:=fY e';exfalso;rcases ac0 i keep with hh|hh;refine sE e i ?_;rw[<-UU,acd,if_pos hh];exact hi;refine(G9 n o ho).2 ?_;refine ab1 (i:=i-keep) ?_;rw[ab6,show keep+(i-keep)=i by omega];exact hi
 have O1:∀ n∈rk,∃ o,(gb S (rs.drop keep)).get n=some o:=by
  intro n hn;obtain⟨i,hi⟩:=acn hn;obtain⟨hik,hi'⟩:=hrkm i n hi;obtain⟨o,ho⟩:=hin n (ab1 hi');refine⟨o,?_⟩;rw[zA];exact ho;intro hd;obtain⟨j,hj⟩:=acn hd;rw[ab6] at hj;have:=(acv (List.getElem?_eq_some_iff.1 hi').1 hnd).1 (hi'.trans hj.symm);omega
 have UW:∀ n∈rk,n<S.next:=fun n hn=>by
  obtain⟨o,ho⟩:=O1 n hn;exact R.known n o (G9 n o ho).1
 let aG:Eta:=fun n=>match idxOf rk n with|some i=>xC i|none=>if S.next<=n then xC (rk.length+(n-S.next)) else η n
 let Z':Zeta:=fun b=>if Seen η S ms b then none else yR b;have YL:∀(i:Nat) n,rk[i]? = some n->aG n=xC i:=by
  intro i n h;show (match idxOf rk n with|some i=>xC i|none=>_)=_;rw[YI hrkn h]
 have hidxN:∀ n,S.next<=n->idxOf rk n=none:=by
  intro n hn;cases e:idxOf rk n with
  | none=>rfl
  | some i=>have:=UW n (ab1 (fY e));omega
 have YM:∀ n,S.next<=n->aG n=xC (rk.length+(n-S.next)):=by
  intro n hn;show (match idxOf rk n with|some i=>xC i|none=>_)=_;rw[hidxN n hn];simp only[if_pos hn]
 have hη3:∀ n,n<S.next->idxOf rk n=none->aG n=η n:=by
  intro n hn e;show (match idxOf rk n with|some i=>xC i|none=>_)=_;rw[e];simp only[if_neg (Nat.not_le.2 hn)]
 have hup:∀ n m,zw rk S.next n=some m->∀ p,xC n=some p->aG m=some p:=by
  intro n m e p hp;unfold zw at e;split at e;rw[YL n m e];exact hp
  . rename_i hn;cases e;rw[YM _ (by omega),show rk.length+(S.next+(n-rk.length)-S.next)=n by omega];exact hp
 have hzz:r0.dQ=true∨yR.le Z':=by
  rcases hz with rfl|hz;right;intro b c h;show (if Seen η S [] b then none else yR b)=_;rw[if_neg (by rintro⟨m,hm,_⟩;simp at hm)];exact h;exact .inl hz.1
 have hzo:∀(i:Nat) o,gZ[i]? = some o->o.dQ=true∨yR.le Z':=by
  intro i o ho;rcases hz with rfl|hz;right;intro b c h;show (if Seen η S [] b then none else yR b)=_;rw[if_neg (by rintro⟨m,hm,_⟩;simp at hm)];exact h;exact .inl (List.all_eq_true.1 hz.2 o (ab1 ho))
 have YN:∀ b,Own (cO η rs) (.ofList bM) b->Own η S b:=by
  rintro b ⟨i,o,p,ho,hp,hb⟩;rw[ak.aM] at ho;obtain⟨n,oS,h1,h2,h3⟩:=hand i o ho;unfold cO at hp;rw[h1] at hp;exact⟨n,oS,p,h2,hp,hb⟩
 have hget:=YJ (S:=gb S (rs.drop keep)) (os:=qY) hrkn (by omega) O1 (fun n o h=>by rw[o7];exact R.known n o (G9 n o h).1);rw[o7] at hget;have UX:((gb S (rs.drop keep)).back rk qY).next=S.next+(gZ.length-rk.length):=by rw[UQ,hl3,o7]
 -- where an object of the new store comes from
 have src : ∀ n o, ((gb S (rs.drop keep)).back rk qY).get n = some o → (∃(i : Nat)(o1 : Ob), gZ[i]? = some o1 ∧ o1.ren (zw rk S.next) = some o ∧ aG n = xC i ∧ zw rk S.next i = some n) ∨ (idxOf rs n = none ∧ n < S.next ∧ S.get n = some o ∧ aG n = η n) := by
  intro n o ho;rw[hget] at ho;cases e:idxOf rk n with
  | some i =>
    rw[e] at ho;obtain⟨o1,h1,h2⟩:=hg3 i o ho;have hi:=fY e;refine .inl ⟨i,o1,h1,h2,YL i n hi,?_⟩;unfold zw;rw[if_pos (List.getElem?_eq_some_iff.1 hi).1];exact hi
  | none =>
    rw[e] at ho;simp only at ho;split at ho;rename_i hn;obtain⟨o1,h1,h2⟩:=hg3 _ o ho;refine .inl ⟨_,o1,h1,h2,YM n hn,?_⟩;unfold zw;rw[if_neg (by omega)];congr 1;omega;rename_i hn;exact .inr ⟨hnrs n o ho e,by omega,(G9 n o ho).1,hη3 n (by omega) e⟩
 have wj:∀ n o p b,idxOf rs n=none->S.get n=some o->η n=some p->p.has b->¬Own (cO η rs) (.ofList bM) b:=by
  rintro n o p b e ho hp hb0 ⟨i,o',q,ho',hq,hb⟩;rw[ak.aM] at ho';obtain⟨k,oS,h1,h2,h3⟩:=hand i o' ho';unfold cO at hq;rw[h1] at hq;exact R.jh k n oS o q p b h2 ho (fun hh=>by subst hh;exact sE e i h1) hq hp hb hb0
 have hle':η.le aG:=by
  intro n p hp;cases e:idxOf rk n with
  | some i =>
    have hi:=fY e;rw[YL i n hi];obtain⟨hik,hi'⟩:=hrkm i n hi;refine mv.le i p hik ?_;unfold cO;rw[hi'];exact hp
  | none=>rw[hη3 n (R.lt hp) e];exact hp
 have hZle':Z.le Z':=by
  intro b c h;show (if Seen η S ms b then none else yR b)=_;rw[if_neg (by
   rintro⟨m,_,o,p,ho,hp,hb⟩;rw[(R.all ho hp hb).2.1] at h;cases h)]
  exact mv.step.cG b c (YK b c h)
 have old : ∀ n o p, idxOf rs n = none → S.get n = some o → η n = some p → ∀ b, p.has b → Z' b = none := by
  intro n o p e hS hp b hb;have hlt:=R.jz hS hp hb;have hno:=wj n o p b e hS hp hb;show (if Seen η S ms b then none else yR b)=_;split;rfl;rename_i hns;cases hc:yR b with
  | none=>rfl
  | some c =>
    rcases mv.step.ga _ c hc with hh|hh|hh;unfold r7 at hh;rw[if_neg hns,(R.all hS hp hb).2.1] at hh;cases hh;exact absurd hh hno;omega
 refine⟨u,aG,Z',rfl,⟨hle',⟨?_,?_,?_,?_,?_,?_,mv.st.fN,?_⟩,⟨mv.step.os,mv.step.tape,mv.step.output,mv.step.size,?_,?_,hZle',?_,ak.Rf.trans xw⟩⟩,A.jU hup hzz hr UR⟩;intro n o p ho hp;rcases src n o ho with ⟨i,o1,h1,h2,h3,_⟩|⟨e,hn,hS,h3⟩;rw[h3] at hp;obtain⟨a,b,L⟩:=mv.st.ar i o1 p (by rw[ak.aM];exact h1) hp;refine⟨a,?_,L.ren hup (hzo i o1 h1) h2⟩;show (if Seen η S ms p.block then none else yR p.block)=_;rw[b];split<;>rfl;rw[h3] at hp;obtain⟨a,b,L⟩:=R.ar n o p hS hp;exact⟨a,old n o p e hS hp _ p.gO,L.mono hle' hZle' fun b hb=>mv.step.block b (R.jz hS hp hb) (wj n o p b e hS hp hb)⟩;intro n o ho hp;rcases src n o ho with ⟨i,o1,h1,h2,h3,_⟩|⟨e,hn,hS,h3⟩;rw[h3] at hp;have h4:=mv.st.cj i o1 (by rw[ak.aM];exact h1) hp;have h5:=(Ob.uz h2).2.1;rw[h4] at h5;exact acj h5;rw[h3] at hp;exact R.cj n o hS hp;intro n o ho;rw[UX];rcases src n o ho with ⟨i,o1,h1,h2,h3,h4⟩|⟨e,hn,hS,h3⟩;have hi:=(List.getElem?_eq_some_iff.1 h1).1;unfold zw at h4;split at h4;have:=UW n (ab1 h4);omega;cases h4;omega;omega;intro n n' o o' p p' b ho ho' hne hp hp' hb hb';rcases src n o ho with ⟨i,o1,h1,h2,h3,h4⟩|⟨e,hn,hS,h3⟩;rw[h3] at hp;rcases src n' o' ho' with ⟨i',o1',h1',h2',h3',h4'⟩|⟨e',hn',hS',h3'⟩;rw[h3'] at hp';refine mv.st.jh i i' o1 o1' p p' b (by rw[ak.aM];exact h1) (by rw[ak.aM];exact h1') ?_ hp hp' hb hb';rintro rfl;rw[h4] at h4';cases h4';exact hne rfl;rw[h3'] at hp';rcases mv.step.own b ⟨i,o1,p,by rw[ak.aM];exact h1,hp,hb⟩ with hh|hh;exact wj n' o' p' b e' hS' hp' hb' hh;have:=R.jz hS' hp' hb';omega;rw[h3] at hp;rcases src n' o' ho' with ⟨i',o1',h1',h2',h3',h4'⟩|⟨e',hn',hS',h3'⟩;rw[h3'] at hp';rcases mv.step.own b ⟨i',o1',p',by rw[ak.aM];exact h1',hp',hb'⟩ with hh|hh;exact wj n o p b e hS hp hb hh;have:=R.jz hS hp hb;omega;rw[h3'] at hp';exact R.jh n n' o o' p p' b hS hS' hne hp hp' hb hb';intro b c hb;have hb':(if Seen η S ms b then none else yR b)=some c:=hb;split at hb';cases hb';exact mv.st.zs b c hb';intro n hn;rw[UX] at hn;rw[YM n (by omega)];refine mv.st.fresh _ ?_;show gZ.length<=_;omega;intro n o p ho hp b hb;rcases src n o ho with ⟨i,o1,h1,h2,h3,_⟩|⟨e,hn,hS,h3⟩;rw[h3] at hp;obtain⟨q1,q2,q3⟩:=mv.st.sat i o1 p (by rw[ak.aM];exact h1) hp b hb;refine⟨q1,?_,q3⟩;show (if Seen η S ms b then none else yR b)=_;rw[q2];split<;>rfl;rw[h3] at hp;obtain⟨q1,q2,ob,q3,q4⟩:=R.sat n o p hS hp b hb;exact⟨q1,old n o p e hS hp b (.inr hb),ob,(mv.step.block b (R.jz hS hp (.inr hb)) (wj n o p b e hS hp (.inr hb))).trans q3,q4⟩;intro b hb hno;exact mv.step.block b hb fun hh=>hno (YN b hh);rintro b ⟨n,o,p,ho,hp,hb⟩;rcases src n o ho with ⟨i,o1,h1,h2,h3,_⟩|⟨e,hn,hS,h3⟩;rw[h3] at hp;rcases mv.step.own b ⟨i,o1,p,by rw[ak.aM];exact h1,hp,hb⟩ with hh|hh;exact .inl (YN _ hh);exact .inr hh;rw[h3] at hp;exact .inl ⟨n,o,p,hS,hp,hb⟩;intro b c hb;have hb':(if Seen η S ms b then none else yR b)=some c:=hb;split at hb';cases hb';rename_i hns;rcases mv.step.ga b c hb' with hh|hh|hh;unfold r7 at hh;rw[if_neg hns] at hh;exact .inl hh;exact .inr (.inl (YN b hh));exact .inr (.inr hh)
end
structure bI where
 refs:List Bool
 keep:Option Nat:=none
 f:List A->List Ob->Option (Cd×A×List Ob)
 roots:Option (List Bool):=none
abbrev bN:=List (FuncId×bI)
def look:bN->FuncId->Option bI
 | [],_=>none
 | (g,c)::l,f=>bif ab3 g f then some c else look l f
def enters (P:Program) (f:FuncId):Bool:=match P.funcs[f]? with|some fn=>fn.body.isSome&&!(fn.name == "runtime.NumGoroutine")|none=>false
structure aK(P:Program)(f:FuncId)(con:bI):Prop where
 enters:enters P f=true
 sem:∀ args ar c r aY,con.f args ar=some (c,r,aY)->c->bn P f (con.keep.getD ar.length) args ar r aY
def bp(P:Program)(Γ:bN):Prop:=∀ f con,look Γ f=some con->aK P f con
theorem aE{P:Program}:bp P []:=fun _ _ h=>by cases h
theorem av{P:Program}{f:FuncId}{con:bI}{Γ:bN}(h:aK P f con)(dm:bp P Γ):bp P ((f,con)::Γ):=by
 intro g con' e;simp only[look] at e;cases hb:ab3 f g with
 | true=>rw[hb] at e;cases e;have:=abZ hb;subst this;exact h
 | false=>rw[hb] at e;exact dm g con' e
def Ba(S:ak):W->Option (Cd×List Int×List Nat)
 | .sl m off len sz=>bif ab3 sz 1 then match S.get m with
  | some o=>match Fd.list (.int .i64) o.fs with
    | some l=>some (.p (off+len<=acT (α:=Int) l),(acX (α:=Int) off l).take len,[m])
    | none=>none
  | none=>none
   else none
 | .row n i len=>match uj S n with
   | some (k,af)=>some (.p (i<af.length/\len=k),af.getD i [],[n])
   | none=>none
 | .rd (.int .i64) l=>some (.t,l,[])
 | _=>none
def Jz(S:ak):W->Option (Cd×W×List Nat)
 | .sl m off len sz=>bif ab3 sz 1 then match S.get m with
  | some o=>match o.fs with
    | [.a _ d l]=>some (.p (off+len<=l.length),.rd d ((l.drop off).take len),[m])
    | [.c x,.c y]=>bif ab3 off 0&&ab3 len 2 then match Ba S x,Ba S y with
      | some (c1,l1,Eh),some (c2,l2,O2)=>some (.and c1 c2,.rd (.sl (.int .i64)) [l1,l2],m::(Eh++O2))
      | _,_=>none
      else none
    | _=>none
  | none=>none
   else none
 | .row n i len=>match uj S n with
   | some (k,af)=>some (.p (i<af.length/\len=k),.rd (.int .i64) (af.getD i []),[n])
   | none=>none
 | x=>bif x.clean then some (.t,x,[]) else none
def zB(S:ak):List W->Option (Cd×List W×List Nat)
 | []=>some (.t,[],[])
 | x::l=>match Jz S x,zB S l with|some (c,y,ms),some (c',ys,ms')=>some (.and c c',y::ys,ms++ms')|_,_=>none
def Ei(S:ak):V->Option (Cd×V×List Nat)
 | .c x=>match Jz S x with|some (c,y,ms)=>some (c,.c y,ms)|none=>none
 | .agg cs=>match zB S cs with|some (c,ys,ms)=>some (c,.agg ys,ms)|none=>none
def qZ(S:ak):List Bool->List V->Option (Cd×List V×List Nat)
 | _,[]=>some (.t,[],[])
 | true::bs,v::vs=>match qZ S bs vs with|some (c,ys,ms)=>some (c,v::ys,ms)|none=>none
 | false::bs,v::vs=>match Ei S v,qZ S bs vs with|some (c,y,ms),some (c',ys,ms')=>some (.and c c',y::ys,ms++ms')|_,_=>none
 | [],v::vs=>match Ei S v,qZ S [] vs with|some (c,y,ms),some (c',ys,ms')=>some (.and c c',y::ys,ms++ms')|_,_=>none
def oK(η:Eta)(S:ak)(w:World)(ms:List Nat)(Z':Zeta):Prop:=∀ m∈ms,∀ o p,S.get m=some o->η m=some p->(¬o.eU->∃ c ty fz,w.heap[p.block]? = some (.cells c ty fz)/\Z' p.block=some c)/\∀ k af,o.iB k af->∀ b∈p.sats,∃ c ty fz,w.heap[b]? = some (.cells c ty fz)/\Z' b=some c
section
variable {P:Program} {base:Nat} {η:Eta} {Z Z':Zeta} {S:ak} {w:World}
theorem oK.left{ms ms':List Nat}(h:oK η S w (ms++ms') Z'):oK η S w ms Z':=fun m hm=>h m (by simp[hm])
theorem oK.right{ms ms':List Nat}(h:oK η S w (ms++ms') Z'):oK η S w ms' Z':=fun m hm=>h m (by simp[hm])
theorem Hj(R : St base η Z S w)(hle : Z.le Z'){x : W}{c : Cd}{l : List Int}{ms : List Nat}(e : Ba S x = some (c, l, ms))(hc : c)(hs : oK η S w ms Z'){v : Value}(r : aI η Z x v) : cE Z' (.sl (.int .i64)) l v := by
 unfold Ba at e;split at e
 · rename_i m off len sz
   obtain⟨h1,e1⟩:=aA.aH e;have h1':sz=1:=abZ h1;subst h1';clear e;split at e1
   · rename_i o ho
     split at e1
     · rename_i l hfs
       cases e1;have hc':off+len<=acT (α:=Int) l:=hc;have cn:o.cells=l.map (D.int .i64).w:=Fd.jF hfs;simp only[aI] at r;rcases r with ⟨h0,rfl⟩|⟨p,cap,ad,hp,rfl,hcap,hroom,had⟩;subst h0;exact⟨none,0,0,rfl,by simp,acH _,.inl (by simp)⟩;by_cases h0:len=0;subst h0;exact⟨some ad,0,cap,rfl,by simp,acM _,.inl (by simp)⟩;obtain⟨cs,ty,fz,hh,hz⟩:=(hs m (by simp) o p ho hp).1 (Ob.ji cn);obtain⟨_,_,L⟩:=R.ar m o p ho hp;obtain⟨c',zi,hc1,_,hv,_⟩:=L.there (Ob.ji cn);rw[hh] at hc1;cases hc1;refine⟨some ad,len,cap,rfl,by simp;omega,hcap,.inr ⟨p.block,p.off+off,cs,?_,hz,?_⟩⟩;rcases had with h|h;omega;rw[h];intro i x hx;have hx':o.cells[off+i]? = some ((D.int .i64).w x):=by
        have hx:(List.take len (acX (α:=Int) off l))[i]? = some x:=hx;rw[acd] at hx;split at hx;rw[ab6] at hx;rw[cn,ab9];have hx:(show List Int from l)[off+i]? = some x:=hx;exact congrArg (Option.map (D.int .i64).w) hx;cases hx
       obtain⟨u,h1,h2,_⟩:=hv _ _ hx';exact⟨u,by rw[<-h1];congr 1;omega,cE.mono hle (.int .i64) ((D.gC (.int .i64)).1 h2)⟩
     cases e1
   cases e1
 rename_i m i len;split at e;rename_i k af hk;obtain⟨o,ho,_,hto⟩:=nC hk;cases e;obtain⟨hi,rfl⟩:=(hc:i<af.length/\len=k);obtain⟨p,r0,cap,hp,hr,rfl,hcap⟩:=r;obtain⟨_,_,L⟩:=R.ar m o p ho hp;have T:=L.tabs _ af hto;have OX:af.getD i []=af[i]:=by rw[aco,ab2 hi];rfl
 obtain⟨hl,c1,t1,fz1,q1,_,q3,_⟩:=T.row i r0 af[i] hr (ab2 hi);obtain⟨c2,t2,fz2,q4,q5⟩:=(hs m (by simp) o p ho hp).2 _ af hto r0.1 (List.mem_map.2 ⟨r0,ab1 hr,rfl⟩);rw[q1] at q4;cases q4;rw[OX];refine⟨_,len,cap,rfl,hl,hcap,.inr ⟨r0.1,r0.2,c1,rfl,q5,fun j x hx=>⟨_,q3 j x hx,?_⟩⟩⟩;simp only[cE];cases e;cases e;simp only[aI,aQ] at r;exact cE.mono hle _ r;cases e
theorem KC{x:W}{c:Cd}{l:List Int}{ms:List Nat}(e:Ba S x=some (c,l,ms)):x≠.mh/\∀ k af,x≠.th k af:=by
 refine⟨?_,fun k af=>?_⟩<;>rintro rfl<;>simp only[Ba] at e<;>cases e
theorem Hl(R : St base η Z S w)(hle : Z.le Z'){x y : W}{c : Cd}{ms : List Nat}(e : Jz S x = some (c, y, ms))(hc : c)(hs : oK η S w ms Z'){v : Value}(r : aI η Z x v)(hx : x ≠ .dead) : aI η Z' y v ∧ y ≠ .dead := by
 unfold Jz at e;split at e
 · rename_i m off len sz
   obtain⟨h1,e1⟩:=aA.aH e;have h1':sz=1:=abZ h1;subst h1';clear e;split at e1
   · rename_i o ho
     split at e1;rename_i k d l hfs;cases e1;have hc':off+len<=l.length:=hc;refine⟨?_,by simp⟩;have cn:o.cells=l.map d.w:=by unfold Ob.cells;rw[hfs];simp[Fd.cells]
     simp only[aI,aQ];rcases r with ⟨h0,rfl⟩|⟨p,cap,ad,hp,rfl,hcap,hroom,had⟩;subst h0;exact⟨none,0,0,rfl,by simp,acH _,.inl (by simp)⟩;by_cases h0:len=0;subst h0;exact⟨some ad,0,cap,rfl,by simp,acM _,.inl (by simp)⟩;obtain⟨cs,ty,fz,hh,hz⟩:=(hs m (by simp) o p ho hp).1 (Ob.ji cn);obtain⟨_,_,L⟩:=R.ar m o p ho hp;obtain⟨c',zi,hc1,_,hv,_⟩:=L.there (Ob.ji cn);rw[hh] at hc1;cases hc1;refine⟨some ad,len,cap,rfl,by simp;omega,hcap,.inr ⟨p.block,p.off+off,cs,?_,hz,?_⟩⟩;rcases had with h|h;omega;rw[h];intro i x hx;have hx':o.cells[off+i]? = some (d.w x):=by
      rw[acd] at hx;split at hx;rw[ab6] at hx;rw[cn];simp[hx];cases hx
     obtain⟨u,h1,h2,_⟩:=hv _ _ hx';exact⟨u,by rw[<-h1];congr 1;omega,cE.mono hle d ((D.gC d).1 h2)⟩;rename_i x y hfs;obtain⟨h2,e2⟩:=aA.aH e1;clear e1;simp only[ab0] at h2;have hoff:=abZ h2.1;have hlen:=abZ h2.2;subst hoff hlen;split at e2;rename_i c1 l1 Eh c2 l2 O2 g1 g2;cases e2;refine⟨?_,by simp⟩;have cn:o.cells=[x,y]:=by unfold Ob.cells;rw[hfs];rfl
     have hnm:¬o.eU:=by
      rintro (hm|⟨k,af,hm⟩);unfold Ob.isMap at hm;rw[cn] at hm;cases hm;exact(KC g1).1 rfl;unfold Ob.iB at hm;rw[cn] at hm;cases hm;exact(KC g1).2 _ _ rfl
     simp only[aI,aQ];rcases r with ⟨h0,rfl⟩|⟨p,cap,ad,hp,rfl,hcap,hroom,had⟩;cases h0;obtain⟨cs,ty,fz,hh,hz⟩:=(hs m (by simp) o p ho hp).1 hnm;obtain⟨_,_,L⟩:=R.ar m o p ho hp;obtain⟨c',zi,hc1,_,hv,_⟩:=L.there hnm;rw[hh] at hc1;cases hc1;have hs1:oK η S w Eh Z':=fun q hq=>hs q (by simp[hq]);have hs2:oK η S w O2 Z':=fun q hq=>hs q (by simp[hq]);refine⟨some ad,2,cap,rfl,rfl,hcap,.inr ⟨p.block,p.off+0,cs,?_,hz,?_⟩⟩;rcases had with h|h;omega;rw[h]
     . intro i z hz'
       match i,hz' with
       | 0,hz' =>
         cases hz';obtain⟨u,h1,h2,_⟩:=hv 0 x (by rw[cn];rfl);exact⟨u,h1,Hj R hle g1 hc.1 hs1 h2⟩
       | 1,hz' =>
         cases hz';obtain⟨u,h1,h2,_⟩:=hv 1 y (by rw[cn];rfl);exact⟨u,h1,Hj R hle g2 hc.2 hs2 h2⟩
       | i+2,hz'=>cases hz'
     cases e2;cases e1
   cases e1
 rename_i m i len;split at e;rename_i k af hk;obtain⟨o,ho,_,hto⟩:=nC hk;cases e;obtain⟨hi,rfl⟩:=(hc:i<af.length/\len=k);obtain⟨p,r0,cap,hp,hr,rfl,hcap⟩:=r;obtain⟨_,_,L⟩:=R.ar m o p ho hp;have T:=L.tabs _ af hto;have OX:af.getD i []=af[i]:=by rw[aco,ab2 hi];rfl
 obtain⟨hl,c1,t1,fz1,q1,_,q3,_⟩:=T.row i r0 af[i] hr (ab2 hi);obtain⟨c2,t2,fz2,q4,q5⟩:=(hs m (by simp) o p ho hp).2 _ af hto r0.1 (List.mem_map.2 ⟨r0,ab1 hr,rfl⟩);rw[q1] at q4;cases q4;refine⟨?_,by simp⟩;simp only[aI,aQ];rw[OX];refine⟨_,len,cap,rfl,hl,hcap,.inr ⟨r0.1,r0.2,c1,rfl,q5,fun j x hx=>⟨_,q3 j x hx,?_⟩⟩⟩;simp only[cE];cases e;obtain⟨h1,e1⟩:=aA.aH e;cases e1;exact⟨r.mono (Eta.le.refl _) hle,hx⟩
theorem Ej(R:St base η Z S w)(hle:Z.le Z'):∀{l r:List W}{c:Cd}{ms:List Nat}{vs:List Value},zB S l=some (c,r,ms)->c->oK η S w ms Z'->bg (aI η Z) l vs->(∀ x∈l,x≠.dead)->bg (aI η Z') r vs/\∀ x∈r,x≠.dead
 | [],r,c,ms,vs,e,_,_,hl,_=>by simp only[zB] at e;cases e;cases vs with|nil=>exact⟨trivial,by simp⟩|cons _ _=>exact hl.elim
 | x :: l, r, c, ms, vs, e, hc, hs, hl, hd => by
   simp only[zB] at e;split at e
   . rename_i c1 y Eh c2 ys O2 h1 h2;cases e;cases vs with
     | nil=>exact hl.elim
     | cons v vs =>
       obtain⟨a,b⟩:=Hl R hle h1 hc.1 hs.left hl.1 (hd x (by simp));obtain⟨a',b'⟩:=Ej R hle h2 hc.2 hs.right hl.2 (fun z hz=>hd z (by simp[hz]));refine⟨⟨a,a'⟩,fun z hz=>?_⟩;rcases List.mem_cons.1 hz with rfl|hz;exact b;exact b' z hz
   cases e
theorem Ho(R:St base η Z S w)(hle:Z.le Z'){x y:V}{c:Cd}{ms:List Nat}(e:Ei S x=some (c,y,ms))(hc:c)(hs:oK η S w ms Z'){v:Value}(r:cW η Z x v):cW η Z' y v:=by
 cases x with
 | c x =>
   simp only[Ei] at e;split at e;rename_i c1 y' Eh h1;cases e;obtain⟨a,b⟩:=Hl R hle h1 hc hs r.2 r.1;exact⟨b,a⟩;cases e
 | agg cs =>
   simp only[Ei] at e;split at e;rename_i c1 ys Eh h1;cases e;obtain⟨vs,hv,hd,hl⟩:=r;obtain⟨a,b⟩:=Ej R hle h1 hc hs hl hd;exact⟨vs,hv,b,a⟩;cases e
theorem o8(R:St base η Z S w)(hle:Z.le Z'):∀{bs:List Bool}{l r:List V}{c:Cd}{ms:List Nat}{vs:List Value},qZ S bs l=some (c,r,ms)->c->oK η S w ms Z'->bg (cW η Z) l vs->bg (cW η Z') r vs
 | bs,[],r,c,ms,vs,e,_,_,hl=>by
   have:(c,r,ms)=(.t,[],[]):=by cases bs<;>(simp only[qZ] at e;cases e;rfl)
   cases this;cases vs with
   | nil=>trivial
   | cons _ _=>exact hl.elim
 | true::bs,x::l,r,c,ms,vs,e,hc,hs,hl=>by
   simp only[qZ] at e;split at e
   . rename_i c1 ys Eh h1;cases e;cases vs with
     | nil=>exact hl.elim
     | cons v vs=>exact⟨hl.1.mono (Eta.le.refl _) hle,o8 R hle h1 hc hs hl.2⟩
   cases e
 | false::bs,x::l,r,c,ms,vs,e,hc,hs,hl=>by
   simp only[qZ] at e;split at e
   . rename_i c1 y Eh c2 ys O2 h1 h2;cases e;cases vs with
     | nil=>exact hl.elim
     | cons v vs=>exact⟨Ho R hle h1 hc.1 hs.left hl.1,o8 R hle h2 hc.2 hs.right hl.2⟩
   cases e
 | [],x::l,r,c,ms,vs,e,hc,hs,hl=>by
   simp only[qZ] at e;split at e
   . rename_i c1 y Eh c2 ys O2 h1 h2;cases e;cases vs with
     | nil=>exact hl.elim
     | cons v vs=>exact⟨Ho R hle h1 hc.1 hs.left hl.1,o8 R hle h2 hc.2 hs.right hl.2⟩
   cases e
theorem UY(R:St base η Z S w)(ms:List Nat):oK η S w ms (r7 η Z S w ms):=by
 intro m hm o p ho hp;obtain⟨_,_,L⟩:=R.ar m o p ho hp;refine⟨fun hmo=>?_,fun k af ht b hb=>?_⟩;obtain⟨c,fz,hc,_⟩:=L.there hmo;refine⟨c,o.ty,fz,hc,?_⟩;unfold r7;rw[if_pos ⟨m,hm,o,p,ho,hp,.inl rfl⟩,hc];obtain⟨c,t,fz,hc⟩:=(L.tabs k af ht).sat hb;refine⟨c,t,fz,hc,?_⟩;unfold r7;rw[if_pos ⟨m,hm,o,p,ho,hp,.inr hb⟩,hc]
theorem zC : ∀{ms : List Nat}{S : ak}{Z : Zeta}, St base η Z S w → ∃ Z', Moves base η Z S w η Z' (gb S ms) w ∧ oK η S w ms Z'
 | [],S,Z,R=>⟨Z,Moves.refl R,fun m hm=>by simp at hm⟩
 | m :: ms, S, Z, R => by
   have key : ∃ Z1, Moves base η Z S w η Z1 (S.del m) w ∧ ∀ o p, S.get m = some o → η m = some p → (¬o.eU → ∃ c ty fz, w.heap[p.block]? = some (.cells c ty fz) ∧ Z1 p.block = some c) ∧ ∀ k af, o.iB k af → ∀ b ∈ p.sats, ∃ c ty fz, w.heap[b]? = some (.cells c ty fz) ∧ Z1 b = some c := by
    cases ho:S.get m with
    | none=>exact⟨Z,⟨Eta.le.refl _,R.del m,Step.del m⟩,fun o p h=>by cases h⟩
    | some o =>
      cases hp:η m with
      | none=>exact⟨Z,⟨Eta.le.refl _,R.del m,Step.del m⟩,fun o p _ h=>by cases h⟩
      | some p =>
        by_cases hmo:o.eU;rcases id hmo with hmp|⟨k,af,ht⟩;exact⟨Z,⟨Eta.le.refl _,R.del m,Step.del m⟩,fun o' p' h1 _=>by cases h1;exact⟨fun h3=>absurd hmo h3,fun k af ht=>(Ob.Fz hmp ht).elim⟩⟩;obtain⟨Z1,mv,hs⟩:=R.Uv ho hp ht;refine⟨Z1,mv,fun o' p' h1 h2=>?_⟩;cases h1;cases h2;exact⟨fun h3=>absurd hmo h3,fun _ _ _=>hs⟩;obtain⟨c,ty,fz,hh,mv,_⟩:=R.freeze ho hp hmo;refine⟨_,mv,fun o' p' h1 h2=>?_⟩;cases h1;cases h2;exact⟨fun _=>⟨c,ty,fz,hh,by unfold Zeta.add;rw[if_pos rfl]⟩,fun k af ht=>absurd (.inr ⟨k,af,ht⟩) hmo⟩
   obtain⟨Z1,GZ,s1⟩:=key;obtain⟨Z2,gU,s2⟩:=zC (ms:=ms) GZ.st;refine⟨Z2,GZ.trans gU,fun k hk o p ho hp=>?_⟩;by_cases hkm:k=m;subst hkm;obtain⟨t1,t2⟩:=s1 o p ho hp;exact⟨fun hmo=>let ⟨c,ty,fz,h1,h2⟩:=t1 hmo;⟨c,ty,fz,h1,gU.step.cG _ _ h2⟩,fun k' af ht b hb=>let ⟨c,ty,fz,h1,h2⟩:=t2 k' af ht b hb;⟨c,ty,fz,h1,gU.step.cG _ _ h2⟩⟩;rcases List.mem_cons.1 hk with h|h;exact absurd h hkm;exact s2 k h o p (by rw[ak.ia,if_neg hkm];exact ho) hp
end
def W.names:W->List Nat
 | .ptr n _=>[n]
 | .pe n _ _=>[n]
 | .sl n _ _ _=>[n]
 | .func _ caps=>caps.map (·.1)
 | .mp n=>[n]
 | .ba n=>[n]
 | .eF _ n _=>[n]
 | .row n _ _=>[n]
 | .pN n _ _=>[n]
 | _=>[]
def V.names:V->List Nat
 | .c x=>x.names
 | .agg cs=>cs.flatMap W.names
def KD(l:List Nat)(n:Nat):List Nat:=bif l.any (ab3 n ·) then l else l++[n]
def qB:List Bool->List V->List Nat->List Nat
 | true::bs,v::vs,acc=>qB bs vs (v.names.foldl KD acc)
 | false::bs,_::vs,acc=>qB bs vs acc
 | _,_,acc=>acc
def Fd.names:Fd->List Nat
 | .c x=>x.names
 | .a _ _ _=>[]
 | .m _ _ _=>[]
def wm(S:ak):Nat->List Nat->List Nat
 | 0,rs=>rs
 | k+1,rs=>wm S k (rs.foldl (fun acc n=>match S.get n with|some o=>(o.fs.flatMap Fd.names).foldl KD acc|none=>acc) rs)
def rI:List Nat->Bool
 | []=>true
 | x::l=>!(l.any (ab3 x ·))&&rI l
theorem jj:∀{l:List Nat},rI l=true->l.Nodup
 | [],_=>List.nodup_nil
 | x::l,h=>by
   simp only[rI,ab0,acf,acR,Nat.beq_eq] at h;exact List.nodup_cons.2 ⟨fun hx=>h.1 x hx rfl,jj h.2⟩
def Ek(ms rs:List Nat):Bool:=ms.all fun m=>!(rs.any (ab3 m ·))
theorem zD{ms rs:List Nat}(h:Ek ms rs=true):∀ m∈ms,m ∉ rs:=by
 intro m hm hr;simp only[Ek,List.all_eq_true,acf,acR,Nat.beq_eq] at h;exact h m hm m hr rfl
def El(S:ak)(n:Nat):Bool:=match S.get n with|some _=>true|none=>false
def JA(Γ:bN)(S:ak)(g:FuncId)(args:List V):Option (Cd×A×ak×Bool) :=
 match look Γ g with
 | some con =>
   match qZ S con.refs args with
   | some (c1, xD, ms) =>
     let rs:=(wm S 2 (qB (con.roots.getD con.refs) args [])).filter (El S)
     bif rI rs && Ek ms rs then
      match gW S rs with
      | some fj => match iD (idxOf rs) fj, ux (idxOf rs) xD with
        | some bM,some sF=>match con.f (sF.map A.p) bM with
          | some (c2,r0,gZ) =>
            let k:=con.keep.getD rs.length
            bif Nat.ble k rs.length&&Nat.ble k gZ.length then
             match r0.ren (zw (rs.take k) S.next),iD (zw (rs.take k) S.next) gZ with
             | some r,some qY=>some (.and c1 c2,r,(gb (bif ms.isEmpty||(r0.dQ&&gZ.all Ob.dQ) then S else gb S ms) (rs.drop k)).back (rs.take k) qY,rs.isEmpty&&(gZ.isEmpty&&(ms.isEmpty||(r0.dQ&&gZ.all Ob.dQ))))
             | _,_=>none
            else none
          | none=>none
        | _,_=>none
      | none=>none
     else none
   | none=>none
 | none=>none
section
variable {P:Program} {S:ak}
theorem jV{η:Eta}{Z:Zeta}:∀{l:List V}{vs:List Value},bg (cr η Z) (l.map A.p) vs↔bg (cW η Z) l vs
 | [],[]=>ac7
 | [],_::_=>ac7
 | _::_,[]=>ac7
 | x::l,v::vs=>by
   show (cr η Z (.p x) v/\_)↔(cW η Z x v/\_);rw[show bg (cr η Z) (List.map A.p l) vs↔bg (cW η Z) l vs from jV];rfl
theorem vz{ms:List Nat}:∀{rs:List Nat},(∀ m∈ms,m ∉ rs)->gW (gb S ms) rs=gW S rs
 | [],_=>rfl
 | n::rs,h=>by
   simp only[gW];rw[zA (fun hh=>h n hh (by simp)),vz (fun m hm hr=>h m hm (by simp[hr]))]
theorem KE{Γ : bN}(dm : bp P Γ){g : FuncId}{args : List V}{c : Cd}{r : A}{S' : ak}{b : Bool}(e : JA Γ S g args = some (c, r, S', b))(hc : c) : KA P g (args.map A.p) S r S' ∧ enters P g = true ∧ (b = true → S' = S) := by
 unfold JA at e;split at e
 . rename_i con hcon;split at e
   · rename_i c1 xD ms JB
     simp only at e;generalize (wm S 2 (qB (con.roots.getD con.refs) args [])).filter (El S)=rs at e;obtain⟨hb,e⟩:=aA.aH e;simp only[ab0] at hb;split at e;rename_i fj fH;split at e;rename_i bM sF hO hargs;split at e;rename_i c2 r0 gZ hf;generalize hk:con.keep.getD rs.length=k at e;obtain⟨hlen,e⟩:=aA.aH e;simp only[ab0,Nat.ble_eq] at hlen;split at e
     . rename_i r' qY hr hos;cases e;have xA:=(dm g con hcon).sem _ _ _ _ _ hf hc.2;have hol:bM.length=rs.length:=(kI hO).1.trans (lT fH).1;rw[hol,hk] at xA;refine⟨?_,(dm g con hcon).enters,fun hb'=>?_⟩
       rotate_left
       simp only[ab0,acU] at hb';obtain⟨h1,h2,h3⟩:=hb';subst h1;subst h2;have:qY=[]:=acj (kI hos).1;subst this;rw[h3,List.drop_nil,List.take_nil];rfl;have xB:=zD hb.2;have hnd:=jj hb.1;have hidx:∀(η:Eta) n m,idxOf rs n=some m->∀ p,η n=some p->cO η rs m=some p:=by
        intro η n m e p hp;unfold cO;rw[fY e];exact hp
       cases hm:(ms.isEmpty||(r0.dQ&&gZ.all Ob.dQ)) with
       | true =>
         simp only[cond_true];refine Eg xA hnd xB fH hO hlen.1 hlen.2 hr hos ?_ ?_;simp only[acL,acU,ab0] at hm;exact hm;intro base η Z w vs R hvs;refine jV.2 (o6 (hidx η) (.inr (Zeta.le.refl _)) hargs ?_);exact o8 R (FL R ms) JB hc.1 (UY R ms) (jV.1 hvs)
       | false =>
         simp only[cond_false];have hcall:KA P g (xD.map A.p) (gb S ms) r ((gb (gb S ms) (rs.drop k)).back (rs.take k) qY):=by
          refine Eg (ms:=[]) xA hnd (by simp) (by rw[vz xB];exact fH) hO hlen.1 hlen.2 (by rw[o7];exact hr) (by rw[o7];exact hos) (.inl rfl) ?_;intro base η Z w vs R hvs;refine jV.2 (o6 (hidx η) (.inr (FL R [])) hargs (jV.1 hvs))
         intro base η Z w vs R hvs hK;obtain⟨Z1,mv,sees⟩:=zC (ms:=ms) R;refine(hcall base η Z1 w vs mv.st (jV.2 (o8 R mv.step.cG JB hc.1 sees (jV.1 hvs))) (hK.mono mv.step.cG)).mono ?_;rintro e1 w1 ⟨u,aG,Z',rfl,GZ,hr1⟩;exact⟨u,aG,Z',rfl,mv.trans GZ,hr1⟩
     cases e;cases e;cases e;cases e
   cases e
 cases e
end
end Go.aT
namespace Go.aT
open Go.RowKit
open Go.aA (T WF)
inductive O where
 | q (q:Q)
 | l (l:L)
 | call (f:bR) (args:List bR)
 | BZ (neg:Bool) (x:bR)
structure j5 where
 dst:Option Nat
 guard:Option (Nat×Bool)
 o:O
def O3(P:Program)(o:Op):Option O :=
 match o with
 | .binOp .eql t x (.const (.slice none 0 0)) _=>match P.underlying t with|some (.slice _)=>(bU x).map (.BZ false)|_=>none
 | .binOp .neq t x (.const (.slice none 0 0)) _=>match P.underlying t with|some (.slice _)=>(bU x).map (.BZ true)|_=>none
 | _=>none
def zE(P:Program)(sq:Bool)(o:Oper):Option O :=
 match o.op with
 | .call { callee:=.value x,args,.. }=>match bU x,oI args.toList with|some f,some l=>some (.call f l)|_,_=>none
 | _=>match O3 P o.op with|some k=>some k|none=>bif sq then(match Ku P o with|some l=>some (.l l)|none=>match ul P o.op with|some q=>some (.q q)|none=>none)
   else(match ul P o.op with|some q=>some (.q q)|none=>bif aA.cF o.op then(match Ku P o with|some l=>some (.l l)|none=>none) else none)
def trG(ops:Array Oper)(o:Oper):Option (Option (Nat×Bool)) :=
 match o.guard with
 | none=>some none
 | some (j,want)=>match (ops[j]?).bind (·.dst) with|some d=>some (some (d,want))|none=>none
def FM(nt:Nat):Option Nat->Bool
 | none=>true
 | some d=>ac6 d nt
def pZ(P:Program)(sq:Bool)(nt:Nat)(ops:Array Oper)(o:Oper):Option j5 :=
 match trG ops o,zE P sq o with
 | some g,some k=>bif FM nt o.dst then some ⟨o.dst,g,k⟩ else none
 | _,_=>none
def jH(P:Program)(sq:Bool)(nt:Nat)(ops:Array Oper):List Oper->Option (List j5)
 | []=>some []
 | o::l=>match pZ P sq nt ops o,jH P sq nt ops l with|some x,some r=>some (x::r)|_,_=>none
inductive R1 where
 | pure (c:Cd) (v:A)
 | KF (c:Cd) (v:A) (S:ak)
def zF(F:Fr):bR->Option A
 | .tmp t=>match F.get t with|some (.p v)=>some (.p v)|some (.dec b)=>some (.dec b)|some (.aJ vs)=>some (.aJ vs)|_=>none
 | .w (.bool b)=>some (.dec b)
 | .w x=>some (.p (.c x))
 | .agg cs=>some (.p (.agg cs))
def known(F:Fr):bR->Option Bool
 | .tmp t=>match F.get t with|some (.dec b)=>some b|_=>none
 | .w (.bool b)=>some b
 | _=>none
def qA(F:Fr)(S:ak)(q:Q):Option (Cd×A) :=
 match q with
 | .move x=>match zF F x with
   | some v=>some (.t,v)
   | none=>match nW F x with|some (c,v)=>some (c,.p v)|none=>none
 | .pick b x y=>match known F b with
   | some true=>match zF F x with|some v=>some (.t,v)|none=>none
   | some false=>match zF F y with|some v=>some (.t,v)|none=>none
   | none=>match dF F S (.pick b x y) with|some (c,v)=>some (c,.p v)|none=>none
 | .not x=>match known F x with
   | some b=>some (.t,.dec (!b))
   | none=>match dF F S (.not x) with|some (c,v)=>some (c,.p v)|none=>none
 | q=>match dF F S q with|some (c,v)=>some (c,.p v)|none=>none
def rJ(Γ:bN)(F:Fr)(S:ak):O->Option R1
 | .q q=>match qA F S q with|some (c,v)=>some (.pure c v)|none=>none
 | .l l=>match j4 F S l with
   | some (c,v,S')=>match l with
     | .b2s _=>some (.pure c v)
     | _=>some (.KF c v S')
   | none=>none
 | .call f args=>match fO F f,mD F args with
   | some (p,.func g caps),some (q,vs)=>match JA Γ S g (vs++caps.map fun x=>.c (.ptr x.1 x.2)) with
     | some (c,r,S',b)=>bif b then some (.pure (.and p (.and q c)) r) else some (.KF (.and p (.and q c)) r S')
     | none=>none
   | some (p,.eF g n off),some (q,vs)=>match JA Γ S g (.c (.ptr n off)::vs) with
     | some (c,r,S',b)=>bif b then some (.pure (.and p (.and q c)) r) else some (.KF (.and p (.and q c)) r S')
     | none=>none
   | _,_=>none
 | .BZ _ _=>none
def KG(F:Fr):O->Option (Cd×(Bool->Prop))
 | .BZ neg x=>match fO F x with
   | some (c,.nil)=>some (c,fun b=>b=!neg)
   | some (c,.sl _ _ len _)=>some (c,fun b=>(b=!neg)->len=0)
   | some (c,.rd _ l)=>some (c,fun b=>(b=!neg)->l=[])
   | _=>none
 | _=>none
section
variable {P:Program} {base nt:Nat} {η:Eta} {Z:Zeta} {S:ak} {w:World} {F:Fr} {a:Act}
theorem Bb(FR:bq nt η Z F a.tmps){t:Nat}{x:A}(h:F.get t=some x):cr η Z x (a.eval (.tmp t)):=by
 obtain⟨u,hu,hr⟩:=FR.2 t _ h;have:a.eval (.tmp t)=u:=by simp[Act.eval,Array.getD_eq_getD_getElem?,hu]
 rw[this];exact hr
theorem xE(FR:bq nt η Z F a.tmps){x':Operand}{x:bR}(hx:bU x'=some x){v:A}(e:zF F x=some v):cr η Z v (a.eval x'):=by
 cases x with
 | tmp t =>
   have hx':x'=.tmp t:=by
    cases x' with
    | tmp t'=>cases hx;rfl
    | const u=>simp only[bU] at hx;split at hx<;>cases hx
    | global g=>cases hx
    | func f=>cases hx
   subst hx';simp only[zF] at e;split at e;rename_i v' hv;cases e;exact Bb FR hv;rename_i b hv;cases e;exact Bb FR hv;rename_i vs hv;cases e;exact Bb FR hv;cases e
 | w y =>
   have:=eG FR hx (c:=.t) (v:=.c y) rfl trivial;cases y with
   | bool b =>
     simp only[zF] at e;cases e;have h2:=this.2;simp only[aI,aQ] at h2;exact h2
   | _=>simp only[zF] at e;cases e;exact this
 | agg cs =>
   have:=eG FR hx (c:=.t) (v:=.agg cs) rfl trivial;simp only[zF] at e;cases e;exact this
theorem uD(FR:bq nt η Z F a.tmps){x':Operand}{x:bR}(hx:bU x'=some x){b:Bool}(e:known F x=some b):a.eval x'=.bool b:=by
 unfold known at e;split at e;rename_i t;split at e;rename_i b' hv;cases e;have hx':x'=.tmp t:=by
  cases x' with
  | tmp t'=>cases hx;rfl
  | const u=>simp only[bU] at hx;split at hx<;>cases hx
  | global g=>cases hx
  | func f=>cases hx
 subst hx';exact Bb FR hv;cases e;rename_i b';cases e;have:=eG FR hx (c:=.t) (v:=.c (.bool b)) rfl trivial;simpa[aI,aQ] using this.2;cases e
def sG(P:Program)(η:Eta)(Z:Zeta)(w:World)(s:Sem Next)(v:A):Prop:=∃ u,s.run P w=.ok (.value u) w/\cr η Z v u
theorem qA_ok(R : St base η Z S w)(FR : bq nt η Z F a.tmps){o : Oper}{q : Q}(ht : ul P o.op = some q){c : Cd}{v : A}(e : qA F S q = some (c, v))(hc : c) : sG P η Z w (execOp a.eval o) v := by
 have plain:∀{c:Cd}{v':V},dF F S q=some (c,v')->c->sG P η Z w (execOp a.eval o) (.p v'):=by
  intro c v' e hc;obtain⟨u,h1,h2⟩:=Us R FR ht e hc;exact⟨u,h1,h2⟩
 unfold qA at e;split at e;rename_i x;split at e
 . rename_i v' hv;cases e
   -- a move
   unfold ul at ht;unfold execOp;split at ht<;>rename_i hop<;>simp only[hop];obtain⟨y,hy,e2⟩:=map_some ht;cases e2;exact⟨_,rfl,xE FR hy hv⟩;obtain⟨y,hy,e2⟩:=map_some ht;cases e2;exact⟨_,rfl,xE FR hy hv⟩
   all_goals exfalso
   all_goals first
    | (obtain⟨y,hy,e2⟩:=map_some ht;cases e2;done)
    | (repeat' (split at ht))<;>first|(cases ht;done)|(obtain⟨y,hy,e2⟩:=map_some ht;cases e2;done)
 split at e;rename_i c' v' hv;cases e;exact plain (by simp only[dF];exact hv) hc;cases e;rename_i b x y;have hpick : ∃ b' x' y', o.op = .pick b' x' y' ∧ bU b' = some b ∧ bU x' = some x ∧ bU y' = some y := by
  unfold ul at ht;split at ht
  all_goals first
   | (rename_i b' x' y' hop
      split at ht;rename_i h1 h2 h3;cases ht;exact⟨b',x',y',hop,h1,h2,h3⟩;cases ht)
   | (exfalso
      first
      | (obtain⟨y,hy,e2⟩:=map_some ht;cases e2;done)
      | (repeat' (split at ht))<;>first|(cases ht;done)|(obtain⟨y,hy,e2⟩:=map_some ht;cases e2;done))
 obtain⟨b',x',y',hop,hb,hx,hy⟩:=hpick;have hrun:∀ t:Bool,a.eval b'=.bool t->(execOp a.eval o).run P w=.ok (.value (if t then a.eval x' else a.eval y')) w:=by
  intro t ht';unfold execOp;rw[hop];cases t<;>simp[ht',asBool]
 split at e;rename_i hk;have:=hrun true (uD FR hb hk);split at e;rename_i v' hv;cases e;exact⟨_,this,xE FR hx hv⟩;cases e;rename_i hk;have:=hrun false (uD FR hb hk);split at e;rename_i v' hv;cases e;exact⟨_,this,xE FR hy hv⟩;cases e;split at e;rename_i c' v' hv;cases e;exact plain hv hc;cases e;rename_i x;split at e;rename_i b hk;cases e;have hq:dF F S (.not x)=some (match vW F x with|some (p,a)=>(p,.c (.bool (!a)))|none=>(.t,.c (.bool false)))->True:=fun _=>trivial
 -- the operand is known: the same answer by the plain way
 have hev:vW F x=some (.t,b):=by
  unfold known at hk;split at hk;split at hk;rename_i b' hv;cases hk;simp[vW,nW,hv];cases hk;cases hk;rfl;cases hk
 have h2:=plain (c:=.t) (v':=.c (.bool (!b))) (by simp only[dF,hev]) trivial;obtain⟨u,h3,h4⟩:=h2;refine⟨u,h3,?_⟩;have h5:=h4.2;simp only[aI,aQ] at h5;exact h5;split at e;rename_i c' v' hv;cases e;exact plain hv hc;cases e;split at e;rename_i c' v' hv;cases e;exact plain hv hc;cases e
theorem Bc{o:Op}{k:O}(h:O3 P o=some k):∃ neg x,k=.BZ neg x:=by
 unfold O3 at h;split at h;split at h
 . cases hx:bU _ with
   | none=>rw[hx] at h;cases h
   | some y=>rw[hx] at h;cases h;exact⟨_,_,rfl⟩
 cases h;split at h
 . cases hx:bU _ with
   | none=>rw[hx] at h;cases h
   | some y=>rw[hx] at h;cases h;exact⟨_,_,rfl⟩
 cases h;cases h
theorem UZ{t el:TypeId}(hu:P.underlying t=some (.slice el)){v:Value}{a:Option Addr}{len cap:Nat}(hv:v=.slice a len cap):(Op.equal t v (.slice none 0 0)).run P w=.ok a.isNone w:=by
 subst hv;have key:(Op.equalIn (9999+1) t (.slice a len cap) (.slice none 0 0)).run P w=.ok a.isNone w:=by
  rw[Op.equalIn];simp only[Sem.run_bind,run_underlying hu,Result.andThen_ok];cases a<;>rfl
 exact key
theorem nilE_ok(FR:bq nt η Z F a.tmps){o:Oper}{k:O}(ht:O3 P o.op=some k){c:Cd}{p:Bool->Prop}(e:KG F k=some (c,p))(hc:c):∃ b,p b/\sG P η Z w (execOp a.eval o) (.p (.c (.bool b))):=by
 have key : ∀(neg : Bool)(x : bR)(x' : Operand)(t el : TypeId), bU x' = some x → P.underlying t = some (.slice el) → (execOp a.eval o).run P w = (do pure (Next.value (.bool ((← Op.equal t (a.eval x') (.slice none 0 0)) != neg))) : Sem Next).run P w → KG F (.BZ neg x) = some (c, p) → ∃ b, p b ∧ sG P η Z w (execOp a.eval o) (.p (.c (.bool b))) := by
  intro neg x x' t el hx hu hrun e;have fin:∀(ad:Option Addr)(len cap:Nat),a.eval x'=.slice ad len cap->p (ad.isNone != neg)->∃ b,p b/\sG P η Z w (execOp a.eval o) (.p (.c (.bool b))):=by
   intro ad len cap hev hp;refine⟨_,hp,.bool (ad.isNone != neg),?_,⟨by simp,by simp[aI,aQ]⟩⟩;rw[hrun];simp[UZ hu hev]
  simp only[KG] at e;split at e;rename_i c' hv;cases e;have:=(aN FR hx hv hc).2;simp only[aI,aQ] at this;exact fin _ _ _ this (by cases neg<;>rfl);rename_i c' m off len sz hv;cases e;rcases (aN FR hx hv hc).2 with ⟨h0,hev⟩|⟨pl,cap,ad,_,hev,_⟩;exact fin _ _ _ hev (fun _=>h0);exact fin _ _ _ hev (fun h=>by cases neg<;>simp at h);rename_i c' d l hv;cases e;have:=(aN FR hx hv hc).2;simp only[aI,aQ,cE] at this;obtain⟨ad,len,cap,hev,_,_,h4⟩:=this;rcases h4 with h4|⟨b,off,cells,h4,_⟩;exact fin _ _ _ hev (fun _=>h4);refine fin _ _ _ hev (fun h=>?_);rw[h4] at h;cases neg<;>simp at h;cases e
 unfold O3 at ht;split at ht;rename_i t x _ hop;split at ht
 . rename_i el hu;cases hx:bU x with
   | none=>rw[hx] at ht;cases ht
   | some y =>
     rw[hx] at ht;cases ht;refine key false y x t el hx hu ?_ e;unfold execOp;rw[hop];have hb:binOp .eql t (a.eval x) (.slice none 0 0)=(do pure (.bool (<-Op.equal t (a.eval x) (.slice none 0 0)))):=by
      cases a.eval x<;>rfl
     have hg:eqGuard .eql t x (.const (.slice none 0 0)) (a.eval x) (.slice none 0 0)=pure ():=by
      unfold eqGuard;cases a.eval x<;>rfl
     have hev:a.eval (.const (.slice none 0 0))=.slice none 0 0:=rfl;simp[hev,hb,hg]
 cases ht;rename_i t x _ hop;split at ht
 . rename_i el hu;cases hx:bU x with
   | none=>rw[hx] at ht;cases ht
   | some y =>
     rw[hx] at ht;cases ht;refine key true y x t el hx hu ?_ e;unfold execOp;rw[hop];have hb:binOp .neq t (a.eval x) (.slice none 0 0)=(do pure (.bool (!(<-Op.equal t (a.eval x) (.slice none 0 0))))):=by
      cases a.eval x<;>rfl
     have hg:eqGuard .neq t x (.const (.slice none 0 0)) (a.eval x) (.slice none 0 0)=pure ():=by
      unfold eqGuard;cases a.eval x<;>rfl
     have hev:a.eval (.const (.slice none 0 0))=.slice none 0 0:=rfl;simp[hev,hb,hg]
 cases ht;cases ht
end
section
variable {P:Program} {base nt:Nat} {η:Eta} {Z:Zeta} {S:ak} {w:World} {F:Fr} {a:Act}
def U0(base:Nat)(η:Eta)(Z:Zeta)(S:ak)(w:World)(v:A)(S':ak)(o:Oper)(a:Act)(next:Act->World->Prop):Prop :=
 ∀ u w' aG Z',Moves base η Z S w aG Z' S' w'->cr aG Z' v u->next (a.put o.dst u) w'
def zG(P:Program)(base:Nat)(η:Eta)(Z:Zeta)(S:ak)(w:World)(o:Oper)(a:Act)(v:A)(S':ak):Prop :=
 ∀ Fc,WF Fc->∀(next:Act->World->Prop)(Q:Exit->Act->World->Prop),U0 base η Z S w v S' o a next->o.wpIn Fc 0 P a w next Q
theorem sG.does{o:Oper}{v:A}(R:St base η Z S w)(hd:∀ c,o.op≠.defer c)(h:sG P η Z w (execOp a.eval o) v):zG P base η Z S w o a v S:=by
 intro Fc hF next Q hn
 refine⟨fun f _=>hF.fn f,?_⟩;rw[Oper.semAt_eq _ _ _ hd];obtain⟨u,h1,h2⟩:=h;rw[h1];exact hn u w η Z (Moves.refl R) h2
theorem Good.does{o:Oper}{v:A}{S':ak}(hd:∀ c,o.op≠.defer c)(h:Good P base η Z S w (execOp a.eval o) v S'):zG P base η Z S w o a v S':=by
 intro Fc hF next Q hn
 refine⟨fun f _=>hF.fn f,?_⟩;rw[Oper.semAt_eq _ _ _ hd];obtain⟨nx,u,w',aG,Z',h1,h2,h3,h4⟩:=h;rw[h1];rcases h2 with rfl|⟨rfl,rfl⟩;exact hn u w' aG Z' h3 h4;exact hn _ w' aG Z' h3 h4
theorem U1{o:Op}{q:Q}(h:ul P o=some q):∀ c,o≠.defer c:=by
 rintro c rfl;simp[ul] at h
theorem Hq{o:Oper}{l:L}(h:Ku P o=some l):∀ c,o.op≠.defer c:=by
 intro c hc;unfold Ku at h;rw[hc] at h;cases h
theorem lU {f:FuncId} (h:enters P f=true):∃ fn c,P.funcs[f]? = some fn/\fn.body=some c/\fn.name≠ "runtime.NumGoroutine" := by
 unfold enters at h;split at h;rename_i fn hf;simp only[ab0,acf,beq_eq_false_iff_ne] at h;obtain⟨c,hc⟩:=Option.isSome_iff_exists.1 h.1;exact⟨fn,c,hf,hc,h.2⟩;cases h
theorem p5(FR : bq nt η Z F a.tmps) : ∀{l' : List Operand}{l : List bR}, oI l' = some l → ∀{c : Cd}{vs : List V}, mD F l = some (c, vs) → c → bg (cW η Z) vs (l'.map a.eval)
 | [],l,hl,c,vs,e,_=>by
   simp only[oI] at hl;cases hl;simp only[mD] at e;cases e;trivial
 | x :: l', l, hl, c, vs, e, hc => by
   simp only[oI] at hl;split at hl;rename_i y hy;split at hl;rename_i r hr;cases hl;simp only[mD] at e;split at e;rename_i p v hv;split at e;rename_i q vs' hvs;cases e;exact⟨eG FR hy hv hc.1,p5 FR hr hvs hc.2⟩;cases e;cases e;cases hl;cases hl
theorem Hr{caps:List (Nat×Nat)}{cs:List Value}(h:bg (gJ η) caps cs):bg (cW η Z) (caps.map fun x=>V.c (.ptr x.1 x.2)) cs:=by
 induction caps generalizing cs with
 | nil=>cases cs with|nil=>trivial|cons _ _=>exact h.elim
 | cons x l ih=>cases cs with|nil=>exact h.elim|cons y m=>exact⟨⟨by simp,h.1⟩,ih h.2⟩
def R1.cd:R1->Cd
 | .pure c _=>c
 | .KF c _ _=>c
def R1.v:R1->A
 | .pure _ v=>v
 | .KF _ v _=>v
def R1.st(S:ak):R1->ak
 | .pure _ _=>S
 | .KF _ _ S'=>S'
theorem Em{Γ : bN}(dm : bp P Γ)(hT : iL P Z){sq : Bool}(R : St base η Z S w)(FR : bq nt η Z F a.tmps){o : Oper}{k : O}(ht : zE P sq o = some k){r : R1}(e : rJ Γ F S k = some r)(hc : r.cd) : zG P base η Z S w o a r.v (r.st S) := by
 have hq:∀ q,ul P o.op=some q->k=.q q->zG P base η Z S w o a r.v (r.st S):=by
  rintro q hq rfl;simp only[rJ] at e;split at e;rename_i c v hv;cases e;exact sG.does R (U1 hq) (qA_ok R FR hq hv hc);cases e
 have hl : ∀ l, Ku P o = some l → k = .l l → zG P base η Z S w o a r.v (r.st S) := by
  rintro l hl rfl;simp only[rJ] at e;split at e;rename_i c v S' hv;split at e;rename_i x;cases e;have hS : S' = S := by
   simp only[j4] at hv;split at hv;split at hv;cases hv;split at hv;cases hv;rfl;cases hv;cases hv
  subst hS;exact Good.does (Hq hl) (UO R FR hl hv hc);cases e;exact Good.does (Hq hl) (UO R FR hl hv hc);cases e
 unfold zE at ht;split at ht;rename_i x args ts hop;split at ht;rename_i f l hf hal;cases ht;simp only[rJ] at e;split at e;rename_i p g caps q vs zH kH;split at e
 . rename_i c r0 S' b hcall;have hcd:r.cd=.and p (.and q c)/\r.v=r0/\r.st S=(if b=true then S else S'):=by
    cases b with
    | true=>simp only[cond_true] at e;cases e;exact⟨rfl,rfl,rfl⟩
    | false=>simp only[cond_false] at e;cases e;exact⟨rfl,rfl,rfl⟩
   rw[hcd.1] at hc;obtain⟨hp,lH,hc'⟩:=hc;obtain⟨vS,hent,hsame⟩:=KE dm hcall hc';have hst:r.st S=S':=by
    rw[hcd.2.2];split;rename_i hb;exact(hsame hb).symm;rfl
   rw[hst,hcd.2.1];intro Fc hF next Q hn
   refine⟨fun f _=>hF.fn f,?_⟩;have hd:∀ c,o.op≠.defer c:=fun c hc=>by rw[hop] at hc;cases hc
   rw[Oper.semAt_eq _ _ _ hd];obtain⟨_,cs,zI,hcs⟩:=aN FR hf zH hp;have hvs:=p5 FR hal kH lH;obtain⟨fn,body,h1,h2,h3⟩:=lU hent;have xG:(execOp a.eval o).run P w=.ok (.enter g ((args.toList.map a.eval).toArray++cs.toArray)) w:=by
    unfold execOp;rw[hop];have hargs:(args.toList.map a.eval).toArray=args.map a.eval:=by apply acV;simp
    simp only[resolve,zI,Deferred.ofValue,pure_bind,invoke,hargs];have:(#[]:Array Value)++args.map a.eval=args.map a.eval:=by simp
    rw[this];simp[callFunc,h1,h3,h2]
   rw[xG];refine⟨hF.depth,hF.calls ?_⟩;have happ:(args.toList.map a.eval).toArray++cs.toArray=(args.toList.map a.eval++cs).toArray:=by simp
   rw[happ];refine(vS base η Z w _ R (jV.2 (hvs.append (Hr hcs))) hT).mono ?_;rintro e1 w1 ⟨u,aG,Z',rfl,mv,hr1⟩;exact hn u w1 aG Z' mv hr1
 cases e;rename_i p g n off q vs zH kH;split at e
 . rename_i c r0 S' b hcall;have hcd:r.cd=.and p (.and q c)/\r.v=r0/\r.st S=(if b=true then S else S'):=by
    cases b with
    | true=>simp only[cond_true] at e;cases e;exact⟨rfl,rfl,rfl⟩
    | false=>simp only[cond_false] at e;cases e;exact⟨rfl,rfl,rfl⟩
   rw[hcd.1] at hc;obtain⟨hp,lH,hc'⟩:=hc;obtain⟨vS,hent,hsame⟩:=KE dm hcall hc';have hst:r.st S=S':=by
    rw[hcd.2.2];split;rename_i hb;exact(hsame hb).symm;rfl
   rw[hst,hcd.2.1];intro Fc hF next Q hn
   refine⟨fun f _=>hF.fn f,?_⟩;have hd:∀ c,o.op≠.defer c:=fun c hc=>by rw[hop] at hc;cases hc
   rw[Oper.semAt_eq _ _ _ hd];obtain⟨_,pu,zI,OZ⟩:=aN FR hf zH hp;have hvs:=p5 FR hal kH lH;obtain⟨fn,body,h1,h2,h3⟩:=lU hent;have xG:(execOp a.eval o).run P w=.ok (.enter g (pu::args.toList.map a.eval).toArray) w:=by
    unfold execOp;rw[hop];have hargs:#[pu]++args.map a.eval=(pu::args.toList.map a.eval).toArray:=by apply acV;simp
    simp only[resolve,zI,Deferred.ofValue,pure_bind,invoke,hargs];have:(pu::args.toList.map a.eval).toArray++(#[]:Array Value)=(pu::args.toList.map a.eval).toArray:=by simp
    first|rw[this]|skip
    simp[callFunc,h1,h3,h2]
   rw[xG];refine⟨hF.depth,hF.calls ?_⟩;refine(vS base η Z w (pu::args.toList.map a.eval) R (jV.2 ⟨⟨by simp,OZ⟩,hvs⟩) hT).mono ?_;rintro e1 w1 ⟨u,aG,Z',rfl,mv,hr1⟩;exact hn u w1 aG Z' mv hr1
 cases e;cases e;cases ht;split at ht;rename_i k' hk';cases ht;obtain⟨neg,x,rfl⟩:=Bc hk';simp only[rJ] at e;cases e;cases sq with
 | true =>
   simp only[cond_true] at ht;split at ht;rename_i l hl';cases ht;exact hl l hl' rfl;split at ht;rename_i q lH;cases ht;exact hq q lH rfl;cases ht
 | false =>
   simp only[cond_false] at ht;split at ht;rename_i q lH;cases ht;exact hq q lH rfl;obtain⟨_,ht⟩:=aA.aH ht;split at ht;rename_i l hl';cases ht;exact hl l hl' rfl;cases ht
end
inductive Gd where
 | run
 | skip
 | cond (g:Prop)
 | bool (d:Nat) (b want:Bool)
def guardE(F:Fr):Option (Nat×Bool)->Option Gd
 | none=>some .run
 | some (d,want)=>match F.get d with
   | some (.dec b)=>bif b==want then some .run else some .skip
   | some (.p (.c (.bool b)))=>some (.bool d b want)
   | some (.cond c (.c (.bool b)))=>some (.cond (c/\b=want))
   | some (.aJ [])=>some .skip
   | _=>none
def lq(F:Fr):Option Nat->A->Fr
 | none,_=>F
 | some d,v=>aA.T.set F d v
section
variable {P:Program} {base nt:Nat} {η:Eta} {Z:Zeta} {S:ak} {w:World} {F:Fr} {a:Act}
theorem qC(FR:bq nt η Z F a.tmps){dst:Option Nat}(hd:FM nt dst=true){v:A}{u:Value}(h:cr η Z v u):bq nt η Z (lq F dst v) (a.put dst u).tmps:=by
 cases dst with
 | none=>exact FR
 | some d=>exact FR.set (by simpa[FM,Nat.blt_eq] using hd) h
def Gd.when:Gd->Prop
 | .run=>True
 | .skip=>False
 | .cond g=>g
 | .bool _ b want=>b=want
theorem jI(FR:bq nt η Z F a.tmps){ops:Array Oper}{o:Oper}{g:Option (Nat×Bool)}(hg:trG ops o=some g){k:Gd}(e:guardE F g=some k):(Region.wanted o (yielded ops a.tmps)=true)↔k.when:=by
 unfold trG at hg;unfold Region.wanted;split at hg;rename_i hn;cases hg;simp only[guardE] at e;cases e;rw[hn];simp[Gd.when];rename_i j want hn;split at hg;rename_i d hd;cases hg;rw[hn];simp only;unfold yielded;rw[hd];simp only[Option.bind_some];simp only[guardE] at e;split at e;rename_i b hb;obtain⟨v,hv,hr⟩:=FR.2 d _ hb;have hr':v=.bool b:=hr;subst hr';rw[hv];cases b<;>cases want<;>(cases e;simp[Gd.when]);rename_i b hb;cases e;obtain⟨v,hv,hr⟩:=FR.2 d _ hb;have hr':v=.bool b:=by have:=hr.2;simpa[aI,aQ] using this
 subst hr';rw[hv];simp[Gd.when];rename_i c b hb;cases e;obtain⟨v,hv,hr⟩:=FR.2 d _ hb;by_cases hc:c;have hr':v=.bool b:=by have:=(hr.1 hc).2;simpa[aI,aQ] using this
 subst hr';rw[hv];simp[Gd.when,hc];have hr':v=undef:=hr.2 hc;subst hr';rw[hv];simp[Gd.when,hc,undef];rename_i hb;cases e;obtain⟨v,hv,hr⟩:=FR.2 d _ hb;obtain⟨vs,hvv,hl⟩:=hr;rw[hv,hvv];simp[Gd.when];cases e;cases hg
end
section
variable {P:Program} {base nt:Nat} {η:Eta} {Z:Zeta} {S:ak} {w:World} {F:Fr} {a:Act}
theorem iE{sq:Bool}{ops:Array Oper}{o:Oper}{x:j5}(h:pZ P sq nt ops o=some x):x.dst=o.dst/\trG ops o=some x.guard/\zE P sq o=some x.o/\FM nt o.dst=true:=by
 unfold pZ at h;split at h;rename_i g k hg hk;obtain⟨hd,h⟩:=aA.aH h;cases h;exact⟨rfl,hg,hk,hd⟩;cases h
theorem put_defers(a:Act)(dst:Option Nat)(u:Value):(a.put dst u).defers=a.defers:=by cases dst<;>rfl
theorem Ht:cr η Z (.aJ []) undef:=⟨[],rfl,trivial⟩
theorem cd_imp{c:Cd}{g:Prop}{k:Prop}(h:gM (c.list.map (g->·)) k):(g->c)/\k:=by
 have:=ic (c:=.imp g c) (k:=k) h;exact this
end
end Go.aT
