/- The walk by values, second part: operations that write; calls by contracts. It holds for every program and every world, under the hypotheses that each theorem names. -/
import Derived.Test.YtmajgbnpplgaoaaGreatDoorLoom1
import Derived.RangeFuncCalls
import Derived.Test.YtmajgbnpplgaoaaGreatDoorMill1
namespace Go.ax
open Go.RowKit
open Go.au (T)
section
variable {P:Program} {base n:Nat} {η:Eta} {Z:aA} {S:ai} {w:World} {F:Fr} {a:Act}
theorem aT.takeN {α β:Type} {R:α->β->Prop} {l:List α} {m:List β} (h:aT R l m) (k:Nat):aT R (l.take k) (m.take k):=aT.take k h
theorem RF (R:St base η Z S w) {t ty el:TypeId} {ts:Array TypeId} {sz:Nat} (ht:ts[0]? = some t) (hu:P.underlying t=some (.slice el)) (hs:gN P el=some sz)
 {uy:Value} {cs:List W} (hsrc:Src P η Z w uy sz cs) (hsz:sz≠0) {u:Value} {m off len:Nat} (hx:aF η Z (.sl m off len sz) u) {o:Ob} (ho:S.get m=some o) (hmo:¬ o.eV) (hnb:¬ o.bytes∨o.cells=[]) (hnw:¬ o.wb) (hb:off+len*sz<=o.cells.length) :
 bH P base η Z S w (do pure (Next.value (<-Builtin.copy_ ts ty #[u,uy]))) (.p (.c (.int .i64 ((Nat.min (cs.length / sz) len:Nat):Int)))) (S.put m (Ob.of o.ty (jC o.cells off (cs.take (len*sz))))):=by
 obtain ⟨k,vs,h1,h2,h3,h4,h5,h6⟩:=hsrc
 have hdiv:cs.length / sz=k:=by rw [h1];exact Nat.mul_div_cancel _ (by omega)
 rw [hdiv]
 have hmin:∃ j,Nat.min k len=j/\j<=k/\j<=len:=⟨_,rfl,Nat.min_le_left _ _,Nat.min_le_right _ _⟩
 obtain ⟨j,hj,hjk,hjl⟩:=hmin
 rw [hj]
 have hcs:cs.take (len*sz)=cs.take (j*sz):=by
  by_cases hkl:k<=len
  . have:j=k:=by rw [<-hj];exact Nat.min_eq_left hkl
    subst this
    rw [List.take_of_length_le (by rw [h1];exact Nat.mul_le_mul_right _ hkl),List.take_of_length_le (by omega)]
  . have:j=len:=by rw [<-hj];exact Nat.min_eq_right (by omega)
    rw [this]
 rw [hcs]
 have hrun:=h6 w j rfl hjk
 have hjs:j*sz<=len*sz:=Nat.mul_le_mul_right _ hjl
 have hjs2:j*sz<=k*sz:=Nat.mul_le_mul_right _ hjk
 rcases hx with ⟨rfl,rfl⟩ | ⟨pl,cap,ad,hpl,rfl,hcap,hroom,had⟩
 . have hj0:j=0:=by omega
   subst hj0
   refine bH.alike (S':=S) (bH.of (u:=goInt 0) ?_ (bK.refl R) eO) ?_
   . have hmin0:k.min 0=0:=hj
     simp only [Builtin.copy_,ht,Sem.run_bind,List.getElem?_toArray,List.getElem?_cons_zero,List.getElem?_cons_succ,run_underlying hu,Result.andThen_ok,h5,dX hs,hmin0,hrun,Sem.run_pure]
     rfl
   . refine ⟨⟨rfl,rfl⟩,fun i=>?_⟩
     rw [ai.iW]
     by_cases hi:i=m
     . subst hi
       rw [if_pos rfl,ho]
       exact ⟨rfl,by simp [jC]⟩
     . rw [if_neg hi]
       cases S.get i with
       | none=>trivial
       | some x=>exact ⟨rfl,rfl⟩
 . by_cases h0:j=0
   . subst h0
     refine bH.alike (S':=S) (bH.of (u:=goInt 0) ?_ (bK.refl R) eO) ?_
     . simp only [Nat.zero_mul,List.take_zero] at hrun
       simp only [Builtin.copy_,ht,Sem.run_bind,List.getElem?_toArray,List.getElem?_cons_zero,List.getElem?_cons_succ,run_underlying hu,Result.andThen_ok,h5,dX hs,hj,hrun,Sem.run_pure,storeCells]
       rfl
     . refine ⟨⟨rfl,rfl⟩,fun i=>?_⟩
       rw [ai.iW]
       by_cases hi:i=m
       . subst hi
         rw [if_pos rfl,ho]
         exact ⟨rfl,by simp [jC]⟩
       . rw [if_neg hi]
         cases S.get i with
         | none=>trivial
         | some x=>exact ⟨rfl,rfl⟩
   . have hca:ad=⟨pl.block,pl.off+off,none⟩:=by
      rcases had with rfl | rfl
      . omega
      . rfl
     subst hca
     have hlt:=(h3.takeN (j*sz)).length
     have bR:(cs.take (j*sz)).length=j*sz:=by simp;omega
     have hn0:¬ o.bytes:=by
      rcases hnb with h | h
      . exact h
      . exfalso
        rw [h] at hb
        have hb:off+len*sz<=0:=hb
        have:1*1<=j*sz:=Nat.mul_le_mul (by omega) (by omega)
        omega
     obtain ⟨hst,g⟩:=R.store (P:=P) ho hpl hmo hn0 hnw (h3.takeN (j*sz)) (fun v hv=>h4 v (List.mem_of_mem_take hv)) (off:=off) (by omega) (o':=Ob.of o.ty (jC o.cells off (cs.take (j*sz)))) rfl (by simp)
     refine bH.of (u:=goInt j) ?_ g.up eO
     simp only [Builtin.copy_,ht,Sem.run_bind,List.getElem?_toArray,List.getElem?_cons_zero,List.getElem?_cons_succ,run_underlying hu,Result.andThen_ok,h5,dX hs,hj,hrun,hst,Sem.run_pure]
theorem OQ (R : St base η Z S w) {t ty el : TypeId} {ts : Array TypeId} {i : TypeInfo} {z : W} {zv : Value} (ht : ts[0]? = some t) (hu : P.underlying t = some (.slice el)) (hi : P.info? el = some i) (hzv : i.zero = some zv) (hz : yx z zv = true)
 {u:Value} {m off len:Nat} (hx:aF η Z (.sl m off len 1) u) {o:Ob} (ho:S.get m=some o) (hmo:¬ o.eV) (hnb:¬ o.bytes∨o.cells=[]) (hnw:¬ o.wb) (hb:off+len<=o.cells.length) :
 bH P base η Z S w (do pure (Next.value (<-Builtin.clear_ ts ty #[u]))) (.aL []) (S.put m (Ob.of o.ty (jC o.cells off (List.replicate len z)))):=by
 have oW:∀ {u:Value},(Builtin.clear_ ts ty #[u]).run P w=.ok (.tuple #[]) w->len=0->bH P base η Z S w (do pure (Next.value (<-Builtin.clear_ ts ty #[u]))) (.aL []) (S.put m (Ob.of o.ty (jC o.cells off (List.replicate len z)))):=by
  rintro u hr rfl
  refine bH.alike (S':=S) (bH.of (u:=.tuple #[]) hr (bK.refl R) ⟨[],rfl,trivial⟩) ⟨⟨rfl,rfl⟩,fun i=>?_⟩
  rw [ai.iW]
  by_cases hi:i=m
  . subst hi
    rw [if_pos rfl,ho]
    exact ⟨rfl,by simp [jC]⟩
  . rw [if_neg hi]
    cases S.get i with
    | none=>trivial
    | some x=>exact ⟨rfl,rfl⟩
 rcases hx with ⟨rfl,rfl⟩ | ⟨pl,cap,ad,hpl,rfl,hcap,hroom,had⟩
 . exact oW (by simp [Builtin.clear_,ht,run_underlying hu]) rfl
 . by_cases h0:len=0
   . subst h0
     exact oW (by simp [Builtin.clear_,ht,run_underlying hu]) rfl
   · have hca : ad = ⟨pl.block, pl.off + off, none⟩ := by
      rcases had with rfl | rfl
      . omega
      . rfl
     subst hca
     obtain ⟨hr,_,hone,hy⟩:=uW (η:=η) (Z:=Z) hz
     have hrel : aT (aF η Z) (List.replicate len z) (List.replicate len zv) := by
      apply aT.qI
      . simp
      . intro j x v hx hv
        rw [List.getElem?_replicate] at hx hv
        split at hx
        . rename_i hj
          rw [if_pos hj] at hv
          cases hx;cases hv
          exact hr
        . cases hx
     have hn0:¬ o.bytes:=by
      rcases hnb with h | h
      . exact h
      . exfalso;rw [h] at hb;have hb:off+len<=0:=hb;omega
     obtain ⟨hst,g⟩:=R.store (P:=P) ho hpl hmo hn0 hnw hrel (fun v hv=>by rw [(List.mem_replicate.1 hv).2];exact hone) (off:=off) (by simp;omega) (o':=Ob.of o.ty (jC o.cells off (List.replicate len z))) rfl (by simp)
     have hzc:(Builtin.zeroCells zv.cells len).toList=List.replicate len zv:=by
      rw [hy]
      unfold Builtin.zeroCells
      apply List.ext_getElem?
      intro j
      rw [List.getElem?_replicate]
      by_cases hj:j<len
      . simp [hj,Nat.mod_one]
      . simp [hj]
     have AU:(zeroValue el).run P w=.ok zv w:=by simp [zeroValue,typeInfo,hi,hzv]
     refine bH.of (u:=.tuple #[]) ?_ g.up ⟨[],rfl,trivial⟩
     simp only [Builtin.clear_,ht,Sem.run_bind,List.getElem?_toArray,List.getElem?_cons_zero,run_underlying hu,Result.andThen_ok]
     cases len with
     | zero=>exact absurd rfl h0
     | succ n=>simp only [AU,Result.andThen_ok,hzc,hst,Sem.run_pure]
def bg (l:List Int):ByteArray:=⟨(l.map fun n=>UInt8.ofNat n.toNat).toArray⟩
theorem BJ (l:List Int):bg l=l.foldl (fun r n=>r.push (UInt8.ofNat n.toNat)) ByteArray.empty:=au.Ox l
theorem BK {k:IntKind}:∀ {l:List Int} {vs:List Value},aT (aF η Z) (l.map (D.int k).w) vs->vs=l.map (Value.int k)
 | [],[],_=>rfl
 | n::l,v::vs,⟨a,b⟩=>by
   have:v=.int k n:=by simpa [D.w,aF,aM] using a
   subst this
   simp only [List.map_cons]
   rw [<-BK b]
theorem IY {src dst el:TypeId} (hs:P.underlying src=some (.slice el)) (hd:P.underlying dst=some .string) (he:P.underlying el=some (.int .u8)) {u:Value} {l:List Int} (hsrc:Src P η Z w u 1 (l.map (D.int .u8).w)) (hu:∃ ad len c,u=.slice ad len c) (hnil:∀ len c,u=.slice none len c->l=[]) :
 bZ P η Z w (do pure (Next.value (<-convert src dst u))) (.c (.str (bg l))):=by
 obtain ⟨ad,len,c,rfl⟩:=hu
 obtain ⟨m,vs,h1,h2,h3,h4,h5,h6⟩:=hsrc
 have cB:len=m:=by
  have:=h5 w
  simp [Builtin.lenOf] at this
  exact this
 subst cB
 have hvs:=BK h3
 cases ad with
 | none =>
   have:=hnil len c rfl
   subst this
   refine bZ.of (u:=.string (bg [])) ?_ p5
   simp [convert,run_underlying hs,run_underlying hd,run_underlying he,Conv.bytesToString]
   rfl
 | some ad =>
   have vY:=h6 w len rfl (Nat.le_refl _)
   rw [List.take_of_length_le (by omega),hvs] at vY
   simp only [Builtin.firstCells,Nat.mul_one] at vY
   have:=run_bytesToString (P:=P) w ad len c l vY
   refine bZ.of (u:=.string (bg l)) ?_ p5
   simp only [convert,Sem.run_bind,run_underlying hs,run_underlying hd,run_underlying he,Result.andThen_ok,this,BJ]
end
def uX (P:Program):Nat->TypeId->Option D
 | 0,_=>none
 | k+1,t=>match P.underlying t with
   | some (.int k)=>some (.int k)
   | some .bool=>some .bool
   | some .string=>some .str
   | some (.slice el)=>match uX P k el with | some d=>some (.sl d) | none=>none
   | _=>none
def OT (P:Program):Nat->TypeId->Option (List Fd)
 | 0,_=>none
 | k+1,t=>match P.underlying t with
   | some (.struct fs)=>fs.toList.foldr (fun f r=>match OT P k f.type,r with | some a,some b=>some (a++b) | _,_=>none) (some [])
   | some (.array n el)=>match uX P 4 el with | some d=>some [.a n d (List.replicate n d.zero)] | none=>none
   | some _=>match OB P t with | some z=>some [.c z] | none=>none
   | none=>none
def MN:List W->List Value->Bool
 | [],[]=>true
 | x::l,v::m=>yx x v&&MN l m
 | _,_=>false
theorem EI {η:Eta} {Z:aA}:∀ {l:List W} {m:List Value},MN l m=true->aT (aF η Z) l m/\∀ v∈m,v.oneCell'=true
 | [],[],_=>⟨trivial,by simp⟩
 | x::l,v::m,h=>by
   simp only [MN,Bool.and_eq_true] at h
   obtain ⟨a,b⟩:=EI (η:=η) (Z:=Z) h.2
   obtain ⟨c,_,d,_⟩:=uW (η:=η) (Z:=Z) h.1
   refine ⟨⟨c,a⟩,fun u hu=>?_⟩
   rcases List.mem_cons.1 hu with rfl | hu
   . exact d
   . exact b u hu
 | [],_::_,h=>by cases h
 | _::_,[],h=>by cases h
def oX:List Fd->Nat->Fd->Option (List Fd)
 | [],_,_=>none
 | .c x::fs,k,f=>match k with
   | 0=>some (f::fs)
   | k+1=>match oX fs k f with | some r=>some (.c x::r) | none=>none
 | .a n d l::fs,k,f=>match k with
   | 0=>some (f::fs)
   | k+1=>bif Nat.blt (k+1) n then none else match oX fs (k+1-n) f with | some r=>some (.a n d l::r) | none=>none
 | .m _ _ _::_,_,_=>none
 | .b _::_,_,_=>none
theorem vZ:∀ {fs:List Fd} {off:Nat} {c:Cd} {f f':Fd} {fs':List Fd},iQ fs off=some (c,f)->c->oX fs off f'=some fs'->∃ pre post,fs=pre++f::post/\fs'=pre++f'::post/\(pre.flatMap Fd.cells).length=off
 | [],_,_,_,_,_,e,_,_=>by cases e
 | .c x::fs,0,c,f,f',fs',e,_,h=>by
   simp only [iQ] at e
   simp only [oX] at h
   cases e;cases h
   exact ⟨[],fs,rfl,rfl,rfl⟩
 | .c x::fs,k+1,c,f,f',fs',e,hc,h=>by
   simp only [iQ] at e
   simp only [oX] at h
   split at h
   . rename_i r hr
     cases h
     obtain ⟨pre,post,rfl,rfl,hl⟩:=vZ e hc hr
     exact ⟨.c x::pre,post,rfl,rfl,by rw [List.flatMap_cons,List.length_append,hl];simp only [Fd.cells,List.length_singleton];omega⟩
   . cases h
 | .a n d l::fs,0,c,f,f',fs',e,_,h=>by
   simp only [iQ] at e
   simp only [oX] at h
   cases e;cases h
   exact ⟨[],fs,rfl,rfl,rfl⟩
 | .a n d l :: fs, k + 1, c, f, f', fs', e, hc, h => by
   simp only [iQ] at e
   simp only [oX] at h
   cases hb:Nat.blt (k+1) n with
   | true=>rw [hb] at e;cases e
   | false =>
     rw [hb] at e h
     simp only [cond_false] at e h
     have hn:n<=k+1:=by
      rcases Nat.lt_or_ge (k+1) n with h | h
      . rw [(Nat.blt_eq (x:=k+1) (y:=n)).mpr h] at hb;cases hb
      . exact h
     split at e
     . rename_i c' f'' he
       cases e
       split at h
       . rename_i r hr
         cases h
         obtain ⟨pre,post,rfl,rfl,hl⟩:=vZ he hc.2 hr
         exact ⟨.a n d l::pre,post,rfl,rfl,by rw [List.flatMap_cons,List.length_append,hl];simp only [Fd.cells,List.length_map];have:l.length=n:=hc.1;omega⟩
       . cases h
     . cases e
theorem L9 {fs fs':List Fd} {off:Nat} {c:Cd} {x y:W} (e:iQ fs off=some (c,.c x)) (hc:c) (h:oX fs off (.c y)=some fs'):fs'.flatMap Fd.cells=(fs.flatMap Fd.cells).set off y/\off<(fs.flatMap Fd.cells).length:=by
 obtain ⟨pre,post,rfl,rfl,hl⟩:=vZ e hc h
 rw [List.flatMap_append,List.flatMap_append,List.flatMap_cons,List.flatMap_cons]
 refine ⟨?_,by simp only [List.length_append,Fd.cells,List.length_singleton];omega⟩
 rw [List.set_append_right _ _ (by omega),hl,Nat.sub_self]
 rfl
theorem Ma {fs fs':List Fd} {off n n':Nat} {d:D} {l l':List d.ty} {c:Cd} (e:iQ fs off=some (c,.a n d l)) (hc:c) (h:oX fs off (.a n' d l')=some fs') :
 ∃ pre post,fs.flatMap Fd.cells=pre++l.map d.w++post/\fs'.flatMap Fd.cells=pre++l'.map d.w++post/\pre.length=off:=by
 obtain ⟨pre,post,rfl,rfl,hl⟩:=vZ e hc h
 exact ⟨pre.flatMap Fd.cells,post.flatMap Fd.cells,by simp [List.flatMap_append,Fd.cells],by simp [List.flatMap_append,Fd.cells],hl⟩
def CR (fs : List Fd) (off : Nat) : List W → Option (Cd × List Fd)
 | []=>some (.t,fs)
 | y :: cs => match iQ fs off with
   | some (c,.c _)=>match oX fs off (.c y) with
     | some fs'=>match CR fs' (off+1) cs with
       | some (c',r)=>some (.and c c',r)
       | none=>none
     | none=>none
   | _=>none
theorem AY : ∀ {cs : List W} {fs fs' : List Fd} {off : Nat} {c : Cd}, CR fs off cs = some (c, fs') → c → fs'.flatMap Fd.cells = jC (fs.flatMap Fd.cells) off cs ∧ (cs ≠ [] → off + cs.length ≤ (fs.flatMap Fd.cells).length)
 | [],fs,fs',off,c,e,_=>by
   simp only [CR] at e
   cases e
   exact ⟨rfl,fun h=>absurd rfl h⟩
 | y :: cs, fs, fs', off, c, e, hc => by
   simp only [CR] at e
   split at e
   . rename_i c1 x hg
     split at e
     . rename_i fs1 hp
       split at e
       . rename_i c2 r hr
         cases e
         obtain ⟨h1,h2⟩:=L9 hg hc.1 hp
         obtain ⟨h3,h4⟩:=AY hr hc.2
         rw [h1] at h3 h4
         refine ⟨h3,fun _=>?_⟩
         by_cases h0:cs=[]
         . subst h0;rw [List.length_singleton];omega
         . have:=h4 h0
           rw [List.length_set] at this
           rw [List.length_cons];omega
       . cases e
     . cases e
   . cases e
def Fd.list (d:D):List Fd->Option (List d.ty)
 | [.a _ d' l]=>if h:d'=d then some (h▸l) else none
 | _=>none
theorem Fd.jE {d:D} {fs:List Fd} {l:List d.ty} (h:Fd.list d fs=some l):fs.flatMap Fd.cells=l.map d.w:=by
 unfold Fd.list at h
 split at h
 . split at h
   . rename_i hd;subst hd;cases h;simp [Fd.cells]
   . cases h
 . cases h
noncomputable def EJ (S:ai):(d:D)->W->Option (Cd×d.ty×ai)
 | .sl e,.sl m off len sz=>bif Nat.beq sz 1 then match S.get m with
  | some o=>match Fd.list e o.fs with
    | some l=>some (.p (off+len<=l.length),((l.drop off).take len:List e.ty),S.del m)
    | none=>none
  | none=>none
   else none
 | d,x=>match d.of x with | some y=>some (.t,y,S) | none=>none
section
variable {P:Program} {base n:Nat} {η:Eta} {Z:aA} {S:ai} {w:World} {F:Fr} {a:Act}
theorem kQ {d:D} {x:W} {y:d.ty} (e:d.of x=some y) {v:Value} (h:aF η Z x v):cH Z d y v:=D.Rd e (aF.Vr (D.Ih e) h)
theorem nj {sz:Nat} (h:Nat.beq sz 1=true):sz=1:=Nat.eq_of_beq_eq_true h
theorem RH (R : St base η Z S w) {m off len : Nat} {o : Ob} (ho : S.get m = some o) {e : D} {l : List e.ty} (hl : Fd.list e o.fs = some l) (hb : off + len ≤ l.length) {v : Value} (h : aF η Z (.sl m off len 1) v) :
 ∃ Z',bK base η Z S w η Z' (S.del m) w/\cH Z' (.sl e) ((l.drop off).take len) v:=by
 have hc:=Fd.jE hl
 have hz:len=0->∀ ad cap Z',v=.slice ad 0 cap->cH Z' (.sl e) ((l.drop off).take len) v:=by
  rintro rfl ad cap Z' rfl
  exact ⟨ad,0,cap,rfl,by simp,Nat.zero_le _,.inl (by simp)⟩
 rcases h with ⟨h0,rfl⟩ | ⟨p,c,ad,hp,rfl,hcap,hroom,had⟩
 . exact ⟨Z,⟨Eta.le.refl _,R.del m,Step.del m⟩,hz h0 _ _ _ rfl⟩
 . by_cases h0:len=0
   . subst h0;exact ⟨Z,⟨Eta.le.refl _,R.del m,Step.del m⟩,hz rfl _ _ _ rfl⟩
   . obtain ⟨cs,ty,fz,hh,mv,hv⟩:=R.freeze ho hp (Ob.ji (o:=o) hc)
     refine ⟨_,mv,some ad,len,c,rfl,by simp;omega,hcap,.inr ⟨p.block,p.off+off,cs,?_,?_,?_⟩⟩
     . rcases had with h | h
       . omega
       . rw [h]
     . unfold aA.add;rw [if_pos rfl]
     . intro i x hx
       have hx':(l.map e.w)[off+i]? = some (e.w x):=by
        rw [List.getElem?_take] at hx
        split at hx
        . rw [List.getElem?_drop] at hx;simp [hx]
        . cases hx
       obtain ⟨u,h1,h2⟩:=hv (off+i) _ (by unfold Ob.cells;rw [hc];exact hx')
       exact ⟨u,by rw [<-h1];congr 1;omega,cH.mono mv.step.cJ e ((D.f6 e).1 h2)⟩
theorem yA (R:St base η Z S w) {d:D} {x:W} {c:Cd} {y:d.ty} {S':ai} (e:EJ S d x=some (c,y,S')) (hc:c) {v:Value} (h:aF η Z x v) :
 ∃ Z',bK base η Z S w η Z' S' w/\cH Z' d y v/\(S'=S∨∃ m,S'=S.del m):=by
 unfold EJ at e
 split at e
 . rename_i d m off len sz
   obtain ⟨hs,e⟩:=au.aH e
   have hs1:=nj hs
   subst hs1
   split at e
   . rename_i o ho
     split at e
     . rename_i l hl
       cases e
       obtain ⟨Z',a,b⟩:=RH R ho hl hc h
       exact ⟨Z',a,b,.inr ⟨m,rfl⟩⟩
     . cases e
   . cases e
 . split at e
   . rename_i y' hy
     cases e
     exact ⟨Z,bK.refl R,kQ hy h,.inl rfl⟩
   . cases e
def Fd.hole:List Fd->Option ((d:D)×(List d.ty×W×List d.ty))
 | [.a k d l,.c x,.a k' d' l']=>bif Nat.beq k 1&&Nat.beq k' 1 then (if h:d'=d then some ⟨d,l,x,h▸l'⟩ else none) else none
 | _=>none
theorem Fd.MO {fs:List Fd} {d:D} {l l':List d.ty} {x:W} (h:Fd.hole fs=some ⟨d,l,x,l'⟩):∃ k k',fs=[.a k d l,.c x,.a k' d l']:=by
 unfold Fd.hole at h
 split at h
 . rename_i k d1 l1 x1 k' d2 l2
   obtain ⟨_,h⟩:=au.aH h
   split at h
   . rename_i hd;subst hd;cases h;exact ⟨k,k',rfl⟩
   . cases h
 . cases h
def D.oY:D->Bool
 | .int .u8=>true
 | _=>false
theorem D.w_u8 {d:D} (h:d.oY=true) (x:d.ty):∃ n,d.w x=.int .u8 n:=by
 unfold D.oY at h
 split at h
 . exact ⟨x,rfl⟩
 . cases h
theorem D.OU {d:D} (h:d.oY=false) (x:d.ty) (n:Int):d.w x≠.int .u8 n:=by
 intro e
 cases d with
 | int k =>
   have e:W.int k x=.int .u8 n:=e
   cases e
   cases h
 | bool=>cases e
 | str=>cases e
 | sl d=>cases e
noncomputable def shut (S:ai) (m:Nat):Option (Cd×ai):=match S.sH m with
 | some o=>match Fd.hole o.fs with
   | some ⟨d,l,x,l'⟩=>bif d.oY then none else (match EJ S d x with
     | some (c,y,S1)=>match S1.get m with
       | some _=>some (c,S1.put m ⟨o.ty,[.a 1 d (l++y::l')]⟩)
       | none=>none
     | none=>none)
   | none=>none
 | none=>none
theorem EK (R : St base η Z S w) {m : Nat} {c : Cd} {S' : ai} (e : shut S m = some (c, S')) (hc : c) : ∃ Z', bK base η Z S w η Z' S' w ∧ ∀ i, i ≠ m → S'.get i = none ∨ S'.get i = S.get i := by
 unfold shut at e
 split at e
 · rename_i o ho
   obtain ⟨ho,hmo⟩:=kz ho
   split at e
   · rename_i d l x l' hh
     cases uY:d.oY with
     | true=>rw [uY] at e;cases e
     | false =>
     rw [uY] at e
     simp only [cond_false] at e
     split at e
     . rename_i c1 y S1 hf
       split at e
       . rename_i o1 jS
         cases e
         obtain ⟨k,k',hfs⟩:=Fd.MO hh
         have bR:o.cells=l.map d.w++x::l'.map d.w:=by unfold Ob.cells;rw [hfs];simp [Fd.cells]
         have hx:o.cells[l.length]? = some x:=by rw [bR,List.getElem?_append_right (by simp)];simp
         cases hp:η m with
         | none=>rw [R.cw m o ho hp] at hx;simp at hx
         | some p =>
           obtain ⟨_,_,L⟩:=R.ak m o p ho hp
           obtain ⟨cs,fz,h1,h2,h3,pP⟩:=L.there hmo
           obtain ⟨v,hv,hr,hone⟩:=h3 _ _ hx
           obtain ⟨Z1,mv,hd,hS⟩:=yA R hf hc hr
           have h4:=pP.plain (hw:=Ob.nN (List.mem_of_getElem? hx) (fun n e=>by subst e;have hr:v=.int .u8 n:=hr;subst hr;exact (by
            cases d with
            | int k=>have hd:Value.int .u8 n=.int k y:=hd;cases hd;cases uY
            | bool=>have hd:Value.int .u8 n=.bool y:=hd;cases hd
            | str=>have hd:Value.int .u8 n=.string y:=hd;cases hd
            | sl d=>obtain ⟨_,_,_,hd,_⟩:=hd;cases hd))) fun hB=>by
            obtain ⟨n,e⟩:=hB x (List.mem_of_getElem? hx)
            subst e
            have hr:v=.int .u8 n:=by simpa only [aF,aM] using hr
            subst hr
            cases d with
            | int k =>
              have hd:Value.int .u8 n=.int k y:=hd
              cases hd;cases uY
            | bool=>have hd:Value.int .u8 n=.bool y:=hd;cases hd
            | str=>have hd:Value.int .u8 n=.string y:=hd;cases hd
            | sl d=>obtain ⟨_,_,_,hd,_⟩:=hd;cases hd
           have hget:∀ i,S1.get i=none∨S1.get i=S.get i:=by
            intro i
            rcases hS with rfl | ⟨m',rfl⟩
            . exact .inr rfl
            . rw [ai.iq]
              by_cases hi:i=m'
              . rw [if_pos hi];exact .inl rfl
              . rw [if_neg hi];exact .inr rfl
           have VG:S1.get m=some o:=by
            rcases hget m with h | h
            . rw [h] at jS;cases jS
            . rw [h];exact ho
           have g : p4 base η Z1 S1 w η (S1.put m ⟨o.ty, [.a 1 d (l ++ y :: l')]⟩) w := by
            refine mv.st.write VG hp rfl rfl rfl rfl (fun _ _=>rfl) (dR.plain (Ob.ji (d:=d) (l:=l++y::l') (by unfold Ob.cells;simp [Fd.cells])) ⟨cs,fz,h1,h2,?_,h4⟩ ?_)
            . intro i z hz
              have hz':(l.map d.w++d.w y::l'.map d.w)[i]? = some z:=by
               rw [<-hz];unfold Ob.cells;simp [Fd.cells]
              by_cases hi:i=l.length
              . subst hi
                rw [List.getElem?_append_right (by simp)] at hz'
                simp at hz'
                subst hz'
                exact ⟨v,hv,(D.f6 d).2 hd,hone⟩
              . obtain ⟨v',a,b,e⟩:=h3 i z (by
                 rw [bR,<-hz']
                 rcases Nat.lt_or_gt_of_ne hi with hi | hi
                 . rw [List.getElem?_append_left (by simpa using hi),List.getElem?_append_left (by simpa using hi)]
                 . rw [List.getElem?_append_right (by simp;omega),List.getElem?_append_right (by simp;omega)]
                   simp only [List.length_map]
                   obtain ⟨j,hj⟩:∃ j,i-l.length=j+1:=⟨i-l.length-1,by omega⟩
                   rw [hj];rfl)
                exact ⟨v',a,b.mono (Eta.le.refl _) mv.step.cJ,e⟩
            . have:=L.size hmo
              rw [bR] at this
              unfold Ob.cells
              simp [Fd.cells] at this ⊢
              omega
           refine ⟨Z1,mv.trans g.up,fun i hi=>?_⟩
           rw [ai.iW,if_neg hi]
           exact hget i
       . cases e
     . cases e
   . cases e
 . cases e
noncomputable def qJ (S:ai) (d:D) (x:W):Option (Cd×d.ty×ai) :=
 match EJ S d x with
 | some r=>some r
 | none=>match x with
   | .sl m off len sz=>match shut S m with
     | some (c,S1)=>match EJ S1 d (.sl m off len sz) with
       | some (c',y,S2)=>some (.and c c',y,S2.del m)
       | none=>none
     | none=>none
   | _=>none
theorem lC (R : St base η Z S w) {d : D} {x : W} {c : Cd} {y : d.ty} {S' : ai} (e : qJ S d x = some (c, y, S')) (hc : c) {v : Value} (h : aF η Z x v) :
 ∃ Z',bK base η Z S w η Z' S' w/\cH Z' d y v/\∀ i,S'.get i=none∨S'.get i=S.get i:=by
 have fX:∀ {S S':ai},(S'=S∨∃ m,S'=S.del m)->∀ i,S'.get i=none∨S'.get i=S.get i:=by
  intro S S' hS i
  rcases hS with rfl | ⟨m',rfl⟩
  . exact .inr rfl
  . rw [ai.iq]
    by_cases hi:i=m'
    . rw [if_pos hi];exact .inl rfl
    . rw [if_neg hi];exact .inr rfl
 unfold qJ at e
 split at e
 . rename_i r hr
   cases e
   obtain ⟨Z',a,b,hS⟩:=yA R hr hc h
   exact ⟨Z',a,b,fX hS⟩
 · split at e
   . rename_i m off len sz _
     split at e
     . rename_i c1 S1 hs
       split at e
       . rename_i c2 y2 S2 hf
         cases e
         obtain ⟨Z1,FG,g1⟩:=EK R hs hc.1
         obtain ⟨Z2,gF,hd,hS⟩:=yA FG.st hf hc.2 (h.mono (Eta.le.refl _) FG.step.cJ)
         refine ⟨Z2,(FG.trans gF).trans ⟨Eta.le.refl _,gF.st.del m,Step.del m⟩,hd,fun i=>?_⟩
         rw [ai.iq]
         by_cases hi:i=m
         . rw [if_pos hi];exact .inl rfl
         . rw [if_neg hi]
           rcases fX hS i with h | h
           . exact .inl h
           . rw [h];exact g1 i hi
       . cases e
     . cases e
   . cases e
end
noncomputable def EL (S:ai) (d:D):List V->Option (Cd×List d.ty×ai)
 | []=>some (.t,[],S)
 | .c x::l=>match qJ S d x with
   | some (c,y,S1)=>match EL S1 d l with
     | some (c',ys,S2)=>some (.and c c',y::ys,S2)
     | none=>none
   | none=>none
 | _=>none
def af (s:ByteArray):List Int:=s.data.toList.map fun b=>(b.toNat:Int)
def strD:(d:D)->ByteArray->Option (Cd×List d.ty)
 | .int .u8,s=>some (.t,af s)
 | _,_=>none
noncomputable def BL (S:ai) (d:D) (x:W):Option (Cd×List d.ty) :=
 match x with
 | .nil=>some (.t,[])
 | .rd d' l=>if h:d'=d then some (.t,h▸l) else none
 | .sl m off len sz=>bif Nat.beq sz 1 then match S.get m with
  | some o=>match Fd.list d o.fs with
    | some l=>some (.p (off+len<=l.length),(l.drop off).take len)
    | none=>none
  | none=>none
   else none
 | .str s=>strD d s
 | _=>none
def IZ (S : ai) (x : W) : Option (Cd × List Int) :=
 match x with
 | .sl m off len sz=>bif Nat.beq sz 1 then match S.get m with
  | some o=>match Iv o.fs with
    | some l=>some (.p (off+len<=l.length),(l.drop off).take len)
    | none=>none
  | none=>none
   else none
 | _=>none
def D.same:(d:D)->W->Option d.ty
 | .int k,.int k' n=>if k'=k then some n else none
 | .bool,.bool b=>some b
 | .str,.str s=>some s
 | _,_=>none
theorem D.same_w {d:D} {x:W} {y:d.ty} (e:d.same x=some y):d.w y=x:=by
 cases d <;> cases x <;> simp only [D.same] at e <;> try cases e
 . rename_i k k' n
   split at e
   . rename_i hk;subst hk;cases e;rfl
   . cases e
 . rfl
 . rfl
def Aa (d:D):Nat->List W->Option (List d.ty×List W)
 | 0,l=>some ([],l)
 | n+1,x::l=>match d.same x,Aa d n l with | some y,some (ys,r)=>some (y::ys,r) | _,_=>none
 | _+1,[]=>none
theorem I4 {d:D}:∀ {n:Nat} {l r:List W} {ys:List d.ty},Aa d n l=some (ys,r)->l=ys.map d.w++r
 | 0,l,r,ys,e=>by simp only [Aa] at e;cases e;rfl
 | n+1,[],r,ys,e=>by simp only [Aa] at e;cases e
 | n + 1, x :: l, r, ys, e => by
   simp only [Aa] at e
   split at e
   . rename_i y ys' r' h1 h2
     cases e
     rw [I4 h2,List.map_cons,D.same_w h1];rfl
   . cases e
def nk:List Fd->List W->Option (List Fd)
 | [],[]=>some []
 | .c _::fs,x::l=>match nk fs l with | some r=>some (.c x::r) | none=>none
 | .a n d _::fs,l=>match Aa d n l with
   | some (ys,r)=>(match nk fs r with | some q=>some (.a n d ys::q) | none=>none)
   | none=>none
 | _,_=>none
theorem v7:∀ {fs:List Fd} {l:List W} {r:List Fd},nk fs l=some r->r.flatMap Fd.cells=l
 | [],[],r,e=>by simp only [nk] at e;cases e;rfl
 | [],_::_,r,e=>by simp only [nk] at e;cases e
 | .c _::fs,[],r,e=>by simp only [nk] at e;cases e
 | .c _::fs,x::l,r,e=>by
   simp only [nk] at e
   split at e
   . rename_i q h;cases e;rw [List.flatMap_cons,v7 h];rfl
   . cases e
 | .a n d _::fs,l,r,e=>by
   simp only [nk] at e
   split at e
   . rename_i ys q h
     split at e
     . rename_i q' h'
       cases e
       rw [List.flatMap_cons,v7 h',I4 h];rfl
     . cases e
   . cases e
def I5 (fs:Option (List Fd)) (l:List W):List Fd :=
 match fs with
 | some fs=>(match nk fs l with | some r=>r | none=>l.map .c)
 | none=>l.map .c
theorem I6 {fs:Option (List Fd)} {l:List W}:(I5 fs l).flatMap Fd.cells=l:=by
 unfold I5
 split
 . split
   . rename_i h;exact v7 h
   . exact uQ l
 . exact uQ l
def VH:List W->Bool
 | [.bY,.nil]=>true
 | _=>false
theorem ZO {l:List W} (h:VH l=true):l=[.bY,.nil]:=by
 unfold VH at h
 split at h
 . rfl
 . cases h
def D.qt:(d:D)->d.ty->d.ty->Bool
 | .int _,a,b=>decide ((show Int from a)=b)
 | .str,a,b=>decide ((show ByteArray from a)=b)
 | _,_,_=>false
def kR (kd vd:D) (k:kd.ty) (v:vd.ty):List (kd.ty×vd.ty)->List (kd.ty×vd.ty)
 | []=>[(k,v)]
 | (k',v')::l=>bif kd.qt k k' then (k,v)::l else (k',v')::kR kd vd k v l
def v8 (kd vd:D) (k:kd.ty):List (kd.ty×vd.ty)->Option vd.ty
 | []=>none
 | (k',v')::l=>bif kd.qt k k' then some v' else v8 kd vd k l
def p7 (kd vd:D) (l:List (kd.ty×vd.ty)) (k:kd.ty):vd.ty:=match v8 kd vd k l with | some v=>v | none=>vd.zero
def BM (kd vd:D) (l:List (kd.ty×vd.ty)) (k:kd.ty):Bool:=(v8 kd vd k l).isSome
inductive L where
 | YE (ty:TypeId) (kd vd:D)
 | kR (kd vd:D) (m k v:bO)
 | p7 (kd vd:D) (m k:bO) (ok:Bool)
 | RI (ty:TypeId)
 | OV (kd:D) (m k v:bO)
 | YF (kd:D) (m k:bO)
 | alloc (ty:TypeId) (fs:List Fd)
 | RJ (ty el:TypeId)
 | boxB (ty el:TypeId) (x:bO)
 | ustr (el:TypeId) (x n:bO)
 | nil (el:TypeId) (d:D)
 | box (ty:TypeId) (fs:Option (List Fd)) (x:bO)
 | store (n:Nat) (x v:bO)
 | make (el:TypeId) (bytes:Nat) (d:D) (l c:bO)
 | lit (el:TypeId) (sz:Nat) (d:Option D) (h:Bool) (parts:List bO)
 | append (el:TypeId) (bytes:Nat) (d:D) (x y:bO)
 | zeros (el:TypeId) (bytes:Nat) (d:D) (x y:bO)
 | copy (d:D) (x y:bO)
 | clear (d:D) (x:bO)
 | b2s (x:bO)
 | mki (t:TypeId) (x:bO)
 | tas (t:TypeId) (z:V) (x:bO)
 | st0 (x v:bO)
 | s2b (el:TypeId) (x:bO)
 | mlen (kd vd:D) (x:bO)
def Hx (sz:Nat):List V->Bool
 | []=>true
 | v::l=>Nat.beq v.cells.length sz&&Hx sz l
def spl {α:Type} (l:List α) (off:Nat) (ys:List α):List α:=l.take off++ys++l.drop (off+ys.length)
def I7 (d:Option D) (h:Bool) (vs:List V):Option (List Fd):=match d,vs with
 | some d,[.c (.sl m off len sz)]=>bif h&&Nat.beq sz 1 then some [.a 1 d [],.c (.sl m off len sz),.a 1 d []] else none
 | _,_=>none
theorem I8 {d:Option D} {h:Bool} {vs:List V} {fs:List Fd} (e:I7 d h vs=some fs):fs.flatMap Fd.cells=vs.flatMap V.cells:=by
 unfold I7 at e
 split at e
 . obtain ⟨_,e⟩:=au.aH e
   cases e;rfl
 . cases e
def Fd.one:List Fd->Option W
 | [.a _ _ l,.c x,.a _ _ l']=>match l,l' with
   | [],[]=>some x
   | _,_=>none
 | _=>none
theorem Fd.FH {fs:List Fd} {x:W} (e:Fd.one fs=some x):fs.flatMap Fd.cells=[x]:=by
 unfold Fd.one at e
 split at e
 . split at e
   . cases e;rfl
   . cases e
 . cases e
def rowOf (S:ai) (d:D):W->Option (Nat×Nat×List Int×Nat)
 | .sl q off len sz => match d, S.sH q with
   | .sl (.int .i64),some o=>match Fd.one o.fs with
     | some (.sl m off' k sz')=>bif Nat.beq off 0&&Nat.beq len 1&&Nat.beq sz 1&&Nat.beq sz' 1 then match S.get m with
      | some om=>match Fd.list (.int .i64) om.fs with
        | some l=>(match off' with | 0=>some (m,k,(l:List Int),List.length (α:=Int) l) | j+1=>some (m,k,List.drop (α:=Int) (j+1) l,List.length (α:=Int) l))
        | none=>none
      | none=>none
       else none
     | _=>none
   | _,_=>none
 | _=>none
theorem OW {S : ai} {d : D} {y : W} {m k n0 : Nat} {l : List Int} (e : rowOf S d y = some (m, k, l, n0)) : ∃ (q : Nat) (o om : Ob) (ro : Nat) (l0 : List Int), y = .sl q 0 1 1 ∧ S.get q = some o ∧ ¬ o.eV ∧ o.cells = [.sl m ro k 1] ∧ S.get m = some om ∧ om.cells = l0.map (W.int .i64) ∧ l = l0.drop ro ∧ n0 = l0.length := by
 unfold rowOf at e
 split at e
 . rename_i q off len sz
   split at e
   . rename_i o ho
     obtain ⟨ho,hmo⟩:=kz ho
     split at e
     . rename_i m' off' k' sz' h1
       obtain ⟨hb,e⟩:=au.aH e
       simp only [Bool.and_eq_true] at hb
       obtain ⟨⟨⟨b1,b2⟩,b3⟩,b5⟩:=hb
       have b1:=Nat.eq_of_beq_eq_true b1
       have b2:=Nat.eq_of_beq_eq_true b2
       have b3:=Nat.eq_of_beq_eq_true b3
       have b5:=Nat.eq_of_beq_eq_true b5
       subst b1;subst b2;subst b3;subst b5
       split at e
       . rename_i om RL
         split at e
         . rename_i l' hl
           cases off' with
           | zero =>
             cases e
             exact ⟨q,o,om,0,_,rfl,ho,hmo,Fd.FH h1,RL,Fd.jE hl,rfl,rfl⟩
           | succ j =>
             cases e
             exact ⟨q,o,om,j+1,l',rfl,ho,hmo,Fd.FH h1,RL,Fd.jE hl,rfl,rfl⟩
         . cases e
       . cases e
     . cases e
   . cases e
 . cases e
noncomputable def litV (S:ai) (d:Option D) (h:Bool) (vs:List V):Option (Cd×List Fd×ai) :=
 match I7 d h vs with
 | some fs=>some (.t,fs,S)
 | none=>match d with
 | some d=>match EL S d vs with
   | some (c,ys,S1)=>some (c,[.a 0 d ys],S1)
   | none=>some (.t,(vs.flatMap V.cells).map .c,S)
 | none=>some (.t,(vs.flatMap V.cells).map .c,S)
def Fd.nb:Fd->Bool
 | .c (.int .u8 _)=>false
 | .c (.kM _)=>false
 | .c _=>true
 | _=>false
def RM (fs:List Fd):Bool:=fs.any Fd.nb||(match fs with | [.a _ d _]=>!d.oY | _=>false)
theorem nbF_ok {o:Ob} (h:RM o.fs=true) (h0:o.cells≠[]):¬ o.bytes:=by
 intro hB
 unfold RM at h
 rw [Bool.or_eq_true] at h
 rcases h with h | h
 . obtain ⟨f,hf,hn⟩:=List.any_eq_true.1 h
   cases f with
   | c x =>
     obtain ⟨n,e⟩:=hB x (by unfold Ob.cells;exact List.mem_flatMap.2 ⟨_,hf,by simp [Fd.cells]⟩)
     subst e
     cases hn
   | a _ _ _=>cases hn
   | m _ _ _=>cases hn
   | b _=>cases hn
 . split at h
   . rename_i k d l hfs
     have bR:o.cells=l.map d.w:=by unfold Ob.cells;rw [hfs];simp [Fd.cells]
     cases l with
     | nil=>exact h0 (by rw [bR];rfl)
     | cons x l =>
       obtain ⟨n,e⟩:=hB (d.w x) (by rw [bR];simp)
       exact D.OU (by simpa using h) x n e
   . cases h
theorem nbF_wb {o:Ob} (h:RM o.fs=true):¬ o.wb:=by
 unfold RM at h
 rw [Bool.or_eq_true] at h
 rcases h with h | h
 . obtain ⟨f,hf,hn⟩:=List.any_eq_true.1 h
   cases f with
   | c x =>
     refine Ob.nN (x:=x) (by unfold Ob.cells;exact List.mem_flatMap.2 ⟨_,hf,by simp [Fd.cells]⟩) fun n e=>?_
     subst e
     cases hn
   | a _ _ _=>cases hn
   | m _ _ _=>cases hn
   | b _=>cases hn
 . split at h
   . rename_i k d l hfs
     exact Ob.sB (d:=d) (l:=l) (by unfold Ob.cells;rw [hfs];simp [Fd.cells])
   . cases h
theorem Ab {o:Ob} {d:D} {l:List d.ty} (bR:o.cells=l.map d.w) (h:d.oY=false):¬ o.bytes∨o.cells=[]:=by
 cases l with
 | nil=>right;rw [bR];rfl
 | cons x l =>
   left
   intro hB
   obtain ⟨n,e⟩:=hB (d.w x) (by rw [bR];simp)
   exact D.OU h x n e
noncomputable def opn (S:ai) (m i:Nat) (y:W):Option (Cd×ai):=match S.sH m with
 | some o=>match o.fs with
   | [.a k d l]=>bif Nat.beq k 1&&!d.oY then some (.p (i<l.length),S.put m ⟨o.ty,[.a 1 d (l.take i),.c y,.a 1 d (l.drop (i+1))]⟩) else none
   | _=>none
 | none=>none
noncomputable def again (S:ai) (m i:Nat) (y:W):Option (Cd×ai):=match S.sH m with
 | some o=>match Fd.hole o.fs with
   | some ⟨d,l,.sl k _ _ _,l'⟩=>match S.get k with
     | none=>some (.p (i=l.length),S.put m ⟨o.ty,[.a 1 d l,.c y,.a 1 d l']⟩)
     | some _=>none
   | _=>none
 | none=>none
noncomputable def VI (S:ai) (m i:Nat) (y:W):Option (Cd×ai):=match y with
 | .sl _ _ _ _ => match opn S m i y with
   | some r=>some r
   | none=>match again S m i y with
     | some r=>some r
     | none=>match shut S m with
       | some (c,S1)=>match opn S1 m i y with
         | some (c',S')=>some (.and c c',S')
         | none=>none
       | none=>none
 | _=>none
def D.isSl:D->Bool
 | .sl _=>true
 | _=>false
def Ob.p8 (kd vd:D) (o:Ob):Option (List (kd.ty×vd.ty)):=match o.fs with
 | [.m YG vd' l]=>if h:YG=kd/\vd'=vd then some (h.1▸h.2▸l) else none
 | _=>none
theorem Ob.ZP {kd vd:D} {o:Ob} {l:List (kd.ty×vd.ty)} (h:o.p8 kd vd=some l):o.fs=[.m kd vd l]:=by
 unfold Ob.p8 at h
 split at h
 . rename_i YG vd' l' hfs
   split at h
   . rename_i hd
     obtain ⟨rfl,rfl⟩:=hd
     cases h;exact hfs
   . cases h
 . cases h
def oZ (kd:D):List Fd->Option (List (kd.ty×W))
 | []=>some []
 | .c k::.c v::r=>match kd.of k,oZ kd r with
   | some x,some l=>bif v.aq then some ((x,v)::l) else none
   | _,_=>none
 | _=>none
def uZ (kd:D):List Fd->Option (List (kd.ty×W))
 | .c .mh::r=>oZ kd r
 | _=>none
def yB (kd:D) (k:kd.ty):List (kd.ty×W)->Option W
 | []=>none
 | (k',v)::l=>bif kd.qt k k' then some v else yB kd k l
def W.tF:W->Option Value
 | .bool b=>some (.bool b)
 | .int k n=>some (.int k n)
 | .str s=>some (.string s)
 | .dM=>some .nilIface
 | .val v=>some v
 | _=>none
def CS:List W->Option (List Value)
 | []=>some []
 | x::l=>match x.tF,CS l with | some u,some r=>some (u::r) | _,_=>none
def V.tF:V->Option Value
 | .c x=>x.tF
 | .agg cs=>match CS cs with | some us=>some (.agg us.toArray) | none=>none
theorem W.tG {η:Eta} {Z:aA} {x:W} {u v:Value} (e:x.tF=some u) (h:aF η Z x v):v=u:=by
 cases x <;> simp only [W.tF] at e <;> first
  | (cases e;done)
  | (cases e;simp only [aF,aM] at h;exact h)
  | (cases e;simp only [aF,aM] at h;exact h.1)
theorem CT {η:Eta} {Z:aA}:∀ {cs:List W} {us vs:List Value},CS cs=some us->aT (aF η Z) cs vs->vs=us
 | [],us,vs,e,h=>by
   cases e
   cases vs with
   | nil=>rfl
   | cons _ _=>exact h.elim
 | x :: l, us, vs, e, h => by
   simp only [CS] at e
   split at e
   . rename_i u r hu hr
     cases e
     cases vs with
     | nil=>exact h.elim
     | cons v vs=>rw [W.tG hu h.1,CT hr h.2]
   . cases e
theorem V.tG {η:Eta} {Z:aA} {x:V} {u v:Value} (e:x.tF=some u) (h:dr η Z x v):v=u:=by
 cases x with
 | c x=>exact W.tG e h.2
 | agg cs =>
   simp only [V.tF] at e
   split at e
   . rename_i us yt
     cases e
     obtain ⟨ws,hw,_,hl⟩:=h
     rw [hw,CT yt hl]
   . cases e
noncomputable def OX (F:Fr) (S:ai) (el:TypeId) (bytes:Nat) (d:D) (x:bO) (y:W):Option (Cd×A×ai) :=
 match BL S d y with
  | some (q,ys)=>match fE F x with
    | some (r,.nil)=>some (.and q (.and r (.p (ys.length*bytes<=140737488355328))),.p (.c (.sl S.next 0 ys.length 1)),S.add ⟨el,[.a 0 d ys]⟩)
    | some (r,.sl n off len sz)=>bif Nat.beq sz 1 then match S.get n with
     | some o=>bif Nat.beq o.ty el then match Fd.list d o.fs with
      | some l=>some (.and q (.and r (bif d.oY then .p (off=0/\len=l.length/\(len+ys.length)*bytes<=140737488355328) else .p (off+len<=l.length/\(len+ys.length)*bytes<=140737488355328))),.p (.c (.sl S.next 0 (len+ys.length) 1)),(S.del n).add ⟨el,[.a 0 d ((l.drop off).take len++ys)]⟩)
      | none=>none
       else none
     | none=>none
      else none
    | _=>none
  | none=>none
noncomputable def appR (F:Fr) (S:ai) (el:TypeId) (bytes:Nat) (d:D) (x:bO) (y:W):Option (Cd×A×ai):=match y with
 | .sl q _ _ _=>match shut S q with
   | some (c,S1)=>match OX F S1 el bytes d x y with
     | some (c2,v,S2)=>some (.and c c2,v,S2)
     | none=>none
   | none=>none
 | _=>none
noncomputable def jT (F:Fr) (S:ai):L->Option (Cd×A×ai)
 | .mki t x=>match nO F x with
   | some (c,v)=>match v.tF with
     | some u=>some (c,.p (.c (.val (.iface t u))),S)
     | none=>none
   | none=>none
 | .tas t z x=>match fE F x with
   | some (c,.dM)=>some (c,.aL [z,.c (.bool false)],S)
   | some (c,.val (.iface t' v))=>bif Nat.beq t' t then (match ME v with | some y=>some (c,.aL [y,.c (.bool true)],S) | none=>none) else some (c,.aL [z,.c (.bool false)],S)
   | _=>none
 | .st0 x v=>match fE F x,nO F v with
   | some (p,.ptr _ _),some (q,.agg [])=>some (.and p q,.aL [],S)
   | _,_=>none
 | .s2b el x=>match yh F x with
   | some (c,s)=>bif Nat.blt S.next 2 then some (c,.p (.c (.rd (.int .u8) (af s))),S) else some (.and c (.p (0<s.size)),.p (.c (.sl S.next 0 s.size 1)),S.add ⟨el,[.b (af s)]⟩)
   | none=>none
 | .mlen kd vd x=>match fE F x with
   | some (p,.mp n)=>match S.get n with
     | some o=>match o.p8 kd vd with
       | some l=>some (p,.p (.c (.int .i64 (l.length:Nat))),S)
       | none=>none
     | none=>none
   | _=>none
 | .RI ty=>some (.t,.p (.c (.mp S.next)),S.add ⟨ty,[.c .mh]⟩)
 | .OV kd m k v => match fE F m, fE F k, fE F v with
   | some (p,.mp n),some (q,x),some (r,y)=>match kd.of x,S.get n with
     | some k,some o=>match uZ kd o.fs with
       | some l=>match yB kd k l with
         | none=>bif y.aq then some (.and p (.and q r),.aL [],S.put n ⟨o.ty,o.fs++[.c (kd.w k),.c y]⟩) else none
         | some _=>none
       | none=>none
     | _,_=>none
   | _,_,_=>none
 | .YF kd m k => match fE F m, fE F k with
   | some (p,.mp n),some (q,x)=>match kd.of x,S.get n with
     | some k,some o=>match uZ kd o.fs with
       | some l=>match yB kd k l with
         | some v=>some (.and p q,.p (.c v),S)
         | none=>none
       | none=>none
     | _,_=>none
   | _,_=>none
 | .YE ty kd vd=>some (.t,.p (.c (.mp S.next)),S.add ⟨ty,[.m kd vd []]⟩)
 | .kR kd vd m k v => match fE F m, fE F k, fE F v with
   | some (p,.mp n),some (q,x),some (r,y)=>match kd.of x,qJ S vd y with
     | some k,some (c,z,S1)=>match S1.get n with
       | some o=>match o.p8 kd vd with
         | some l=>some (.and p (.and q (.and r c)),.aL [],S1.put n ⟨o.ty,[.m kd vd (ax.kR kd vd k z l)]⟩)
         | none=>none
       | none=>none
     | _,_=>none
   | _,_,_=>none
 | .p7 kd vd m k ok => match fE F m, fE F k with
   | some (p,.mp n),some (q,x)=>match kd.of x,S.get n with
     | some k,some o=>match o.p8 kd vd with
       | some l=>bif ok
         then some (.and p q,.aL [.c (vd.w (ax.p7 kd vd l k)),.c (.bool (BM kd vd l k))],S)
         else some (.and p q,.p (.c (vd.w (ax.p7 kd vd l k))),S)
       | none=>none
     | _,_=>none
   | _,_=>none
 | .alloc ty fs=>some (.t,.p (.c (.ptr S.next 0)),S.add ⟨ty,fs⟩)
 | .RJ ty el=>some (.t,.p (.c (.ptr S.next 0)),(S.add ⟨ty,[.c (.ba S.next),.c (.sl (S.next+1) 0 0 1)]⟩).add ⟨el,[.a 0 (.int .u8) []]⟩)
 | .boxB ty el x=>match nO F x with
   | some (p,v)=>bif VH v.cells then some (p,.p (.c (.ptr S.next 0)),(S.add ⟨ty,[.c (.ba S.next),.c (.sl (S.next+1) 0 0 1)]⟩).add ⟨el,[.a 0 (.int .u8) []]⟩) else none
   | none=>none
 | .ustr el x n=>match fE F x,jQ F n with
   | some (p,.pe m off i),some (q,_,k)=>match S.get m with
     | some o=>bif Nat.beq off 0&&Nat.beq o.ty el then match Fd.list (.int .u8) o.fs with
      | some l=>some (.and p (.and q (.p (0<k/\i+k<=l.length/\k<=9223372036854775807))),.p (.c (.str (bg ((l.drop i).take k.toNat)))),S)
      | none=>none
       else none
     | none=>none
   | _,_=>none
 | .nil el d=>some (.t,.p (.c (.sl S.next 0 0 1)),S.add ⟨el,[.a 0 d []]⟩)
 | .box ty fs x=>match nO F x with
   | some (p,v)=>some (p,.p (.c (.ptr S.next 0)),S.add ⟨ty,I5 fs v.cells⟩)
   | none=>none
 | .store n x v => match fE F x, nO F v with
   | some (p,.ptr m off),some (q,v)=>bif Nat.beq v.cells.length n then match S.sH m with
    | some o=>bif RM o.fs then (match CR o.fs off v.cells with
      | some (c,fs')=>some (.and p (.and q c),.aL [],S.put m ⟨o.ty,fs'⟩)
      | none=>none) else none
    | none=>none
     else none
   | some (p,.oT m i j),some (q,.c (.int .i64 y))=>bif Nat.beq n 1 then match tA S m with
     | some (k,ah)=>match S.get m with
       | some o=>some (.and p (.and q (.p (i<ah.length/\j<k))),.aL [],S.put m ⟨o.ty,[.c (.th k (ah.set i ((ah.getD i []).set j y)))]⟩)
       | none=>none
     | none=>none
     else none
   | some (p, .pe m off i), some (q, .c y) => bif Nat.beq n 1 then match (bif Nat.beq off 0 then VI S m i y else none) with
     | some (c,S1)=>some (.and p (.and q c),.aL [],S1)
     | none=>match S.sH m with
       | some o=>match Iv o.fs with
        | some l=>match y with
          | .int .u8 z=>bif Nat.beq off 0 then some (.and p (.and q (.p (i<l.length))),.aL [],S.put m ⟨o.ty,[.b (l.set i z)]⟩) else none
          | _=>none
        | none=>match iQ o.fs off with
         | some (c,.a k d l)=>bif d.oY then none else match qJ S d y with
           | some (c2,z,S1)=>match S1.get m,oX o.fs off (.a k d (l.set i z)) with
             | some _,some fs'=>some (.and p (.and q (.and c (.and c2 (.p (i<l.length))))),.aL [],S1.put m ⟨o.ty,fs'⟩)
             | _,_=>none
           | none=>none
         | _=>none
       | none=>none
     else none
   | _,_=>none
 | .make el bytes d l c=>match jQ F l,jQ F c with
   | some (p,_,l),some (q,_,c)=>bif d.isSl
     then some (.and p (.and q (.p (0<=l/\l<=c/\(bytes:Int)*c<=140737488355328))),.p (.c (.sl S.next 0 l.toNat 1)),S.add ⟨el,[.a 1 d (List.replicate c.toNat d.zero)]⟩)
     else some (.and p (.and q (.p (0<=l/\l<=c/\(bytes:Int)*c<=140737488355328))),.p (.c (.sl S.next 0 l.toNat 1)),S.add ⟨el,[.a 0 d (List.replicate c.toNat d.zero)]⟩)
   | _,_=>none
 | .lit el sz d h parts=>match lW F parts with
   | some (p,vs)=>bif Hx sz vs then match litV S d h vs with
    | some (c,fs,S1)=>some (.and p c,.p (.c (.sl S1.next 0 parts.length sz)),S1.add ⟨el,fs⟩)
    | none=>none
     else none
   | none=>none
 | .zeros el bytes d x y=>match fE F x,jQ F y with
   | some (p,.nil),some (q,_,n)=>some (.and p (.and q (.p (0<n/\(bytes:Int)*n<=140737488355328))),.p (.c (.sl S.next 0 n.toNat 1)),S.add ⟨el,[.a 0 d (List.replicate n.toNat d.zero)]⟩)
   | _,_=>none
 | .append el bytes d x y=>match fE F y with
   | some (p, y) => match rowOf S d y with
    | some (m,k,l,n0)=>match fE F x with
      | some (r,.nil)=>some (.and p (.and r (.p (l.length=k/\(0<k∨0<n0)/\bytes<=140737488355328))),.p (.c (.sl S.next 0 1 1)),(S.del m).add ⟨el,[.c (.th k [l])]⟩)
      | some (r,.sl n off len sz)=>match tA S n with
        | some (k',ah)=>bif Nat.beq sz 1&&!(Nat.beq n m) then (match S.get n with
         | some o=>bif Nat.beq o.ty el then some (.and p (.and r (.p (off=0/\len=ah.length/\k'=k/\l.length=k/\(0<k∨0<n0)/\(ah.length+1)*bytes<=140737488355328))),.p (.c (.sl S.next 0 (ah.length+1) 1)),((S.del n).del m).add ⟨el,[.c (.th k (ah++[l]))]⟩) else none
         | none=>none) else none
        | none=>match appR F S el bytes d x y with
          | some (c,v,S1)=>some (.and p c,v,S1)
          | none=>none
      | _=>none
    | none=>match OX F S el bytes d x y with
     | some (c,v,S1)=>some (.and p c,v,S1)
     | none=>none
   | none=>none
 | .copy d x y => match fE F y with
   | some (p, y) => match BL S d y with
     | some (q,ys)=>match fE F x with
       | some (r,.sl n off len sz)=>bif Nat.beq sz 1&&!d.oY then match S.get n with
        | some o=>match Fd.list d o.fs with
          | some l=>some (.and p (.and q (.and r (.p (off+len<=l.length)))),.p (.c (.int .i64 ((Nat.min ys.length len:Nat):Int))),S.put n ⟨o.ty,[.a 0 d (spl l off (ys.take len))]⟩)
          | none=>none
        | none=>none
         else none
       | _=>none
     | none=>none
   | none=>none
 | .clear d x=>match fE F x with
   | some (p,.sl n off len sz)=>bif Nat.beq sz 1&&!d.oY then match S.get n with
    | some o=>match Fd.list d o.fs with
      | some l=>some (.and p (.p (off+len<=l.length)),.aL [],S.put n ⟨o.ty,[.a 0 d (spl l off (List.replicate len d.zero))]⟩)
      | none=>none
    | none=>none
     else none
   | _=>none
 | .b2s x=>match fE F x with
   | some (p,y)=>match y with
     | .str _=>none
     | y => match IZ S y with
       | some (q,l)=>some (.and p q,.p (.c (.str (bg l))),S)
       | none=>match BL S (.int .u8) y with
         | some (q,l)=>some (.and p q,.p (.c (.str (bg l))),S)
         | none=>none
   | none=>none
def o5:TypeDesc->D->Bool
 | .int k,.int k'=>decide (k=k')
 | .string,.str=>true
 | _,_=>false
def ur (P:Program) (t:TypeId):Option (D×D):=match P.underlying t with
 | some (.map kt et)=>match P.underlying kt,uX P 4 kt,P.info? et,uX P 4 et with
   | some td,some kd,some i,some vd=>match i.zero with
     | some z=>if o5 td kd=true/\yx (vd.w vd.zero) z=true then some (kd,vd) else none
     | none=>none
   | _,_,_,_=>none
 | _=>none
def rE (P:Program) (t:TypeId):Option D:=match P.underlying t with
 | some (.map kt _)=>match P.underlying kt,uX P 4 kt with
   | some td,some kd=>if o5 td kd=true then some kd else none
   | _,_=>none
 | _=>none
def Hy (P:Program) (t:TypeId):Option TypeId:=match P.underlying t with
 | some (.struct ⟨[f,g]⟩)=>match P.underlying f.type,P.underlying g.type,P.info? t with
   | some (.pointer t'),some (.slice el),some i=>match P.underlying el,i.zero with
     | some (.int .u8),some z=>if t'=t/\MN [.bY,.nil] z.cells.toList=true then some el else none
     | _,_=>none
   | _,_,_=>none
 | _=>none
def unnamed (P:Program) (t:TypeId):Bool:=match P.info? t with
 | some { desc:=.slice _,.. }=>true
 | _=>false
def I9 (P : Program) (o : Oper) : Option L :=
 match o.op with
 | .makeMap t none=>match ur P t with | some (kd,vd)=>some (.YE t kd vd) | none=>match rE P t with | some _=>some (.RI t) | none=>none
 | .mapUpdate t m k v=>match ur P t,bT m,bT k,bT v with | some (kd,vd),some m,some k,some v=>some (.kR kd vd m k v) | none,some m,some k,some v=>(match rE P t with | some kd=>some (.OV kd m k v) | none=>none) | _,_,_,_=>none
 | .insert t m k v=>match ur P t,bT m,bT k,bT v with | some (kd,vd),some m,some k,some v=>some (.kR kd vd m k v) | none,some m,some k,some v=>(match rE P t with | some kd=>some (.OV kd m k v) | none=>none) | _,_,_,_=>none
 | .lookup t m k ok=>match ur P t,bT m,bT k with | some (kd,vd),some m,some k=>some (.p7 kd vd m k ok) | none,some m,some k=>(bif ok then none else match rE P t with | some kd=>some (.YF kd m k) | none=>none) | _,_,_=>none
 | .assign (.const (.slice none 0 0))=>match P.underlying o.type with
   | some (.slice el)=>match uX P 4 el with | some d=>some (.nil el d) | none=>none
   | _=>none
 | .move (.const (.slice none 0 0))=>match P.underlying o.type with
   | some (.slice el)=>match uX P 4 el with | some d=>some (.nil el d) | none=>none
   | _=>none
 | .alloc t=>match Hy P t with
   | some el=>some (.RJ t el)
   | none=>match OT P 8 t,P.info? t with
     | some fs,some i=>match i.zero with
       | some z=>if MN (fs.flatMap Fd.cells) z.cells.toList then some (.alloc t fs) else none
       | none=>none
     | _,_=>none
 | .call { callee:=.builtin .unsafeString,args:=⟨[x,y]⟩,argTypes:=⟨[pt,_]⟩ }=>match P.underlying pt,bT x,bT y with
   | some (.pointer el),some x,some y=>if P.cellsOf el=1 then some (.ustr el x y) else none
   | _,_,_=>none
 | .box t x=>match bT x with | some x=>(match Hy P t with | some el=>some (.boxB t el x) | none=>some (.box t (OT P 8 t) x)) | none=>none
 | .store t x v=>match gN P t,bT x,bT v with | some n,some x,some v=>if n=0 then some (.st0 x v) else some (.store n x v) | _,_,_=>none
 | .makeInterface t x=>match P.underlying t,bT x with
   | some (.interface _),_=>none
   | some _,some x=>some (.mki t x)
   | _,_=>none
 | .typeAssert x _ t true=>match P.underlying t,P.info? t,bT x with
   | some (.interface _),_,_=>none
   | some _,some i,some x=>(match i.zero with
     | some z=>(match ME z with | some z=>some (.tas t z x) | none=>none)
     | none=>none)
   | _,_,_=>none
 | .makeSlice t l c=>match P.underlying t,bT l,bT c with
   | some (.slice el),some l,some c=>match P.info? el,uX P 4 el with
     | some i,some d=>match i.zero with
       | some z=>if i.size=1/\1<=i.bytes/\yx (d.w d.zero) z=true then some (.make el i.bytes d l c) else none
       | none=>none
     | _,_=>none
   | _,_,_=>none
 | .buildSlice t len parts=>match P.underlying t with
   | some (.slice el)=>match gN P el,CJ 0 parts.toList,jR P el with
     | some n,some ps,some z=>if n≠0/\ps.length=len/\len*n<=16777216/\z.length=n then some (.lit el n (if n=1 then uX P 4 el else none) (unnamed P el) ps) else none
     | _,_,_=>none
   | _=>none
 | .call { callee := .builtin .append, args := ⟨[x, y]⟩, argTypes := ⟨[t, ts]⟩ } => match P.underlying t, bT x, bT y with
   | some (.slice el),some x,some y=>match P.info? el,jR P el,uX P 4 el with
     | some i,some z,some d=>match P.underlying ts with
       | some (.slice _)=>if i.size=1/\z.length=1/\1<=i.bytes then some (.append el i.bytes d x y) else none
       | some .string=>if i.size=1/\z.length=1/\1<=i.bytes then some (.append el i.bytes d x y) else none
       | some (.int _)=>match i.zero with
         | some zv=>if i.size=1/\1<=i.bytes/\yx (d.w d.zero) zv=true then some (.zeros el i.bytes d x y) else none
         | none=>none
       | _=>none
     | _,_,_=>none
   | _,_,_=>none
 | .call { callee:=.builtin .copy,args:=⟨[x,y]⟩,argTypes:=⟨[t,_]⟩ }=>match P.underlying t,bT x,bT y with
   | some (.slice el),some x,some y=>match gN P el,uX P 4 el with | some n,some d=>if n=1 then some (.copy d x y) else none | _,_=>none
   | _,_,_=>none
 | .call { callee:=.builtin .clear,args:=⟨[x]⟩,argTypes:=⟨[t]⟩ }=>match P.underlying t,bT x with
   | some (.slice el),some x=>match P.info? el,uX P 4 el with
     | some i,some d=>match i.zero with
       | some z=>if yx (d.w d.zero) z=true then some (.clear d x) else none
       | none=>none
     | _,_=>none
   | _,_=>none
 | .convert s d x=>match P.underlying s,P.underlying d,bT x with
   | some .string,some (.slice el),some x=>match P.underlying el with | some (.int .u8)=>some (.s2b el x) | _=>none
   | some (.slice el),some .string,some x=>match P.underlying el with | some (.int .u8)=>some (.b2s x) | _=>none
   | _,_,_=>none
 | .call { callee:=.builtin .len,args:=⟨[x]⟩,argTypes:=⟨[t]⟩ }=>match ur P t,bT x with
   | some (kd,vd),some x=>some (.mlen kd vd x)
   | _,_=>none
 | _=>none
section
variable {P:Program} {base n:Nat} {η:Eta} {Z:aA} {S:ai} {w:World} {F:Fr} {a:Act}
theorem VJ (s:ByteArray):(af s).map (D.int .u8).w=yu s.data.toList:=by
 simp [af,yu,D.w]
theorem bH.run {s s':Sem Next} {v:A} {S':ai} (h:s.run P w=s'.run P w) (g:bH P base η Z S w s' v S'):bH P base η Z S w s v S':=by
 unfold bH at g ⊢
 rw [h];exact g
theorem wg (R:St base η Z S w) {d:D} {x:W} {c:Cd} {ys:List d.ty} (e:BL S d x=some (c,ys)) (hc:c) {u:Value} (h:aF η Z x u):Src P η Z w u 1 (ys.map d.w):=by
 unfold BL at e
 split at e
 . cases e
   rw [h.nil_eq]
   exact tD _
 . rename_i d' l
   split at e
   . rename_i hd;subst hd;cases e;exact src_rd R h
   . cases e
 . rename_i m off len sz
   obtain ⟨hs,e1⟩:=au.aH e
   have hs1:=nj hs
   subst hs1
   split at e1
   . rename_i o ho
     split at e1
     . rename_i l hl
       cases e1
       have bR:o.cells=l.map d.w:=Fd.jE hl
       have:=CM (P:=P) R h ho (Ob.ji bR) (by rw [bR];simp;exact hc)
       rw [bR,Nat.mul_one,<-List.map_drop,<-List.map_take] at this
       exact this
     . cases e1
   . cases e1
 . rename_i s
   have:u=.string s:=by simpa only [aF,aM] using h
   subst this
   unfold strD at e
   split at e
   . cases e
     have h1:=ZN (P:=P) (η:=η) (Z:=Z) (w:=w) (s:=s)
     rw [<-VJ] at h1
     exact h1
   . cases e
 . cases e
theorem src_by {u:Value}:∀ {l:List Int},Src P η Z w u 1 (l.map W.kM)->Src P η Z w u 1 (l.map (D.int .u8).w):=by
 intro l ⟨m,vs,h1,h2,h3,h4⟩
 refine ⟨m,vs,by simpa using h1,h2,?_,h4⟩
 clear h1 h2 h4
 induction l generalizing vs with
 | nil=>exact h3
 | cons x l ih =>
   cases vs with
   | nil=>exact h3.elim
   | cons v vs=>exact ⟨by have h:v=.int .u8 x:=h3.1;simp [D.w,aF,aM,h],ih vs h3.2⟩
theorem OY (R:St base η Z S w) {x:W} {c:Cd} {ys:List Int} (e:IZ S x=some (c,ys)) (hc:c) {u:Value} (h:aF η Z x u):Src P η Z w u 1 (ys.map (D.int .u8).w)/\(∃ ad len cap,u=.slice ad len cap)/\∀ len cap,u=.slice none len cap->ys=[]:=by
 unfold IZ at e
 split at e
 . rename_i m off len sz
   obtain ⟨hs,e1⟩:=au.aH e
   have hs1:=nj hs
   subst hs1
   split at e1
   . rename_i o ho
     split at e1
     . rename_i l hl
       cases e1
       have bR:o.cells=l.map W.kM:=by unfold Ob.cells;rw [ED hl];simp [Fd.cells]
       have hm:¬ o.eV:=Ob.zY fun x hx=>by rw [bR,List.mem_map] at hx;obtain ⟨y,_,rfl⟩:=hx;exact id
       refine ⟨src_by ?_,?_⟩
       . have:=CM (P:=P) R h ho hm (by rw [bR];simp;exact hc)
         rw [bR,Nat.mul_one,<-List.map_drop,<-List.map_take] at this
         exact this
       . rcases h with ⟨h0,rfl⟩ | ⟨p,cap,ad,hp,rfl,_⟩
         . subst h0;exact ⟨⟨none,0,0,rfl⟩,fun _ _ _=>by simp⟩
         . exact ⟨⟨some ad,len,cap,rfl⟩,fun _ _ hh=>by cases hh⟩
     . cases e1
   . cases e1
 . cases e
theorem OZ {x:W} {c:Cd} {ys:List Int} (hx:∀ s,x≠.str s) (e:BL S (.int .u8) x=some (c,ys)) {u:Value} (h:aF η Z x u):(∃ ad len cap,u=.slice ad len cap)/\∀ len cap,u=.slice none len cap->ys=[]:=by
 unfold BL at e
 split at e
 . cases e
   rw [h.nil_eq]
   exact ⟨⟨none,0,0,rfl⟩,fun _ _ _=>rfl⟩
 . rename_i d' l
   split at e
   . rename_i hd;subst hd;cases e
     obtain ⟨ad,len,cap,rfl,hl,hcap,hcs⟩:=h.rd
     refine ⟨⟨ad,len,cap,rfl⟩,fun len' cap' hh=>?_⟩
     cases hh
     rcases hcs with hcs | ⟨b,off,cells,hh,_⟩
     . exact hcs
     . cases hh
   . cases e
 . rename_i m off len sz
   obtain ⟨hs,e1⟩:=au.aH e
   split at e1
   . rename_i o ho
     split at e1
     . rename_i l hl
       cases e1
       rcases h with ⟨h0,rfl⟩ | ⟨p,cap,ad,hp,rfl,_⟩
       . subst h0;exact ⟨⟨none,0,0,rfl⟩,fun _ _ _=>by simp⟩
       . exact ⟨⟨some ad,len,cap,rfl⟩,fun _ _ hh=>by cases hh⟩
     . cases e1
   . cases e1
 . rename_i s;exact absurd rfl (hx s)
 . cases e
theorem FI:∀ {vs:List V} {us:List Value} {S S':ai} {Z:aA} {d:D} {c:Cd} {ys:List d.ty},St base η Z S w->EL S d vs=some (c,ys,S')->c->aT (dr η Z) vs us->
 ∃ Z',bK base η Z S w η Z' S' w/\aT (dr η Z') (ys.map fun y=>V.c (d.w y)) us
 | [],[],S,S',Z,d,c,ys,R,e,_,_=>by
   simp only [EL] at e
   cases e
   exact ⟨Z,bK.refl R,trivial⟩
 | .c x::vs,u::us,S,S',Z,d,c,ys,R,e,hc,⟨h1,h2⟩=>by
   simp only [EL] at e
   split at e
   . rename_i c1 y S1 hf
     split at e
     . rename_i c2 ys' S2 hfs
       cases e
       obtain ⟨Z1,m1,r1,_⟩:=lC R hf hc.1 h1.2
       obtain ⟨Z2,m2,r2⟩:=FI m1.st hfs hc.2 (h2.mono fun _ _=>dr.mono (Eta.le.refl _) m1.step.cJ)
       exact ⟨Z2,m1.trans m2,⟨D.jh _ _,(D.f6 d).2 (cH.mono m2.step.cJ d r1)⟩,r2⟩
     . cases e
   . cases e
 | .agg _::_,_::_,_,_,_,_,_,_,_,e,_,_=>by simp only [EL] at e;cases e
theorem flat_w {d:D} (ys:List d.ty):(ys.map fun y=>V.c (d.w y)).flatMap V.cells=ys.map d.w:=by
 induction ys with
 | nil=>rfl
 | cons y ys ih=>simp [V.cells,ih]
theorem FJ {sz:Nat}:∀ {vs:List V},Hx sz vs=true->∀ v∈vs,v.cells.length=sz
 | [],_=>by simp
 | v::vs,h=>by
   simp only [Hx,Bool.and_eq_true] at h
   intro x hx
   rcases List.mem_cons.1 hx with rfl | hx
   . exact Nat.eq_of_beq_eq_true h.1
   . exact FJ h.2 x hx
theorem gX (ty:TypeId) {d:D} (k:Nat) (l:List d.ty):(Ob.mk ty [.a k d l]).cells=l.map d.w:=by
 unfold Ob.cells;simp [Fd.cells]
theorem FK {d:D} {l ys:List d.ty} {off:Nat} (h:off+ys.length<=l.length):(spl l off ys).map d.w=jC (l.map d.w) off (ys.map d.w):=by
 apply List.ext_getElem?
 intro i
 rw [BH (by simpa using h)]
 unfold spl
 simp only [List.getElem?_map,List.length_map]
 have h1:(l.take off).length=off:=by simp;omega
 by_cases hi:i<off
 . rw [if_neg (by omega),List.append_assoc,List.getElem?_append_left (by omega),List.getElem?_take,if_pos hi]
 . by_cases hi2:i<off+ys.length
   . rw [if_pos (by omega),List.append_assoc,List.getElem?_append_right (by omega),h1,List.getElem?_append_left (by omega)]
   . rw [if_neg (by omega),List.getElem?_append_right (by simp;omega),List.getElem?_drop]
     congr 2
     simp;omega
theorem Ja (R:St base η Z S w) {t:TypeId} (hk:gN P t=some 1) {m i:Nat} {y:W} {c:Cd} {S':ai} (e:opn S m i y=some (c,S')) (hc:c) {vx vy:Value} (hx:aF η Z (.ptr m i) vx) (hy:dr η Z (.c y) vy) :
 bH P base η Z S w (do Instr.storeAt t vx vy;pure Next.skip) (.aL []) S':=by
 unfold opn at e
 split at e
 . rename_i o ho
   obtain ⟨ho,hmo⟩:=kz ho
   split at e
   . rename_i k d l hfs
     obtain ⟨hb1,e⟩:=au.aH e
     cases e
     simp only [Bool.and_eq_true,Bool.not_eq_true'] at hb1
     have hc:i<l.length:=hc
     have bR:o.cells=l.map d.w:=by unfold Ob.cells;rw [hfs];simp [Fd.cells]
     have hnb:¬ o.bytes:=(Ab bR hb1.2).resolve_right fun h0=>by
      rw [bR,List.map_eq_nil_iff] at h0
      rw [h0] at hc
      exact absurd hc (Nat.not_lt_zero _)
     refine (rY R hk ho hmo hnb (Ob.sB bR) (v:=.c y) hx hy rfl (by rw [bR];simp;omega)).alike (ai.oz rfl ?_)
     rw [Ob.eM]
     show List.flatMap Fd.cells [.a 1 d (l.take i),.c y,.a 1 d (l.drop (i+1))]=(o.cells).set i y
     rw [bR]
     simp only [List.flatMap_cons,List.flatMap_nil,Fd.cells,List.append_nil,List.map_take,List.map_drop]
     rw [List.set_eq_take_append_cons_drop,if_pos (by simpa using hc)]
     rfl
   . cases e
 . cases e
theorem O0 (R : St base η Z S w) {t : TypeId} (hk : gN P t = some 1) {m i : Nat} {y : W} {c : Cd} {S' : ai} (e : again S m i y = some (c, S')) (hc : c) {vx vy : Value} (hx : aF η Z (.ptr m i) vx) (hy : dr η Z (.c y) vy) :
 bH P base η Z S w (do Instr.storeAt t vx vy;pure Next.skip) (.aL []) S':=by
 unfold again at e
 split at e
 . rename_i o ho
   obtain ⟨ho,hmo⟩:=kz ho
   split at e
   . rename_i d l k off len sz l' hh
     split at e
     . cases e
       have hc:i=l.length:=hc
       subst hc
       obtain ⟨k1,k2,hfs⟩:=Fd.MO hh
       have bR:o.cells=l.map d.w++W.sl k off len sz::l'.map d.w:=by unfold Ob.cells;rw [hfs];simp [Fd.cells]
       have hnb:¬ o.bytes:=fun hB=>by
        obtain ⟨n,e⟩:=hB (W.sl k off len sz) (by rw [bR];simp)
        cases e
       refine (rY R hk ho hmo hnb (Ob.nN (x:=W.sl k off len sz) (by rw [bR];simp) (by intro n h;cases h)) (v:=.c y) hx hy rfl (by rw [bR];simp)).alike (ai.oz rfl ?_)
       rw [Ob.eM]
       show List.flatMap Fd.cells [.a 1 d l,.c y,.a 1 d l']=(o.cells).set l.length y
       rw [bR,List.set_append_right _ _ (by simp)]
       simp [Fd.cells]
     . cases e
   . cases e
 . cases e
theorem RN (R : St base η Z S w) {t : TypeId} (hk : gN P t = some 1) {m i : Nat} {y : W} {c : Cd} {S' : ai} (e : VI S m i y = some (c, S')) (hc : c) {vx vy : Value} (hx : aF η Z (.ptr m i) vx) (hy : dr η Z (.c y) vy) :
 bH P base η Z S w (do Instr.storeAt t vx vy;pure Next.skip) (.aL []) S':=by
 unfold VI at e
 split at e
 · split at e
   . rename_i r hr;cases e;exact Ja R hk hr hc hx hy
   · split at e
     . rename_i r hr;cases e;exact O0 R hk hr hc hx hy
     . split at e
       . rename_i c1 S1 hs
         split at e
         . rename_i c2 S2 hr
           cases e
           obtain ⟨Z1,mv,_⟩:=EK R hs hc.1
           exact bH.before mv (Ja mv.st hk hr hc.2 (hx.mono (Eta.le.refl _) mv.step.cJ) (hy.mono (Eta.le.refl _) mv.step.cJ))
         . cases e
       . cases e
 . cases e
def jL (Z:aA) (kd vd:D):List (kd.ty×vd.ty)->List MapEntry->Prop
 | [],[]=>True
 | (k,v)::l,e::es=>cH Z kd k e.key/\cH Z vd v e.val/\jL Z kd vd l es
 | _,_=>False
theorem uw {kd vd:D}:∀ {l:List (kd.ty×vd.ty)} {es:List MapEntry},eH η Z (nF kd vd l) es↔jL Z kd vd l es
 | [],[]=>by simp [nF,eH,jL]
 | [],_::_=>by simp [nF,eH,jL]
 | (_,_)::_,[]=>by simp [nF,eH,jL]
 | (k,v)::l,e::es=>by
   simp only [nF,eH,jL,D.f6,uw (l:=l)]
   exact ⟨fun ⟨⟨_,a⟩,⟨_,b⟩,c⟩=>⟨a,b,c⟩,fun ⟨a,b,c⟩=>⟨⟨D.jh _ _,a⟩,⟨D.jh _ _,b⟩,c⟩⟩
theorem bytes_beq {a b:ByteArray}:(a == b)=true↔a=b:=by
 rw [<-au.Vq]
 constructor
 . intro h
   have:=Array.toList_inj.1 (au.x9 h)
   exact ByteArray.ext this
 . intro h;rw [h];exact au.ul _
theorem ux {td:TypeDesc} {kd:D} (h:o5 td kd=true) {k k':kd.ty} {u u':Value} (hu:cH Z kd k u) (hu':cH Z kd k' u'):Instr.sameNow td u u'=some (kd.qt k k')/\(kd.qt k k'=true->∀ n,Instr.sameBits n u' u=true):=by
 unfold o5 at h
 split at h
 . rename_i a b
   have hab:=of_decide_eq_true h
   subst hab
   simp only [cH] at hu hu'
   subst hu;subst hu'
   refine ⟨by simp [Instr.sameNow,D.qt];rfl,fun hk n=>?_⟩
   have:=of_decide_eq_true hk
   cases n <;> simp [Instr.sameBits] <;> exact this.symm
 . simp only [cH] at hu hu'
   subst hu;subst hu'
   refine ⟨by simp only [Instr.sameNow,D.qt];exact congrArg some (Bool.eq_iff_iff.2 (bytes_beq.trans decide_eq_true_iff.symm)),fun hk n=>?_⟩
   have h1:(show ByteArray from k)=k':=of_decide_eq_true hk
   have h2:((show ByteArray from k') == k)=true:=bytes_beq.2 h1.symm
   cases n <;> simp only [Instr.sameBits] <;> exact h2
 . cases h
theorem AZ {td:TypeDesc} {kd vd:D} (h:o5 td kd=true) {k:kd.ty} {u:Value} (hu:cH Z kd k u):∀ {l:List (kd.ty×vd.ty)} {es:List MapEntry} (i:Nat),jL Z kd vd l es->
 (v8 kd vd k l=none->Instr.findNow td u es i=some none)/\(∀ v,v8 kd vd k l=some v->∃ j v',Instr.findNow td u es i=some (some (j,v'))/\cH Z vd v v')
 | [],[],i,_=>⟨fun _=>rfl,fun v e=>by cases e⟩
 | (k',v')::l,e::es,i,⟨h1,h2,h3⟩=>by
   obtain ⟨s1,_⟩:=ux h hu h1
   simp only [v8,Instr.findNow,s1]
   cases hb:kd.qt k k' with
   | true=>exact ⟨fun e=>(by cases e),fun v hv=>(by cases hv;exact ⟨i,_,rfl,h2⟩)⟩
   | false=>exact AZ h hu (i+1) h3
 | [],_::_,_,h=>h.elim
 | _::_,[],_,h=>h.elim
theorem A2 {td:TypeDesc} {kd vd:D} (h:o5 td kd=true) {k:kd.ty} {u:Value} (hu:cH Z kd k u) {v:vd.ty} {y:Value} (hv:cH Z vd v y):∀ {l:List (kd.ty×vd.ty)} {es:List MapEntry} (i:Nat),jL Z kd vd l es->
 (Instr.findNow td u es i=some none/\∀ c,jL Z kd vd (kR kd vd k v l) (es++[{ key:=u,val:=y,born:=c }]))∨
 (∃ j v' e,i<=j/\Instr.findNow td u es i=some (some (j,v'))/\es[j-i]? = some e/\(∀ n,Instr.sameBits n e.key u=true)/\jL Z kd vd (kR kd vd k v l) (es.set (j-i) { e with key:=u,val:=y }))
 | [],[],i,_=>.inl ⟨rfl,fun c=>⟨hu,hv,trivial⟩⟩
 | (k',v')::l,e::es,i,⟨h1,h2,h3⟩=>by
   obtain ⟨s1,s2⟩:=ux h hu h1
   simp only [kR,Instr.findNow,s1]
   cases hb:kd.qt k k' with
   | true =>
     refine .inr ⟨i,e.val,e,Nat.le_refl _,rfl,by simp,s2 hb,?_⟩
     simp only [Nat.sub_self,List.set_cons_zero,cond_true]
     exact ⟨hu,hv,h3⟩
   | false =>
     rcases A2 h hu hv (i+1) h3 with ⟨a,b⟩ | ⟨j,v2,e2,a,b,c,d,f⟩
     . exact .inl ⟨a,fun c=>⟨h1,h2,b c⟩⟩
     . have hj:j-i=(j-(i+1))+1:=by omega
       refine .inr ⟨j,v2,e2,by omega,b,?_,d,?_⟩
       . rw [hj,List.getElem?_cons_succ];exact c
       . rw [hj,List.set_cons_succ];exact ⟨h1,h2,f⟩
 | [],_::_,_,h=>h.elim
 | _::_,[],_,h=>h.elim
theorem yC {t:TypeId} {kd vd:D} (h:ur P t=some (kd,vd)):∃ kt et td z,P.underlying t=some (.map kt et)/\P.underlying kt=some td/\o5 td kd=true/\au.plainKey td=true/\(∀ w,(zeroValue et).run P w=.ok z w)/\yx (vd.w vd.zero) z=true:=by
 unfold ur at h
 split at h
 . rename_i kt et hu
   split at h
   . rename_i td YG i vd' h1 h2 h3 h4
     split at h
     . rename_i z hz
       obtain ⟨⟨h5,h6⟩,h⟩:=dP h
       cases h
       refine ⟨kt,et,td,z,hu,h1,h5,?_,fun w=>?_,h6⟩
       . unfold o5 at h5
         split at h5
         . rfl
         . rfl
         . cases h5
       . simp [zeroValue,typeInfo,h3,hz]
     . cases h
   . cases h
 . cases h
theorem St.p8 (R:St base η Z S w) {n:Nat} {o:Ob} {kd vd:D} {l:List (kd.ty×vd.ty)} (ho:S.get n=some o) (hl:o.p8 kd vd=some l) {u:Value} (hu:aF η Z (.mp n) u) :
 ∃ p es clock,η n=some p/\u=.map (some p.block)/\base<=p.block/\Z p.block=none/\w.heap[p.block]? = some (.map es clock)/\jL Z kd vd l es.toList:=by
 obtain ⟨p,hp,rfl⟩:=hu
 obtain ⟨h1,h2,L⟩:=R.ak n o p ho hp
 have hfs:=Ob.ZP hl
 have bR:o.cells=.mh::nF kd vd l:=by unfold Ob.cells;rw [hfs];simp [Fd.cells]
 obtain ⟨es,k,h3,h4⟩:=L.maps (by unfold Ob.isMap;rw [bR];rfl)
 rw [bR] at h4
 exact ⟨p,es,k,hp,rfl,h1,h2,h3,uw.1 h4⟩
theorem O1 (R:St base η Z S w) {t:TypeId} (kd vd:D):bH P base η Z S w (do pure (Next.value (<-Instr.makeMap t none))) (.p (.c (.mp S.next))) (S.add ⟨t,[.m kd vd []]⟩):=by
 obtain ⟨g,hn⟩:=R.Rg (w':={ w with heap:=w.heap.push (.map #[] 0) }) (Ob.mk t [.m kd vd []]) (by unfold Ob.cells;simp [Fd.cells,nF]) rfl rfl rfl rfl
 exact bH.of (u:=.map (some w.heap.size)) (by simp [Instr.makeMap,newObj,Sem.run]) g.up ⟨by simp,_,hn,rfl⟩
theorem RO (R:St base η Z S w) {t:TypeId} {kd vd:D} (hd:ur P t=some (kd,vd)) {n:Nat} {o:Ob} {l:List (kd.ty×vd.ty)} (ho:S.get n=some o) (hl:o.p8 kd vd=some l) {u uk:Value} (hu:aF η Z (.mp n) u) {k:kd.ty} (hk:cH Z kd k uk) (ok:Bool) :
 bH P base η Z S w (do pure (Next.value (<-Instr.lookup t u uk ok))) (bif ok then .aL [.c (vd.w (p7 kd vd l k)),.c (.bool (BM kd vd l k))] else .p (.c (vd.w (p7 kd vd l k)))) S:=by
 obtain ⟨kt,et,td,z,ht,hkt,hkey,hpk,hz,hz'⟩:=yC hd
 obtain ⟨p,es,clock,hp,rfl,_,_,u6,hes⟩:=R.p8 ho hl hu
 have hg:(getObj p.block).run P w=.ok (.map es clock) w:=by simp [getObj,Sem.run,u6]
 obtain ⟨f1,f2⟩:=AZ hkey hk 0 hes
 obtain ⟨zr,zl,z1,_⟩:=uW (η:=η) (Z:=Z) hz'
 have key:∃ y b,(Instr.lookup t (.map (some p.block)) uk ok).run P w=.ok (if ok then .tuple #[y,.bool b] else y) w/\aF η Z (vd.w (p7 kd vd l k)) y/\BM kd vd l k=b:=by
  unfold p7 BM
  cases hm:v8 kd vd k l with
  | none =>
    exact ⟨z,false,by simp [Instr.lookup,run_underlying ht,au.kO w hkt hpk,hg,au.lS w hkt (f1 hm),hz],zr,rfl⟩
  | some v =>
    obtain ⟨j,v',g1,g2⟩:=f2 v hm
    exact ⟨v',true,by simp [Instr.lookup,run_underlying ht,au.kO w hkt hpk,hg,au.lS w hkt g1],(D.f6 vd).2 g2,rfl⟩
 obtain ⟨y,b,hrun,hy,hb⟩:=key
 refine bH.of hrun (bK.refl R) ?_
 cases ok
 . exact ⟨D.jh _ _,hy⟩
 . exact ⟨[y,.bool b],rfl,⟨D.jh _ _,hy⟩,⟨by simp,by simp [aF,aM,hb]⟩,trivial⟩
theorem Jb {Z:aA} {kd vd:D}:∀ {l:List (kd.ty×vd.ty)} {es:List MapEntry},jL Z kd vd l es->es.length=l.length
 | [],[],_=>rfl
 | _::l,_::es,⟨_,_,h⟩=>by rw [List.length_cons,List.length_cons,Jb h]
 | [],_::_,h=>h.elim
 | _::_,[],h=>h.elim
theorem RP (R:St base η Z S w) {t ty:TypeId} {kd vd:D} (hd:ur P t=some (kd,vd)) {n:Nat} {o:Ob} {l:List (kd.ty×vd.ty)} (ho:S.get n=some o) (hl:o.p8 kd vd=some l) {u:Value} (hu:aF η Z (.mp n) u) :
 bH P base η Z S w (do pure (Next.value (<-Builtin.len_ #[t] ty #[u]))) (.p (.c (.int .i64 (l.length:Nat)))) S:=by
 obtain ⟨kt,et,td,z,ht,hkt,hkey,hpk,hz,hz'⟩:=yC hd
 obtain ⟨p,es,clock,hp,rfl,_,_,u6,hes⟩:=R.p8 ho hl hu
 have hg:(getObj p.block).run P w=.ok (.map es clock) w:=by simp [getObj,Sem.run,u6]
 have hsz:es.size=l.length:=by rw [<-Array.length_toList];exact Jb hes
 refine bH.of (u:=.int .i64 (l.length:Nat)) ?_ (bK.refl R) ⟨by simp,by simp [aF,aM]⟩
 simp [Builtin.len_,run_underlying ht,hg,hsz,goInt]
theorem FL (R:St base η Z S w) {t:TypeId} {kd vd:D} (hd:ur P t=some (kd,vd)) {n:Nat} {o:Ob} {l:List (kd.ty×vd.ty)} (ho:S.get n=some o) (hl:o.p8 kd vd=some l) {u uk uv:Value} (hu:aF η Z (.mp n) u) {k:kd.ty} (hk:cH Z kd k uk) {v:vd.ty} (hv:cH Z vd v uv) :
 bH P base η Z S w (do Instr.mapUpdate t u uk uv;pure Next.skip) (.aL []) (S.put n ⟨o.ty,[.m kd vd (kR kd vd k v l)]⟩):=by
 obtain ⟨kt,et,td,z,ht,hkt,hkey,hpk,hz,hz'⟩:=yC hd
 obtain ⟨p,es,clock,hp,rfl,hb,hZ,u6,hes⟩:=R.p8 ho hl hu
 have hg:(getObj p.block).run P w=.ok (.map es clock) w:=by simp [getObj,Sem.run,u6]
 have hset:∀ o,(setObj p.block o).run P w=.ok () (w.putObj p.block o):=fun o=>by simp [setObj,Sem.run,u6,World.putObj]
 have fin:∀ (RQ:Array MapEntry) (c:Nat),jL Z kd vd (kR kd vd k v l) RQ.toList->(Instr.mapUpdate t (.map (some p.block)) uk uv).run P w=.ok () (w.putObj p.block (.map RQ c))->
  bH P base η Z S w (do Instr.mapUpdate t (.map (some p.block)) uk uv;pure Next.skip) (.aL []) (S.put n ⟨o.ty,[.m kd vd (kR kd vd k v l)]⟩):=by
  intro RQ c h2 hrun
  have bR:(Ob.mk o.ty [.m kd vd (kR kd vd k v l)]).cells=.mh::nF kd vd (kR kd vd k v l):=by unfold Ob.cells;simp [Fd.cells]
  have hm:(Ob.mk o.ty [.m kd vd (kR kd vd k v l)]).isMap:=by unfold Ob.isMap;rw [bR];rfl
  have g:=R.write (w':=w.putObj p.block (.map RQ c)) ho hp (o':=Ob.mk o.ty [.m kd vd (kR kd vd k v l)]) rfl rfl rfl (by simp [World.putObj]) (fun b hb=>by simp only [World.putObj];rw [Array.getElem?_setIfInBounds_ne (Ne.symm hb)])
   (dR.map hm ⟨RQ,c,au.uj (cY u6),by rw [bR];exact uw.2 h2⟩)
  exact bH.MH hrun g.up
 rcases A2 hkey hk hv 0 hes with ⟨a,b⟩ | ⟨j,v2,e2,_,h1,h4,h5,f⟩
 . refine fin (es.push { key:=uk,val:=uv,born:=clock }) (clock+1) (by simpa using b clock) ?_
   simp [Instr.mapUpdate,run_underlying ht,hg,au.kO w hkt hpk,au.lS w hkt a,hset]
 · rw [Nat.sub_zero] at h4 f
   have hj:j<es.size:=by have:=(List.getElem?_eq_some_iff.1 h4).1;simpa using this
   have hmod:es.modify j (fun e=>{ e with key:=uk,val:=uv })=(es.toList.set j { e2 with key:=uk,val:=uv }).toArray:=by
    apply Array.ext'
    rw [Array.toList_modify]
    apply List.ext_getElem?
    intro i
    rw [List.getElem?_modify,List.getElem?_set]
    by_cases hij:j=i
    . subst hij
      simp only [if_pos,Array.length_toList,hj]
      rw [h4];rfl
    . simp [hij]
   have h4':es[j]? = some e2:=by rw [<-Array.getElem?_toList];exact h4
   refine fin (es.toList.set j { e2 with key:=uk,val:=uv }).toArray clock (by simpa using f) ?_
   simp [Instr.mapUpdate,run_underlying ht,hg,au.kO w hkt hpk,au.lS w hkt h1,Instr.keyThatStays,h4',h5,hset,hmod]
set_option maxHeartbeats 1000000 in
theorem liesAt_bytes' {e:TypeId} (hc:P.cellsOf e=1) (count off n:Nat) (hn:off+n<=count):liesAt P P.depth e count off e n=true:=by
 have hd:P.depth=(2*(P.types.size+Made.depth)+1)+1:=rfl
 rw [hd]
 simp only [liesAt,Bool.or_eq_true]
 left
 rw [hd]
 simp [rowAt,hc,hn,sameLayout,Nat.mod_one]
theorem Mb (R : St base η Z S w) {t el : TypeId} (h : Hy P t = some el) :
 bH P base η Z S w (do pure (Next.value (<-Instr.alloc t true (.tuple #[])))) (.p (.c (.ptr S.next 0))) ((S.add ⟨t,[.c (.ba S.next),.c (.sl (S.next+1) 0 0 1)]⟩).add ⟨el,[.a 0 (.int .u8) []]⟩):=by
 obtain ⟨i, z, hi, hz, hzs⟩ : ∃ i z, P.info? t = some i ∧ i.zero = some z ∧ MN [.bY, .nil] z.cells.toList = true := by
  unfold Hy at h
  split at h
  . split at h
    . rename_i hi
      split at h
      . rename_i hz
        obtain ⟨⟨_,h2⟩,_⟩:=dP h
        exact ⟨_,_,hi,hz,h2⟩
      . cases h
    . cases h
  . cases h
 obtain ⟨h1,h3⟩:=EI (η:=η) (Z:=Z) hzs
 have hz':(zeroValue t).run P w=.ok z w:=by simp [zeroValue,typeInfo,hi,hz]
 obtain ⟨w',hr,g,hn⟩:=oA (P:=P) R t h1 h3
 generalize η.add S.next ⟨w.heap.size,0,z.cells.size,[]⟩=dO at g hn
 have FM:(S.add (Ob.of t [.bY,.nil])).get S.next=some (Ob.of t [.bY,.nil]):=by rw [ai.eY R.eZ,if_pos rfl]
 have m2:=g.st.p6 (o:=⟨el,[.a 0 (.int .u8) []]⟩) (by rw [gX];rfl)
 have Jc:((S.add (Ob.of t [.bY,.nil])).add ⟨el,[.a 0 (.int .u8) []]⟩).get S.next=some (Ob.of t [.bY,.nil]):=by
  rw [ai.eY g.st.eZ,if_neg (by show S.next≠S.next+1;omega)];exact FM
 obtain ⟨_,_,L⟩:=m2.st.ak _ _ _ Jc hn
 have hm1:¬ (Ob.of t [.bY,.nil]).eV:=by simp [Ob.eV,Ob.isMap,Ob.iY]
 have hm2:¬ (Ob.mk t [.c (.ba S.next),.c (.sl (S.next+1) 0 0 1)]).eV:=by simp [Ob.eV,Ob.isMap,Ob.iY,Ob.cells,Fd.cells]
 obtain ⟨c,fz,c1,c2,c3,c4⟩:=L.there hm1
 have g3:=m2.st.write (w':=w') Jc hn (o':=⟨t,[.c (.ba S.next),.c (.sl (S.next+1) 0 0 1)]⟩) rfl rfl rfl rfl (fun _ _=>rfl)
  (dR.plain hm2 ⟨c,fz,c1,c2,fun i x hx=>by
   have e:(Ob.mk t [.c (.ba S.next),.c (.sl (S.next+1) 0 0 1)]).cells=[.ba S.next,.sl (S.next+1) 0 0 1]:=rfl
   rw [e] at hx
   match i,hx with
   | 0,hx =>
     cases hx
     obtain ⟨v,hv,hr,ho⟩:=c3 0 .bY (by simp)
     have:v=.pointer none:=by simpa only [aF,aM] using hr
     exact ⟨v,hv,⟨_,hn,rfl,.inl this⟩,ho⟩
   | 1,hx =>
     cases hx
     obtain ⟨v,hv,hr,ho⟩:=c3 1 .nil (by simp)
     have:v=.slice none 0 0:=by simpa only [aF,aM] using hr
     exact ⟨v,hv,.inl ⟨rfl,this⟩,ho⟩
   | i+2,hx=>simp at hx,c4.plain (fun hB=>by obtain ⟨q,e⟩:=hB .bY (by simp);cases e) (Ob.nN (x:=.bY) (by simp) (by intro n h;cases h))⟩ (by
     have:=L.size hm1
     rw [Ob.eM] at this
     exact this))
 have gd:bH P base η Z S w (do pure (Next.value (<-Instr.alloc t true (.tuple #[])))) (.p (.c (.ptr S.next 0))) _:=bH.of (u:=.pointer (some ⟨w.heap.size,0,none⟩)) (by simp [Instr.alloc,hz',newVar,hr]) ((g.up.trans m2).trans g3.up) ⟨by simp,_,hn,by simp⟩
 refine gd.alike ⟨⟨rfl,rfl⟩,fun n=>?_⟩
 have hA:∀ k,((S.add ⟨t,[.c (.ba S.next),.c (.sl (S.next+1) 0 0 1)]⟩).add ⟨el,[.a 0 (.int .u8) []]⟩).get k=if k=S.next+1 then some ⟨el,[.a 0 (.int .u8) []]⟩ else if k=S.next then some ⟨t,[.c (.ba S.next),.c (.sl (S.next+1) 0 0 1)]⟩ else S.get k:=by
  intro k
  have h0:(S.add ⟨t,[.c (.ba S.next),.c (.sl (S.next+1) 0 0 1)]⟩).get (S.next+1)=none:=by
   rw [ai.eY R.eZ,if_neg (by omega)]
   cases hk:S.get (S.next+1) with
   | none=>rfl
   | some o=>have:=R.known _ _ hk;omega
  rw [ai.eY (S:=S.add _) h0]
  show (if k=S.next+1 then _ else _)=_
  rw [ai.eY R.eZ]
 have hB:∀ k,(((S.add (Ob.of t [.bY,.nil])).add ⟨el,[.a 0 (.int .u8) []]⟩).put S.next ⟨t,[.c (.ba S.next),.c (.sl (S.next+1) 0 0 1)]⟩).get k=if k=S.next then some ⟨t,[.c (.ba S.next),.c (.sl (S.next+1) 0 0 1)]⟩ else if k=S.next+1 then some ⟨el,[.a 0 (.int .u8) []]⟩ else S.get k:=by
  intro k
  rw [ai.iW,Jc,ai.eY g.st.eZ]
  by_cases h1:k=S.next
  . rw [if_pos h1,if_pos h1];rfl
  . rw [if_neg h1,if_neg h1]
    by_cases h2:k=S.next+1
    . rw [if_pos h2];exact if_pos h2
    . rw [if_neg h2,ai.eY R.eZ,if_neg h1];exact if_neg h2
 rw [hA,hB]
 by_cases h1:n=S.next
 . subst h1
   rw [if_pos rfl,if_neg (by omega),if_pos rfl]
   exact ⟨rfl,rfl⟩
 . rw [if_neg h1]
   by_cases h2:n=S.next+1
   . subst h2
     rw [if_pos rfl,if_pos rfl]
     exact ⟨rfl,rfl⟩
   . rw [if_neg h2,if_neg h2,if_neg h1]
     cases S.get n with
     | none=>trivial
     | some o=>exact ⟨rfl,rfl⟩
theorem RR (R:St base η Z S w) {t el:TypeId} {v:V} {u:Value} (h:dr η Z v u) (hv:v.cells=[.bY,.nil]) :
 bH P base η Z S w (do pure (Next.value (<-Instr.box t u))) (.p (.c (.ptr S.next 0))) ((S.add ⟨t,[.c (.ba S.next),.c (.sl (S.next+1) 0 0 1)]⟩).add ⟨el,[.a 0 (.int .u8) []]⟩):=by
 obtain ⟨h1,_,h3⟩:=h.cells
 rw [hv] at h1
 obtain ⟨w',hr,g,hn⟩:=oA (P:=P) R t h1 h3
 generalize η.add S.next ⟨w.heap.size,0,u.cells.size,[]⟩=dO at g hn
 have FM:(S.add (Ob.of t [.bY,.nil])).get S.next=some (Ob.of t [.bY,.nil]):=by rw [ai.eY R.eZ,if_pos rfl]
 have m2:=g.st.p6 (o:=⟨el,[.a 0 (.int .u8) []]⟩) (by rw [gX];rfl)
 have Jc:((S.add (Ob.of t [.bY,.nil])).add ⟨el,[.a 0 (.int .u8) []]⟩).get S.next=some (Ob.of t [.bY,.nil]):=by
  rw [ai.eY g.st.eZ,if_neg (by show S.next≠S.next+1;omega)];exact FM
 obtain ⟨_,_,L⟩:=m2.st.ak _ _ _ Jc hn
 have hm1:¬ (Ob.of t [.bY,.nil]).eV:=by simp [Ob.eV,Ob.isMap,Ob.iY]
 have hm2:¬ (Ob.mk t [.c (.ba S.next),.c (.sl (S.next+1) 0 0 1)]).eV:=by simp [Ob.eV,Ob.isMap,Ob.iY,Ob.cells,Fd.cells]
 obtain ⟨c,fz,c1,c2,c3,c4⟩:=L.there hm1
 have g3:=m2.st.write (w':=w') Jc hn (o':=⟨t,[.c (.ba S.next),.c (.sl (S.next+1) 0 0 1)]⟩) rfl rfl rfl rfl (fun _ _=>rfl)
  (dR.plain hm2 ⟨c,fz,c1,c2,fun i x hx=>by
   have e:(Ob.mk t [.c (.ba S.next),.c (.sl (S.next+1) 0 0 1)]).cells=[.ba S.next,.sl (S.next+1) 0 0 1]:=rfl
   rw [e] at hx
   match i,hx with
   | 0,hx =>
     cases hx
     obtain ⟨v,hv,hr,ho⟩:=c3 0 .bY (by simp)
     have:v=.pointer none:=by simpa only [aF,aM] using hr
     exact ⟨v,hv,⟨_,hn,rfl,.inl this⟩,ho⟩
   | 1,hx =>
     cases hx
     obtain ⟨v,hv,hr,ho⟩:=c3 1 .nil (by simp)
     have:v=.slice none 0 0:=by simpa only [aF,aM] using hr
     exact ⟨v,hv,.inl ⟨rfl,this⟩,ho⟩
   | i+2,hx=>simp at hx,c4.plain (fun hB=>by obtain ⟨q,e⟩:=hB .bY (by simp);cases e) (Ob.nN (x:=.bY) (by simp) (by intro n h;cases h))⟩ (by
     have:=L.size hm1
     rw [Ob.eM] at this
     exact this))
 have gd:bH P base η Z S w (do pure (Next.value (<-Instr.box t u))) (.p (.c (.ptr S.next 0))) _:=bH.of (u:=.pointer (some ⟨w.heap.size,0,none⟩)) (by simp [Instr.box,newVar,hr]) ((g.up.trans m2).trans g3.up) ⟨by simp,_,hn,by simp⟩
 refine gd.alike ⟨⟨rfl,rfl⟩,fun n=>?_⟩
 have hA:∀ k,((S.add ⟨t,[.c (.ba S.next),.c (.sl (S.next+1) 0 0 1)]⟩).add ⟨el,[.a 0 (.int .u8) []]⟩).get k=if k=S.next+1 then some ⟨el,[.a 0 (.int .u8) []]⟩ else if k=S.next then some ⟨t,[.c (.ba S.next),.c (.sl (S.next+1) 0 0 1)]⟩ else S.get k:=by
  intro k
  have h0:(S.add ⟨t,[.c (.ba S.next),.c (.sl (S.next+1) 0 0 1)]⟩).get (S.next+1)=none:=by
   rw [ai.eY R.eZ,if_neg (by omega)]
   cases hk:S.get (S.next+1) with
   | none=>rfl
   | some o=>have:=R.known _ _ hk;omega
  rw [ai.eY (S:=S.add _) h0]
  show (if k=S.next+1 then _ else _)=_
  rw [ai.eY R.eZ]
 have hB:∀ k,(((S.add (Ob.of t [.bY,.nil])).add ⟨el,[.a 0 (.int .u8) []]⟩).put S.next ⟨t,[.c (.ba S.next),.c (.sl (S.next+1) 0 0 1)]⟩).get k=if k=S.next then some ⟨t,[.c (.ba S.next),.c (.sl (S.next+1) 0 0 1)]⟩ else if k=S.next+1 then some ⟨el,[.a 0 (.int .u8) []]⟩ else S.get k:=by
  intro k
  rw [ai.iW,Jc,ai.eY g.st.eZ]
  by_cases h1:k=S.next
  . rw [if_pos h1,if_pos h1];rfl
  . rw [if_neg h1,if_neg h1]
    by_cases h2:k=S.next+1
    . rw [if_pos h2];exact if_pos h2
    . rw [if_neg h2,ai.eY R.eZ,if_neg h1];exact if_neg h2
 rw [hA,hB]
 by_cases h1:n=S.next
 . subst h1
   rw [if_pos rfl,if_neg (by omega),if_pos rfl]
   exact ⟨rfl,rfl⟩
 . rw [if_neg h1]
   by_cases h2:n=S.next+1
   . subst h2
     rw [if_pos rfl,if_pos rfl]
     exact ⟨rfl,rfl⟩
   . rw [if_neg h2,if_neg h2,if_neg h1]
     cases S.get n with
     | none=>trivial
     | some o=>exact ⟨rfl,rfl⟩
theorem RS (R:St base η Z S w) {pt it ty el:TypeId} (hp:P.underlying pt=some (.pointer el)) (hc:P.cellsOf el=1) {m i:Nat} {o:Ob} {l:List Int} (ho:S.get m=some o) (hty:o.ty=el) (hl:Fd.list (.int .u8) o.fs=some l)
 {u:Value} (hu:aF η Z (.pe m 0 i) u) {kk:IntKind} {k:Nat} (h0:0<k) (hk:i+k<=l.length) (h63:k<=9223372036854775807) :
 bH P base η Z S w (do pure (Next.value (<-Builtin.unsafeString_ #[pt,it] ty #[u,.int kk k]))) (.p (.c (.str (bg ((l.drop i).take k))))) S:=by
 obtain ⟨pl,hpl,rfl⟩:=hu
 have bR:=Fd.jE hl
 have hmo:¬ o.eV:=Ob.ji (o:=o) bR
 obtain ⟨hb,hz,L⟩:=R.ak m o pl ho hpl
 obtain ⟨c,fz,c1,c2,c3,c4⟩:=L.there hmo
 have hroom:=L.size hmo
 have cB:o.cells.length=l.length:=by unfold Ob.cells;rw [bR];simp
 obtain ⟨vs,v1,v2,v3,v4⟩:=R.reads ho hpl hmo (off:=i) (k:=k) (by omega)
 have hvs:vs=(((l.drop i).take k).map fun n=>Value.int .u8 n):=by
  have e:(o.cells.drop i).take k=((l.drop i).take k).map (D.int .u8).w:=by
   unfold Ob.cells;rw [bR];simp [List.map_drop,List.map_take]
  rw [e] at v1
  exact BK v1
 have vY : ∀ (l : List Int) (a : Addr) (acc : ByteArray), (∀ j x, l[j]? = some x → w.cell? (a.add j) = some (.int .u8 x)) → (loadBytes a acc l.length).run P w = .ok (l.foldl (fun r n => r.push (UInt8.ofNat n.toNat)) acc) w := by
  intro l
  induction l with
  | nil=>intro a acc _;simp [loadBytes]
  | cons x l ih =>
    intro a acc h
    have h0:w.cell? a=some (.int .u8 x):=by
     have:=h 0 x rfl
     simpa [Addr.add] using this
    have ih:=ih (a.add 1) (acc.push (UInt8.ofNat x.toNat)) (fun j y hy=>by
     have:=h (j+1) y (by simpa using hy)
     have e:(a.add 1).add j=a.add (j+1):=by
      unfold Addr.add
      by_cases hj:j=0
      . subst hj;simp
      . simp [hj];omega
     rw [e];exact this)
    simp only [List.length_cons,loadBytes,Sem.run_bind,run_load,h0,Result.andThen]
    exact ih
 have hkl:((l.drop i).take k).length=k:=by simp;omega
 have hrd:=vY ((l.drop i).take k) ⟨pl.block,pl.off+i,none⟩ .empty (fun j x hx=>by
  rw [Addr.add_lit]
  refine v4 j _ ?_
  rw [hvs,List.getElem?_map,hx];rfl)
 rw [hkl,<-BJ] at hrd
 have hsh:w.shape? pl.block=some (el,c.size):=by rw [<-hty];simp [World.shape?,c1]
 have hlies:=liesAt_bytes' (P:=P) hc (c.size / P.cellsOf el) (pl.off+i) k (by rw [hc,Nat.div_one];omega)
 have hrun:(Builtin.unsafeString_ #[pt,it] ty #[.pointer (some ⟨pl.block,pl.off+i,none⟩),.int kk k]).run P w=.ok (.string (bg ((l.drop i).take k))) (w.freeze ⟨pl.block,pl.off+i,none⟩ k):=by
  have hdef:Builtin.unsafeString_ #[pt,it] ty #[.pointer (some ⟨pl.block,pl.off+i,none⟩),.int kk k] =
   (do
    let n <-asInt (.int kk k)
    if n<0 then runtimePanic (.error "unsafe.String: len out of range")
    if n > IntKind.i64.max then unsupported (.unsafePointer "String: a length above the largest int")
    if n=0 then pure (.string .empty)
    else if <-variablesAt ⟨pl.block,pl.off+i,none⟩ (<-elemOf pt) n.toNat then do
     let s <-loadBytes ⟨pl.block,pl.off+i,none⟩ .empty n.toNat
     freeze ⟨pl.block,pl.off+i,none⟩ n.toNat
     pure (.string s)
    else unsupported (.unsafePointer "String: not so many bytes at ptr")):=rfl
  rw [hdef]
  have hmax:IntKind.i64.max=9223372036854775807:=rfl
  have e1:¬ ((k:Int)<0):=by omega
  have e2:¬ ((9223372036854775807:Int)<(k:Int)):=by omega
  have e3:k≠0:=by omega
  simp [asInt,asIntOf,hmax,e2,e3,variablesAt,elemOf,run_underlying hp,hsh,hlies,hrd,freeze,Sem.run]
  intro h;omega
 have gb:∀ q,q≠pl.block->(w.freeze ⟨pl.block,pl.off+i,none⟩ k).heap[q]? = w.heap[q]?:=by
  intro q hq
  unfold World.freeze
  rw [if_neg (by omega)]
  simp [Array.getElem?_modify,Ne.symm hq]
 have hsz:(w.freeze ⟨pl.block,pl.off+i,none⟩ k).heap.size=w.heap.size:=by
  unfold World.freeze
  rw [if_neg (by omega)]
  simp
 have IW : ∃ AX, (w.freeze ⟨pl.block, pl.off + i, none⟩ k).heap[pl.block]? = some (.cells c o.ty AX) ∧ yg c.size o pl AX := by
  have hB:o.bytes:=by
   intro x hx
   unfold Ob.cells at hx
   rw [bR] at hx
   obtain ⟨y,_,rfl⟩:=List.mem_map.1 hx
   exact ⟨y,rfl⟩
  have hNW:¬ o.wb:=Ob.sB (d:=.int .u8) (l:=l) (by unfold Ob.cells;rw [bR])
  refine ⟨if fz.1 == fz.2 then (pl.off+i,pl.off+i+k) else (min fz.1 (pl.off+i),max fz.2 (pl.off+i+k)),?_,?_⟩
  . unfold World.freeze
    rw [if_neg (by omega)]
    simp only [Array.getElem?_modify,if_true,c1,Option.map_some]
  . refine .inr (.inl ⟨hB,?_⟩)
    rw [cB]
    split
    . show pl.off+i+k<=_;omega
    . rename_i hne
      show max fz.2 (pl.off+i+k)<=_
      rcases c4.tail with h | h | h
      . exact absurd (by simpa using h) hne
      . rw [cB] at h;omega
      . exact absurd h.1 hNW
 obtain ⟨AX,hb1,hb2⟩:=IW
 simp only [Nat.zero_add]
 have g:=R.write (w':=w.freeze ⟨pl.block,pl.off+i,none⟩ k) ho hpl (o':=o) (by unfold World.freeze;rw [if_neg (by omega)]) (by unfold World.freeze;rw [if_neg (by omega)]) (by unfold World.freeze;rw [if_neg (by omega)]) hsz gb
  (dR.CD hmo ⟨c,AX,hb1,c2,c3,hb2⟩ hroom)
 refine (show bH P base η Z S w (do pure (Next.value (<-Builtin.unsafeString_ #[pt,it] ty #[.pointer (some ⟨pl.block,pl.off+i,none⟩),.int kk k]))) (.p (.c (.str (bg ((l.drop i).take k))))) (S.put m o) from bH.of hrun g.up p5).alike ⟨⟨rfl,rfl⟩,fun q=>?_⟩
 rw [ai.iW]
 by_cases hq:q=m
 . subst hq;rw [if_pos rfl,ho];exact ⟨rfl,rfl⟩
 . rw [if_neg hq]
   cases S.get q with
   | none=>trivial
   | some x=>exact ⟨rfl,rfl⟩
theorem Hq (R:St base η Z S w) {t:TypeId} (hs:gN P t=some 1) {m i j k:Nat} {ah:List (List Int)} {o:Ob} (ho:S.get m=some o) (hto:o.iY k ah) {u:Value} (hx:aF η Z (.oT m i j) u) (hi:i<ah.length) (hj:j<k) {y:Int} :
 bH P base η Z S w (do Instr.storeAt t u (.int .i64 y);pure Next.skip) (.aL []) (S.put m ⟨o.ty,[.c (.th k (ah.set i ((ah.getD i []).set j y)))]⟩):=by
 obtain ⟨p,r,hp,hr,rfl⟩:=hx
 obtain ⟨_,_,L⟩:=R.ak m o p ho hp
 have T:=L.tabs k ah hto
 have RT:ah.getD i []=ah[i]:=by rw [List.getD_eq_getElem?_getD,List.getElem?_eq_getElem hi];rfl
 obtain ⟨hl,c,ty,fz,hc,hsz,hv,hfz⟩:=T.row i r ah[i] hr (List.getElem?_eq_getElem hi)
 have hst:=run_storeCells_cells (P:=P) r.1 (r.2+j) [Value.int .i64 y] 0 w
  (fun q hq=>by
   have Jd:q=0:=by simpa using hq
   subst Jd
   have:r.2+j+0<c.size:=by omega
   simp [World.cell?,hc]
   simpa using this)
  (fun q hq=>by
   have Jd:q=0:=by simpa using hq
   subst Jd
   have:=hfz (r.2+j+0) (by omega) (by omega)
   simp only [World.frozen?,hc]
   simpa using this) (by intro x hx;rw [List.mem_singleton] at hx;subst hx;rfl)
 simp only [Nat.add_zero] at hst
 obtain ⟨c',g1,g2,g3,g4⟩:=au.kg [Value.int .i64 y] (r.2+j) w c hc
 have rQ:=au.ij (base:=0) (bk:=r.1) (Nat.zero_le _) [Value.int .i64 y] (r.2+j) w
 have hnd:=T.nodup
 rw [List.nodup_cons] at hnd
 have hrb:r.1∈p.sats:=List.mem_map.2 ⟨r,List.mem_of_getElem? hr,rfl⟩
 have hpb:p.block≠r.1:=fun e=>hnd.1 (e▸hrb)
 have gb:∀ b,b≠r.1->(w.setCells r.1 (r.2+j) [Value.int .i64 y]).heap[b]? = w.heap[b]?:=fun b hb=>au.fW hb _ _ _
 have g := R.Ri (w' := w.setCells r.1 (r.2 + j) [Value.int .i64 y]) ho hp (o' := ⟨o.ty, [.c (.th k (ah.set i ((ah.getD i []).set j y)))]⟩) (cj.MB hr) rQ.os rQ.tape rQ.output (au.ko _ _ _) gb ⟨_, g1, rfl⟩
  (dR.tab (k:=k) (ah:=ah.set i ((ah.getD i []).set j y)) (Iw rfl) ⟨by
   obtain ⟨co,fo,q1,q2⟩:=T.outer
   exact ⟨co,fo,(gb _ hpb).trans q1,q2⟩,by rw [List.length_set];exact T.len,by rw [List.length_set];exact T.room,by
   intro i' r' l' hr' hl'
   by_cases hii:i'=i
   . subst hii
     rw [hr] at hr';cases hr'
     rw [List.getElem?_set,if_pos rfl,if_pos hi,RT] at hl'
     cases hl'
     refine ⟨by rw [List.length_set];exact hl,c',ty,fz,g1,by omega,?_,by rw [g2];exact hfz⟩
     intro j' x hx
     rw [List.getElem?_set] at hx
     by_cases hjj:j=j'
     . subst hjj
       rw [if_pos rfl,if_pos (by omega)] at hx
       cases hx
       have:=g4 0 (by simp) (by omega)
       simpa using this
     . rw [if_neg hjj] at hx
       rw [g3 _ (by simp;omega)]
       exact hv j' x hx
   . rw [List.getElem?_set,if_neg (Ne.symm hii)] at hl'
     obtain ⟨q0,cq,tq,fq,q1,q2⟩:=T.row i' r' l' hr' hl'
     refine ⟨q0,cq,tq,fq,(gb _ fun e=>?_).trans q1,q2⟩
     have h1:i'<p.sats.length:=by unfold cj.sats;rw [List.length_map];exact (List.getElem?_eq_some_iff.1 hr').1
     have h2:=(List.getElem?_inj h1 hnd.2 (j:=i)).1 (by
      show p.sats[i']? = p.sats[i]?
      unfold cj.sats
      rw [List.getElem?_map,List.getElem?_map,hr,hr']
      show some r'.1=some r.1
      rw [e])
     exact hii h2,T.nodup⟩)
 refine bH.MH ?_ g.up
 simp [Instr.storeAt,Instr.sureAddr,storeVar,dX hs,Value.cells,hst]
theorem FN {t:TypeId} {kd:D} (h:rE P t=some kd):∃ kt et td,P.underlying t=some (.map kt et)/\P.underlying kt=some td/\o5 td kd=true/\au.plainKey td=true:=by
 unfold rE at h
 split at h
 . rename_i kt et hu
   split at h
   . rename_i td YG h1 h2
     obtain ⟨h5,h⟩:=dP h
     cases h
     refine ⟨kt,et,td,hu,h1,h5,?_⟩
     unfold o5 at h5
     split at h5
     . rfl
     . rfl
     . cases h5
   . cases h
 . cases h
theorem yD {td:TypeDesc} {kd:D} (h:o5 td kd=true) {k:kd.ty} {u:Value} (hu:cH Z kd k u):∀ {fs:List Fd} {l:List (kd.ty×W)} {es:List MapEntry} (i:Nat),oZ kd fs=some l->eH η Z (fs.flatMap Fd.cells) es->
 (yB kd k l=none->Instr.findNow td u es i=some none)/\(∀ v,yB kd k l=some v->∃ j v',Instr.findNow td u es i=some (some (j,v'))/\v≠.ct/\aF η Z v v')
 | [],l,es,i,e,r=>by
   simp only [oZ] at e
   cases e
   cases es with
   | nil=>exact ⟨fun _=>rfl,fun v e=>by cases e⟩
   | cons _ _=>simp [eH] at r
 | .c kw::.c vw::fs,l,es,i,e,r=>by
   simp only [oZ] at e
   split at e
   . rename_i x l' hx hl
     obtain ⟨_,e⟩:=au.aH e
     cases e
     cases es with
     | nil=>simp [eH,Fd.cells] at r
     | cons e0 es =>
       have r:(kw≠.ct/\aF η Z kw e0.key)/\(vw≠.ct/\aF η Z vw e0.val)/\eH η Z (fs.flatMap Fd.cells) es:=r
       obtain ⟨r1,r2,r3⟩:=r
       obtain ⟨s1,_⟩:=ux h hu (kQ hx r1.2)
       simp only [yB,Instr.findNow,s1]
       cases hb:kd.qt k x with
       | true=>exact ⟨fun e=>(by cases e),fun v hv=>(by cases hv;exact ⟨i,_,rfl,r2.1,r2.2⟩)⟩
       | false=>exact yD h hu (i+1) hl r3
   . cases e
 | [.c _],_,_,_,e,_=>by simp [oZ] at e
 | .a _ _ _::_,_,_,_,e,_=>by simp [oZ] at e
 | .m _ _ _::_,_,_,_,e,_=>by simp [oZ] at e
 | .c _::.a _ _ _::_,_,_,_,e,_=>by simp [oZ] at e
 | .c _::.m _ _ _::_,_,_,_,e,_=>by simp [oZ] at e
theorem A3 {kd:D} {fs:List Fd} {l:List (kd.ty×W)} (e:uZ kd fs=some l):∃ r,fs=.c .mh::r/\oZ kd r=some l:=by
 unfold uZ at e
 split at e
 . exact ⟨_,rfl,e⟩
 . cases e
theorem St.YH (R:St base η Z S w) {n:Nat} {o:Ob} {r:List Fd} (ho:S.get n=some o) (hl:o.fs=.c .mh::r) {u:Value} (hu:aF η Z (.mp n) u) :
 ∃ p es clock,η n=some p/\u=.map (some p.block)/\base<=p.block/\Z p.block=none/\w.heap[p.block]? = some (.map es clock)/\eH η Z (r.flatMap Fd.cells) es.toList:=by
 obtain ⟨p,hp,rfl⟩:=hu
 obtain ⟨h1,h2,L⟩:=R.ak n o p ho hp
 have bR:o.cells=.mh::r.flatMap Fd.cells:=by unfold Ob.cells;rw [hl];rfl
 obtain ⟨es,k,h3,h4⟩:=L.maps (by unfold Ob.isMap;rw [bR];rfl)
 rw [bR] at h4
 exact ⟨p,es,k,hp,rfl,h1,h2,h3,h4⟩
theorem Mc (R:St base η Z S w) {t:TypeId}:bH P base η Z S w (do pure (Next.value (<-Instr.makeMap t none))) (.p (.c (.mp S.next))) (S.add ⟨t,[.c .mh]⟩):=by
 obtain ⟨g,hn⟩:=R.Rg (w':={ w with heap:=w.heap.push (.map #[] 0) }) (Ob.mk t [.c .mh]) (by unfold Ob.cells;simp [Fd.cells]) rfl rfl rfl rfl
 exact bH.of (u:=.map (some w.heap.size)) (by simp [Instr.makeMap,newObj,Sem.run]) g.up ⟨by simp,_,hn,rfl⟩
theorem O2 (R:St base η Z S w) {t:TypeId} {kd:D} (hd:rE P t=some kd) {n:Nat} {o:Ob} {l:List (kd.ty×W)} (ho:S.get n=some o) (hl:uZ kd o.fs=some l) {u uk:Value} (hu:aF η Z (.mp n) u) {k:kd.ty} (hk:cH Z kd k uk) {v:W} (hv:yB kd k l=some v) :
 bH P base η Z S w (do pure (Next.value (<-Instr.lookup t u uk false))) (.p (.c v)) S:=by
 obtain ⟨kt,et,td,ht,hkt,hkey,hpk⟩:=FN hd
 obtain ⟨r,hfs,hr⟩:=A3 hl
 obtain ⟨p,es,clock,hp,rfl,_,_,u6,hes⟩:=R.YH ho hfs hu
 have hg:(getObj p.block).run P w=.ok (.map es clock) w:=by simp [getObj,Sem.run,u6]
 obtain ⟨j,v',g1,g2,g3⟩:=(yD hkey hk 0 hr hes).2 v hv
 have hrun:(Instr.lookup t (.map (some p.block)) uk false).run P w=.ok v' w:=by simp [Instr.lookup,run_underlying ht,au.kO w hkt hpk,hg,au.lS w hkt g1]
 exact bH.of hrun (bK.refl R) ⟨g2,g3⟩
theorem A4 {k v:W} {e:MapEntry} (h1:k≠.ct/\aF η Z k e.key) (h2:v≠.ct/\aF η Z v e.val):∀ {l:List W} {es:List MapEntry},eH η Z l es->eH η Z (l++[k,v]) (es++[e])
 | [],[],_=>⟨h1,h2,trivial⟩
 | _::_::l,_::es,⟨a,b,c⟩=>⟨a,b,A4 h1 h2 c⟩
 | [],_::_,h=>by simp [eH] at h
 | [_],_,h=>by simp [eH] at h
 | _::_::_,[],h=>by simp [eH] at h
theorem CU (R:St base η Z S w) {t:TypeId} {kd:D} (hd:rE P t=some kd) {n:Nat} {o:Ob} {l:List (kd.ty×W)} (ho:S.get n=some o) (hl:uZ kd o.fs=some l) {u uk uv:Value} (hu:aF η Z (.mp n) u) {k:kd.ty} (hk:cH Z kd k uk) {v:W} (hv:v≠.ct/\aF η Z v uv) (hno:yB kd k l=none) :
 bH P base η Z S w (do Instr.mapUpdate t u uk uv;pure Next.skip) (.aL []) (S.put n ⟨o.ty,o.fs++[.c (kd.w k),.c v]⟩):=by
 obtain ⟨kt,et,td,ht,hkt,hkey,hpk⟩:=FN hd
 obtain ⟨r,hfs,hr⟩:=A3 hl
 obtain ⟨p,es,clock,hp,rfl,hb,hZ,u6,hes⟩:=R.YH ho hfs hu
 have hg:(getObj p.block).run P w=.ok (.map es clock) w:=by simp [getObj,Sem.run,u6]
 have hset:∀ o,(setObj p.block o).run P w=.ok () (w.putObj p.block o):=fun o=>by simp [setObj,Sem.run,u6,World.putObj]
 have a:=(yD hkey hk 0 hr hes).1 hno
 have bR:(Ob.mk o.ty (o.fs++[.c (kd.w k),.c v])).cells=.mh::(r.flatMap Fd.cells++[kd.w k,v]):=by unfold Ob.cells;rw [hfs];simp [Fd.cells]
 have hm:(Ob.mk o.ty (o.fs++[.c (kd.w k),.c v])).isMap:=by unfold Ob.isMap;rw [bR];rfl
 have g:=R.write (w':=w.putObj p.block (.map (es.push { key:=uk,val:=uv,born:=clock }) (clock+1))) ho hp (o':=Ob.mk o.ty (o.fs++[.c (kd.w k),.c v])) rfl rfl rfl (by simp [World.putObj]) (fun b hb=>by simp only [World.putObj];rw [Array.getElem?_setIfInBounds_ne (Ne.symm hb)])
  (dR.map hm ⟨es.push { key:=uk,val:=uv,born:=clock },clock+1,au.uj (cY u6),by
   rw [bR,List.tail_cons,Array.toList_push]
   exact A4 ⟨D.jh _ _,(D.f6 kd).2 hk⟩ hv hes⟩)
 refine bH.MH ?_ g.up
 simp [Instr.mapUpdate,run_underlying ht,hg,au.kO w hkt hpk,au.lS w hkt a,hset]
theorem VK (R:St base η Z S w) {t:TypeId} {d:TypeDesc} (hu:P.underlying t=some d) (hd:∀ ms,d≠.interface ms) {x:Value}:bH P base η Z S w (do pure (Next.value (<-Instr.makeInterface t x))) (.p (.c (.val (.iface t x)))) S:=by
 refine bH.of (u:=.iface t x) ?_ (bK.refl R) ⟨by simp,by simp only [aF,aM];exact ⟨trivial,rfl⟩⟩
 unfold Instr.makeInterface
 simp only [Sem.run_bind,run_underlying hu,Result.andThen_ok]
 cases d <;> first | exact absurd rfl (hd _) | rfl
theorem VL (R:St base η Z S w) {src dst el:TypeId} (hs:P.underlying src=some .string) (hd:P.underlying dst=some (.slice el)) (he:P.underlying el=some (.int .u8)) (s:ByteArray):bH P base η Z S w (do pure (Next.value (<-convert src dst (.string s)))) (.p (.c (.rd (.int .u8) (af s)))) S:=by
 have hge:=grownCap_ge w s.size 0 el
 generalize hcap:grownCap w s.size 0 el=cap at hge
 have O3:(Question.appendCap s.size 0 el).cut (w.tape w.drawn (Question.appendCap s.size 0 el))=cap:=hcap
 let c:Array Value:=s.data.map (fun b=>Value.int .u8 b.toNat)++Array.replicate (cap-s.size) (.int .u8 0)
 have hsz:s.data.size=s.size:=rfl
 have hcs:c.size=cap:=by
  simp only [c,Array.size_append,Array.size_map,Array.size_replicate]
  omega
 let w':World:={ w with heap:=w.heap.push (.cells c el (cap,cap+1)),drawn:=w.drawn+1 }
 have hrun:(convert src dst (.string s)).run P w=.ok (.slice (some ⟨w.heap.size,0,none⟩) s.size cap) w':=by
  simp only [convert,Sem.run_bind,run_underlying hs,run_underlying hd,run_underlying he,Result.andThen_ok]
  simp only [Conv.stringToBytes,Sem.run_bind,run_choose,Question.forced,Bool.false_eq_true,if_false,Result.andThen_ok,newRow,newObj,Sem.run,Sem.run_pure,O3,markStringish,shape,World.shape?,freeze]
  have hc0:Array.map (fun b=>Value.int IntKind.u8 (b.toNat:Int)) s.data++Array.replicate (cap-s.size) (Value.int IntKind.u8 0)=c:=rfl
  rw [hc0]
  have e1:((w.heap.push (Obj.cells c el))[w.heap.size]?)=some (Obj.cells c el):=by simp
  simp only [e1,Sem.run,Result.andThen_ok,World.freeze,Nat.one_ne_zero,if_false,hcs]
  have e2:(w.heap.push (Obj.cells c el)).modify w.heap.size (fun x=>match x with
   | .cells c elem (lo,hi)=>.cells c elem (if lo == hi then (cap,cap+1) else (min lo cap,max hi (cap+1)))
   | o=>o)=w.heap.push (Obj.cells c el (cap,cap+1)):=by
   apply Array.ext_getElem?
   intro i
   rw [Array.getElem?_modify,Array.getElem?_push,Array.getElem?_push]
   by_cases hi:w.heap.size=i
   . subst hi;simp
   . rw [if_neg hi,if_neg (by omega),if_neg (by omega)]
  exact congrArg (fun hp=>Result.ok (Value.slice (some { block:=w.heap.size,off:=0 }) s.size cap) { w with heap:=hp,drawn:=w.drawn+1 }) e2
 have hfree:Z w.heap.size=none:=by
  cases h:Z w.heap.size with
  | none=>rfl
  | some x=>have:=R.Vv h;omega
 have hzle:Z.le (Z.add w.heap.size c):=fun b x hb=>by
  unfold aA.add
  split
  . rename_i h;subst h;rw [hfree] at hb;cases hb
  . exact hb
 have hold:∀ b,b<w.heap.size->w'.heap[b]? = w.heap[b]?:=fun b hb=>by
  show (w.heap.push _)[b]? = _
  rw [Array.getElem?_push,if_neg (by omega)]
 have hown:∀ b,Own η S b->b<w.heap.size:=fun b ⟨n,o,p,h1,h2,hb⟩=>R.jB h1 h2 hb
 have hst : St base η (Z.add w.heap.size c) S w' := by
  refine R.uV hzle (fun b cs hb=>?_) (by show _<=(w.heap.push _).size;simp) (fun b ho=>hold b (hown b ho)) (fun b ho=>?_)
  . unfold aA.add at hb
    split at hb
    . rename_i h
      cases hb;subst h
      exact ⟨el,(cap,cap+1),by show (w.heap.push _)[w.heap.size]? = _;simp⟩
    . obtain ⟨ty,fz,e⟩:=R.zs b cs hb
      exact ⟨ty,fz,(hold b (cY e)).trans e⟩
  . unfold aA.add
    have:=hown b ho
    rw [if_neg (by omega)]
    obtain ⟨n,o,p,h1,h2,hb⟩:=ho
    exact (R.all h1 h2 hb).2.1
 refine bH.of hrun ⟨Eta.le.refl _,hst,⟨rfl,rfl,rfl,(by show _<=(w.heap.push _).size;simp),fun b hb _=>hold b hb,fun _ h=>.inl h,hzle,fun b cs hb=>?_,rfl⟩⟩ ⟨by simp,?_⟩
 . unfold aA.add at hb
   split at hb
   . rename_i h;exact .inr (.inr (by omega))
   . exact .inl hb
 . simp only [aF,aM,cH]
   have hl:(af s).length=s.size:=by simp [af]
   refine ⟨_,_,_,rfl,hl,hge,.inr ⟨w.heap.size,0,c,rfl,by unfold aA.add;rw [if_pos rfl],fun i x hx=>?_⟩⟩
   simp only [af,List.getElem?_map,Array.getElem?_toList] at hx
   cases hb:s.data[i]? with
   | none=>rw [hb] at hx;cases hx
   | some b =>
     rw [hb] at hx
     cases hx
     refine ⟨.int .u8 (b.toNat:Int),?_,rfl⟩
     have hi:=(Array.getElem?_eq_some_iff.1 hb).1
     have hi2:i<(s.data.map (fun b=>Value.int IntKind.u8 (b.toNat:Int))).size:=by simpa using hi
     show c[0+i]? = _
     rw [Nat.zero_add,Array.getElem?_append_left hi2]
     simp [hb]
theorem VN (R:St base η Z S w) {src dst el:TypeId} (hs:P.underlying src=some .string) (hd:P.underlying dst=some (.slice el)) (he:P.underlying el=some (.int .u8)) (s:ByteArray) (h0:0<s.size):bH P base η Z S w (do pure (Next.value (<-convert src dst (.string s)))) (.p (.c (.sl S.next 0 s.size 1))) (S.add ⟨el,[.b (af s)]⟩):=by
 have hge:=grownCap_ge w s.size 0 el
 generalize hcap:grownCap w s.size 0 el=cap at hge
 have O3:(Question.appendCap s.size 0 el).cut (w.tape w.drawn (Question.appendCap s.size 0 el))=cap:=hcap
 let c:Array Value:=s.data.map (fun b=>Value.int .u8 b.toNat)++Array.replicate (cap-s.size) (.int .u8 0)
 have hsz:s.data.size=s.size:=rfl
 have hcs:c.size=cap:=by
  simp only [c,Array.size_append,Array.size_map,Array.size_replicate]
  omega
 let w':World:={ w with heap:=w.heap.push (.cells c el (cap,cap+1)),drawn:=w.drawn+1 }
 have hrun:(convert src dst (.string s)).run P w=.ok (.slice (some ⟨w.heap.size,0,none⟩) s.size cap) w':=by
  simp only [convert,Sem.run_bind,run_underlying hs,run_underlying hd,run_underlying he,Result.andThen_ok]
  simp only [Conv.stringToBytes,Sem.run_bind,run_choose,Question.forced,Bool.false_eq_true,if_false,Result.andThen_ok,newRow,newObj,Sem.run,Sem.run_pure,O3,markStringish,shape,World.shape?,freeze]
  have hc0:Array.map (fun b=>Value.int IntKind.u8 (b.toNat:Int)) s.data++Array.replicate (cap-s.size) (Value.int IntKind.u8 0)=c:=rfl
  rw [hc0]
  have e1:((w.heap.push (Obj.cells c el))[w.heap.size]?)=some (Obj.cells c el):=by simp
  simp only [e1,Sem.run,Result.andThen_ok,World.freeze,Nat.one_ne_zero,if_false,hcs]
  have e2:(w.heap.push (Obj.cells c el)).modify w.heap.size (fun x=>match x with
   | .cells c elem (lo,hi)=>.cells c elem (if lo == hi then (cap,cap+1) else (min lo cap,max hi (cap+1)))
   | o=>o)=w.heap.push (Obj.cells c el (cap,cap+1)):=by
   apply Array.ext_getElem?
   intro i
   rw [Array.getElem?_modify,Array.getElem?_push,Array.getElem?_push]
   by_cases hi:w.heap.size=i
   . subst hi;simp
   . rw [if_neg hi,if_neg (by omega),if_neg (by omega)]
  exact congrArg (fun hp=>Result.ok (Value.slice (some { block:=w.heap.size,off:=0 }) s.size cap) { w with heap:=hp,drawn:=w.drawn+1 }) e2
 have bR:(Ob.mk el [.b (af s)]).cells=(af s).map W.kM:=by unfold Ob.cells;simp [Fd.cells]
 have hl:(af s).length=s.size:=by simp [af]
 obtain ⟨g,hn⟩:=R.newF (w':=w') ⟨el,[.b (af s)]⟩ c (fz:=(cap,cap+1)) rfl rfl rfl rfl (by rw [bR,List.length_map,hl,hcs];exact hge)
  (fun i x hx=>by
   rw [bR,List.getElem?_map] at hx
   simp only [af,List.getElem?_map,Array.getElem?_toList] at hx
   cases hb:s.data[i]? with
   | none=>rw [hb] at hx;cases hx
   | some b =>
     rw [hb] at hx
     cases hx
     refine ⟨.int .u8 (b.toNat:Int),?_,rfl,rfl⟩
     have hi:=(Array.getElem?_eq_some_iff.1 hb).1
     have hi2:i<(s.data.map (fun b=>Value.int IntKind.u8 (b.toNat:Int))).size:=by simpa using hi
     show c[i]? = _
     rw [Array.getElem?_append_left hi2]
     simp [hb])
  ⟨by rw [bR];intro h;have h9:=congrArg List.length h;rw [List.length_map,hl,List.length_nil] at h9;omega,fun x hx=>by rw [bR] at hx;obtain ⟨y,_,rfl⟩:=List.mem_map.1 hx;exact ⟨y,rfl⟩⟩ (by rw [hcs];exact Nat.le_refl _)
 exact bH.of hrun g.up ⟨by simp,.inr ⟨_,cap,_,hn,rfl,hge,by rw [hcs];simp,.inr rfl⟩⟩
theorem Md (R:St base η Z S w) {t:TypeId} (hs:gN P t=some 1) {m i:Nat} {l:List Int} {o:Ob} (ho:S.get m=some o) (hfs:o.fs=[.b l]) (hm:¬ o.eV) {u:Value} (hx:aF η Z (.ptr m i) u) (hi:i<l.length) {y:Int} :
 bH P base η Z S w (do Instr.storeAt t u (.int .u8 y);pure Next.skip) (.aL []) (S.put m ⟨o.ty,[.b (l.set i y)]⟩):=by
 obtain ⟨p,hp,rfl⟩:=hx
 obtain ⟨_,_,L⟩:=R.ak m o p ho hp
 have bR:o.cells=l.map W.kM:=by unfold Ob.cells;rw [hfs];simp [Fd.cells]
 have VO:(Ob.mk o.ty [.b (l.set i y)]).cells=(l.set i y).map W.kM:=by unfold Ob.cells;simp [Fd.cells]
 have hsize:=L.size hm
 rw [bR,List.length_map] at hsize
 obtain ⟨c,fz,hc,hsz,hv,pP⟩:=L.there hm
 have hnb:¬ o.bytes:=fun hB=>by
  obtain ⟨n,e⟩:=hB (.kM l[i]) (by rw [bR];exact List.mem_map.2 ⟨_,List.getElem_mem hi,rfl⟩)
  cases e
 have Rf:∀ l':List Int,l'.length=l.length->(Ob.mk o.ty [.b l']).wb:=fun l' hl'=>by
  have e:(Ob.mk o.ty [.b l']).cells=l'.map W.kM:=by unfold Ob.cells;simp [Fd.cells]
  refine ⟨by rw [e];intro h;have:=congrArg List.length h;simp at this;rw [this] at hl';simp at hl';omega,fun x hx=>?_⟩
  rw [e] at hx;obtain ⟨y,_,rfl⟩:=List.mem_map.1 hx;exact ⟨y,rfl⟩
 have hfz:=pP.strong hnb
 have hst:=run_storeCells_cells (P:=P) p.block (p.off+i) [Value.int .u8 y] 0 w
  (fun q hq=>by
   have Jd:q=0:=by simpa using hq
   subst Jd
   have:p.off+i+0<c.size:=by omega
   simp [World.cell?,hc]
   simpa using this)
  (fun q hq=>by
   have Jd:q=0:=by simpa using hq
   subst Jd
   have:=hfz (p.off+i+0) (by omega) (by omega)
   simp only [World.frozen?,hc]
   simpa using this) (by intro x hx;rw [List.mem_singleton] at hx;subst hx;rfl)
 simp only [Nat.add_zero] at hst
 obtain ⟨c',g1,g2,g3,g4⟩:=au.kg [Value.int .u8 y] (p.off+i) w c hc
 have rQ:=au.ij (base:=0) (bk:=p.block) (Nat.zero_le _) [Value.int .u8 y] (p.off+i) w
 have hm':¬ (Ob.mk o.ty [.b (l.set i y)]).eV:=Ob.zY fun x hx=>by rw [VO,List.mem_map] at hx;obtain ⟨y,_,rfl⟩:=hx;exact id
 have g:=R.write (w':=w.setCells p.block (p.off+i) [Value.int .u8 y]) ho hp (o':=⟨o.ty,[.b (l.set i y)]⟩) rQ.os rQ.tape rQ.output (au.ko _ _ _) (fun b hb=>au.fW hb _ _ _)
  (dR.CD hm' ⟨c',fz,g1,by rw [g2];exact hsz,fun j x hx=>by
   rw [VO,List.getElem?_map,List.getElem?_set] at hx
   by_cases hj:i=j
   . subst hj
     rw [if_pos rfl,if_pos hi] at hx
     cases hx
     have:=g4 0 (by simp) (by omega)
     exact ⟨.int .u8 y,by simpa using this,rfl,rfl⟩
   . rw [if_neg hj] at hx
     obtain ⟨v,a,b,d⟩:=hv j x (by rw [bR,List.getElem?_map];exact hx)
     exact ⟨v,(g3 (p.off+j) (by simp;omega)).trans a,b,d⟩,by
   rw [g2]
   rcases pP with h | h | h
   . exact .inl h
   . exact absurd h.1 hnb
   . exact .inr (.inr ⟨Rf _ (by simp),h.2⟩)⟩ (by rw [VO,List.length_map,List.length_set];exact hsize))
 refine bH.MH ?_ g.up
 simp [Instr.storeAt,Instr.sureAddr,storeVar,dX hs,Value.cells,hst]
theorem RU (R : St base η Z S w) (FR : bh n η Z F a.tmps) {o : Oper} {l : L} (ht : I9 P o = some l) {c : Cd} {v : A} {S' : ai} (e : jT F S l = some (c, v, S')) (hc : c) : bH P base η Z S w (execOp a.eval o) v S' := by
 unfold I9 at ht
 unfold execOp
 split at ht <;> rename_i hop <;> simp only [hop]
 -- maps
 . rename_i t
   split at ht
   . rename_i kd vd hd
     cases ht
     simp only [jT] at e
     cases e
     exact O1 R kd vd
   . split at ht
     . cases ht
       simp only [jT] at e
       cases e
       exact Mc R
     . cases ht
 . rename_i t m' k' v'
   split at ht
   . rename_i kd vd m k v' hd hm hk hv
     cases ht
     simp only [jT] at e
     split at e
     . rename_i p n q x r y hme hke kS
       split at e
       . rename_i kk c2 z S1 mA hfz
         split at e
         . rename_i o1 jS
           split at e
           . rename_i l hl
             cases e
             obtain ⟨hp,hq,hr,hc2⟩:=hc
             have hy:=(aK FR hv kS hr).2
             obtain ⟨Z1,mv,hrz,hS⟩:=lC R hfz hc2 hy
             have hkr:cH Z1 kd kk (a.eval k'):=cH.mono mv.step.cJ _ (kQ mA (aK FR hk hke hq).2)
             exact bH.before mv (FL mv.st hd jS hl ((aK FR hm hme hp).2.mono (Eta.le.refl _) mv.step.cJ) hkr hrz)
           . cases e
         . cases e
       . cases e
     . cases e
   . rename_i m k v _ hm hk hv
     split at ht
     . rename_i kd hd
       cases ht
       simp only [jT] at e
       split at e
       . rename_i p n q x r y hme hke kS
         split at e
         . rename_i kk o1 mA jS
           split at e
           . rename_i l hl
             split at e
             . rename_i hno
               obtain ⟨_,e⟩:=au.aH e
               cases e
               obtain ⟨hp,hq,hr⟩:=hc
               have hy:=aK FR hv kS hr
               exact CU R hd jS hl (aK FR hm hme hp).2 (kQ mA (aK FR hk hke hq).2) ⟨hy.1,hy.2⟩ hno
             . cases e
           . cases e
         . cases e
       . cases e
     . cases ht
   . cases ht
 . rename_i t m' k' v'
   split at ht
   . rename_i kd vd m k v' hd hm hk hv
     cases ht
     simp only [jT] at e
     split at e
     . rename_i p n q x r y hme hke kS
       split at e
       . rename_i kk c2 z S1 mA hfz
         split at e
         . rename_i o1 jS
           split at e
           . rename_i l hl
             cases e
             obtain ⟨hp,hq,hr,hc2⟩:=hc
             have hy:=(aK FR hv kS hr).2
             obtain ⟨Z1,mv,hrz,hS⟩:=lC R hfz hc2 hy
             have hkr:cH Z1 kd kk (a.eval k'):=cH.mono mv.step.cJ _ (kQ mA (aK FR hk hke hq).2)
             exact bH.before mv (FL mv.st hd jS hl ((aK FR hm hme hp).2.mono (Eta.le.refl _) mv.step.cJ) hkr hrz)
           . cases e
         . cases e
       . cases e
     . cases e
   . rename_i m k v _ hm hk hv
     split at ht
     . rename_i kd hd
       cases ht
       simp only [jT] at e
       split at e
       . rename_i p n q x r y hme hke kS
         split at e
         . rename_i kk o1 mA jS
           split at e
           . rename_i l hl
             split at e
             . rename_i hno
               obtain ⟨_,e⟩:=au.aH e
               cases e
               obtain ⟨hp,hq,hr⟩:=hc
               have hy:=aK FR hv kS hr
               exact CU R hd jS hl (aK FR hm hme hp).2 (kQ mA (aK FR hk hke hq).2) ⟨hy.1,hy.2⟩ hno
             . cases e
           . cases e
         . cases e
       . cases e
     . cases ht
   . cases ht
 . rename_i t m' k' ok
   split at ht
   . rename_i kd vd m k hd hm hk
     cases ht
     simp only [jT] at e
     split at e
     . rename_i p n q x hme hke
       split at e
       . rename_i kk o1 mA jS
         split at e
         . rename_i l hl
           have g:=fun (hc:Cd.and p q)=>RO (P:=P) R hd jS hl (aK FR hm hme hc.1).2 (kQ mA (aK FR hk hke hc.2).2) ok
           cases ok <;> simp only [cond_true,cond_false] at e g <;> cases e <;> exact g hc
         . cases e
       . cases e
     . cases e
   . rename_i m k _ hm hk
     cases ok with
     | true=>cases ht
     | false =>
     simp only [cond_false] at ht
     split at ht
     . rename_i kd hd
       cases ht
       simp only [jT] at e
       split at e
       . rename_i p n q x hme hke
         split at e
         . rename_i kk o1 mA jS
           split at e
           . rename_i l hl
             split at e
             . rename_i v hv
               cases e
               exact O2 R hd jS hl (aK FR hm hme hc.1).2 (kQ mA (aK FR hk hke hc.2).2) hv
             . cases e
           . cases e
         . cases e
       . cases e
     . cases ht
   . cases ht
 -- nil
 . split at ht
   . split at ht
     . cases ht
       simp only [jT] at e
       cases e
       exact ⟨.value (.slice none 0 0),_,w,η,Z,rfl,.inl rfl,R.p6 (by rw [gX];rfl),by simp,.inl ⟨rfl,rfl⟩⟩
     . cases ht
   . cases ht
 . split at ht
   . split at ht
     . cases ht
       simp only [jT] at e
       cases e
       exact ⟨.value (.slice none 0 0),_,w,η,Z,rfl,.inl rfl,R.p6 (by rw [gX];rfl),by simp,.inl ⟨rfl,rfl⟩⟩
     . cases ht
   . cases ht
 -- alloc
 . split at ht
   . rename_i el hel
     cases ht
     simp only [jT] at e
     cases e
     exact Mb R hel
   split at ht
   . rename_i fs i hfs hi
     split at ht
     . rename_i z hz
       obtain ⟨hzs,ht⟩:=dP ht
       cases ht
       simp only [jT] at e
       cases e
       obtain ⟨h1,h2⟩:=EI (η:=η) (Z:=Z) hzs
       exact (OJ R hi hz h1 h2).alike (ai.lf rfl (by simp [Ob.cells,Ob.of,uQ]))
     . cases ht
   . cases ht
 -- bytes as a text
 . rename_i x y pt it
   split at ht
   . rename_i el x' y' hpt hx hy
     obtain ⟨hc1,ht⟩:=dP ht
     cases ht
     simp only [jT] at e
     split at e
     . rename_i p m off i q kk k hxe rP
       split at e
       . rename_i o1 jS
         obtain ⟨hb,e1⟩:=au.aH e
         clear e
         simp only [Bool.and_eq_true] at hb
         have hoff:=Nat.eq_of_beq_eq_true hb.1
         have hty:=Nat.eq_of_beq_eq_true hb.2
         subst hoff
         split at e1
         . rename_i l hl
           cases e1
           obtain ⟨hp,hq,hb3⟩:=hc
           obtain ⟨h0,hk,h63⟩:=(show 0<k/\i+k<=l.length/\k<=9223372036854775807 from hb3)
           obtain ⟨k',rfl⟩:∃ k':Nat,k=k':=⟨k.toNat,by omega⟩
           have h1:=(aK FR hx hxe hp).2
           have h2:=cL FR hy rP hq
           have hk':i+k'<=List.length (α:=Int) l:=Int.ofNat_le.1 hk
           have g:=RS (P:=P) (base:=base) (pt:=pt) (it:=it) (ty:=o.type) (kk:=kk) (k:=k') R hpt hc1 jS hty hl h1 (by omega) hk' (by omega)
           rw [Int.toNat_natCast]
           exact bH.run (by simp [resolve,invoke,builtin,h2]) g
         . cases e1
       . cases e
     . cases e
   . cases ht
 -- box
 · split at ht
   . rename_i x hx
     split at ht
     . rename_i el hel
       cases ht
       simp only [jT] at e
       split at e
       . rename_i p v hv
         obtain ⟨hb,e1⟩:=au.aH e
         clear e
         cases e1
         exact RR R (eA FR hx hv hc) (ZO hb)
       . cases e
     cases ht
     simp only [jT] at e
     split at e
     . rename_i p v hv
       cases e
       exact (VE R (eA FR hx hv hc)).alike (ai.lf rfl (by simp [Ob.cells,Ob.of,uQ,I6]))
     . cases e
   . cases ht
 -- store
 · split at ht
   · rename_i k x' v' hk hx hv
     split at ht
     . rename_i hk0
       subst hk0
       cases ht
       simp only [jT] at e
       split at e
       . rename_i p m off q hxe kS
         cases e
         obtain ⟨_,pl,_,hpv⟩:=aK FR hx hxe hc.1
         obtain ⟨ws,hvv,_,FO⟩:=eA FR hv kS hc.2
         have hw0:ws=[]:=by cases ws with | nil=>rfl | cons _ _=>exact FO.elim
         subst hw0
         refine bH.MH ?_ (bK.refl R)
         rw [hpv,hvv]
         simp [Instr.storeAt,Instr.sureAddr,storeVar,dX hk,Value.cells,storeCells]
       . cases e
     . rename_i hk0
       cases ht
       simp only [jT] at e
       split at e
       . rename_i p m off q v hxe kS
         obtain ⟨hl,e⟩:=au.aH e
         have hl:=Nat.eq_of_beq_eq_true hl
         split at e
         . rename_i o ho
           obtain ⟨ho,hmo⟩:=kz ho
           obtain ⟨hnf,e⟩:=au.aH e
           split at e
           . rename_i c' fs' hput
             cases e
             obtain ⟨hp,hq,hc'⟩:=hc
             obtain ⟨h1,h2⟩:=AY hput hc'
             have hle:=h2 (by rintro h0;rw [h0] at hl;simp at hl;omega)
             have hnb:¬ o.bytes:=nbF_ok hnf fun h0=>by
              have hle:off+v.cells.length<=o.cells.length:=hle
              rw [h0] at hle
              have hle:off+v.cells.length<=0:=hle
              omega
             refine (rY R hk ho hmo hnb (nbF_wb hnf) (aK FR hx hxe hp).2 (eA FR hv kS hq) hl ?_).alike (ai.oz rfl ?_)
             . rw [<-hl];exact h2 (by rintro h0;rw [h0] at hl;simp at hl;omega)
             . rw [Ob.eM];exact h1
           . cases e
         . cases e
       . rename_i p m i j q y hxe kS
         obtain ⟨hl,e⟩:=au.aH e
         have hl:=nj hl
         subst hl
         split at e
         . rename_i k' ah hto
           obtain ⟨o1,jS,_,RV⟩:=ng hto
           split at e
           . rename_i o2 CP
             rw [jS] at CP
             cases CP
             cases e
             obtain ⟨hp,hq,hi,hj⟩:=hc
             have hy:=(eA FR hv kS hq).2
             simp only [aF,aM] at hy
             rw [hy]
             exact Hq R hk jS RV (aK FR hx hxe hp).2 hi hj
           . cases e
         . cases e
       . rename_i p m off i q y hxe kS
         obtain ⟨hl,e9⟩:=au.aH e
         clear e
         have e:=e9
         clear e9
         have hl:=nj hl
         subst hl
         split at e
         . rename_i c1 S1 MP
           cases e
           obtain ⟨hp,hq,hc1⟩:=hc
           obtain ⟨mA,hpu1⟩:=au.aH MP
           clear MP
           have mA:=Nat.eq_of_beq_eq_true mA
           subst mA
           have hy:=eA FR hv kS hq
           have hx1:aF η Z (.ptr m (0+i)) _:=(aK FR hx hxe hp).2
           rw [Nat.zero_add] at hx1
           exact RN R hk hpu1 hc1 hx1 hy
         split at e
         . rename_i o ho
           obtain ⟨ho,hmo⟩:=kz ho
           split at e
           . rename_i l hl
             split at e
             . rename_i z
               obtain ⟨rO,e⟩:=au.aH e
               have rO:=Nat.eq_of_beq_eq_true rO
               subst rO
               cases e
               obtain ⟨hp,hq,hi⟩:=hc
               have hx1:aF η Z (.ptr m (0+i)) _:=(aK FR hx hxe hp).2
               rw [Nat.zero_add] at hx1
               have hy:=(eA FR hv kS hq).2
               simp only [aF,aM] at hy
               rw [hy]
               exact Md R hk ho (ED hl) hmo hx1 hi
             . cases e
           split at e
           . rename_i c' k d l hg
             cases uY:d.oY with
             | true=>rw [uY] at e;cases e
             | false =>
             rw [uY] at e
             simp only [cond_false] at e
             split at e
             . rename_i c2 z S1 hfz
               split at e
               . rename_i o1 fs' jS hput
                 cases e
                 obtain ⟨hp,hq,hc',hc2,hi0⟩:=hc
                 have hi:i<l.length:=hi0
                 have hy:=eA FR hv kS hq
                 obtain ⟨Z1,mv,hr,hS⟩:=lC R hfz hc2 hy.2
                 have VG:S1.get m=some o:=by
                  rcases hS m with h | h
                  . rw [h] at jS;cases jS
                  . rw [h];exact ho
                 obtain ⟨pre,post,g1,g2,g3⟩:=Ma hg hc' hput
                 have bR:o.cells.length=pre.length+l.length+post.length:=by unfold Ob.cells;rw [g1];simp;omega
                 have hnb:¬ o.bytes:=fun hB=>by
                  obtain ⟨n,e⟩:=hB (d.w l[i]) (by unfold Ob.cells;rw [g1];exact List.mem_append_left _ (List.mem_append_right _ (List.mem_map.2 ⟨_,List.getElem_mem hi,rfl⟩)))
                  exact D.OU uY _ _ e
                 have hnw:¬ o.wb:=Ob.nN (x:=d.w l[i]) (by unfold Ob.cells;rw [g1];exact List.mem_append_left _ (List.mem_append_right _ (List.mem_map.2 ⟨_,List.getElem_mem hi,rfl⟩))) (fun n e=>D.w_by d _ e)
                 refine bH.before mv ((rY mv.st hk VG hmo hnb hnw (v:=.c (d.w z)) ((aK FR hx hxe hp).2.mono (Eta.le.refl _) mv.step.cJ:aF η Z1 (.ptr m (off+i)) _) ⟨D.jh _ _,(D.f6 d).2 hr⟩ rfl (by omega)).alike (ai.oz rfl ?_))
                 rw [Ob.eM]
                 show fs'.flatMap Fd.cells=(o.cells).set (off+i) (d.w z)
                 unfold Ob.cells
                 rw [g1,g2,List.map_set,List.append_assoc,List.append_assoc,List.set_append_right _ _ (by omega),List.set_append_left _ _ (by simp;omega)]
                 congr 3
                 omega
               . cases e
             . cases e
           . cases e
         . cases e
       . cases e
   . cases ht
 -- makeInterface
 . rename_i t x
   split at ht
   . cases ht
   . rename_i d x' hu hd hx
     cases ht
     simp only [jT] at e
     split at e
     . rename_i c' v' kS
       split at e
       . rename_i u hu'
         cases e
         have:=V.tG hu' (eA FR hx kS hc)
         rw [this]
         exact VK R hd fun ms h=>hu ms (by rw [<-h])
       . cases e
     . cases e
   . cases ht
 -- typeAssert
 . rename_i x xt t
   split at ht
   . cases ht
   . rename_i d i x' hu hd hi hx
     split at ht
     . rename_i z hz
       split at ht
       . rename_i zv hzv
         cases ht
         have AU:(zeroValue t).run P w=.ok z w:=by simp [zeroValue,typeInfo,hi,hz]
         obtain ⟨r1,r2,r3⟩:=au.Oy (P:=P) (w:=w) hd (fun ms h=>hu ms (by rw [<-h])) xt true
         have YI:dr η Z zv z:=zZ hzv
         have aL:∀ {y:V} {u:Value} {b:Bool},dr η Z y u->cr η Z (.aL [y,.c (.bool b)]) (.tuple #[u,.bool b]):=fun h=>⟨[_,_],rfl,h,⟨by simp,by simp only [aF,aM]⟩,trivial⟩
         simp only [jT] at e
         split at e
         . rename_i c' hxe
           cases e
           have A5:a.eval x=.nilIface:=by have:=(aK FR hx hxe hc).2;simpa only [aF,aM] using this
           rw [A5]
           exact bH.of (r3 z AU) (bK.refl R) (aL YI)
         . rename_i c' t' v' hxe
           have A5:∀ hc:c',a.eval x=.iface t' v':=fun hc=>by have:=(aK FR hx hxe hc).2;simp only [aF,aM] at this;exact this.1
           cases hb:Nat.beq t' t with
           | true =>
             have ht':=Nat.eq_of_beq_eq_true hb
             subst ht'
             simp only [hb,cond_true] at e
             split at e
             . rename_i y hy
               cases e
               rw [A5 hc]
               exact bH.of (r1 v') (bK.refl R) (aL (zZ hy))
             . cases e
           | false =>
             simp only [hb,cond_false] at e
             cases e
             rw [A5 hc]
             exact bH.of (r2 t' v' z (fun h=>by subst h;rw [Nat.beq_refl] at hb;cases hb) AU) (bK.refl R) (aL YI)
         . cases e
       . cases ht
     . cases ht
   . cases ht
 -- makeSlice
 · split at ht
   . rename_i el l' c' hu hl hc'
     split at ht
     . rename_i i d hi hd
       split at ht
       . rename_i z hz
         obtain ⟨⟨h1,h2,h3⟩,ht⟩:=dP ht
         cases ht
         simp only [jT] at e
         split at e
         . rename_i p kl l q kc c hle hce
           cases hd0:d.isSl <;> rw [hd0] at e <;> simp only [cond_true,cond_false] at e <;> cases e
           all_goals
            obtain ⟨hp,hq,h4,h5,h6⟩:=hc
            rw [cL FR hl hle hp,cL FR hc' hce hq]
            have h7:c<=140737488355328:=by
             have:(1:Int)*c<=(i.bytes:Int)*c:=Int.mul_le_mul_of_nonneg_right (by omega) (by omega)
             omega
            exact (Rt R hu hi h1 hz h3 h4 h5 h6 h7).alike (ai.lf rfl (by rw [Ob.eM,gX];simp))
         . cases e
       . cases ht
     . cases ht
   . cases ht
 -- buildSlice
 · rename_i t len parts
   split at ht
   · rename_i el hu
     split at ht
     · rename_i k ps z hk hps hz
       obtain ⟨⟨h1,h2,h3,h4⟩,ht⟩:=dP ht
       cases ht
       subst h2
       simp only [jT] at e
       split at e
       . rename_i p vs hvs
         obtain ⟨hal,e⟩:=au.aH e
         split at e
         . rename_i c' fs S1 hlit
           cases e
           obtain ⟨us,g1,g2,g3⟩:=FE FR hps hvs hc.1
           have plain:∀ S1 fs,S1=S->fs=(vs.flatMap V.cells).map Fd.c->bH P base η Z S w (do pure (Next.value (<-Instr.buildSlice t ps.length (parts.map fun (x:Nat×Operand)=>(x.1,a.eval x.2))))) (.p (.c (.sl S1.next 0 ps.length k))) (S1.add ⟨el,fs⟩):=by
            rintro S1 fs rfl rfl
            exact IU R hu hk hz h3 h4 g1 g2 g3 (FJ hal)
           unfold litV at hlit
           split at hlit
           . rename_i fs1 hone
             cases hlit
             exact (plain _ _ rfl rfl).alike (ai.lf rfl (by
              show fs.flatMap Fd.cells=((vs.flatMap V.cells).map Fd.c).flatMap Fd.cells
              rw [uQ];exact I8 hone))
           split at hlit
           . rename_i d hd
             split at hlit
             . rename_i c2 ys S2 hfz
               cases hlit
               have hk1:k=1:=by
                split at hd
                . assumption
                . cases hd
               subst hk1
               obtain ⟨Z1,mv,hr⟩:=FI R hfz hc.2 g1
               refine bH.before mv ((IU mv.st hu hk hz h3 h4 hr g2 g3 ?_).alike (ai.lf rfl ?_))
               . intro v hv
                 obtain ⟨y,_,rfl⟩:=List.mem_map.1 hv
                 rfl
               . rw [Ob.eM,flat_w,gX]
             . cases hlit;exact plain _ _ rfl rfl
           . cases hlit;exact plain _ _ rfl rfl
         . cases e
       . cases e
     . cases ht
   . cases ht
 -- append
 . rename_i x y t ts
   split at ht
   · rename_i el x' y' hu hx hy
     split at ht
     · rename_i i z d hi hz hd
       have main : ∀ td, P.underlying ts = some td → (∀ k, td ≠ .int k) → (i.size = 1 ∧ z.length = 1 ∧ 1 ≤ i.bytes) → l = .append el i.bytes d x' y' → bH P base η Z S w (do pure (Next.value (← Builtin.append_ #[t, ts] o.type #[a.eval x, a.eval y]))) v S' := by
        rintro td htd hnt ⟨hs,hzl,hby⟩ rfl
        have second : ∀ {Z : aA} {S : ai} (_ : St base η Z S w) (_ : bh n η Z F a.tmps) {yw : W} {c : Cd} {v : A} {S' : ai}, OX F S el i.bytes d x' yw = some (c, v, S') → c → aF η Z yw (a.eval y) → bH P base η Z S w (do pure (Next.value (← Builtin.append_ #[t, ts] o.type #[a.eval x, a.eval y]))) v S' := by
         intro Z S R FR yw c v S' e hc AV
         unfold OX at e
         split at e
         · rename_i q ys hsrc
           split at e
           . rename_i r hxw
             cases e
             obtain ⟨hq,hr,hb0⟩:=hc
             have hb:ys.length*i.bytes<=140737488355328:=hb0
             have s1:=wg (P:=P) R hsrc hq AV
             rw [(aK FR hx hxw hr).2.nil_eq]
             have cB:ys.length<=ys.length*i.bytes:=Nat.le_mul_of_pos_right _ hby
             have g:=tE (base:=base) (S:=S) (ty:=o.type) R hu htd hnt hi hz (by omega) (by omega) (by rw [hs];exact s1) (by rw [hs,Nat.div_one];simpa using hb) (by rw [hs,Nat.div_one];simp;omega)
             rw [hs,Nat.div_one,List.length_map] at g
             exact g.alike (ai.lf rfl (by rw [Ob.eM,gX]))
           . rename_i r m off len sz hxw
             obtain ⟨hs0,e1⟩:=au.aH e
             have hs1:=nj hs0
             subst hs1
             clear e
             split at e1
             . rename_i o' ho'
               obtain ⟨VP,e2⟩:=au.aH e1
               have hty:=Nat.eq_of_beq_eq_true VP
               clear e1
               split at e2
               . rename_i l' hl'
                 cases e2
                 obtain ⟨hq,hr,hcc⟩:=hc
                 have s1:=wg (P:=P) R hsrc hq AV
                 have bR:o'.cells=l'.map d.w:=Fd.jE hl'
                 have hcc2:(off+len<=l'.length/\(len+ys.length)*i.bytes<=140737488355328)/\(¬ o'.bytes∨o'.cells=[]∨(off=0/\len*1=o'.cells.length/\∀ x∈ys.map d.w,∃ n,x=W.int .u8 n)):=by
                  cases uY:d.oY with
                  | false =>
                    rw [uY] at hcc
                    have hcc:off+len<=l'.length/\(len+ys.length)*i.bytes<=140737488355328:=hcc
                    exact ⟨hcc,(Ab bR uY).imp id .inl⟩
                  | true =>
                    rw [uY] at hcc
                    have hcc:off=0/\len=l'.length/\(len+ys.length)*i.bytes<=140737488355328:=hcc
                    refine ⟨⟨by omega,hcc.2.2⟩,.inr (.inr ⟨hcc.1,by rw [bR,List.length_map];omega,fun x hx=>?_⟩)⟩
                    obtain ⟨y,_,rfl⟩:=List.mem_map.1 hx
                    exact D.w_u8 uY y
                 obtain ⟨⟨mA,hb⟩,hap⟩:=hcc2
                 have cB:len+ys.length<=(len+ys.length)*i.bytes:=Nat.le_mul_of_pos_right _ hby
                 have g:=CN (base:=base) (S:=S) (ty:=o.type) R hu htd hnt hi hz (by omega) (by omega) (by rw [hs];exact s1) (by rw [hs];exact (aK FR hx hxw hr).2) ho' (Ob.ji bR) (Ob.sB bR) hty (by rw [hs,bR];simp;exact mA) (by rw [hs];exact hap) (by rw [hs,Nat.div_one];simpa using hb) (by rw [hs,Nat.div_one];simp;omega)
                 rw [hs,Nat.div_one,List.length_map] at g
                 exact g.alike (ai.lf rfl (by rw [Ob.eM,gX,bR];simp [List.map_drop,List.map_take]))
               . cases e2
             . cases e1
           . cases e
         . cases e
        simp only [jT] at e
        split at e
        . rename_i p yw MQ
          split at e
          . rename_i m k l0 n0 hrow
            obtain ⟨q,oq,om,ro,lw,rfl,hq,hqm,AP,RL,hcm,hlw,hn0⟩:=OW hrow
            subst hn0
            split at e
            . rename_i r hxw
              cases e
              obtain ⟨hp,hr,hl0,hk0,hb0⟩:=hc
              have s0:=CM (P:=P) R (sz:=1) (aK FR hy MQ hp).2 hq hqm (by rw [AP];simp)
              rw [AP] at s0
              rw [(aK FR hx hxw hr).2.nil_eq]
              exact EH (ty:=o.type) R hu htd hnt hi hz (by omega) hs s0 RL hcm hlw hl0 hk0 hb0
            . rename_i r n' off len sz hxw
              split at e
              . rename_i k' ah hto
                obtain ⟨o1,jS,_,RV⟩:=ng hto
                obtain ⟨hb1,e1⟩:=au.aH e
                clear e
                simp only [Bool.and_eq_true,Bool.not_eq_true'] at hb1
                have hs1:=nj hb1.1
                subst hs1
                split at e1
                . rename_i o2 CP
                  rw [jS] at CP
                  cases CP
                  obtain ⟨VP,e⟩:=au.aH e1
                  clear e1
                  have hty:=Nat.eq_of_beq_eq_true VP
                  cases e
                  obtain ⟨hp,hr,mA,hln,hkk,hl0,hk0,hb0⟩:=hc
                  subst mA;subst hln;subst hkk
                  have s0:=CM (P:=P) R (sz:=1) (aK FR hy MQ hp).2 hq hqm (by rw [AP];simp)
                  rw [AP] at s0
                  have cB:ah.length+1<=(ah.length+1)*i.bytes:=Nat.le_mul_of_pos_right _ hby
                  exact CQ (ty:=o.type) R hu htd hnt hi hz (by omega) hs s0 RL hcm hlw hl0 hk0 (aK FR hx hxw hr).2 jS RV hty (fun e=>by subst e;exact Bool.noConfusion ((Nat.beq_refl _).symm.trans hb1.2)) hb0 (by omega)
                . cases e1
              · split at e
                . rename_i c2 v2 S2 happ
                  cases e
                  have AV:=(aK FR hy MQ hc.1).2
                  have hc2:=hc.2
                  unfold appR at happ
                  simp only at happ
                  split at happ
                  . rename_i c3 S3 hsh
                    split at happ
                    . rename_i c4 v4 S4 happ2
                      cases happ
                      obtain ⟨Z1,mv,_⟩:=EK R hsh hc2.1
                      exact bH.before mv (second mv.st (FR.mono (Eta.le.refl _) mv.step.cJ) happ2 hc2.2 (aF.mono (Eta.le.refl _) mv.step.cJ AV))
                    . cases happ
                  . cases happ
                . cases e
            . cases e
          split at e
          . rename_i c2 v2 S2 happ
            cases e
            exact second R FR happ hc.2 (aK FR hy MQ hc.1).2
          . cases e
        . cases e
       split at ht
       . rename_i htd
         obtain ⟨h1,ht⟩:=dP ht
         exact bH.run (by simp [resolve,invoke,builtin]) (main _ htd (by simp) h1 (Option.some.inj ht).symm)
       . rename_i htd
         obtain ⟨h1,ht⟩:=dP ht
         exact bH.run (by simp [resolve,invoke,builtin]) (main _ htd (by simp) h1 (Option.some.inj ht).symm)
       . rename_i kn htd
         split at ht
         . rename_i zv hzv
           obtain ⟨⟨h1,h2,h3⟩,ht⟩:=dP ht
           cases ht
           clear main
           simp only [jT] at e
           split at e
           . rename_i p q k n hxe rP
             cases e
             obtain ⟨hp,hq,h4,h5⟩:=hc
             have g:=(OM (ty:=o.type) (k:=k) R hu htd hi h1 hzv h3 h4 h2 h5).alike (xR:=S.add ⟨el,[.a 0 d (List.replicate n.toNat d.zero)]⟩) (ai.lf rfl (by rw [Ob.eM,gX];simp))
             rw [<-cL FR hy rP hq,<-(aK FR hx hxe hp).2.nil_eq] at g
             exact bH.run (by simp [resolve,invoke,builtin]) g
           . cases e
         . cases ht
       . cases ht
     . cases ht
   . cases ht
 -- copy
 . rename_i x y t ts
   split at ht
   · rename_i el x' y' hu hx hy
     split at ht
     . rename_i k d hk hd
       obtain ⟨hk1,ht⟩:=dP ht
       subst hk1
       cases ht
       simp only [jT] at e
       split at e
       . rename_i p yw MQ
         split at e
         . rename_i q ys hsrc
           split at e
           . rename_i r m off len sz hxw
             obtain ⟨BN,e1⟩:=au.aH e
             simp only [Bool.and_eq_true,Bool.not_eq_true'] at BN
             have hs1:=nj BN.1
             subst hs1
             clear e
             split at e1
             . rename_i o' ho'
               split at e1
               . rename_i l' hl'
                 cases e1
                 obtain ⟨hp,hq,hr,VQ⟩:=hc
                 have mA:off+len<=l'.length:=VQ
                 have s1:=wg (P:=P) R hsrc hq (aK FR hy MQ hp).2
                 have bR:o'.cells=l'.map d.w:=Fd.jE hl'
                 have g:=RF (base:=base) (S:=S) (ty:=o.type) (ts:=#[t,ts]) R rfl hu hk s1 (by omega) (aK FR hx hxw hr).2 ho' (Ob.ji bR) (Ab bR BN.2) (Ob.sB bR) (by rw [bR];simp;exact mA)
                 rw [Nat.div_one,List.length_map,Nat.mul_one] at g
                 refine bH.run (by simp [resolve,invoke,builtin]) (g.alike (ai.oz rfl ?_))
                 rw [Ob.eM,gX,bR,<-List.map_take]
                 exact FK (by simp;omega)
               . cases e1
             . cases e1
           . cases e
         . cases e
       . cases e
     . cases ht
   . cases ht
 -- clear
 . rename_i x t
   split at ht
   . rename_i el x' hu hx
     split at ht
     . rename_i i d hi hd
       split at ht
       . rename_i z hz
         obtain ⟨hzz,ht⟩:=dP ht
         cases ht
         simp only [jT] at e
         split at e
         . rename_i p m off len sz hxw
           obtain ⟨BN,e1⟩:=au.aH e
           simp only [Bool.and_eq_true,Bool.not_eq_true'] at BN
           have hs1:=nj BN.1
           subst hs1
           clear e
           split at e1
           . rename_i o' ho'
             split at e1
             . rename_i l' hl'
               cases e1
               obtain ⟨hp,VQ⟩:=hc
               have mA:off+len<=l'.length:=VQ
               have bR:o'.cells=l'.map d.w:=Fd.jE hl'
               have g:=OQ (base:=base) (S:=S) (ty:=o.type) (ts:=#[t]) R rfl hu hi hz hzz (aK FR hx hxw hp).2 ho' (Ob.ji bR) (Ab bR BN.2) (Ob.sB bR) (by rw [bR];simp;exact mA)
               refine bH.run (by simp [resolve,invoke,builtin]) (g.alike (ai.oz rfl ?_))
               rw [Ob.eM,gX,bR]
               have:=FK (d:=d) (l:=l') (ys:=List.replicate len d.zero) (off:=off) (by simp;omega)
               rw [this,List.map_replicate]
             . cases e1
           . cases e1
         . cases e
       . cases ht
     . cases ht
   . cases ht
 -- convert
 . rename_i s d x
   split at ht
   . rename_i el x' hs hd hx
     split at ht
     . rename_i he
       cases ht
       simp only [jT] at e
       split at e
       . rename_i c' sv hse
         cases hn:Nat.blt S.next 2 with
         | true =>
           rw [hn] at e
           cases e
           rw [lV FR hx hse hc]
           exact VL R hs hd he sv
         | false =>
           rw [hn] at e
           cases e
           rw [lV FR hx hse hc.1]
           exact VN R hs hd he sv hc.2
       . cases e
     . cases ht
   . rename_i el x' hs hd hx
     split at ht
     . rename_i he
       cases ht
       simp only [jT] at e
       split at e
       . rename_i p y rP
         split at e
         . cases e
         . rename_i y' hns
           split at e
           . rename_i q l hsrc
             cases e
             have hw:=(aK FR hx rP hc.1).2
             obtain ⟨hs0,h1,h2⟩:=OY (P:=P) R hsrc hc.2 hw
             obtain ⟨u,hu1,hu2⟩:=IY (P:=P) hs hd he hs0 h1 h2
             exact ⟨_,u,w,η,Z,hu1,.inl rfl,bK.refl R,hu2⟩
           split at e
           . rename_i q l hsrc
             cases e
             have hw:=(aK FR hx rP hc.1).2
             obtain ⟨h1,h2⟩:=OZ (S:=S) (fun s hh=>hns s hh) hsrc hw
             obtain ⟨u,hu1,hu2⟩:=IY (P:=P) hs hd he (wg (P:=P) R hsrc hc.2 hw) h1 h2
             exact ⟨_,u,w,η,Z,hu1,.inl rfl,bK.refl R,hu2⟩
           . cases e
       . cases e
     . cases ht
   . cases ht
 -- len of a map
 . rename_i x t
   split at ht
   . rename_i kd vd x' hd hx
     cases ht
     simp only [jT] at e
     split at e
     . rename_i p n hxe
       split at e
       . rename_i o1 jS
         split at e
         . rename_i l hl
           cases e
           refine bH.run (by simp [resolve,invoke,builtin]) (RP (ty:=o.type) R hd jS hl (aK FR hx hxe hc).2)
         . cases e
       . cases e
     . cases e
   . cases ht
 . cases ht
end
def Ac (k:Nat):List Ob->List (Nat×Ob)
 | []=>[]
 | o::l=>(k,o)::Ac (k+1) l
def ai.ofList (l:List Ob):ai:={ next:=l.length,ak:=Ac 0 l }
theorem FP:∀ (l:List Ob) (k n:Nat),find (Ac k l) n=if n<k then none else l[n-k]?
 | [],k,n=>by simp [Ac,find]
 | o :: l, k, n => by
   simp only [Ac,find]
   by_cases h:k=n
   . subst h;simp
   . rw [if_neg h,FP l (k+1) n]
     by_cases h1:n<k
     . rw [if_pos (by omega),if_pos h1]
     . rw [if_neg (by omega),if_neg h1]
       have:n-k=(n-(k+1))+1:=by omega
       rw [this];simp
theorem ai.aU (l:List Ob) (n:Nat):(ai.ofList l).get n=l[n]?:=by
 show find (Ac 0 l) n=_
 rw [FP];simp
def u7 (g:Nat->Option Nat):List (Nat×Nat)->Option (List (Nat×Nat))
 | []=>some []
 | (n,o)::l=>match g n,u7 g l with | some m,some r=>some ((m,o)::r) | _,_=>none
def W.ren (g:Nat->Option Nat):W->Option W
 | .ptr n off=>match g n with | some m=>some (.ptr m off) | none=>none
 | .pe n off i=>match g n with | some m=>some (.pe m off i) | none=>none
 | .sl n off len sz=>match g n with | some m=>some (.sl m off len sz) | none=>none
 | .func f caps=>match u7 g caps with | some r=>some (.func f r) | none=>none
 | .yield l=>some (.yield l)
 | .ct=>none
 | .mp n=>match g n with | some m=>some (.mp m) | none=>none
 | .ba n=>match g n with | some m=>some (.ba m) | none=>none
 | .fB f n off=>match g n with | some m=>some (.fB f m off) | none=>none
 | .row n i len=>match g n with | some m=>some (.row m i len) | none=>none
 | .oT n i j=>match g n with | some m=>some (.oT m i j) | none=>none
 | x=>some x
def CV (g:Nat->Option Nat):List W->Option (List W)
 | []=>some []
 | x::l=>match x.ren g,CV g l with | some y,some r=>some (y::r) | _,_=>none
def V.ren (g:Nat->Option Nat):V->Option V
 | .c x=>match x.ren g with | some y=>some (.c y) | none=>none
 | .agg cs=>match CV g cs with | some r=>some (.agg r) | none=>none
def tH (g:Nat->Option Nat):List V->Option (List V)
 | []=>some []
 | x::l=>match x.ren g,tH g l with | some y,some r=>some (y::r) | _,_=>none
def A.ren (g:Nat->Option Nat):A->Option A
 | .p v=>match v.ren g with | some y=>some (.p y) | none=>none
 | .aL vs=>match tH g vs with | some r=>some (.aL r) | none=>none
 | .cond _ _=>none
 | .dec b=>some (.dec b)
def Fd.ren (s:Bool) (g:Nat->Option Nat):Fd->Option Fd
 | .c x=>match x.ren g with | some y=>some (.c y) | none=>bif s then none else some (.c .ct)
 | .a n d l=>some (.a n d l)
 | .m kd vd l=>some (.m kd vd l)
 | .b l=>some (.b l)
def CW (s:Bool) (g:Nat->Option Nat):List Fd->Option (List Fd)
 | []=>some []
 | x::l=>match x.ren s g,CW s g l with | some y,some r=>some (y::r) | _,_=>none
def Fd.rE:Fd->Bool
 | .c .mh=>true
 | .m _ _ _=>true
 | _=>false
def Ob.ren (g:Nat->Option Nat) (o:Ob):Option Ob:=match CW (o.fs.any Fd.rE) g o.fs with | some fs=>some ⟨o.ty,fs⟩ | none=>none
def iG (g:Nat->Option Nat):List Ob->Option (List Ob)
 | []=>some []
 | x::l=>match x.ren g,iG g l with | some y,some r=>some (y::r) | _,_=>none
def W.dY:W->Bool
 | .ro _ _ | .rp _ _ | .rd _ _ | .re _ _ _=>false
 | _=>true
def D.plain:D->Bool
 | .sl _=>false
 | _=>true
def V.dY:V->Bool
 | .c x=>x.dY
 | .agg cs=>cs.all W.dY
def A.dY:A->Bool
 | .p v=>v.dY
 | .aL vs=>vs.all V.dY
 | .cond _ _=>false
 | .dec _=>true
def Fd.dY:Fd->Bool
 | .c x=>x.dY
 | .a _ d _=>d.plain
 | .m kd vd _=>kd.plain&&vd.plain
 | .b _=>true
def Ob.dY (o:Ob):Bool:=o.fs.all Fd.dY
section
variable {η aE:Eta} {Z Z':aA} {g:Nat->Option Nat}
theorem Je (h:∀ n m,g n=some m->∀ p,η n=some p->aE m=some p):∀ {caps r:List (Nat×Nat)} {vs:List Value},u7 g caps=some r->aT (fP η) caps vs->aT (fP aE) r vs
 | [],r,vs,e,hl=>by simp only [u7] at e;cases e;cases vs with | nil=>trivial | cons _ _=>exact hl.elim
 | (n, o) :: l, r, vs, e, hl => by
   simp only [u7] at e
   split at e
   . rename_i m r' hm hr
     cases e
     cases vs with
     | nil=>exact hl.elim
     | cons v vs =>
       obtain ⟨⟨p,hp,hv⟩,hl⟩:=hl
       exact ⟨⟨p,h n m hm p hp,hv⟩,Je h hr hl⟩
   . cases e
theorem W.jM (h:∀ n m,g n=some m->∀ p,η n=some p->aE m=some p) {x y:W} (hz:x.dY=true∨Z.le Z') (e:x.ren g=some y) {v:Value} (r:aF η Z x v):aF aE Z' y v:=by
 have frozen:∀ x:W,x.dY=false->x.ren g=some x:=by intro x hx;cases x <;> simp_all [W.dY,W.ren]
 cases x with
 | ptr n off =>
   simp only [W.ren] at e
   split at e
   . rename_i m hm;cases e;obtain ⟨p,hp,hv⟩:=r;exact ⟨p,h n m hm p hp,hv⟩
   . cases e
 | pe n off i =>
   simp only [W.ren] at e
   split at e
   . rename_i m hm;cases e;obtain ⟨p,hp,hv⟩:=r;exact ⟨p,h n m hm p hp,hv⟩
   . cases e
 | sl n off len sz =>
   simp only [W.ren] at e
   split at e
   . rename_i m hm;cases e
     rcases r with r | ⟨p,c,a,hp,r⟩
     . exact .inl r
     . exact .inr ⟨p,c,a,h n m hm p hp,r⟩
   . cases e
 | func f caps =>
   simp only [W.ren] at e
   split at e
   . rename_i r' hr;cases e
     obtain ⟨vs,hv,hl⟩:=r
     exact ⟨vs,hv,Je h hr hl⟩
   . cases e
 | yield l=>cases e;exact r
 | ct=>cases e
 | mh=>cases e;exact r
 | mp n =>
   simp only [W.ren] at e
   split at e
   . rename_i m hm;cases e;obtain ⟨p,hp,hv⟩:=r;exact ⟨p,h n m hm p hp,hv⟩
   . cases e
 | ba n =>
   simp only [W.ren] at e
   split at e
   . rename_i m hm;cases e;obtain ⟨p,hp,hv⟩:=r;exact ⟨p,h n m hm p hp,hv⟩
   . cases e
 | fB f n off =>
   simp only [W.ren] at e
   split at e
   . rename_i m hm;cases e;obtain ⟨u,hu,p,hp,hv⟩:=r;exact ⟨u,hu,p,h n m hm p hp,hv⟩
   . cases e
 | row n i len =>
   simp only [W.ren] at e
   split at e
   . rename_i m hm;cases e;obtain ⟨p,r0,c,ad,hp,hv⟩:=r;exact ⟨p,r0,c,ad,h n m hm p hp,hv⟩
   . cases e
 | oT n i j =>
   simp only [W.ren] at e
   split at e
   . rename_i m hm;cases e;obtain ⟨p,r0,hp,hv⟩:=r;exact ⟨p,r0,h n m hm p hp,hv⟩
   . cases e
 | th k ah=>cases e;exact r
 | kM n=>cases e;exact r
 | bool b=>cases e;exact r
 | int k n=>cases e;exact r
 | str s=>cases e;exact r
 | bY=>cases e;exact r
 | nil=>cases e;exact r
 | lU=>cases e;exact r
 | dM=>cases e;exact r
 | val _=>cases e;exact r
 | ro _ _=>cases e;rcases hz with hz | hz;cases hz;exact aM.mono hz r
 | rp _ _=>cases e;rcases hz with hz | hz;cases hz;exact aM.mono hz r
 | rd _ _=>cases e;rcases hz with hz | hz;cases hz;exact aM.mono hz r
 | re _ _ _=>cases e;rcases hz with hz | hz;cases hz;exact aM.mono hz r
theorem W.BO {x y:W} (e:x.ren g=some y):y≠.ct:=by
 cases x <;> simp only [W.ren] at e <;> first
  | (cases e;done)
  | (cases e;simp;done)
  | (split at e <;> cases e;simp)
theorem W.ren_mh {x:W} (e:x.ren g=some .mh):x=.mh:=by
 cases x <;> simp only [W.ren] at e <;> first
  | rfl
  | (cases e;done)
  | (split at e <;> cases e)
theorem W.ren_th {x:W} {k:Nat} {ah:List (List Int)} (e:x.ren g=some (.th k ah)):x=.th k ah:=by
 cases x <;> simp only [W.ren] at e <;> first
  | (cases e;rfl)
  | (cases e;done)
  | (split at e <;> cases e)
theorem FQ (h:∀ n m,g n=some m->∀ p,η n=some p->aE m=some p):∀ {l r:List W} {vs:List Value},(l.all W.dY=true∨Z.le Z')->CV g l=some r->aT (aF η Z) l vs->aT (aF aE Z') r vs/\∀ x∈r,x≠.ct
 | [],r,vs,_,e,hl=>by simp only [CV] at e;cases e;cases vs with | nil=>exact ⟨trivial,by simp⟩ | cons _ _=>exact hl.elim
 | x :: l, r, vs, hz, e, hl => by
   simp only [CV] at e
   split at e
   . rename_i y r' hy hr
     cases e
     cases vs with
     | nil=>exact hl.elim
     | cons v vs =>
       simp only [List.all_cons,Bool.and_eq_true] at hz
       obtain ⟨a,b⟩:=FQ h (hz.imp (·.2) id) hr hl.2
       refine ⟨⟨W.jM h (hz.imp (·.1) id) hy hl.1,a⟩,fun z hz'=>?_⟩
       rcases List.mem_cons.1 hz' with rfl | hz'
       . exact W.BO hy
       . exact b z hz'
   . cases e
theorem V.jM (h:∀ n m,g n=some m->∀ p,η n=some p->aE m=some p) {x y:V} (hz:x.dY=true∨Z.le Z') (e:x.ren g=some y) {v:Value} (r:dr η Z x v):dr aE Z' y v:=by
 cases x with
 | c x =>
   simp only [V.ren] at e
   split at e
   . rename_i y' hy;cases e;exact ⟨W.BO hy,W.jM h hz hy r.2⟩
   . cases e
 | agg cs =>
   simp only [V.ren] at e
   split at e
   . rename_i r' hr;cases e
     obtain ⟨vs,hv,_,hl⟩:=r
     obtain ⟨a,b⟩:=FQ h hz hr hl
     exact ⟨vs,hv,b,a⟩
   . cases e
theorem oB (h:∀ n m,g n=some m->∀ p,η n=some p->aE m=some p):∀ {l r:List V} {vs:List Value},(l.all V.dY=true∨Z.le Z')->tH g l=some r->aT (dr η Z) l vs->aT (dr aE Z') r vs
 | [],r,vs,_,e,hl=>by simp only [tH] at e;cases e;cases vs with | nil=>trivial | cons _ _=>exact hl.elim
 | x :: l, r, vs, hz, e, hl => by
   simp only [tH] at e
   split at e
   . rename_i y r' hy hr
     cases e
     cases vs with
     | nil=>exact hl.elim
     | cons v vs =>
       simp only [List.all_cons,Bool.and_eq_true] at hz
       exact ⟨V.jM h (hz.imp (·.1) id) hy hl.1,oB h (hz.imp (·.2) id) hr hl.2⟩
   . cases e
theorem A.jM (h:∀ n m,g n=some m->∀ p,η n=some p->aE m=some p) {x y:A} (hz:x.dY=true∨Z.le Z') (e:x.ren g=some y) {v:Value} (r:cr η Z x v):cr aE Z' y v:=by
 cases x with
 | p x =>
   simp only [A.ren] at e
   split at e
   . rename_i y' hy;cases e;exact V.jM h hz hy r
   . cases e
 | aL vs =>
   simp only [A.ren] at e
   split at e
   . rename_i r' hr;cases e
     obtain ⟨us,hv,hl⟩:=r
     exact ⟨us,hv,oB h hz hr hl⟩
   . cases e
 | cond _ _=>cases e
 | dec b=>cases e;exact r
theorem D.O4 (d:D) (y:d.ty):(d.w y).ren g=some (d.w y):=by cases d <;> rfl
theorem D.EM {d:D} (h:d.plain=true) (y:d.ty):(d.w y).dY=true:=by cases d <;> first | rfl | cases h
theorem Jf {kd vd:D}:∀ {l:List (kd.ty×vd.ty)} {i:Nat} {z:W},(nF kd vd l)[i]? = some z->z.ren g=some z/\(kd.plain=true->vd.plain=true->z.dY=true)
 | [],i,z,h=>by simp [nF] at h
 | (k,v)::l,0,z,h=>by simp [nF] at h;subst h;exact ⟨D.O4 _ _,fun h1 _=>D.EM h1 _⟩
 | (k,v)::l,1,z,h=>by simp [nF] at h;subst h;exact ⟨D.O4 _ _,fun _ h2=>D.EM h2 _⟩
 | (k,v)::l,i+2,z,h=>Jf (l:=l) (i:=i) (by simpa [nF] using h)
theorem A6 {s : Bool} : ∀ {fs r : List Fd}, CW s g fs = some r → (r.flatMap Fd.cells).length = (fs.flatMap Fd.cells).length ∧ ∀ (i : Nat) y, (r.flatMap Fd.cells)[i]? = some y → ∃ x, (fs.flatMap Fd.cells)[i]? = some x ∧ (x.ren g = some y ∨ (s = false ∧ y = .ct ∧ x.ren g = none)) ∧ (fs.all Fd.dY = true → x.dY = true)
 | [],r,e=>by simp only [CW] at e;cases e;exact ⟨rfl,by simp⟩
 | f :: fs, r, e => by
   simp only [CW] at e
   split at e
   . rename_i f' r' hf hr
     cases e
     obtain ⟨h1,h2⟩:=A6 hr
     have h3 : f'.cells.length = f.cells.length ∧ ∀ (i : Nat) y, f'.cells[i]? = some y → ∃ x, f.cells[i]? = some x ∧ (x.ren g = some y ∨ (s = false ∧ y = .ct ∧ x.ren g = none)) ∧ (f.dY = true → x.dY = true) := by
      cases f with
      | c x =>
        simp only [Fd.ren] at hf
        split at hf
        . rename_i y hy
          cases hf
          refine ⟨rfl,fun i z hz=>?_⟩
          cases i with
          | zero=>simp [Fd.cells] at hz ⊢;subst hz;exact ⟨.inl hy,fun h=>h⟩
          | succ i=>simp [Fd.cells] at hz
        . rename_i hnone
          cases s with
          | true=>cases hf
          | false =>
            cases hf
            refine ⟨rfl,fun i z hz=>?_⟩
            cases i with
            | zero=>simp [Fd.cells] at hz ⊢;subst hz;exact ⟨.inr ⟨rfl,hnone⟩,fun h=>h⟩
            | succ i=>simp [Fd.cells] at hz
      | a n d l =>
        simp only [Fd.ren] at hf
        cases hf
        refine ⟨rfl,fun i z hz=>⟨z,hz,?_,?_⟩⟩
        . simp only [Fd.cells,List.getElem?_map] at hz
          cases hh:l[i]? with
          | none=>rw [hh] at hz;cases hz
          | some y=>rw [hh] at hz;cases hz;exact .inl (D.O4 _ _)
        . intro hp
          simp only [Fd.cells,List.getElem?_map] at hz
          cases hh:l[i]? with
          | none=>rw [hh] at hz;cases hz
          | some y=>rw [hh] at hz;cases hz;exact D.EM hp _
      | m kd vd l =>
        simp only [Fd.ren] at hf
        cases hf
        refine ⟨rfl,fun i z hz=>⟨z,hz,?_⟩⟩
        cases i with
        | zero=>simp [Fd.cells] at hz;subst hz;exact ⟨.inl rfl,fun _=>rfl⟩
        | succ i =>
          have hz':(nF kd vd l)[i]? = some z:=by simpa [Fd.cells] using hz
          obtain ⟨h5,h6⟩:=Jf (g:=g) hz'
          exact ⟨.inl h5,fun hp=>by simp only [Fd.dY,Bool.and_eq_true] at hp;exact h6 hp.1 hp.2⟩
      | b l =>
        simp only [Fd.ren] at hf
        cases hf
        refine ⟨rfl,fun i z hz=>⟨z,hz,?_⟩⟩
        simp only [Fd.cells,List.getElem?_map] at hz
        cases hh:l[i]? with
        | none=>rw [hh] at hz;cases hz
        | some y=>rw [hh] at hz;cases hz;exact ⟨.inl rfl,fun _=>rfl⟩
     simp only [List.flatMap_cons,List.length_append,List.all_cons,Bool.and_eq_true]
     refine ⟨by omega,fun i y hy=>?_⟩
     by_cases hi:i<f'.cells.length
     . rw [List.getElem?_append_left hi] at hy
       rw [List.getElem?_append_left (by omega)]
       obtain ⟨x,a,b,c⟩:=h3.2 i y hy
       exact ⟨x,a,b,fun hh=>c hh.1⟩
     . rw [List.getElem?_append_right (by omega)] at hy
       rw [List.getElem?_append_right (by omega),<-h3.1]
       obtain ⟨x,a,b,c⟩:=h2 _ y hy
       exact ⟨x,a,b,fun hh=>c hh.2⟩
   . cases e
theorem Ob.tI {o o':Ob} (e:o.ren g=some o'):o'.ty=o.ty/\o'.cells.length=o.cells.length/\∀ (i:Nat) y,o'.cells[i]? = some y->∃ x,o.cells[i]? = some x/\(x.ren g=some y∨(o.fs.any Fd.rE=false/\y=.ct/\x.ren g=none))/\(o.dY=true->x.dY=true):=by
 unfold Ob.ren at e
 split at e
 . rename_i fs hfs
   cases e
   obtain ⟨a,b⟩:=A6 hfs
   exact ⟨rfl,a,b⟩
 . cases e
theorem O5 {o:Ob} (h:o.isMap):o.fs.any Fd.rE=true:=by
 have hm:W.mh∈o.fs.flatMap Fd.cells:=List.mem_of_getElem? h
 obtain ⟨f,hf,hx⟩:=List.mem_flatMap.1 hm
 rw [List.any_eq_true]
 refine ⟨f,hf,?_⟩
 cases f with
 | c y=>simp [Fd.cells] at hx;subst hx;rfl
 | a n d l =>
   simp only [Fd.cells,List.mem_map] at hx
   obtain ⟨y,_,hy⟩:=hx
   cases d <;> cases hy
 | m kd vd l=>rfl
 | b l =>
   simp only [Fd.cells,List.mem_map] at hx
   obtain ⟨y,_,hy⟩:=hx
   cases hy
theorem dR.ren (h:∀ n m,g n=some m->∀ p,η n=some p->aE m=some p) {o o':Ob} (hz:o.dY=true∨Z.le Z') (e:o.ren g=some o') {p:cj} {w:World} (L:dR η Z o p w):dR aE Z' o' p w:=by
 obtain ⟨e1,e2,e3⟩:=Ob.tI e
 have hm1:o'.isMap->o.isMap:=fun hm=>by
  obtain ⟨x,hx,hxy,_⟩:=e3 0 _ hm
  rcases hxy with hxy | ⟨_,hxy,_⟩
  . rw [W.ren_mh hxy] at hx;exact hx
  . cases hxy
 have RV:∀ k ah,o'.iY k ah->o.iY k ah:=fun k ah hm=>by
  obtain ⟨x,hx,hxy,_⟩:=e3 0 _ hm
  rcases hxy with hxy | ⟨_,hxy,_⟩
  . rw [W.ren_th hxy] at hx;exact hx
  . cases hxy
 have hi2:o.eV->o'.eV:=fun hm=>by
  obtain ⟨s,hs,hsp⟩:=Ob.Rh hm
  have h0:0<o'.cells.length:=by rw [e2];exact (List.getElem?_eq_some_iff.1 hs).1
  obtain ⟨x,hx,hxy,_⟩:=e3 0 _ (List.getElem?_eq_getElem h0)
  have:x=s:=Option.some.inj (hx.symm.trans hs)
  subst this
  rcases hm with hm | ⟨k,ah,hm⟩
  . have:x=.mh:=Option.some.inj (hx.symm.trans hm)
    subst this
    have hxy:(W.mh).ren g=some o'.cells[0]:=hxy.elim id fun h=>by cases h.2.2
    have:o'.cells[0]=.mh:=(Option.some.inj hxy).symm
    left
    show o'.cells[0]? = some .mh
    rw [List.getElem?_eq_getElem h0,this]
  . have:x=.th k ah:=Option.some.inj (hx.symm.trans hm)
    subst this
    have hxy:(W.th k ah).ren g=some o'.cells[0]:=hxy.elim id fun h=>by cases h.2.2
    have:o'.cells[0]=.th k ah:=(Option.some.inj hxy).symm
    refine .inr ⟨k,ah,?_⟩
    show o'.cells[0]? = some (.th k ah)
    rw [List.getElem?_eq_getElem h0,this]
 refine ⟨fun hm=>?_,fun hm=>by rw [e2];exact L.size fun h=>hm (hi2 h),fun k ah hm=>by rw [e1];exact L.tabs k ah (RV k ah hm),fun hm=>?_⟩
 . obtain ⟨c,fz,a,b,d,f⟩:=L.there fun h=>hm (hi2 h)
   have f':yg c.size o' p fz:=by
    rcases f with f | ⟨hB,ht⟩ | ⟨hB,ht⟩
    . exact .inl f
    . refine .inr (.inl ⟨fun y hy=>?_,by rw [e2];exact ht⟩)
      obtain ⟨i,hi⟩:=List.getElem?_of_mem hy
      obtain ⟨x,hx,hxy,_⟩:=e3 i y hi
      obtain ⟨n,rfl⟩:=hB x (List.mem_of_getElem? hx)
      have hxy:(W.int .u8 n).ren g=some y:=hxy.elim id fun h=>by cases h.2.2
      exact ⟨n,(Option.some.inj hxy).symm⟩
    . refine .inr (.inr ⟨⟨fun h0=>hB.1 (List.eq_nil_of_length_eq_zero (by rw [<-e2,h0];rfl)),fun y hy=>?_⟩,ht⟩)
      obtain ⟨i,hi⟩:=List.getElem?_of_mem hy
      obtain ⟨x,hx,hxy,_⟩:=e3 i y hi
      obtain ⟨n,rfl⟩:=hB.2 x (List.mem_of_getElem? hx)
      have hxy:(W.kM n).ren g=some y:=hxy.elim id fun h=>by cases h.2.2
      exact ⟨n,(Option.some.inj hxy).symm⟩
   refine ⟨c,fz,by rw [e1];exact a,b,fun i y hy=>?_,f'⟩
   obtain ⟨x,hx,hxy,hzf⟩:=e3 i y hy
   obtain ⟨v,hv,hr,h1⟩:=d i x hx
   rcases hxy with hxy | ⟨_,rfl,_⟩
   . exact ⟨v,hv,W.jM h (hz.imp hzf id) hxy hr,h1⟩
   . exact ⟨v,hv,trivial,h1⟩
 . obtain ⟨es,k,a,b⟩:=L.maps (hm1 hm)
   refine ⟨es,k,a,eH.map (g:=fun x y=>x.ren g=some y/\(o.dY=true->x.dY=true)) (fun x y v hxy hr=>⟨W.BO hxy.1,W.jM h (hz.imp hxy.2 id) hxy.1 hr⟩) (by simp [e2]) (fun i y hy=>?_) b⟩
   rw [<-List.drop_one,List.getElem?_drop] at hy
   obtain ⟨x,hx,hxy,hzf⟩:=e3 _ y hy
   have hxy:x.ren g=some y:=hxy.elim id fun h=>by rw [O5 (hm1 hm)] at h;cases h.1
   exact ⟨x,by rw [<-List.drop_one,List.getElem?_drop];exact hx,hxy,hzf⟩
end
theorem kA {g:Nat->Option Nat}:∀ {l r:List Ob},iG g l=some r->r.length=l.length/\∀ (i:Nat) o',r[i]? = some o'->∃ o,l[i]? = some o/\o.ren g=some o'
 | [],r,e=>by simp only [iG] at e;cases e;exact ⟨rfl,by simp⟩
 | x :: l, r, e => by
   simp only [iG] at e
   split at e
   . rename_i y r' hy hr
     cases e
     obtain ⟨a,b⟩:=kA hr
     refine ⟨by simp [a],fun i o' ho=>?_⟩
     cases i with
     | zero=>simp at ho;subst ho;exact ⟨x,rfl,hy⟩
     | succ i=>simp at ho ⊢;exact b i o' ho
   . cases e
def YJ:List Int:=[0,1,56,2,57,49,28,3,61,58,42,50,38,29,17,4,62,47,59,36,45,43,51,22,53,39,33,30,24,18,12,5,63,55,48,27,60,41,37,16,46,35,44,21,52,32,23,11,54,26,40,15,34,20,31,10,25,14,19,9,13,8,7,6]
def YK:List Int:=[0,1,28,2,29,14,24,3,30,22,20,15,25,17,4,8,31,27,13,23,21,19,16,7,26,12,18,6,11,5,10,9]
def O6:List Int:=[1,10,100,1000,10000,100000,1000000,10000000,100000000,1000000000,10000000000,100000000000,1000000000000,10000000000000,100000000000000,1000000000000000,10000000000000000,100000000000000000,1000000000000000000,10000000000000000000]
def O7:List (String×IntKind×List Int):=[("math/bits.deBruijn32tab",.u8,YK),("math/bits.deBruijn64tab",.u8,YJ),("internal/strconv.uint64pow10",.u64,O6)]
def gT (P:Program) (Z:aA):Prop:=∀ x∈O7,∀ g,P.globalNamed x.1=some g->Z g=some (x.2.2.map (Value.int x.2.1)).toArray
theorem gT.mono {P:Program} {Z Z':aA} (h:gT P Z) (hz:Z.le Z'):gT P Z':=fun x hx g hg=>hz _ _ (h x hx g hg)
def Jg (P:Program) (f:FuncId) (args:List A) (S:ai) (r:A) (S':ai):Prop :=
 ∀ base η Z w vs,St base η Z S w->aT (cr η Z) args vs->gT P Z->CallsIn Fence.wide 0 P f vs.toArray w fun e w'=>∃ u aE Z',e=.returned u/\bK base η Z S w aE Z' S' w'/\cr aE Z' r u
structure fF (ay base:Nat) (η:Eta) (Z:aA) (S:ai) (w:World) (aE:Eta) (Z':aA) (S':ai) (w':World):Prop where
 le:∀ n p,n<ay->η n=some p->aE n=some p
 st:St base aE Z' S' w'
 step:Step η Z S w aE Z' S' w'
def bA (P:Program) (f:FuncId) (ay:Nat) (args:List A) (ak:List Ob) (r:A) (bp:List Ob):Prop :=
 ∀ base η Z w vs,St base η Z (.ofList ak) w->aT (cr η Z) args vs->gT P Z->CallsIn Fence.wide 0 P f vs.toArray w fun e w'=>∃ u aE Z',e=.returned u/\fF ay base η Z (.ofList ak) w aE Z' (.ofList bp) w'/\cr aE Z' r u
def bw (P:Program) (f:FuncId) (args:List A) (ak:List Ob) (r:A) (bp:List Ob):Prop:=bA P f ak.length args ak r bp
def idxOf:List Nat->Nat->Option Nat
 | [],_=>none
 | x::l,n=>if x=n then some 0 else match idxOf l n with | some i=>some (i+1) | none=>none
theorem fV:∀ {l:List Nat} {n i:Nat},idxOf l n=some i->l[i]? = some n
 | [],_,_,e=>by cases e
 | x :: l, n, i, e => by
   simp only [idxOf] at e
   split at e
   . rename_i h;cases e;subst h;rfl
   . split at e
     . rename_i j hj;cases e;simpa using fV hj
     . cases e
theorem rZ:∀ {l:List Nat} {n:Nat},idxOf l n=none->∀ (i:Nat),l[i]?≠some n
 | [],_,_,i=>by simp
 | x :: l, n, e, i => by
   simp only [idxOf] at e
   split at e
   . cases e
   . rename_i hne
     split at e
     . cases e
     . rename_i hj
       cases i with
       | zero=>simp;exact hne
       | succ i=>simpa using rZ hj i
theorem VR {l:List Nat} (hnd:l.Nodup) {n i:Nat} (h:l[i]? = some n):idxOf l n=some i:=by
 cases e:idxOf l n with
 | none=>exact absurd h (rZ e i)
 | some j =>
   have hj:=fV e
   have h1:=(List.getElem?_eq_some_iff.1 h).1
   have:=(List.getElem?_inj h1 hnd).1 (h.trans hj.symm)
   rw [this]
def yE (rs:List Nat) (nx:Nat) (i:Nat):Option Nat:=if i<rs.length then rs[i]? else some (nx+(i-rs.length))
def lN (S:ai):List Nat->List Ob->ai
 | n::rs,o::os=>lN (S.put n o) rs os
 | _,_=>S
def qK (S:ai):List Ob->ai
 | []=>S
 | o::os=>qK (S.add o) os
def ai.eT (S:ai) (rs:List Nat) (os:List Ob):ai:=qK (lN S rs (os.take rs.length)) (os.drop rs.length)
theorem yF:∀ {rs:List Nat} {os:List Ob} {S:ai},(lN S rs os).cw=S.cw
 | [],_,_=>by simp [lN]
 | _::_,[],_=>by simp [lN]
 | n::rs,o::os,S=>by rw [lN,yF];rfl
theorem yG:∀ {os:List Ob} {S:ai},(qK S os).cw=S.cw
 | [],_=>rfl
 | o::os,S=>by rw [qK,yG];rfl
theorem ai.O8 {S:ai} {rs:List Nat} {os:List Ob}:(S.eT rs os).cw=S.cw:=by unfold ai.eT;rw [yG,yF]
theorem qu:∀ {rs:List Nat} {os:List Ob} {S:ai},(lN S rs os).next=S.next
 | [],_,_=>by cases ‹List Ob› <;> rfl
 | _::_,[],_=>rfl
 | n::rs,o::os,S=>by rw [lN,qu];rfl
theorem CX:∀ {rs:List Nat} {os:List Ob} {S:ai},rs.Nodup->os.length=rs.length->(∀ n∈rs,∃ o,S.get n=some o)->∀ n,(lN S rs os).get n=match idxOf rs n with | some i=>os[i]? | none=>S.get n
 | [],[],S,_,_,_,n=>rfl
 | [],_::_,S,_,h,_,n=>by simp at h
 | _::_,[],S,_,h,_,n=>by simp at h
 | k :: rs, o :: os, S, hnd, hl, hin, n => by
   rw [lN]
   have O9:=List.nodup_cons.1 hnd
   obtain ⟨o0,rO⟩:=hin k (by simp)
   have hget:∀ m,(S.put k o).get m=if m=k then some o else S.get m:=fun m=>by rw [ai.iW,rO];rfl
   rw [CX O9.2 (by simpa using hl) (fun m hm=>by
    obtain ⟨x,hx⟩:=hin m (by simp [hm])
    rw [hget]
    by_cases h:m=k
    . rw [if_pos h];exact ⟨o,rfl⟩
    . rw [if_neg h];exact ⟨x,hx⟩)]
   simp only [idxOf]
   by_cases h:k=n
   . subst h
     rw [if_pos rfl]
     have:idxOf rs k=none:=by
      cases e:idxOf rs k with
      | none=>rfl
      | some i=>exact absurd (List.mem_of_getElem? (fV e)) O9.1
     rw [this]
     simp [hget]
   . rw [if_neg h]
     cases idxOf rs n with
     | none=>simp [hget,Ne.symm h]
     | some i=>simp
theorem A7:∀ {os:List Ob} {S:ai},(qK S os).next=S.next+os.length
 | [],_=>rfl
 | o::os,S=>by rw [qK,A7];show S.next+1+_=_;simp;omega
theorem CY:∀ {os:List Ob} {S:ai},(∀ n,S.next<=n->S.get n=none)->∀ n,(qK S os).get n=if S.next<=n then os[n-S.next]? else S.get n
 | [],S,hf,n=>by
   show S.get n=_
   by_cases h:S.next<=n
   . rw [if_pos h,hf n h];simp
   . rw [if_neg h]
 | o :: os, S, hf, n => by
   have hadd:∀ m,(S.add o).get m=if m=S.next then some o else S.get m:=fun m=>ai.eY (hf _ (Nat.le_refl _))
   rw [qK,CY (S:=S.add o) (fun m hm=>by
    have:(S.add o).next=S.next+1:=rfl
    rw [hadd,if_neg (by omega)]
    exact hf m (by omega))]
   have hn:(S.add o).next=S.next+1:=rfl
   rw [hn,hadd]
   by_cases h:S.next<=n
   . rw [if_pos h]
     by_cases h1:n=S.next
     . subst h1;rw [if_neg (by omega),if_pos rfl];simp
     . rw [if_pos (by omega)]
       have:n-S.next=(n-(S.next+1))+1:=by omega
       rw [this];simp
   . rw [if_neg (by omega),if_neg h,if_neg (by omega)]
theorem VS {S:ai} {rs:List Nat} {os:List Ob} (hnd:rs.Nodup) (hl:rs.length<=os.length) (hin:∀ n∈rs,∃ o,S.get n=some o) (hf:∀ n o,S.get n=some o->n<S.next) (n:Nat) :
 (S.eT rs os).get n=match idxOf rs n with | some i=>os[i]? | none=>if S.next<=n then os[rs.length+(n-S.next)]? else S.get n:=by
 have hp:=CX (os:=os.take rs.length) hnd (by simp;omega) hin
 have Ic:∀ n i,idxOf rs n=some i->n<S.next/\i<rs.length:=by
  intro n i e
  have:=fV e
  obtain ⟨o,ho⟩:=hin n (List.mem_of_getElem? this)
  exact ⟨hf n o ho,(List.getElem?_eq_some_iff.1 this).1⟩
 have hnone:∀ m,(lN S rs (os.take rs.length)).next<=m->(lN S rs (os.take rs.length)).get m=none:=by
  intro m hm
  rw [qu] at hm
  rw [hp]
  cases e:idxOf rs m with
  | some i=>have:=Ic m i e;omega
  | none =>
    simp only
    cases e':S.get m with
    | none=>rfl
    | some o=>have:=hf m o e';omega
 unfold ai.eT
 rw [CY hnone,qu,hp]
 cases e:idxOf rs n with
 | some i =>
   obtain ⟨h1,h2⟩:=Ic n i e
   simp only
   rw [if_neg (by omega),List.getElem?_take,if_pos h2]
 | none =>
   simp only
   split
   . rw [List.getElem?_drop]
   . rfl
theorem RX {S:ai} {rs:List Nat} {os:List Ob}:(S.eT rs os).next=S.next+(os.length-rs.length):=by
 unfold ai.eT
 rw [A7,qu];simp
def gU (S:ai):List Nat->Option (List Ob)
 | []=>some []
 | n::l=>match S.get n,gU S l with | some o,some r=>some (o::r) | _,_=>none
theorem lD:∀ {S:ai} {rs:List Nat} {l:List Ob},gU S rs=some l->l.length=rs.length/\∀ (i:Nat) n,rs[i]? = some n->∃ o,S.get n=some o/\l[i]? = some o
 | S,[],l,e=>by simp only [gU] at e;cases e;exact ⟨rfl,by simp⟩
 | S,k::rs,l,e=>by
   simp only [gU] at e
   split at e
   . rename_i o r ho hr
     cases e
     obtain ⟨a,b⟩:=lD hr
     refine ⟨by simp [a],fun i n hi=>?_⟩
     cases i with
     | zero=>simp at hi;subst hi;exact ⟨o,ho,rfl⟩
     | succ i=>simpa using b i n (by simpa using hi)
   . cases e
def fX (S:ai):List Nat->ai
 | []=>S
 | m::ms=>fX (S.del m) ms
theorem wh:∀ {ms:List Nat} {S:ai} {n:Nat} {o:Ob},(fX S ms).get n=some o->S.get n=some o/\n ∉ ms
 | [],_,_,_,h=>⟨h,by simp⟩
 | m::ms,S,n,o,h=>by
   obtain ⟨a,b⟩:=wh (S:=S.del m) h
   rw [ai.iq] at a
   split at a
   . cases a
   . rename_i hne;exact ⟨a,by simp [hne,b]⟩
theorem oC:∀ {ms:List Nat} {S:ai},(fX S ms).next=S.next
 | [],_=>rfl
 | m::ms,S=>by rw [fX,oC];rfl
theorem yH:∀ {ms:List Nat} {S:ai} {n:Nat},n ∉ ms->(fX S ms).get n=S.get n
 | [],_,_,_=>rfl
 | m::ms,S,n,h=>by
   simp only [List.mem_cons,not_or] at h
   rw [fX,yH h.2,ai.iq,if_neg h.1]
theorem wi:∀ {ms:List Nat} {S:ai},(fX S ms).cw=S.cw
 | [],_=>rfl
 | m::ms,S=>by rw [fX,wi];rfl
section
variable {P:Program}
def Seen (η:Eta) (S:ai) (ms:List Nat) (b:Nat):Prop:=∃ m,m∈ms/\∃ o p,S.get m=some o/\η m=some p/\p.has b
open Classical in
noncomputable def rF (η:Eta) (Z:aA) (S:ai) (w:World) (ms:List Nat):aA:=fun b=>if Seen η S ms b then (match w.heap[b]? with | some (.cells c _ _)=>some c | _=>none) else Z b
theorem EN {base:Nat} {η:Eta} {Z:aA} {S:ai} {w:World} (R:St base η Z S w) (ms:List Nat):Z.le (rF η Z S w ms):=by
 intro b c h
 unfold rF
 rw [if_neg]
 . exact h
 . rintro ⟨m,_,o,p,ho,hp,hb⟩
   rw [(R.all ho hp hb).2.1] at h;cases h
def cP (η:Eta) (rs:List Nat):Eta:=fun i=>match rs[i]? with | some n=>η n | none=>none
open Classical in
theorem CZ {f:FuncId} {S:ai} {rs ms:List Nat} {args r5:List A} {eX bL gY qv:List Ob} {r0 r:A} {ay:Nat} (wj:bA P f ay r5 bL r0 gY) (hnd:rs.Nodup) (wm:∀ m∈ms,m ∉ rs)
 (fM:gU S rs=some eX) (ig:iG (idxOf rs) eX=some bL) (hkr:ay<=rs.length) (cB:ay<=gY.length) (hr:r0.ren (yE (rs.take ay) S.next)=some r) (hos:iG (yE (rs.take ay) S.next) gY=some qv)
 (hz:ms=[]∨(r0.dY=true/\gY.all Ob.dY=true))
 (hargs:∀ base η Z w vs,St base η Z S w->aT (cr η Z) args vs->aT (cr (cP η rs) (rF η Z S w ms)) r5 vs):Jg P f args S r ((fX S (rs.drop ay)).eT (rs.take ay) qv):=by
 intro base η Z w vs R hvs hK
 obtain ⟨hl1,sJ⟩:=lD fM
 obtain ⟨hl2,tJ⟩:=kA ig
 obtain ⟨hl3,hg3⟩:=kA hos
 have hin:∀ n∈rs,∃ o,S.get n=some o:=fun n hn=>by
  obtain ⟨i,hi⟩:=List.getElem?_of_mem hn
  obtain ⟨o,ho,_⟩:=sJ i n hi
  exact ⟨o,ho⟩
 have hnext:∀ n∈rs,n<S.next:=fun n hn=>let ⟨o,ho⟩:=hin n hn;R.known n o ho
 have VT:=EN R ms
 have hidx:∀ n m,idxOf rs n=some m->∀ p,η n=some p->cP η rs m=some p:=by
  intro n m e p hp
  unfold cP
  rw [fV e];exact hp
 -- an object that is handed over
 have hand:∀ (i:Nat) o,bL[i]? = some o->∃ n oS,rs[i]? = some n/\S.get n=some oS/\oS.ren (idxOf rs)=some o:=by
  intro i o ho
  obtain ⟨oS,h1,h2⟩:=tJ i o ho
  have hi:i<rs.length:=by have:=(List.getElem?_eq_some_iff.1 h1).1;omega
  obtain ⟨o',h3,h4⟩:=sJ i rs[i] (List.getElem?_eq_getElem hi)
  have:oS=o':=Option.some.inj (h1.symm.trans h4)
  subst this
  exact ⟨rs[i],oS,List.getElem?_eq_getElem hi,h3,h2⟩
 have YL:∀ n o p b,n∈rs->S.get n=some o->η n=some p->p.has b->¬ Seen η S ms b:=by
  rintro n o p b hn ho hp hb0 ⟨m,hm,o',p',ho',hp',hb⟩
  exact R.js m n o' o p' p b ho' ho (fun h=>wm m hm (h▸hn)) hp' hp hb hb0
 have R0 : St base (cP η rs) (rF η Z S w ms) (.ofList bL) w := by
  refine ⟨?_,?_,?_,?_,?_,?_,R.ga,?_⟩
  . intro i o p ho hp
    rw [ai.aU] at ho
    obtain ⟨n,oS,h1,h2,h3⟩:=hand i o ho
    unfold cP at hp
    rw [h1] at hp
    obtain ⟨a,b,L⟩:=R.ak n oS p h2 hp
    refine ⟨a,?_,L.ren hidx (.inr VT) h3⟩
    unfold rF
    rw [if_neg (YL n oS p _ (List.mem_of_getElem? h1) h2 hp p.gR)]
    exact b
  . intro i o ho hp
    rw [ai.aU] at ho
    obtain ⟨n,oS,h1,h2,h3⟩:=hand i o ho
    unfold cP at hp
    rw [h1] at hp
    have:=R.cw n oS h2 hp
    have h4:=(Ob.tI h3).2.1
    rw [this] at h4
    exact List.eq_nil_of_length_eq_zero h4
  . intro i o ho
    rw [ai.aU] at ho
    exact (List.getElem?_eq_some_iff.1 ho).1
  . intro i j o o' p p' b ho ho' hne hp hp'
    rw [ai.aU] at ho ho'
    obtain ⟨n,oS,h1,h2,h3⟩:=hand i o ho
    obtain ⟨n',oS',h1',h2',h3'⟩:=hand j o' ho'
    unfold cP at hp hp'
    rw [h1] at hp
    rw [h1'] at hp'
    refine R.js n n' oS oS' p p' b h2 h2' ?_ hp hp'
    rintro rfl
    exact hne ((List.getElem?_inj (List.getElem?_eq_some_iff.1 h1).1 hnd).1 (h1.trans h1'.symm))
  . intro b c hb
    unfold rF at hb
    split at hb
    . split at hb
      . rename_i hh;cases hb;exact ⟨_,_,hh⟩
      . cases hb
    . exact R.zs b c hb
  . intro i hi
    unfold cP
    have:rs[i]? = none:=List.getElem?_eq_none (by have:(ai.ofList bL).next=bL.length:=rfl;omega)
    rw [this]
  . intro i o p ho hp b hb
    rw [ai.aU] at ho
    obtain ⟨n,oS,h1,h2,h3⟩:=hand i o ho
    unfold cP at hp
    rw [h1] at hp
    obtain ⟨q1,q2,q3⟩:=R.sat n oS p h2 hp b hb
    refine ⟨q1,?_,q3⟩
    unfold rF
    rw [if_neg (YL n oS p b (List.mem_of_getElem? h1) h2 hp (.inr hb))]
    exact q2
 refine (wj base _ _ w vs R0 (hargs base η Z w vs R hvs) (hK.mono VT)).mono ?_
 rintro e w' ⟨u,wo,xS,rfl,mv,RY⟩
  -- names turned back
 generalize YM:rs.take ay=rk at *
 have hrkl:rk.length=ay:=by rw [<-YM];simp;omega
 have hrkn:rk.Nodup:=by rw [<-YM];exact hnd.sublist (List.take_sublist _ _)
 have hrkm:∀ (i:Nat) n,rk[i]? = some n->i<ay/\rs[i]? = some n:=by
  intro i n h
  have hi:=(List.getElem?_eq_some_iff.1 h).1
  rw [<-YM,List.getElem?_take] at h
  split at h
  . rename_i hh;exact ⟨hh,h⟩
  . cases h
 have FM:∀ n o,(fX S (rs.drop ay)).get n=some o->S.get n=some o/\n ∉ rs.drop ay:=fun n o h=>wh h
 have hnrs : ∀ n o, (fX S (rs.drop ay)).get n = some o → idxOf rk n = none → idxOf rs n = none := by
  intro n o ho e
  cases e':idxOf rs n with
  | none=>rfl
  | some i =>
    have hi:=fV e'
    exfalso
    rcases Nat.lt_or_ge i ay with hh | hh
    . refine rZ e i ?_
      rw [<-YM,List.getElem?_take,if_pos hh];exact hi
    . refine (FM n o ho).2 ?_
      refine List.mem_of_getElem? (i:=i-ay) ?_
      rw [List.getElem?_drop,show ay+(i-ay)=i by omega];exact hi
 have MR:∀ n∈rk,∃ o,(fX S (rs.drop ay)).get n=some o:=by
  intro n hn
  obtain ⟨i,hi⟩:=List.getElem?_of_mem hn
  obtain ⟨hik,hi'⟩:=hrkm i n hi
  obtain ⟨o,ho⟩:=hin n (List.mem_of_getElem? hi')
  refine ⟨o,?_⟩
  rw [yH]
  . exact ho
  . intro hd
    obtain ⟨j,hj⟩:=List.getElem?_of_mem hd
    rw [List.getElem?_drop] at hj
    have:=(List.getElem?_inj (List.getElem?_eq_some_iff.1 hi').1 hnd).1 (hi'.trans hj.symm)
    omega
 have RZ:∀ n∈rk,n<S.next:=fun n hn=>by
  obtain ⟨o,ho⟩:=MR n hn
  exact R.known n o (FM n o ho).1
 let aE:Eta:=fun n=>match idxOf rk n with | some i=>wo i | none=>if S.next<=n then wo (rk.length+(n-S.next)) else η n
 let Z':aA:=fun b=>if Seen η S ms b then none else xS b
 have VU:∀ (i:Nat) n,rk[i]? = some n->aE n=wo i:=by
  intro i n h
  show (match idxOf rk n with | some i=>wo i | none=>_)=_
  rw [VR hrkn h]
 have hidxN:∀ n,S.next<=n->idxOf rk n=none:=by
  intro n hn
  cases e:idxOf rk n with
  | none=>rfl
  | some i=>have:=RZ n (List.mem_of_getElem? (fV e));omega
 have VW:∀ n,S.next<=n->aE n=wo (rk.length+(n-S.next)):=by
  intro n hn
  show (match idxOf rk n with | some i=>wo i | none=>_)=_
  rw [hidxN n hn]
  simp only [if_pos hn]
 have hη3:∀ n,n<S.next->idxOf rk n=none->aE n=η n:=by
  intro n hn e
  show (match idxOf rk n with | some i=>wo i | none=>_)=_
  rw [e]
  simp only [if_neg (Nat.not_le.2 hn)]
 have hup:∀ n m,yE rk S.next n=some m->∀ p,wo n=some p->aE m=some p:=by
  intro n m e p hp
  unfold yE at e
  split at e
  . rw [VU n m e];exact hp
  . rename_i hn
    cases e
    rw [VW _ (by omega),show rk.length+(S.next+(n-rk.length)-S.next)=n by omega]
    exact hp
 have hzz:r0.dY=true∨xS.le Z':=by
  rcases hz with rfl | hz
  . right
    intro b c h
    show (if Seen η S [] b then none else xS b)=_
    rw [if_neg (by rintro ⟨m,hm,_⟩;simp at hm)]
    exact h
  . exact .inl hz.1
 have hzo:∀ (i:Nat) o,gY[i]? = some o->o.dY=true∨xS.le Z':=by
  intro i o ho
  rcases hz with rfl | hz
  . right
    intro b c h
    show (if Seen η S [] b then none else xS b)=_
    rw [if_neg (by rintro ⟨m,hm,_⟩;simp at hm)]
    exact h
  . exact .inl (List.all_eq_true.1 hz.2 o (List.mem_of_getElem? ho))
 have VX:∀ b,Own (cP η rs) (.ofList bL) b->Own η S b:=by
  rintro b ⟨i,o,p,ho,hp,hb⟩
  rw [ai.aU] at ho
  obtain ⟨n,oS,h1,h2,h3⟩:=hand i o ho
  unfold cP at hp
  rw [h1] at hp
  exact ⟨n,oS,p,h2,hp,hb⟩
 have hget:=VS (S:=fX S (rs.drop ay)) (os:=qv) hrkn (by omega) MR (fun n o h=>by rw [oC];exact R.known n o (FM n o h).1)
 rw [oC] at hget
 have R3:((fX S (rs.drop ay)).eT rk qv).next=S.next+(gY.length-rk.length):=by rw [RX,hl3,oC]
 -- where an object of the new store comes from
 have src : ∀ n o, ((fX S (rs.drop ay)).eT rk qv).get n = some o → (∃ (i : Nat) (o1 : Ob), gY[i]? = some o1 ∧ o1.ren (yE rk S.next) = some o ∧ aE n = wo i ∧ yE rk S.next i = some n) ∨ (idxOf rs n = none ∧ n < S.next ∧ S.get n = some o ∧ aE n = η n) := by
  intro n o ho
  rw [hget] at ho
  cases e:idxOf rk n with
  | some i =>
    rw [e] at ho
    obtain ⟨o1,h1,h2⟩:=hg3 i o ho
    have hi:=fV e
    refine .inl ⟨i,o1,h1,h2,VU i n hi,?_⟩
    unfold yE
    rw [if_pos (List.getElem?_eq_some_iff.1 hi).1];exact hi
  | none =>
    rw [e] at ho
    simp only at ho
    split at ho
    . rename_i hn
      obtain ⟨o1,h1,h2⟩:=hg3 _ o ho
      refine .inl ⟨_,o1,h1,h2,VW n hn,?_⟩
      unfold yE
      rw [if_neg (by omega)]
      congr 1;omega
    . rename_i hn
      exact .inr ⟨hnrs n o ho e,by omega,(FM n o ho).1,hη3 n (by omega) e⟩
 have vf:∀ n o p b,idxOf rs n=none->S.get n=some o->η n=some p->p.has b->¬ Own (cP η rs) (.ofList bL) b:=by
  rintro n o p b e ho hp hb0 ⟨i,o',q,ho',hq,hb⟩
  rw [ai.aU] at ho'
  obtain ⟨k,oS,h1,h2,h3⟩:=hand i o' ho'
  unfold cP at hq
  rw [h1] at hq
  exact R.js k n oS o q p b h2 ho (fun hh=>by subst hh;exact rZ e i h1) hq hp hb hb0
 have hle':η.le aE:=by
  intro n p hp
  cases e:idxOf rk n with
  | some i =>
    have hi:=fV e
    rw [VU i n hi]
    obtain ⟨hik,hi'⟩:=hrkm i n hi
    refine mv.le i p hik ?_
    unfold cP
    rw [hi'];exact hp
  | none=>rw [hη3 n (R.lt hp) e];exact hp
 have YN:Z.le Z':=by
  intro b c h
  show (if Seen η S ms b then none else xS b)=_
  rw [if_neg (by
   rintro ⟨m,_,o,p,ho,hp,hb⟩
   rw [(R.all ho hp hb).2.1] at h;cases h)]
  exact mv.step.cJ b c (VT b c h)
 have old : ∀ n o p, idxOf rs n = none → S.get n = some o → η n = some p → ∀ b, p.has b → Z' b = none := by
  intro n o p e hS hp b hb
  have hlt:=R.jB hS hp hb
  have hno:=vf n o p b e hS hp hb
  show (if Seen η S ms b then none else xS b)=_
  split
  . rfl
  . rename_i hns
    cases hc:xS b with
    | none=>rfl
    | some c =>
      rcases mv.step.gq _ c hc with hh | hh | hh
      . unfold rF at hh
        rw [if_neg hns,(R.all hS hp hb).2.1] at hh;cases hh
      . exact absurd hh hno
      . omega
 refine ⟨u,aE,Z',rfl,⟨hle',⟨?_,?_,?_,?_,?_,?_,mv.st.ga,?_⟩,⟨mv.step.os,mv.step.tape,mv.step.output,mv.step.size,?_,?_,YN,?_,ai.O8.trans wi⟩⟩,A.jM hup hzz hr RY⟩
 . intro n o p ho hp
   rcases src n o ho with ⟨i,o1,h1,h2,h3,_⟩ | ⟨e,hn,hS,h3⟩
   . rw [h3] at hp
     obtain ⟨a,b,L⟩:=mv.st.ak i o1 p (by rw [ai.aU];exact h1) hp
     refine ⟨a,?_,L.ren hup (hzo i o1 h1) h2⟩
     show (if Seen η S ms p.block then none else xS p.block)=_
     rw [b];split <;> rfl
   . rw [h3] at hp
     obtain ⟨a,b,L⟩:=R.ak n o p hS hp
     exact ⟨a,old n o p e hS hp _ p.gR,L.mono hle' YN fun b hb=>mv.step.block b (R.jB hS hp hb) (vf n o p b e hS hp hb)⟩
 . intro n o ho hp
   rcases src n o ho with ⟨i,o1,h1,h2,h3,_⟩ | ⟨e,hn,hS,h3⟩
   . rw [h3] at hp
     have h4:=mv.st.cw i o1 (by rw [ai.aU];exact h1) hp
     have h5:=(Ob.tI h2).2.1
     rw [h4] at h5
     exact List.eq_nil_of_length_eq_zero h5
   . rw [h3] at hp;exact R.cw n o hS hp
 . intro n o ho
   rw [R3]
   rcases src n o ho with ⟨i,o1,h1,h2,h3,h4⟩ | ⟨e,hn,hS,h3⟩
   . have hi:=(List.getElem?_eq_some_iff.1 h1).1
     unfold yE at h4
     split at h4
     . have:=RZ n (List.mem_of_getElem? h4);omega
     . cases h4;omega
   . omega
 . intro n n' o o' p p' b ho ho' hne hp hp' hb hb'
   rcases src n o ho with ⟨i,o1,h1,h2,h3,h4⟩ | ⟨e,hn,hS,h3⟩
   . rw [h3] at hp
     rcases src n' o' ho' with ⟨i',o1',h1',h2',h3',h4'⟩ | ⟨e',hn',YO,h3'⟩
     . rw [h3'] at hp'
       refine mv.st.js i i' o1 o1' p p' b (by rw [ai.aU];exact h1) (by rw [ai.aU];exact h1') ?_ hp hp' hb hb'
       rintro rfl
       rw [h4] at h4';cases h4';exact hne rfl
     . rw [h3'] at hp'
       rcases mv.step.own b ⟨i,o1,p,by rw [ai.aU];exact h1,hp,hb⟩ with hh | hh
       . exact vf n' o' p' b e' YO hp' hb' hh
       . have:=R.jB YO hp' hb';omega
   . rw [h3] at hp
     rcases src n' o' ho' with ⟨i',o1',h1',h2',h3',h4'⟩ | ⟨e',hn',YO,h3'⟩
     . rw [h3'] at hp'
       rcases mv.step.own b ⟨i',o1',p',by rw [ai.aU];exact h1',hp',hb'⟩ with hh | hh
       . exact vf n o p b e hS hp hb hh
       . have:=R.jB hS hp hb;omega
     . rw [h3'] at hp'
       exact R.js n n' o o' p p' b hS YO hne hp hp' hb hb'
 . intro b c hb
   have hb':(if Seen η S ms b then none else xS b)=some c:=hb
   split at hb'
   . cases hb'
   . exact mv.st.zs b c hb'
 . intro n hn
   rw [R3] at hn
   rw [VW n (by omega)]
   refine mv.st.fresh _ ?_
   show gY.length<=_
   omega
 . intro n o p ho hp b hb
   rcases src n o ho with ⟨i,o1,h1,h2,h3,_⟩ | ⟨e,hn,hS,h3⟩
   . rw [h3] at hp
     obtain ⟨q1,q2,q3⟩:=mv.st.sat i o1 p (by rw [ai.aU];exact h1) hp b hb
     refine ⟨q1,?_,q3⟩
     show (if Seen η S ms b then none else xS b)=_
     rw [q2];split <;> rfl
   . rw [h3] at hp
     obtain ⟨q1,q2,ob,q3,q4⟩:=R.sat n o p hS hp b hb
     exact ⟨q1,old n o p e hS hp b (.inr hb),ob,(mv.step.block b (R.jB hS hp (.inr hb)) (vf n o p b e hS hp (.inr hb))).trans q3,q4⟩
 . intro b hb hno
   exact mv.step.block b hb fun hh=>hno (VX b hh)
 . rintro b ⟨n,o,p,ho,hp,hb⟩
   rcases src n o ho with ⟨i,o1,h1,h2,h3,_⟩ | ⟨e,hn,hS,h3⟩
   . rw [h3] at hp
     rcases mv.step.own b ⟨i,o1,p,by rw [ai.aU];exact h1,hp,hb⟩ with hh | hh
     . exact .inl (VX _ hh)
     . exact .inr hh
   . rw [h3] at hp;exact .inl ⟨n,o,p,hS,hp,hb⟩
 . intro b c hb
   have hb':(if Seen η S ms b then none else xS b)=some c:=hb
   split at hb'
   . cases hb'
   . rename_i hns
     rcases mv.step.gq b c hb' with hh | hh | hh
     . unfold rF at hh
       rw [if_neg hns] at hh
       exact .inl hh
     . exact .inr (.inl (VX b hh))
     . exact .inr (.inr hh)
end
structure bP where
 cF:List Bool
 ay:Option Nat:=none
 f:List A->List Ob->Option (Cd×A×List Ob)
 roots:Option (List Bool):=none
abbrev bS:=List (FuncId×bP)
def look:bS->FuncId->Option bP
 | [],_=>none
 | (g,c)::l,f=>bif Nat.beq g f then some c else look l f
def enters (P:Program) (f:FuncId):Bool:=match P.funcs[f]? with | some fn=>fn.body.isSome&&!(fn.name == "runtime.NumGoroutine") | none=>false
structure aV (P:Program) (f:FuncId) (con:bP):Prop where
 enters:enters P f=true
 sem:∀ args ak c r bp,con.f args ak=some (c,r,bp)->c->bA P f (con.ay.getD ak.length) args ak r bp
def bt (P:Program) (Γ:bS):Prop:=∀ f con,look Γ f=some con->aV P f con
theorem aC {P:Program}:bt P []:=fun _ _ h=>by cases h
theorem ar {P:Program} {f:FuncId} {con:bP} {Γ:bS} (h:aV P f con) (dG:bt P Γ):bt P ((f,con)::Γ):=by
 intro g con' e
 simp only [look] at e
 cases hb:Nat.beq f g with
 | true=>rw [hb] at e;cases e;have:=Nat.eq_of_beq_eq_true hb;subst this;exact h
 | false=>rw [hb] at e;exact dG g con' e
noncomputable def Ad (S:ai):W->Option (Cd×List Int×List Nat)
 | .sl m off len sz=>bif Nat.beq sz 1 then match S.get m with
  | some o=>match Fd.list (.int .i64) o.fs with
    | some l=>some (.p (off+len<=List.length (α:=Int) l),(List.drop (α:=Int) off l).take len,[m])
    | none=>none
  | none=>none
   else none
 | .row n i len=>match tA S n with
   | some (k,ah)=>some (.p (i<ah.length/\len=k),ah.getD i [],[n])
   | none=>none
 | .rd (.int .i64) l=>some (.t,l,[])
 | _=>none
noncomputable def Hz (S:ai):W->Option (Cd×W×List Nat)
 | .sl m off len sz=>bif Nat.beq sz 1 then match S.get m with
  | some o=>match o.fs with
    | [.a _ d l]=>some (.p (off+len<=l.length),.rd d ((l.drop off).take len),[m])
    | [.c x,.c y]=>bif Nat.beq off 0&&Nat.beq len 2 then match Ad S x,Ad S y with
      | some (c1,l1,C0),some (c2,l2,MS)=>some (.and c1 c2,.rd (.sl (.int .i64)) [l1,l2],m::(C0++MS))
      | _,_=>none
      else none
    | _=>none
  | none=>none
   else none
 | .row n i len=>match tA S n with
   | some (k,ah)=>some (.p (i<ah.length/\len=k),.rd (.int .i64) (ah.getD i []),[n])
   | none=>none
 | x=>bif x.clean then some (.t,x,[]) else none
noncomputable def yI (S:ai):List W->Option (Cd×List W×List Nat)
 | []=>some (.t,[],[])
 | x::l=>match Hz S x,yI S l with | some (c,y,ms),some (c',ys,ms')=>some (.and c c',y::ys,ms++ms') | _,_=>none
noncomputable def C3 (S:ai):V->Option (Cd×V×List Nat)
 | .c x=>match Hz S x with | some (c,y,ms)=>some (c,.c y,ms) | none=>none
 | .agg cs=>match yI S cs with | some (c,ys,ms)=>some (c,.agg ys,ms) | none=>none
noncomputable def qw (S:ai):List Bool->List V->Option (Cd×List V×List Nat)
 | _,[]=>some (.t,[],[])
 | true::bs,v::vs=>match qw S bs vs with | some (c,ys,ms)=>some (c,v::ys,ms) | none=>none
 | false::bs,v::vs=>match C3 S v,qw S bs vs with | some (c,y,ms),some (c',ys,ms')=>some (.and c c',y::ys,ms++ms') | _,_=>none
 | [],v::vs=>match C3 S v,qw S [] vs with | some (c,y,ms),some (c',ys,ms')=>some (.and c c',y::ys,ms++ms') | _,_=>none
def n9 (η:Eta) (S:ai) (w:World) (ms:List Nat) (Z':aA):Prop:=∀ m∈ms,∀ o p,S.get m=some o->η m=some p->(¬ o.eV->∃ c ty fz,w.heap[p.block]? = some (.cells c ty fz)/\Z' p.block=some c)/\∀ k ah,o.iY k ah->∀ b∈p.sats,∃ c ty fz,w.heap[b]? = some (.cells c ty fz)/\Z' b=some c
section
variable {P:Program} {base:Nat} {η:Eta} {Z Z':aA} {S:ai} {w:World}
theorem n9.left {ms ms':List Nat} (h:n9 η S w (ms++ms') Z'):n9 η S w ms Z':=fun m hm=>h m (by simp [hm])
theorem n9.right {ms ms':List Nat} (h:n9 η S w (ms++ms') Z'):n9 η S w ms' Z':=fun m hm=>h m (by simp [hm])
theorem FT (R : St base η Z S w) (hle : Z.le Z') {x : W} {c : Cd} {l : List Int} {ms : List Nat} (e : Ad S x = some (c, l, ms)) (hc : c) (hs : n9 η S w ms Z') {v : Value} (r : aF η Z x v) : cH Z' (.sl (.int .i64)) l v := by
 unfold Ad at e
 split at e
 · rename_i m off len sz
   obtain ⟨h1,e1⟩:=au.aH e
   have h1':sz=1:=Nat.eq_of_beq_eq_true h1
   subst h1'
   clear e
   split at e1
   · rename_i o ho
     split at e1
     · rename_i l hfs
       cases e1
       have hc':off+len<=List.length (α:=Int) l:=hc
       have bR:o.cells=l.map (D.int .i64).w:=Fd.jE hfs
       simp only [aF] at r
       rcases r with ⟨h0,rfl⟩ | ⟨p,cap,ad,hp,rfl,hcap,hroom,had⟩
       . subst h0;exact ⟨none,0,0,rfl,by simp,Nat.le_refl _,.inl (by simp)⟩
       . by_cases h0:len=0
         . subst h0;exact ⟨some ad,0,cap,rfl,by simp,Nat.zero_le _,.inl (by simp)⟩
         . obtain ⟨cs,ty,fz,hh,hz⟩:=(hs m (by simp) o p ho hp).1 (Ob.ji bR)
           obtain ⟨_,_,L⟩:=R.ak m o p ho hp
           obtain ⟨c',AX,hc1,_,hv,_⟩:=L.there (Ob.ji bR)
           rw [hh] at hc1;cases hc1
           refine ⟨some ad,len,cap,rfl,by simp;omega,hcap,.inr ⟨p.block,p.off+off,cs,?_,hz,?_⟩⟩
           . rcases had with h | h
             . omega
             . rw [h]
           . intro i x hx
             have hx':o.cells[off+i]? = some ((D.int .i64).w x):=by
              have hx:(List.take len (List.drop (α:=Int) off l))[i]? = some x:=hx
              rw [List.getElem?_take] at hx
              split at hx
              . rw [List.getElem?_drop] at hx;rw [bR,List.getElem?_map]
                have hx:(show List Int from l)[off+i]? = some x:=hx
                exact congrArg (Option.map (D.int .i64).w) hx
              . cases hx
             obtain ⟨u,h1,h2,_⟩:=hv _ _ hx'
             exact ⟨u,by rw [<-h1];congr 1;omega,cH.mono hle (.int .i64) ((D.f6 (.int .i64)).1 h2)⟩
     . cases e1
   . cases e1
 . rename_i m i len
   split at e
   . rename_i k ah hk
     obtain ⟨o,ho,_,hto⟩:=ng hk
     cases e
     obtain ⟨hi,rfl⟩:=(hc:i<ah.length/\len=k)
     obtain ⟨p,r0,cap,ad,hp,hr,rfl,hcap,had⟩:=r
     obtain ⟨_,_,L⟩:=R.ak m o p ho hp
     have T:=L.tabs _ ah hto
     have RT:ah.getD i []=ah[i]:=by rw [List.getD_eq_getElem?_getD,List.getElem?_eq_getElem hi];rfl
     obtain ⟨hl,c1,t1,fz1,q1,_,q3,_⟩:=T.row i r0 ah[i] hr (List.getElem?_eq_getElem hi)
     obtain ⟨c2,t2,fz2,q4,q5⟩:=(hs m (by simp) o p ho hp).2 _ ah hto r0.1 (List.mem_map.2 ⟨r0,List.mem_of_getElem? hr,rfl⟩)
     rw [q1] at q4;cases q4
     rw [RT]
     rcases Nat.eq_zero_or_pos len with h0 | h0
     . exact ⟨_,len,cap,rfl,hl,hcap,.inl (List.eq_nil_of_length_eq_zero (hl.trans h0))⟩
     have had:=had h0
     subst had
     refine ⟨_,len,cap,rfl,hl,hcap,.inr ⟨r0.1,r0.2,c1,rfl,q5,fun j x hx=>⟨_,q3 j x hx,?_⟩⟩⟩
     simp only [cH]
   . cases e
 . cases e
   simp only [aF,aM] at r
   exact cH.mono hle _ r
 . cases e
theorem Jh {x:W} {c:Cd} {l:List Int} {ms:List Nat} (e:Ad S x=some (c,l,ms)):x≠.mh/\∀ k ah,x≠.th k ah:=by
 refine ⟨?_,fun k ah=>?_⟩ <;> rintro rfl <;> simp only [Ad] at e <;> cases e
theorem FU (R : St base η Z S w) (hle : Z.le Z') {x y : W} {c : Cd} {ms : List Nat} (e : Hz S x = some (c, y, ms)) (hc : c) (hs : n9 η S w ms Z') {v : Value} (r : aF η Z x v) (hx : x ≠ .ct) : aF η Z' y v ∧ y ≠ .ct := by
 unfold Hz at e
 split at e
 · rename_i m off len sz
   obtain ⟨h1,e1⟩:=au.aH e
   have h1':sz=1:=Nat.eq_of_beq_eq_true h1
   subst h1'
   clear e
   split at e1
   · rename_i o ho
     split at e1
     . rename_i k d l hfs
       cases e1
       have hc':off+len<=l.length:=hc
       refine ⟨?_,by simp⟩
       have bR:o.cells=l.map d.w:=by unfold Ob.cells;rw [hfs];simp [Fd.cells]
       simp only [aF,aM]
       rcases r with ⟨h0,rfl⟩ | ⟨p,cap,ad,hp,rfl,hcap,hroom,had⟩
       . subst h0;exact ⟨none,0,0,rfl,by simp,Nat.le_refl _,.inl (by simp)⟩
       . by_cases h0:len=0
         . subst h0;exact ⟨some ad,0,cap,rfl,by simp,Nat.zero_le _,.inl (by simp)⟩
         . obtain ⟨cs,ty,fz,hh,hz⟩:=(hs m (by simp) o p ho hp).1 (Ob.ji bR)
           obtain ⟨_,_,L⟩:=R.ak m o p ho hp
           obtain ⟨c',AX,hc1,_,hv,_⟩:=L.there (Ob.ji bR)
           rw [hh] at hc1;cases hc1
           refine ⟨some ad,len,cap,rfl,by simp;omega,hcap,.inr ⟨p.block,p.off+off,cs,?_,hz,?_⟩⟩
           . rcases had with h | h
             . omega
             . rw [h]
           . intro i x hx
             have hx':o.cells[off+i]? = some (d.w x):=by
              rw [List.getElem?_take] at hx
              split at hx
              . rw [List.getElem?_drop] at hx;rw [bR];simp [hx]
              . cases hx
             obtain ⟨u,h1,h2,_⟩:=hv _ _ hx'
             exact ⟨u,by rw [<-h1];congr 1;omega,cH.mono hle d ((D.f6 d).1 h2)⟩
     . rename_i x y hfs
       obtain ⟨h2,e2⟩:=au.aH e1
       clear e1
       simp only [Bool.and_eq_true] at h2
       have hoff:=Nat.eq_of_beq_eq_true h2.1
       have cB:=Nat.eq_of_beq_eq_true h2.2
       subst hoff cB
       split at e2
       . rename_i c1 l1 C0 c2 l2 MS g1 g2
         cases e2
         refine ⟨?_,by simp⟩
         have bR:o.cells=[x,y]:=by unfold Ob.cells;rw [hfs];rfl
         have hnm:¬ o.eV:=by
          rintro (hm | ⟨k,ah,hm⟩)
          . unfold Ob.isMap at hm;rw [bR] at hm;cases hm;exact (Jh g1).1 rfl
          . unfold Ob.iY at hm;rw [bR] at hm;cases hm;exact (Jh g1).2 _ _ rfl
         simp only [aF,aM]
         rcases r with ⟨h0,rfl⟩ | ⟨p,cap,ad,hp,rfl,hcap,hroom,had⟩
         . cases h0
         . obtain ⟨cs,ty,fz,hh,hz⟩:=(hs m (by simp) o p ho hp).1 hnm
           obtain ⟨_,_,L⟩:=R.ak m o p ho hp
           obtain ⟨c',AX,hc1,_,hv,_⟩:=L.there hnm
           rw [hh] at hc1;cases hc1
           have hs1:n9 η S w C0 Z':=fun q hq=>hs q (by simp [hq])
           have hs2:n9 η S w MS Z':=fun q hq=>hs q (by simp [hq])
           refine ⟨some ad,2,cap,rfl,rfl,hcap,.inr ⟨p.block,p.off+0,cs,?_,hz,?_⟩⟩
           . rcases had with h | h
             . omega
             . rw [h]
           . intro i z hz'
             match i,hz' with
             | 0,hz' =>
               cases hz'
               obtain ⟨u,h1,h2,_⟩:=hv 0 x (by rw [bR];rfl)
               exact ⟨u,h1,FT R hle g1 hc.1 hs1 h2⟩
             | 1,hz' =>
               cases hz'
               obtain ⟨u,h1,h2,_⟩:=hv 1 y (by rw [bR];rfl)
               exact ⟨u,h1,FT R hle g2 hc.2 hs2 h2⟩
             | i+2,hz'=>cases hz'
       . cases e2
     . cases e1
   . cases e1
 . rename_i m i len
   split at e
   . rename_i k ah hk
     obtain ⟨o,ho,_,hto⟩:=ng hk
     cases e
     obtain ⟨hi,rfl⟩:=(hc:i<ah.length/\len=k)
     obtain ⟨p,r0,cap,ad,hp,hr,rfl,hcap,had⟩:=r
     obtain ⟨_,_,L⟩:=R.ak m o p ho hp
     have T:=L.tabs _ ah hto
     have RT:ah.getD i []=ah[i]:=by rw [List.getD_eq_getElem?_getD,List.getElem?_eq_getElem hi];rfl
     obtain ⟨hl,c1,t1,fz1,q1,_,q3,_⟩:=T.row i r0 ah[i] hr (List.getElem?_eq_getElem hi)
     obtain ⟨c2,t2,fz2,q4,q5⟩:=(hs m (by simp) o p ho hp).2 _ ah hto r0.1 (List.mem_map.2 ⟨r0,List.mem_of_getElem? hr,rfl⟩)
     rw [q1] at q4;cases q4
     refine ⟨?_,by simp⟩
     simp only [aF,aM]
     rw [RT]
     rcases Nat.eq_zero_or_pos len with h0 | h0
     . exact ⟨_,len,cap,rfl,hl,hcap,.inl (List.eq_nil_of_length_eq_zero (hl.trans h0))⟩
     have had:=had h0
     subst had
     refine ⟨_,len,cap,rfl,hl,hcap,.inr ⟨r0.1,r0.2,c1,rfl,q5,fun j x hx=>⟨_,q3 j x hx,?_⟩⟩⟩
     simp only [cH]
   . cases e
 . obtain ⟨h1,e1⟩:=au.aH e
   cases e1
   exact ⟨r.mono (Eta.le.refl _) hle,hx⟩
theorem C4 (R:St base η Z S w) (hle:Z.le Z'):∀ {l r:List W} {c:Cd} {ms:List Nat} {vs:List Value},yI S l=some (c,r,ms)->c->n9 η S w ms Z'->aT (aF η Z) l vs->(∀ x∈l,x≠.ct)->aT (aF η Z') r vs/\∀ x∈r,x≠.ct
 | [],r,c,ms,vs,e,_,_,hl,_=>by simp only [yI] at e;cases e;cases vs with | nil=>exact ⟨trivial,by simp⟩ | cons _ _=>exact hl.elim
 | x :: l, r, c, ms, vs, e, hc, hs, hl, hd => by
   simp only [yI] at e
   split at e
   . rename_i c1 y C0 c2 ys MS h1 h2
     cases e
     cases vs with
     | nil=>exact hl.elim
     | cons v vs =>
       obtain ⟨a,b⟩:=FU R hle h1 hc.1 hs.left hl.1 (hd x (by simp))
       obtain ⟨a',b'⟩:=C4 R hle h2 hc.2 hs.right hl.2 (fun z hz=>hd z (by simp [hz]))
       refine ⟨⟨a,a'⟩,fun z hz=>?_⟩
       rcases List.mem_cons.1 hz with rfl | hz
       . exact b
       . exact b' z hz
   . cases e
theorem FV (R:St base η Z S w) (hle:Z.le Z') {x y:V} {c:Cd} {ms:List Nat} (e:C3 S x=some (c,y,ms)) (hc:c) (hs:n9 η S w ms Z') {v:Value} (r:dr η Z x v):dr η Z' y v:=by
 cases x with
 | c x =>
   simp only [C3] at e
   split at e
   . rename_i c1 y' C0 h1;cases e
     obtain ⟨a,b⟩:=FU R hle h1 hc hs r.2 r.1
     exact ⟨b,a⟩
   . cases e
 | agg cs =>
   simp only [C3] at e
   split at e
   . rename_i c1 ys C0 h1;cases e
     obtain ⟨vs,hv,hd,hl⟩:=r
     obtain ⟨a,b⟩:=C4 R hle h1 hc hs hl hd
     exact ⟨vs,hv,b,a⟩
   . cases e
theorem oD (R:St base η Z S w) (hle:Z.le Z'):∀ {bs:List Bool} {l r:List V} {c:Cd} {ms:List Nat} {vs:List Value},qw S bs l=some (c,r,ms)->c->n9 η S w ms Z'->aT (dr η Z) l vs->aT (dr η Z') r vs
 | bs,[],r,c,ms,vs,e,_,_,hl=>by
   have:(c,r,ms)=(.t,[],[]):=by cases bs <;> (simp only [qw] at e;cases e;rfl)
   cases this
   cases vs with
   | nil=>trivial
   | cons _ _=>exact hl.elim
 | true::bs,x::l,r,c,ms,vs,e,hc,hs,hl=>by
   simp only [qw] at e
   split at e
   . rename_i c1 ys C0 h1;cases e
     cases vs with
     | nil=>exact hl.elim
     | cons v vs=>exact ⟨hl.1.mono (Eta.le.refl _) hle,oD R hle h1 hc hs hl.2⟩
   . cases e
 | false::bs,x::l,r,c,ms,vs,e,hc,hs,hl=>by
   simp only [qw] at e
   split at e
   . rename_i c1 y C0 c2 ys MS h1 h2;cases e
     cases vs with
     | nil=>exact hl.elim
     | cons v vs=>exact ⟨FV R hle h1 hc.1 hs.left hl.1,oD R hle h2 hc.2 hs.right hl.2⟩
   . cases e
 | [],x::l,r,c,ms,vs,e,hc,hs,hl=>by
   simp only [qw] at e
   split at e
   . rename_i c1 y C0 c2 ys MS h1 h2;cases e
     cases vs with
     | nil=>exact hl.elim
     | cons v vs=>exact ⟨FV R hle h1 hc.1 hs.left hl.1,oD R hle h2 hc.2 hs.right hl.2⟩
   . cases e
theorem R4 (R:St base η Z S w) (ms:List Nat):n9 η S w ms (rF η Z S w ms):=by
 intro m hm o p ho hp
 obtain ⟨_,_,L⟩:=R.ak m o p ho hp
 refine ⟨fun hmo=>?_,fun k ah ht b hb=>?_⟩
 . obtain ⟨c,fz,hc,_⟩:=L.there hmo
   refine ⟨c,o.ty,fz,hc,?_⟩
   unfold rF
   rw [if_pos ⟨m,hm,o,p,ho,hp,.inl rfl⟩,hc]
 . obtain ⟨c,t,fz,hc⟩:=(L.tabs k ah ht).sat hb
   refine ⟨c,t,fz,hc,?_⟩
   unfold rF
   rw [if_pos ⟨m,hm,o,p,ho,hp,.inr hb⟩,hc]
theorem yJ : ∀ {ms : List Nat} {S : ai} {Z : aA}, St base η Z S w → ∃ Z', bK base η Z S w η Z' (fX S ms) w ∧ n9 η S w ms Z'
 | [],S,Z,R=>⟨Z,bK.refl R,fun m hm=>by simp at hm⟩
 | m :: ms, S, Z, R => by
   have key : ∃ Z1, bK base η Z S w η Z1 (S.del m) w ∧ ∀ o p, S.get m = some o → η m = some p → (¬ o.eV → ∃ c ty fz, w.heap[p.block]? = some (.cells c ty fz) ∧ Z1 p.block = some c) ∧ ∀ k ah, o.iY k ah → ∀ b ∈ p.sats, ∃ c ty fz, w.heap[b]? = some (.cells c ty fz) ∧ Z1 b = some c := by
    cases ho:S.get m with
    | none=>exact ⟨Z,⟨Eta.le.refl _,R.del m,Step.del m⟩,fun o p h=>by cases h⟩
    | some o =>
      cases hp:η m with
      | none=>exact ⟨Z,⟨Eta.le.refl _,R.del m,Step.del m⟩,fun o p _ h=>by cases h⟩
      | some p =>
        by_cases hmo:o.eV
        . rcases id hmo with hmp | ⟨k,ah,ht⟩
          . exact ⟨Z,⟨Eta.le.refl _,R.del m,Step.del m⟩,fun o' p' h1 _=>by cases h1;exact ⟨fun h3=>absurd hmo h3,fun k ah ht=>(Ob.EA hmp ht).elim⟩⟩
          . obtain ⟨Z1,mv,hs⟩:=R.Rq ho hp ht
            refine ⟨Z1,mv,fun o' p' h1 h2=>?_⟩
            cases h1;cases h2
            exact ⟨fun h3=>absurd hmo h3,fun _ _ _=>hs⟩
        obtain ⟨c,ty,fz,hh,mv,_⟩:=R.freeze ho hp hmo
        refine ⟨_,mv,fun o' p' h1 h2=>?_⟩
        cases h1;cases h2
        exact ⟨fun _=>⟨c,ty,fz,hh,by unfold aA.add;rw [if_pos rfl]⟩,fun k ah ht=>absurd (.inr ⟨k,ah,ht⟩) hmo⟩
   obtain ⟨Z1,FG,s1⟩:=key
   obtain ⟨Z2,gF,s2⟩:=yJ (ms:=ms) FG.st
   refine ⟨Z2,FG.trans gF,fun k hk o p ho hp=>?_⟩
   by_cases hkm:k=m
   . subst hkm
     obtain ⟨t1,t2⟩:=s1 o p ho hp
     exact ⟨fun hmo=>let ⟨c,ty,fz,h1,h2⟩:=t1 hmo;⟨c,ty,fz,h1,gF.step.cJ _ _ h2⟩,fun k' ah ht b hb=>let ⟨c,ty,fz,h1,h2⟩:=t2 k' ah ht b hb;⟨c,ty,fz,h1,gF.step.cJ _ _ h2⟩⟩
   . rcases List.mem_cons.1 hk with h | h
     . exact absurd h hkm
     . exact s2 k h o p (by rw [ai.iq,if_neg hkm];exact ho) hp
end
def W.names:W->List Nat
 | .ptr n _=>[n]
 | .pe n _ _=>[n]
 | .sl n _ _ _=>[n]
 | .func _ caps=>caps.map (·.1)
 | .mp n=>[n]
 | .ba n=>[n]
 | .fB _ n _=>[n]
 | .row n _ _=>[n]
 | .oT n _ _=>[n]
 | _=>[]
def V.names:V->List Nat
 | .c x=>x.names
 | .agg cs=>cs.flatMap W.names
def Ji (l:List Nat) (n:Nat):List Nat:=bif l.any (Nat.beq n ·) then l else l++[n]
def p9:List Bool->List V->List Nat->List Nat
 | true::bs,v::vs,acc=>p9 bs vs (v.names.foldl Ji acc)
 | false::bs,_::vs,acc=>p9 bs vs acc
 | _,_,acc=>acc
def Fd.names:Fd->List Nat
 | .c x=>x.names
 | .a _ _ _=>[]
 | .m _ _ _=>[]
 | .b _=>[]
def vg (S:ai):Nat->List Nat->List Nat
 | 0,rs=>rs
 | k+1,rs=>vg S k (rs.foldl (fun acc n=>match S.get n with | some o=>(o.fs.flatMap Fd.names).foldl Ji acc | none=>acc) rs)
def qL:List Nat->Bool
 | []=>true
 | x::l=>!(l.any (Nat.beq x ·))&&qL l
theorem jj:∀ {l:List Nat},qL l=true->l.Nodup
 | [],_=>List.nodup_nil
 | x::l,h=>by
   simp only [qL,Bool.and_eq_true,Bool.not_eq_true',List.any_eq_false,Nat.beq_eq] at h
   exact List.nodup_cons.2 ⟨fun hx=>h.1 x hx rfl,jj h.2⟩
def C5 (ms rs:List Nat):Bool:=ms.all fun m=>!(rs.any (Nat.beq m ·))
theorem yK {ms rs:List Nat} (h:C5 ms rs=true):∀ m∈ms,m ∉ rs:=by
 intro m hm hr
 simp only [C5,List.all_eq_true,Bool.not_eq_true',List.any_eq_false,Nat.beq_eq] at h
 exact h m hm m hr rfl
def C6 (S:ai) (n:Nat):Bool:=match S.get n with | some _=>true | none=>false
noncomputable def HE (Γ:bS) (S:ai) (g:FuncId) (args:List V):Option (Cd×A×ai×Bool) :=
 match look Γ g with
 | some con =>
   match qw S con.cF args with
   | some (c1, wq, ms) =>
     let rs:=(vg S 2 (p9 (con.roots.getD con.cF) args [])).filter (C6 S)
     bif qL rs && C5 ms rs then
      match gU S rs with
      | some eX => match iG (idxOf rs) eX, tH (idxOf rs) wq with
        | some bL,some r5=>match con.f (r5.map A.p) bL with
          | some (c2,r0,gY) =>
            let k:=con.ay.getD rs.length
            bif Nat.ble k rs.length&&Nat.ble k gY.length then
             match r0.ren (yE (rs.take k) S.next),iG (yE (rs.take k) S.next) gY with
             | some r,some qv=>some (.and c1 c2,r,(fX (bif ms.isEmpty||(r0.dY&&gY.all Ob.dY) then S else fX S ms) (rs.drop k)).eT (rs.take k) qv,rs.isEmpty&&(gY.isEmpty&&(ms.isEmpty||(r0.dY&&gY.all Ob.dY))))
             | _,_=>none
            else none
          | none=>none
        | _,_=>none
      | none=>none
     else none
   | none=>none
 | none=>none
section
variable {P:Program} {S:ai}
theorem jN {η:Eta} {Z:aA}:∀ {l:List V} {vs:List Value},aT (cr η Z) (l.map A.p) vs↔aT (dr η Z) l vs
 | [],[]=>Iff.rfl
 | [],_::_=>Iff.rfl
 | _::_,[]=>Iff.rfl
 | x::l,v::vs=>by
   show (cr η Z (.p x) v/\_)↔(dr η Z x v/\_)
   rw [show aT (cr η Z) (List.map A.p l) vs↔aT (dr η Z) l vs from jN]
   rfl
theorem uz {ms:List Nat}:∀ {rs:List Nat},(∀ m∈ms,m ∉ rs)->gU (fX S ms) rs=gU S rs
 | [],_=>rfl
 | n::rs,h=>by
   simp only [gU]
   rw [yH (fun hh=>h n hh (by simp)),uz (fun m hm hr=>h m hm (by simp [hr]))]
theorem Jj {Γ : bS} (dG : bt P Γ) {g : FuncId} {args : List V} {c : Cd} {r : A} {S' : ai} {b : Bool} (e : HE Γ S g args = some (c, r, S', b)) (hc : c) : Jg P g (args.map A.p) S r S' ∧ enters P g = true ∧ (b = true → S' = S) := by
 unfold HE at e
 split at e
 . rename_i con hcon
   split at e
   · rename_i c1 wq ms HF
     simp only at e
     generalize (vg S 2 (p9 (con.roots.getD con.cF) args [])).filter (C6 S)=rs at e
     obtain ⟨hb,e⟩:=au.aH e
     simp only [Bool.and_eq_true] at hb
     split at e
     . rename_i eX fM
       split at e
       . rename_i bL r5 ig hargs
         split at e
         . rename_i c2 r0 gY hf
           generalize hk:con.ay.getD rs.length=k at e
           obtain ⟨cB,e⟩:=au.aH e
           simp only [Bool.and_eq_true,Nat.ble_eq] at cB
           split at e
           . rename_i r' qv hr hos
             cases e
             have wj:=(dG g con hcon).sem _ _ _ _ _ hf hc.2
             have hol:bL.length=rs.length:=(kA ig).1.trans (lD fM).1
             rw [hol,hk] at wj
             refine ⟨?_,(dG g con hcon).enters,fun hb'=>?_⟩
             rotate_left
             . simp only [Bool.and_eq_true,List.isEmpty_iff] at hb'
               obtain ⟨h1,h2,h3⟩:=hb'
               subst h1;subst h2
               have:qv=[]:=List.eq_nil_of_length_eq_zero (kA hos).1
               subst this
               rw [h3,List.drop_nil,List.take_nil]
               rfl
             have wm:=yK hb.2
             have hnd:=jj hb.1
             have hidx:∀ (η:Eta) n m,idxOf rs n=some m->∀ p,η n=some p->cP η rs m=some p:=by
              intro η n m e p hp
              unfold cP
              rw [fV e];exact hp
             cases hm:(ms.isEmpty||(r0.dY&&gY.all Ob.dY)) with
             | true =>
               simp only [cond_true]
               refine CZ wj hnd wm fM ig cB.1 cB.2 hr hos ?_ ?_
               . simp only [Bool.or_eq_true,List.isEmpty_iff,Bool.and_eq_true] at hm
                 exact hm
               . intro base η Z w vs R hvs
                 refine jN.2 (oB (hidx η) (.inr (aA.le.refl _)) hargs ?_)
                 exact oD R (EN R ms) HF hc.1 (R4 R ms) (jN.1 hvs)
             | false =>
               simp only [cond_false]
               have hcall:Jg P g (wq.map A.p) (fX S ms) r ((fX (fX S ms) (rs.drop k)).eT (rs.take k) qv):=by
                refine CZ (ms:=[]) wj hnd (by simp) (by rw [uz wm];exact fM) ig cB.1 cB.2 (by rw [oC];exact hr) (by rw [oC];exact hos) (.inl rfl) ?_
                intro base η Z w vs R hvs
                refine jN.2 (oB (hidx η) (.inr (EN R [])) hargs (jN.1 hvs))
               intro base η Z w vs R hvs hK
               obtain ⟨Z1,mv,sees⟩:=yJ (ms:=ms) R
               refine (hcall base η Z1 w vs mv.st (jN.2 (oD R mv.step.cJ HF hc.1 sees (jN.1 hvs))) (hK.mono mv.step.cJ)).mono ?_
               rintro e1 w1 ⟨u,aE,Z',rfl,FG,hr1⟩
               exact ⟨u,aE,Z',rfl,mv.trans FG,hr1⟩
           . cases e
         . cases e
       . cases e
     . cases e
   . cases e
 . cases e
end
end Go.ax
namespace Go.ax
open Go.RowKit
open Go.au (T WF)
inductive O where
 | q (q:Q)
 | l (l:L)
 | call (f:bO) (args:List bO)
 | yL (neg:Bool) (x:bO)
structure iM where
 dst:Option Nat
 guard:Option (Nat×Bool)
 o:O
def MT (P:Program) (o:Op):Option O :=
 match o with
 | .binOp .eql t x (.const (.slice none 0 0)) _=>match P.underlying t with | some (.slice _)=>(bT x).map (.yL false) | _=>none
 | .binOp .neq t x (.const (.slice none 0 0)) _=>match P.underlying t with | some (.slice _)=>(bT x).map (.yL true) | _=>none
 | _=>none
def yM (P:Program) (sq:Bool) (o:Oper):Option O :=
 match o.op with
 | .call { callee:=.value x,args,.. }=>match bT x,n8 args.toList with | some f,some l=>some (.call f l) | _,_=>none
 | _=>match MT P o.op with | some k=>some k | none=>bif sq then (match I9 P o with | some l=>some (.l l) | none=>match tB P o.op with | some q=>some (.q q) | none=>none)
   else (match tB P o.op with | some q=>some (.q q) | none=>bif au.cI o.op then (match I9 P o with | some l=>some (.l l) | none=>none) else none)
def YP (ops:Array Oper) (o:Oper):Option (Option (Nat×Bool)) :=
 match o.guard with
 | none=>some none
 | some (j,want)=>match (ops[j]?).bind (·.dst) with | some d=>some (some (d,want)) | none=>none
def EO (nt:Nat):Option Nat->Bool
 | none=>true
 | some d=>Nat.blt d nt
def o6 (P:Program) (sq:Bool) (nt:Nat) (ops:Array Oper) (o:Oper):Option iM :=
 match YP ops o,yM P sq o with
 | some g,some k=>bif EO nt o.dst then some ⟨o.dst,g,k⟩ else none
 | _,_=>none
def jt (P:Program) (sq:Bool) (nt:Nat) (ops:Array Oper):List Oper->Option (List iM)
 | []=>some []
 | o::l=>match o6 P sq nt ops o,jt P sq nt ops l with | some x,some r=>some (x::r) | _,_=>none
inductive R1 where
 | pure (c:Cd) (v:A)
 | Jk (c:Cd) (v:A) (S:ai)
noncomputable def yN (F:Fr):bO->Option A
 | .tmp t=>match F.get t with | some (.p v)=>some (.p v) | some (.dec b)=>some (.dec b) | some (.aL vs)=>some (.aL vs) | _=>none
 | .w (.bool b)=>some (.dec b)
 | .w x=>some (.p (.c x))
 | .agg cs=>some (.p (.agg cs))
noncomputable def known (F:Fr):bO->Option Bool
 | .tmp t=>match F.get t with | some (.dec b)=>some b | _=>none
 | .w (.bool b)=>some b
 | _=>none
noncomputable def qA (F:Fr) (S:ai) (q:Q):Option (Cd×A) :=
 match q with
 | .move x=>match yN F x with
   | some v=>some (.t,v)
   | none=>match nO F x with | some (c,v)=>some (c,.p v) | none=>none
 | .pick b x y=>match known F b with
   | some true=>match yN F x with | some v=>some (.t,v) | none=>none
   | some false=>match yN F y with | some v=>some (.t,v) | none=>none
   | none=>match dN F S (.pick b x y) with | some (c,v)=>some (c,.p v) | none=>none
 | .not x=>match known F x with
   | some b=>some (.t,.dec (!b))
   | none=>match dN F S (.not x) with | some (c,v)=>some (c,.p v) | none=>none
 | q=>match dN F S q with | some (c,v)=>some (c,.p v) | none=>none
noncomputable def pQ (Γ:bS) (F:Fr) (S:ai):O->Option R1
 | .q q=>match qA F S q with | some (c,v)=>some (.pure c v) | none=>none
 | .l l=>match jT F S l with
   | some (c,v,S')=>match l with
     | .b2s _=>some (.pure c v)
     | _=>some (.Jk c v S')
   | none=>none
 | .call f args=>match fE F f,lW F args with
   | some (p,.func g caps),some (q,vs)=>match HE Γ S g (vs++caps.map fun x=>.c (.ptr x.1 x.2)) with
     | some (c,r,S',b)=>bif b then some (.pure (.and p (.and q c)) r) else some (.Jk (.and p (.and q c)) r S')
     | none=>none
   | some (p,.fB g n off),some (q,vs)=>match HE Γ S g (.c (.ptr n off)::vs) with
     | some (c,r,S',b)=>bif b then some (.pure (.and p (.and q c)) r) else some (.Jk (.and p (.and q c)) r S')
     | none=>none
   | _,_=>none
 | .yL _ _=>none
noncomputable def Jl (F:Fr):O->Option (Cd×(Bool->Prop))
 | .yL neg x=>match fE F x with
   | some (c,.nil)=>some (c,fun b=>b=!neg)
   | some (c,.sl _ _ len _)=>some (c,fun b=>(b=!neg)->len=0)
   | some (c,.rd _ l)=>some (c,fun b=>(b=!neg)->l=[])
   | _=>none
 | _=>none
section
variable {P:Program} {base nt:Nat} {η:Eta} {Z:aA} {S:ai} {w:World} {F:Fr} {a:Act}
theorem Ae (FR:bh nt η Z F a.tmps) {t:Nat} {x:A} (h:F.get t=some x):cr η Z x (a.eval (.tmp t)):=by
 obtain ⟨u,hu,hr⟩:=FR.2 t _ h
 have:a.eval (.tmp t)=u:=by simp [Act.eval,Array.getD_eq_getD_getElem?,hu]
 rw [this];exact hr
theorem wu (FR:bh nt η Z F a.tmps) {x':Operand} {x:bO} (hx:bT x'=some x) {v:A} (e:yN F x=some v):cr η Z v (a.eval x'):=by
 cases x with
 | tmp t =>
   have hx':x'=.tmp t:=by
    cases x' with
    | tmp t'=>cases hx;rfl
    | const u=>simp only [bT] at hx;split at hx <;> cases hx
    | global g=>cases hx
    | func f=>cases hx
   subst hx'
   simp only [yN] at e
   split at e
   . rename_i v' hv;cases e;exact Ae FR hv
   . rename_i b hv;cases e;exact Ae FR hv
   . rename_i vs hv;cases e;exact Ae FR hv
   . cases e
 | w y =>
   have:=eA FR hx (c:=.t) (v:=.c y) rfl trivial
   cases y with
   | bool b =>
     simp only [yN] at e
     cases e
     have h2:=this.2
     simp only [aF,aM] at h2
     exact h2
   | _=>simp only [yN] at e;cases e;exact this
 | agg cs =>
   have:=eA FR hx (c:=.t) (v:=.agg cs) rfl trivial
   simp only [yN] at e
   cases e
   exact this
theorem tK (FR:bh nt η Z F a.tmps) {x':Operand} {x:bO} (hx:bT x'=some x) {b:Bool} (e:known F x=some b):a.eval x'=.bool b:=by
 unfold known at e
 split at e
 . rename_i t
   split at e
   . rename_i b' hv
     cases e
     have hx':x'=.tmp t:=by
      cases x' with
      | tmp t'=>cases hx;rfl
      | const u=>simp only [bT] at hx;split at hx <;> cases hx
      | global g=>cases hx
      | func f=>cases hx
     subst hx'
     exact Ae FR hv
   . cases e
 . rename_i b'
   cases e
   have:=eA FR hx (c:=.t) (v:=.c (.bool b)) rfl trivial
   simpa [aF,aM] using this.2
 . cases e
def r7 (P:Program) (η:Eta) (Z:aA) (w:World) (s:Sem Next) (v:A):Prop:=∃ u,s.run P w=.ok (.value u) w/\cr η Z v u
theorem qA_ok (R : St base η Z S w) (FR : bh nt η Z F a.tmps) {o : Oper} {q : Q} (ht : tB P o.op = some q) {c : Cd} {v : A} (e : qA F S q = some (c, v)) (hc : c) : r7 P η Z w (execOp a.eval o) v := by
 have plain:∀ {c:Cd} {v':V},dN F S q=some (c,v')->c->r7 P η Z w (execOp a.eval o) (.p v'):=by
  intro c v' e hc
  obtain ⟨u,h1,h2⟩:=Rm R FR ht e hc
  exact ⟨u,h1,h2⟩
 unfold qA at e
 split at e
 . rename_i x
   split at e
   . rename_i v' hv
     cases e
     -- a move
     unfold tB at ht
     unfold execOp
     split at ht <;> rename_i hop <;> simp only [hop]
     . obtain ⟨y,hy,e2⟩:=map_some ht
       cases e2
       exact ⟨_,rfl,wu FR hy hv⟩
     . obtain ⟨y,hy,e2⟩:=map_some ht
       cases e2
       exact ⟨_,rfl,wu FR hy hv⟩
     all_goals exfalso
     all_goals first
      | (obtain ⟨y,hy,e2⟩:=map_some ht;cases e2;done)
      | (repeat' (split at ht)) <;> first | (cases ht;done) | (obtain ⟨y,hy,e2⟩:=map_some ht;cases e2;done)
   . split at e
     . rename_i c' v' hv;cases e;exact plain (by simp only [dN];exact hv) hc
     . cases e
 . rename_i b x y
   have hpick : ∃ b' x' y', o.op = .pick b' x' y' ∧ bT b' = some b ∧ bT x' = some x ∧ bT y' = some y := by
    unfold tB at ht
    split at ht
    all_goals first
     | (rename_i b' x' y' hop
        split at ht
        . rename_i h1 h2 h3
          cases ht
          exact ⟨b',x',y',hop,h1,h2,h3⟩
        . cases ht)
     | (exfalso
        first
        | (obtain ⟨y,hy,e2⟩:=map_some ht;cases e2;done)
        | (repeat' (split at ht)) <;> first | (cases ht;done) | (obtain ⟨y,hy,e2⟩:=map_some ht;cases e2;done))
   obtain ⟨b',x',y',hop,hb,hx,hy⟩:=hpick
   have hrun:∀ t:Bool,a.eval b'=.bool t->(execOp a.eval o).run P w=.ok (.value (if t then a.eval x' else a.eval y')) w:=by
    intro t ht'
    unfold execOp
    rw [hop]
    cases t <;> simp [ht',asBool]
   split at e
   . rename_i hk
     have:=hrun true (tK FR hb hk)
     split at e
     . rename_i v' hv;cases e;exact ⟨_,this,wu FR hx hv⟩
     . cases e
   . rename_i hk
     have:=hrun false (tK FR hb hk)
     split at e
     . rename_i v' hv;cases e;exact ⟨_,this,wu FR hy hv⟩
     . cases e
   . split at e
     . rename_i c' v' hv;cases e;exact plain hv hc
     . cases e
 . rename_i x
   split at e
   . rename_i b hk
     cases e
     have hq:dN F S (.not x)=some (match uS F x with | some (p,a)=>(p,.c (.bool (!a))) | none=>(.t,.c (.bool false)))->True:=fun _=>trivial
     -- the operand is known: the same answer by the plain way
     have hev:uS F x=some (.t,b):=by
      unfold known at hk
      split at hk
      . split at hk
        . rename_i b' hv;cases hk;simp [uS,nO,hv]
        . cases hk
      . cases hk;rfl
      . cases hk
     have h2:=plain (c:=.t) (v':=.c (.bool (!b))) (by simp only [dN,hev]) trivial
     obtain ⟨u,h3,h4⟩:=h2
     refine ⟨u,h3,?_⟩
     have h5:=h4.2
     simp only [aF,aM] at h5
     exact h5
   . split at e
     . rename_i c' v' hv;cases e;exact plain hv hc
     . cases e
 . split at e
   . rename_i c' v' hv;cases e;exact plain hv hc
   . cases e
theorem Af {o:Op} {k:O} (h:MT P o=some k):∃ neg x,k=.yL neg x:=by
 unfold MT at h
 split at h
 . split at h
   . cases hx:bT _ with
     | none=>rw [hx] at h;cases h
     | some y=>rw [hx] at h;cases h;exact ⟨_,_,rfl⟩
   . cases h
 . split at h
   . cases hx:bT _ with
     | none=>rw [hx] at h;cases h
     | some y=>rw [hx] at h;cases h;exact ⟨_,_,rfl⟩
   . cases h
 . cases h
theorem R5 {t el:TypeId} (hu:P.underlying t=some (.slice el)) {v:Value} {a:Option Addr} {len cap:Nat} (hv:v=.slice a len cap):(Op.equal t v (.slice none 0 0)).run P w=.ok a.isNone w:=by
 subst hv
 have key:(Op.equalIn (9999+1) t (.slice a len cap) (.slice none 0 0)).run P w=.ok a.isNone w:=by
  rw [Op.equalIn]
  simp only [Sem.run_bind,run_underlying hu,Result.andThen_ok]
  cases a <;> rfl
 exact key
theorem ZQ (FR:bh nt η Z F a.tmps) {o:Oper} {k:O} (ht:MT P o.op=some k) {c:Cd} {p:Bool->Prop} (e:Jl F k=some (c,p)) (hc:c):∃ b,p b/\r7 P η Z w (execOp a.eval o) (.p (.c (.bool b))):=by
 have key : ∀ (neg : Bool) (x : bO) (x' : Operand) (t el : TypeId), bT x' = some x → P.underlying t = some (.slice el) → (execOp a.eval o).run P w = (do pure (Next.value (.bool ((← Op.equal t (a.eval x') (.slice none 0 0)) != neg))) : Sem Next).run P w → Jl F (.yL neg x) = some (c, p) → ∃ b, p b ∧ r7 P η Z w (execOp a.eval o) (.p (.c (.bool b))) := by
  intro neg x x' t el hx hu hrun e
  have fin:∀ (ad:Option Addr) (len cap:Nat),a.eval x'=.slice ad len cap->p (ad.isNone != neg)->∃ b,p b/\r7 P η Z w (execOp a.eval o) (.p (.c (.bool b))):=by
   intro ad len cap hev hp
   refine ⟨_,hp,.bool (ad.isNone != neg),?_,⟨by simp,by simp [aF,aM]⟩⟩
   rw [hrun]
   simp [R5 hu hev]
  simp only [Jl] at e
  split at e
  . rename_i c' hv
    cases e
    have:=(aK FR hx hv hc).2
    simp only [aF,aM] at this
    exact fin _ _ _ this (by cases neg <;> rfl)
  . rename_i c' m off len sz hv
    cases e
    rcases (aK FR hx hv hc).2 with ⟨h0,hev⟩ | ⟨pl,cap,ad,_,hev,_⟩
    . exact fin _ _ _ hev (fun _=>h0)
    . exact fin _ _ _ hev (fun h=>by cases neg <;> simp at h)
  . rename_i c' d l hv
    cases e
    have:=(aK FR hx hv hc).2
    simp only [aF,aM,cH] at this
    obtain ⟨ad,len,cap,hev,_,_,h4⟩:=this
    rcases h4 with h4 | ⟨b,off,cells,h4,_⟩
    . exact fin _ _ _ hev (fun _=>h4)
    . refine fin _ _ _ hev (fun h=>?_)
      rw [h4] at h
      cases neg <;> simp at h
  . cases e
 unfold MT at ht
 split at ht
 . rename_i t x _ hop
   split at ht
   . rename_i el hu
     cases hx:bT x with
     | none=>rw [hx] at ht;cases ht
     | some y =>
       rw [hx] at ht;cases ht
       refine key false y x t el hx hu ?_ e
       unfold execOp
       rw [hop]
       have hb:binOp .eql t (a.eval x) (.slice none 0 0)=(do pure (.bool (<-Op.equal t (a.eval x) (.slice none 0 0)))):=by
        cases a.eval x <;> rfl
       have hg:eqGuard .eql t x (.const (.slice none 0 0)) (a.eval x) (.slice none 0 0)=pure ():=by
        unfold eqGuard
        cases a.eval x <;> rfl
       have hev:a.eval (.const (.slice none 0 0))=.slice none 0 0:=rfl
       simp [hev,hb,hg]
   . cases ht
 . rename_i t x _ hop
   split at ht
   . rename_i el hu
     cases hx:bT x with
     | none=>rw [hx] at ht;cases ht
     | some y =>
       rw [hx] at ht;cases ht
       refine key true y x t el hx hu ?_ e
       unfold execOp
       rw [hop]
       have hb:binOp .neq t (a.eval x) (.slice none 0 0)=(do pure (.bool (!(<-Op.equal t (a.eval x) (.slice none 0 0))))):=by
        cases a.eval x <;> rfl
       have hg:eqGuard .neq t x (.const (.slice none 0 0)) (a.eval x) (.slice none 0 0)=pure ():=by
        unfold eqGuard
        cases a.eval x <;> rfl
       have hev:a.eval (.const (.slice none 0 0))=.slice none 0 0:=rfl
       simp [hev,hb,hg]
   . cases ht
 . cases ht
end
section
variable {P:Program} {base nt:Nat} {η:Eta} {Z:aA} {S:ai} {w:World} {F:Fr} {a:Act}
def R6 (base:Nat) (η:Eta) (Z:aA) (S:ai) (w:World) (v:A) (S':ai) (o:Oper) (a:Act) (next:Act->World->Prop):Prop :=
 ∀ u w' aE Z',bK base η Z S w aE Z' S' w'->cr aE Z' v u->next (a.put o.dst u) w'
def yO (P:Program) (base:Nat) (η:Eta) (Z:aA) (S:ai) (w:World) (o:Oper) (a:Act) (v:A) (S':ai):Prop :=
 ∀ Fc,WF Fc->∀ (next:Act->World->Prop) (Q:Exit->Act->World->Prop),R6 base η Z S w v S' o a next->o.wpIn Fc 0 P a w next Q
theorem r7.does {o:Oper} {v:A} (R:St base η Z S w) (hd:∀ c,o.op≠.defer c) (h:r7 P η Z w (execOp a.eval o) v):yO P base η Z S w o a v S:=by
 intro Fc hF next Q hn
 refine ⟨fun f _=>hF.fn f,?_⟩
 rw [Oper.semAt_eq _ _ _ hd]
 obtain ⟨u,h1,h2⟩:=h
 rw [h1]
 exact hn u w η Z (bK.refl R) h2
theorem bH.does {o:Oper} {v:A} {S':ai} (hd:∀ c,o.op≠.defer c) (h:bH P base η Z S w (execOp a.eval o) v S'):yO P base η Z S w o a v S':=by
 intro Fc hF next Q hn
 refine ⟨fun f _=>hF.fn f,?_⟩
 rw [Oper.semAt_eq _ _ _ hd]
 obtain ⟨nx,u,w',aE,Z',h1,h2,h3,h4⟩:=h
 rw [h1]
 rcases h2 with rfl | ⟨rfl,rfl⟩
 . exact hn u w' aE Z' h3 h4
 . exact hn _ w' aE Z' h3 h4
theorem R7 {o:Op} {q:Q} (h:tB P o=some q):∀ c,o≠.defer c:=by
 rintro c rfl
 simp [tB] at h
theorem FW {o:Oper} {l:L} (h:I9 P o=some l):∀ c,o.op≠.defer c:=by
 intro c hc
 unfold I9 at h
 rw [hc] at h
 cases h
theorem kB {f:FuncId} (h:enters P f=true):∃ fn c,P.funcs[f]? = some fn/\fn.body=some c/\fn.name≠ "runtime.NumGoroutine" := by
 unfold enters at h
 split at h
 . rename_i fn hf
   simp only [Bool.and_eq_true,Bool.not_eq_true',beq_eq_false_iff_ne] at h
   obtain ⟨c,hc⟩:=Option.isSome_iff_exists.1 h.1
   exact ⟨fn,c,hf,hc,h.2⟩
 . cases h
theorem o7 (FR : bh nt η Z F a.tmps) : ∀ {l' : List Operand} {l : List bO}, n8 l' = some l → ∀ {c : Cd} {vs : List V}, lW F l = some (c, vs) → c → aT (dr η Z) vs (l'.map a.eval)
 | [],l,hl,c,vs,e,_=>by
   simp only [n8] at hl
   cases hl
   simp only [lW] at e
   cases e
   trivial
 | x :: l', l, hl, c, vs, e, hc => by
   simp only [n8] at hl
   split at hl
   . rename_i y hy
     split at hl
     . rename_i r hr
       cases hl
       simp only [lW] at e
       split at e
       . rename_i p v hv
         split at e
         . rename_i q vs' hvs
           cases e
           exact ⟨eA FR hy hv hc.1,o7 FR hr hvs hc.2⟩
         . cases e
       . cases e
     . cases hl
   . cases hl
theorem FX {caps:List (Nat×Nat)} {cs:List Value} (h:aT (fP η) caps cs):aT (dr η Z) (caps.map fun x=>V.c (.ptr x.1 x.2)) cs:=by
 induction caps generalizing cs with
 | nil=>cases cs with | nil=>trivial | cons _ _=>exact h.elim
 | cons x l ih=>cases cs with | nil=>exact h.elim | cons y m=>exact ⟨⟨by simp,h.1⟩,ih h.2⟩
def R1.cd:R1->Cd
 | .pure c _=>c
 | .Jk c _ _=>c
def R1.v:R1->A
 | .pure _ v=>v
 | .Jk _ v _=>v
def R1.st (S:ai):R1->ai
 | .pure _ _=>S
 | .Jk _ _ S'=>S'
theorem C8 {Γ : bS} (dG : bt P Γ) (hT : gT P Z) {sq : Bool} (R : St base η Z S w) (FR : bh nt η Z F a.tmps) {o : Oper} {k : O} (ht : yM P sq o = some k) {r : R1} (e : pQ Γ F S k = some r) (hc : r.cd) : yO P base η Z S w o a r.v (r.st S) := by
 have hq:∀ q,tB P o.op=some q->k=.q q->yO P base η Z S w o a r.v (r.st S):=by
  rintro q hq rfl
  simp only [pQ] at e
  split at e
  . rename_i c v hv
    cases e
    exact r7.does R (R7 hq) (qA_ok R FR hq hv hc)
  . cases e
 have hl : ∀ l, I9 P o = some l → k = .l l → yO P base η Z S w o a r.v (r.st S) := by
  rintro l hl rfl
  simp only [pQ] at e
  split at e
  . rename_i c v S' hv
    split at e
    . rename_i x
      cases e
      have hS : S' = S := by
       simp only [jT] at hv
       split at hv
       . split at hv
         . cases hv
         . split at hv
           . cases hv;rfl
           split at hv
           . cases hv;rfl
           . cases hv
       . cases hv
      subst hS
      exact bH.does (FW hl) (RU R FR hl hv hc)
    . cases e
      exact bH.does (FW hl) (RU R FR hl hv hc)
  . cases e
 unfold yM at ht
 split at ht
 . rename_i x args ts hop
   split at ht
   . rename_i f l hf hal
     cases ht
     simp only [pQ] at e
     split at e
     . rename_i p g caps q vs yP kS
       split at e
       . rename_i c r0 S' b hcall
         have hcd:r.cd=.and p (.and q c)/\r.v=r0/\r.st S=(if b=true then S else S'):=by
          cases b with
          | true=>simp only [cond_true] at e;cases e;exact ⟨rfl,rfl,rfl⟩
          | false=>simp only [cond_false] at e;cases e;exact ⟨rfl,rfl,rfl⟩
         rw [hcd.1] at hc
         obtain ⟨hp,l8,hc'⟩:=hc
         obtain ⟨uO,hent,hsame⟩:=Jj dG hcall hc'
         have hst:r.st S=S':=by
          rw [hcd.2.2]
          split
          . rename_i hb;exact (hsame hb).symm
          . rfl
         rw [hst,hcd.2.1]
         intro Fc hF next Q hn
         refine ⟨fun f _=>hF.fn f,?_⟩
         have hd:∀ c,o.op≠.defer c:=fun c hc=>by rw [hop] at hc;cases hc
         rw [Oper.semAt_eq _ _ _ hd]
         obtain ⟨_,cs,yQ,hcs⟩:=aK FR hf yP hp
         have hvs:=o7 FR hal kS l8
         obtain ⟨fn,body,h1,h2,h3⟩:=kB hent
         have wv:(execOp a.eval o).run P w=.ok (.enter g ((args.toList.map a.eval).toArray++cs.toArray)) w:=by
          unfold execOp
          rw [hop]
          have hargs:(args.toList.map a.eval).toArray=args.map a.eval:=by apply Array.ext';simp
          simp only [resolve,yQ,Deferred.ofValue,pure_bind,invoke,hargs]
          have:(#[]:Array Value)++args.map a.eval=args.map a.eval:=by simp
          rw [this]
          simp [callFunc,h1,h3,h2]
         rw [wv]
         refine ⟨hF.depth,hF.calls ?_⟩
         have happ:(args.toList.map a.eval).toArray++cs.toArray=(args.toList.map a.eval++cs).toArray:=by simp
         rw [happ]
         refine (uO base η Z w _ R (jN.2 (hvs.append (FX hcs))) hT).mono ?_
         rintro e1 w1 ⟨u,aE,Z',rfl,mv,hr1⟩
         exact hn u w1 aE Z' mv hr1
       . cases e
     . rename_i p g n off q vs yP kS
       split at e
       . rename_i c r0 S' b hcall
         have hcd:r.cd=.and p (.and q c)/\r.v=r0/\r.st S=(if b=true then S else S'):=by
          cases b with
          | true=>simp only [cond_true] at e;cases e;exact ⟨rfl,rfl,rfl⟩
          | false=>simp only [cond_false] at e;cases e;exact ⟨rfl,rfl,rfl⟩
         rw [hcd.1] at hc
         obtain ⟨hp,l8,hc'⟩:=hc
         obtain ⟨uO,hent,hsame⟩:=Jj dG hcall hc'
         have hst:r.st S=S':=by
          rw [hcd.2.2]
          split
          . rename_i hb;exact (hsame hb).symm
          . rfl
         rw [hst,hcd.2.1]
         intro Fc hF next Q hn
         refine ⟨fun f _=>hF.fn f,?_⟩
         have hd:∀ c,o.op≠.defer c:=fun c hc=>by rw [hop] at hc;cases hc
         rw [Oper.semAt_eq _ _ _ hd]
         obtain ⟨_,pu,yQ,MP⟩:=aK FR hf yP hp
         have hvs:=o7 FR hal kS l8
         obtain ⟨fn,body,h1,h2,h3⟩:=kB hent
         have wv:(execOp a.eval o).run P w=.ok (.enter g (pu::args.toList.map a.eval).toArray) w:=by
          unfold execOp
          rw [hop]
          have hargs:#[pu]++args.map a.eval=(pu::args.toList.map a.eval).toArray:=by apply Array.ext';simp
          simp only [resolve,yQ,Deferred.ofValue,pure_bind,invoke,hargs]
          have:(pu::args.toList.map a.eval).toArray++(#[]:Array Value)=(pu::args.toList.map a.eval).toArray:=by simp
          first | rw [this] | skip
          simp [callFunc,h1,h3,h2]
         rw [wv]
         refine ⟨hF.depth,hF.calls ?_⟩
         refine (uO base η Z w (pu::args.toList.map a.eval) R (jN.2 ⟨⟨by simp,MP⟩,hvs⟩) hT).mono ?_
         rintro e1 w1 ⟨u,aE,Z',rfl,mv,hr1⟩
         exact hn u w1 aE Z' mv hr1
       . cases e
     . cases e
   . cases ht
 . split at ht
   . rename_i k' hk'
     cases ht
     obtain ⟨neg,x,rfl⟩:=Af hk'
     simp only [pQ] at e
     cases e
   cases sq with
   | true =>
     simp only [cond_true] at ht
     split at ht
     . rename_i l hl';cases ht;exact hl l hl' rfl
     . split at ht
       . rename_i q l8;cases ht;exact hq q l8 rfl
       . cases ht
   | false =>
     simp only [cond_false] at ht
     split at ht
     . rename_i q l8;cases ht;exact hq q l8 rfl
     . obtain ⟨_,ht⟩:=au.aH ht
       split at ht
       . rename_i l hl';cases ht;exact hl l hl' rfl
       . cases ht
end
inductive Gd where
 | run
 | skip
 | cond (g:Prop)
 | bool (d:Nat) (b want:Bool)
noncomputable def guardE (F:Fr):Option (Nat×Bool)->Option Gd
 | none=>some .run
 | some (d,want)=>match F.get d with
   | some (.dec b)=>bif b == want then some .run else some .skip
   | some (.p (.c (.bool b)))=>some (.bool d b want)
   | some (.cond c (.c (.bool b)))=>some (.cond (c/\b=want))
   | some (.aL [])=>some .skip
   | _=>none
noncomputable def eN (F:Fr):Option Nat->A->Fr
 | none,_=>F
 | some d,v=>au.T.set F d v
section
variable {P:Program} {base nt:Nat} {η:Eta} {Z:aA} {S:ai} {w:World} {F:Fr} {a:Act}
theorem qd (FR:bh nt η Z F a.tmps) {dst:Option Nat} (hd:EO nt dst=true) {v:A} {u:Value} (h:cr η Z v u):bh nt η Z (eN F dst v) (a.put dst u).tmps:=by
 cases dst with
 | none=>exact FR
 | some d=>exact FR.set (by simpa [EO,Nat.blt_eq] using hd) h
def Gd.when:Gd->Prop
 | .run=>True
 | .skip=>False
 | .cond g=>g
 | .bool _ b want=>b=want
theorem jd (FR:bh nt η Z F a.tmps) {ops:Array Oper} {o:Oper} {g:Option (Nat×Bool)} (hg:YP ops o=some g) {k:Gd} (e:guardE F g=some k):(Region.wanted o (yielded ops a.tmps)=true)↔k.when:=by
 unfold YP at hg
 unfold Region.wanted
 split at hg
 . rename_i hn
   cases hg
   simp only [guardE] at e
   cases e
   rw [hn]
   simp [Gd.when]
 . rename_i j want hn
   split at hg
   . rename_i d hd
     cases hg
     rw [hn]
     simp only
     unfold yielded
     rw [hd]
     simp only [Option.bind_some]
     simp only [guardE] at e
     split at e
     . rename_i b hb
       obtain ⟨v,hv,hr⟩:=FR.2 d _ hb
       have hr':v=.bool b:=hr
       subst hr'
       rw [hv]
       cases b <;> cases want <;> (cases e;simp [Gd.when])
     . rename_i b hb
       cases e
       obtain ⟨v,hv,hr⟩:=FR.2 d _ hb
       have hr':v=.bool b:=by have:=hr.2;simpa [aF,aM] using this
       subst hr'
       rw [hv]
       simp [Gd.when]
     . rename_i c b hb
       cases e
       obtain ⟨v,hv,hr⟩:=FR.2 d _ hb
       by_cases hc:c
       . have hr':v=.bool b:=by have:=(hr.1 hc).2;simpa [aF,aM] using this
         subst hr'
         rw [hv]
         simp [Gd.when,hc]
       . have hr':v=undef:=hr.2 hc
         subst hr'
         rw [hv]
         simp [Gd.when,hc,undef]
     . rename_i hb
       cases e
       obtain ⟨v,hv,hr⟩:=FR.2 d _ hb
       obtain ⟨vs,hvv,hl⟩:=hr
       rw [hv,hvv]
       simp [Gd.when]
     . cases e
   . cases hg
end
section
variable {P:Program} {base nt:Nat} {η:Eta} {Z:aA} {S:ai} {w:World} {F:Fr} {a:Act}
theorem gH {sq:Bool} {ops:Array Oper} {o:Oper} {x:iM} (h:o6 P sq nt ops o=some x):x.dst=o.dst/\YP ops o=some x.guard/\yM P sq o=some x.o/\EO nt o.dst=true:=by
 unfold o6 at h
 split at h
 . rename_i g k hg hk
   obtain ⟨hd,h⟩:=au.aH h
   cases h
   exact ⟨rfl,hg,hk,hd⟩
 . cases h
theorem put_defers (a:Act) (dst:Option Nat) (u:Value):(a.put dst u).defers=a.defers:=by cases dst <;> rfl
theorem FY:cr η Z (.aL []) undef:=⟨[],rfl,trivial⟩
theorem cd_imp {c:Cd} {g:Prop} {k:Prop} (h:gE (c.list.map (g->·)) k):(g->c)/\k:=by
 have:=iw (c:=.imp g c) (k:=k) h
 exact this
end
end Go.ax
