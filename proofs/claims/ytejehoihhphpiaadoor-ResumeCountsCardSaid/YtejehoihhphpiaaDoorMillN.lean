/- A verified evaluator for the model. It holds for every program and every world, under the hypotheses that each theorem names. -/
import Derived.Test.YtejehoihhphpiaaDoorMillM
namespace Go.Mill
open Go.RowKit

/-! ### unsafe pointers, the bytes of a Builder -/
theorem Rel.shape {base:Nat} {ρ:Rho} {h:H} {w:World} (R:Rel base ρ h w) {id:Nat} {b:Blk} {p:Place} (hb:h.blk id=some b) (hp:ρ id=some p) :
 ∃ n,w.shape? p.block=some (b.ty,n)/\p.off+p.room<=n/\b.size<=p.room/\(b.ex=true->p.off=0/\n=b.size):=by
 obtain ⟨q,hq,L⟩:=R.cells id b hb
 rw [hp] at hq;cases hq
 obtain ⟨c,fz,hc,hs,_,_,hx⟩:=L.there
 exact ⟨c.size,by simp [World.shape?,hc],hs,L.size,hx⟩
theorem seenAt_run {P:Program} {w:World} {a:Addr} {s:TypeId×Nat} (h:w.shape? a.block=some s):(Conv.seenAt a).run P w=.ok a w:=by
 simp [Conv.seenAt,viewAt,h]
noncomputable def toUnsafeE (P:Program) (h:H) (src dst:TypeId) (x:CV):Option AV :=
 match P.underlying src,P.underlying dst,x with
 | some (.pointer t),some .unsafePointer,.ptr id off=>match szOf P t,h.blk id with
   | some n,some b=>bif Nat.blt 0 n&&Nat.blt off b.size then some (.p (.c (.ptr id off))) else none
   | _,_=>none
 | some .unsafePointer,some (.pointer u),.ptr id off=>match szOf P u,h.blk id with
   | some n,some b=>bif Nat.blt 0 n&&(b.ex&&liesAt P P.depth b.ty (b.size / P.cellsOf b.ty) off u 1) then some (.p (.c (.ptr id off))) else none
   | _,_=>none
 | _,_,_=>none
theorem toUnsafeE_ok {base:Nat} {ρ:Rho} {h:H} {w:World} {P:Program} (R:Rel base ρ h w) {src dst:TypeId} {x:CV} {u:Value} {v:AV} (hx:CRel ρ x u) (e:toUnsafeE P h src dst x=some v) :
 Good base ρ w P (convert src dst u) v h:=by
 unfold toUnsafeE at e
 split at e
 . rename_i t id off hs hd
   obtain ⟨p,hp,rfl⟩:=hx
   split at e
   . rename_i n b hn hb
     obtain ⟨hc,e⟩:=bif_some e
     cases e
     simp only [Bool.and_eq_true,Nat.blt_eq] at hc
     obtain ⟨N,hsh,hroom,hsz,_⟩:=R.shape hb hp
     refine Good.still (u:=.pointer (some ⟨p.block,p.off+off,none⟩)) R ?_ ⟨p,hp,rfl⟩
     have hnn:n≠0:=by omega
     have hlt:¬ (p.off+off≥N):=by omega
     simp only [convert,Sem.run_bind,run_underlying hs,run_underlying hd,Result.andThen_ok,Conv.unsafePointer,seenAt_run (a:=⟨p.block,p.off+off,none⟩) hsh]
     simp [cellsIn,hsh,szOf_run hn,hnn]
     omega
   . cases e
 . rename_i t id off hs hd
   obtain ⟨p,hp,rfl⟩:=hx
   split at e
   . rename_i n b hn hb
     obtain ⟨hc,e⟩:=bif_some e
     cases e
     simp only [Bool.and_eq_true,Nat.blt_eq] at hc
     obtain ⟨N,hsh,hroom,hsz,hex⟩:=R.shape hb hp
     obtain ⟨h0,hN⟩:=hex hc.2.1
     refine Good.still (u:=.pointer (some ⟨p.block,p.off+off,none⟩)) R ?_ ⟨p,hp,rfl⟩
     have hnn:n≠0:=by omega
     have hl:=hc.2.2
     simp only [convert,Sem.run_bind,run_underlying hs,run_underlying hd,Result.andThen_ok,Conv.unsafePointer,seenAt_run (a:=⟨p.block,p.off+off,none⟩) hsh]
     simp [szOf_run hn,hnn,variablesAt,hsh,h0,hN,hl]
   . cases e
 . cases e
noncomputable def sliceDataE (x:CV):Option AV :=
 match x with
 | .nilslice=>some (.p (.c .nilptr))
 | .slice id off _ cap _ _=>bif Nat.blt 0 cap then some (.p (.c (.ptr id off))) else none
 | _=>none
theorem sliceDataE_ok {base:Nat} {ρ:Rho} {h:H} {w:World} {P:Program} (R:Rel base ρ h w) {ts:Array TypeId} {ty:TypeId} {x:CV} {u:Value} {v:AV} (hx:CRel ρ x u) (e:sliceDataE x=some v) :
 Good base ρ w P (Builtin.unsafeSliceData_ ts ty #[u]) v h:=by
 unfold sliceDataE at e
 split at e
 . cases e;cases hx;exact Good.still (u:=.pointer none) R rfl rfl
 . obtain ⟨p,c,hp,rfl,hcap,_⟩:=hx
   obtain ⟨hb,e⟩:=bif_some e
   cases e
   simp only [Nat.blt_eq] at hb
   exact Good.still (u:=.pointer (some ⟨p.block,_,none⟩)) R (Lib.run_unsafeSliceData_row w ts ty _ _ c (by omega)) ⟨p,hp,rfl⟩
 . cases e
noncomputable def Blk.locked (b:Blk) (k:Nat):Blk:=bif b.hi then { b with rw:=false } else { b with lo:=bif Nat.ble b.lo k then k else b.lo }
noncomputable def H.lock (h:H) (id:Nat) (b:Blk) (k:Nat):H:={ h with objs:=h.objs.set id (.cells (b.locked k)),fams:=h.narrow b.fam id }
theorem Rel.lock {base:Nat} {ρ:Rho} {h:H} {w:World} (R:Rel base ρ h w) {id:Nat} {b:Blk} {p:Place} (hb:h.blk id=some b) (hp:ρ id=some p) (hrw:b.rw=true) (a:Addr) (ha:a.block=p.block) (n k:Nat) (hk:a.off+n<=p.off+k) :
 Rel base ρ (h.lock id b k) (w.freeze a n):=by
 obtain ⟨ho,hl⟩:=H.blk_objs hb
 have hid:=R.blk_lt hb
 have hfl:b.fam<h.next:=Nat.lt_of_le_of_lt (R.famle' hb) hid
 obtain ⟨q,hq,L⟩:=R.cells id b hb
 rw [hp] at hq;cases hq
 generalize hh:h.lock id b k=h'
 have hfam:h'.fams=h.narrow b.fam id:=by rw [<-hh];rfl
 have hobj:∀ j,h'.objs.get j=if j=id then some (.cells (b.locked k)) else h.objs.get j:=by intro j;rw [<-hh];simp [H.lock,T.get_set]
 have hnext:h'.next=h.next:=by rw [<-hh];rfl
 have hng:h'.ng=h.ng:=by rw [<-hh];rfl
 have lv:=fun g id'=>live_narrow hl ⟨hfl,hid⟩ (g:=g) (id':=id') h' hfam
 have hlf:(b.locked k).fam=b.fam:=by unfold Blk.locked;cases b.hi <;> rfl
 have bself:h'.blk id=some (b.locked k):=H.blk_of (by rw [hobj,if_pos rfl]) (by rw [hlf];exact ((lv b.fam id).1 rfl).2 rfl)
 have bother:∀ j b',j≠id->h'.blk j=some b'->h.blk j=some b'/\b'.fam≠b.fam:=by
  intro j b' hj e'
  obtain ⟨ho',hl'⟩:=H.blk_objs e'
  rw [hobj,if_neg hj] at ho'
  by_cases hf:b'.fam=b.fam
  . exact absurd (((lv b'.fam j).1 hf).1 hl') hj
  . exact ⟨H.blk_of ho' (((lv b'.fam j).2 hf)▸hl'),hf⟩
 have hkeep:∀ k,k≠p.block->(w.freeze a n).heap[k]? = w.heap[k]?:=by
  intro k hk
  unfold World.freeze
  split
  . rfl
  . simp only [Array.getElem?_modify];rw [if_neg (by omega)]
 have hfar:∀ j b',j≠id->h'.blk j=some b'->∀ q,ρ j=some q->q.block≠p.block:=by
  intro j b' hj e' q hq
  obtain ⟨e1,hf⟩:=bother j b' hj e'
  exact fun he=>R.sep id j b b' p q hb e1 hp hq (Ne.symm hf) hrw he.symm
 obtain ⟨c,fz,hc,hs,hv,hfz,hxx⟩:=L.there
 have hlok : b.lo ≤ (bif Nat.ble b.lo k then k else b.lo) ∧ k ≤ (bif Nat.ble b.lo k then k else b.lo) := by
  cases hh:Nat.ble b.lo k with
  | true=>simp only [cond_true];exact ⟨by simpa [Nat.ble_eq] using hh,Nat.le_refl _⟩
  | false =>
    simp only [cond_false]
    refine ⟨Nat.le_refl _,?_⟩
    rcases Nat.lt_or_ge b.lo k with h1 | h1
    . have:Nat.ble b.lo k=true:=by simp [Nat.ble_eq];omega
      rw [hh] at this;cases this
    . exact h1
 have hnew : ∃ fz', (w.freeze a n).heap[p.block]? = some (.cells c b.ty fz') ∧ ((b.locked k).rw = true → FzOk (b.locked k) p.off c.size fz') := by
  have h0:=hfz hrw
  have hmk:∀ fz':Nat×Nat,(b.hi=false->fz'.1<=fz'.2/\(fz'.1<fz'.2->fz'.2<=p.off+(bif Nat.ble b.lo k then k else b.lo)))->((b.locked k).rw=true->FzOk (b.locked k) p.off c.size fz'):=by
   intro fz' hx hr
   unfold Blk.locked at hr ⊢
   cases hh:b.hi with
   | true=>rw [hh] at hr;simp at hr
   | false =>
     obtain ⟨x1,x2⟩:=hx hh
     simp only [cond_false]
     refine ⟨fun o ho1 ho2 ho3=>?_,fun _=>⟨x1,x2⟩⟩
     simp only at ho1
     have:=x2 (by omega)
     omega
  unfold World.freeze
  split
  . exact ⟨fz,hc,hmk fz fun hh=>⟨(h0.2 hh).1,fun hx=>by have:=(h0.2 hh).2 hx;omega⟩⟩
  . obtain ⟨lo,hi⟩:=fz
    simp only [Array.getElem?_modify,ha,if_pos,hc,Option.map_some]
    refine ⟨_,rfl,hmk _ fun hh=>?_⟩
    have h1:=h0.2 hh
    simp only at h1
    by_cases hlh:lo=hi
    . subst hlh
      simp only [beq_self_eq_true,if_pos]
      exact ⟨by omega,fun _=>by omega⟩
    . have hb:(lo == hi)=false:=by simpa using hlh
      simp only [hb,if_neg (by simp:¬ (false=true))]
      have:=h1.2 (by omega)
      refine ⟨by omega,fun _=>?_⟩
      omega
 obtain ⟨fz',hc',hfz'⟩:=hnew
 have hlsize:(b.locked k).size=b.size/\(b.locked k).ty=b.ty/\(b.locked k).data=b.data/\(b.locked k).fam=b.fam/\(b.locked k).ex=b.ex:=by
  unfold Blk.locked
  cases b.hi <;> exact ⟨rfl,rfl,rfl,rfl,rfl⟩
 have hsize:(w.freeze a n).heap.size=w.heap.size:=by unfold World.freeze;split <;> simp
 constructor
 . intro j b' e'
   by_cases hj:j=id
   . subst hj
     rw [bself] at e';cases e'
     exact ⟨p,hp,⟨c,fz',by rw [hlsize.2.1];exact hc',hs,by rw [hlsize.1,hlsize.2.2.1];exact hv,hfz',by rw [hlsize.2.2.2.2,hlsize.1];exact hxx⟩,by rw [hlsize.1];exact L.size,fun _=>L.own hrw⟩
   . obtain ⟨e1,hf⟩:=bother j b' hj e'
     obtain ⟨q,hq,L'⟩:=R.cells j b' e1
     exact ⟨q,hq,L'.mono (Rho.le.refl _) (hkeep _ (hfar j b' hj e' q hq))⟩
 . intro j o e'
   rw [hobj] at e'
   by_cases hj:j=id
   . subst hj;rw [if_pos rfl] at e';cases e';exact ⟨p,hp,trivial⟩
   . rw [if_neg hj] at e'
     obtain ⟨q,hq,L'⟩:=R.objs j o e'
     refine ⟨q,hq,?_⟩
     cases o with
     | cells b'=>trivial
     | loop r =>
       refine L'.mono (Rho.le.refl _) (hkeep _ ?_)
       rintro hqe
       obtain ⟨_,ob,hob,_,_,_,rfl,_⟩:=L'
       rw [hqe,hc] at hob;cases hob
     | dfr od =>
       refine L'.mono (Rho.le.refl _) (hkeep _ ?_)
       rintro hqe
       have hob:=L'.2
       rw [hqe,hc] at hob;cases hob
     | map es clock =>
       refine L'.mono (Rho.le.refl _) (hkeep _ ?_)
       rintro hqe
       obtain ⟨_,es',hob,_⟩:=L'
       rw [hqe,hc] at hob;cases hob
 . intro j j' o1 o2 p1 p2 e1 e2 q1 q2 hne h1 h2
   rw [hobj] at e1 e2
   by_cases hj:j=id
   . rw [if_pos hj] at e1;cases e1;cases q1
   . by_cases hj':j'=id
     . rw [if_pos hj'] at e2;cases e2;cases q2
     . rw [if_neg hj] at e1;rw [if_neg hj'] at e2;exact R.inj _ _ _ _ _ _ e1 e2 q1 q2 hne h1 h2
 . intro j j' b1 b2 p1 p2 e1 e2 h1 h2 hf hr
   by_cases hj:j=id
   . subst hj;rw [bself] at e1;cases e1
     rw [hp] at h1;cases h1
     by_cases hj':j'=j
     . subst hj';rw [bself] at e2;cases e2;exact absurd rfl hf
     . exact fun he=>hfar j' b2 hj' e2 p2 h2 he.symm
   . obtain ⟨f1,g1⟩:=bother j b1 hj e1
     by_cases hj':j'=id
     . subst hj';rw [hp] at h2;cases h2;exact hfar j b1 hj e1 p1 h1
     . exact R.sep j j' b1 b2 p1 p2 f1 (bother j' b2 hj' e2).1 h1 h2 hf hr
 . intro j j' b1 b2 p1 p2 e1 e2 h1 h2 hf hle hbk
   by_cases hj:j=id
   . subst hj
     by_cases hj':j'=j
     . subst hj';rw [e1] at e2;cases e2;rw [h1] at h2;cases h2;exact Nat.le_refl _
     . rw [bself] at e1;cases e1
       exact absurd (hf.symm.trans hlf) (bother j' b2 hj' e2).2
   . by_cases hj':j'=id
     . subst hj';rw [bself] at e2;cases e2;exact absurd (hf.trans hlf) (bother j b1 hj e1).2
     . exact R.ends j j' b1 b2 p1 p2 (bother j b1 hj e1).1 (bother j' b2 hj' e2).1 h1 h2 hf hle hbk
 . intro j hj;rw [hnext] at hj;exact R.fresh j hj
 . intro j q hq;rw [hsize];exact R.lt j q hq
 . intro j b' e'
   rw [hobj] at e'
   by_cases hj:j=id
   . subst hj;rw [if_pos rfl] at e';cases e';rw [hlf];exact Rel.famle' (b:=b) R hb
   . rw [if_neg hj] at e';exact R.famle _ _ e'
 . rw [hfam,hnext];exact narrow_ok ⟨hfl,hid⟩ R.famok
 . intro j b' e'
   rw [hobj] at e'
   have key:(h.fams.get b'.fam=none->j=b'.fam)/\(∀ lo hi mx,h.fams.get b'.fam=some (lo,hi,mx)->j<=mx):=by
    by_cases hj:j=id
    . subst hj;rw [if_pos rfl] at e';cases e';rw [hlf];exact R.fammx j b ho
    . rw [if_neg hj] at e';exact R.fammx _ _ e'
   rw [hfam]
   refine ⟨fun h0=>key.1 ((narrow_mx _).1.1 h0),fun lo hi mx h0=>?_⟩
   obtain ⟨lo',hi',h1⟩:=(narrow_mx _).2 lo hi mx h0
   exact key.2 _ _ _ h1
 . intro j q hj hq;rw [hng] at hj;exact R.glob j q hj hq
 . rw [hng,hnext];exact R.ngle
 . rw [hsize];exact R.basele
theorem liesAt_bytes_off {P:Program} {e:TypeId} (hc:P.cellsOf e=1) (count off n:Nat) (hn:off+n<=count):liesAt P P.depth e count off e n=true:=by
 have hd:P.depth=(2*(P.types.size+Made.depth)+1)+1:=rfl
 rw [hd]
 simp only [liesAt,Bool.or_eq_true]
 left
 rw [hd]
 simp [rowAt,hc,hn,sameLayout,Nat.mod_one]
noncomputable def intBytes (l:List Int):Option (List UInt8):=List.rec (some []) (fun n _ ih=>bif Nat.blt n.toNat 256&&decide (0<=n) then (match ih with | some r=>some (UInt8.ofNat n.toNat::r) | none=>none) else none) l
theorem intBytes_cons {n:Int} {l:List Int}:intBytes (n::l)=bif Nat.blt n.toNat 256&&decide (0<=n) then (match intBytes l with | some r=>some (UInt8.ofNat n.toNat::r) | none=>none) else none:=rfl
theorem intBytes_eq:∀ {l:List Int} {r:List UInt8},intBytes l=some r->l=r.map fun b=>(b.toNat:Int)
 | [],r,e=>by
   have:r=[]:=(Option.some.inj (show some []=some r from e)).symm
   subst this;rfl
 | n :: l, r, e => by
   rw [intBytes_cons] at e
   obtain ⟨hb,e⟩:=bif_some e
   simp only [Bool.and_eq_true,Nat.blt_eq,decide_eq_true_eq] at hb
   cases e1:intBytes l with
   | none=>rw [e1] at e;cases e
   | some s =>
     rw [e1] at e;cases e
     rw [intBytes_eq e1]
     simp only [List.map_cons,List.cons.injEq]
     refine ⟨?_,by simp⟩
     rw [UInt8.toNat_ofNat']
     have:n.toNat % 2 ^ 8=n.toNat:=Nat.mod_eq_of_lt hb.1
     rw [this];omega
theorem rdL_le {h:H} {id:Nat} {b:Blk} (hb:h.blk id=some b):∀ {n i:Nat} {cs:List CV},rdL h id i n=some cs->0<n->i+n<=b.size
 | 0,_,_,_,h=>absurd h (Nat.lt_irrefl _)
 | n + 1, i, cs, e, _ => by
   rw [rdL_succ] at e
   cases e1:rd h id i with
   | none=>rw [e1] at e;cases e
   | some x =>
     have hi:i<b.size:=by
      unfold rd at e1;rw [hb] at e1
      have:=(bif_some e1).1
      simpa [Nat.blt_eq] using this
     rw [e1] at e;simp only at e
     cases e2:rdL h id (i+1) n with
     | none=>rw [e2] at e;cases e
     | some l =>
       by_cases hn:n=0
       . omega
       . have:=rdL_le hb e2 (by omega);omega
noncomputable def strE (P:Program) (h:H) (pt:TypeId) (x:CV) (n:Int):Option (AV×H) :=
 match x,n with
 | .nilptr,.ofNat 0=>some (.p (.c (.str ⟨⟨[]⟩⟩)),h)
 | .ptr _ _,.ofNat 0=>some (.p (.c (.str ⟨⟨[]⟩⟩)),h)
 | .ptr id off, .ofNat n => match P.underlying pt, h.blk id with
   | some (.pointer e),some b=>bif b.rw&&(Nat.beq b.ty e&&(Nat.beq (P.cellsOf e) 1&&Nat.ble n 140737488355328)) then
    match rdL h id off n with
    | some cs=>match toBytes cs with
      | some ns=>match intBytes ns with
        | some bs=>some (.p (.c (.str ⟨⟨bs⟩⟩)),h.lock id b (Nat.add off n))
        | none=>none
      | none=>none
    | none=>none
     else none
   | _,_=>none
 | _,_=>none
theorem strE_ok {base:Nat} {ρ:Rho} {h h':H} {w:World} {P:Program} (R:Rel base ρ h w) {pt it ty:TypeId} {x:CV} {n:Int} {u:Value} {v:AV} (hx:CRel ρ x u) (e:strE P h pt x n=some (v,h')) :
 Good base ρ w P (Builtin.unsafeString_ #[pt,it] ty #[u,.int .i64 n]) v h':=by
 unfold strE at e
 split at e
 . cases e;cases hx
   exact Good.still (u:=.string .empty) R (Lib.run_unsafeString_none w pt it ty none) rfl
 . cases e
   obtain ⟨p,hp,rfl⟩:=hx
   exact Good.still (u:=.string .empty) R (Lib.run_unsafeString_none w pt it ty _) rfl
 · rename_i id off n hn0
   obtain ⟨p,hp,rfl⟩:=hx
   split at e
   · rename_i el b hu hb
     replace e:=bif_some e
     obtain ⟨hc,e⟩:=e
     simp only [Bool.and_eq_true,Nat.beq_eq,Nat.ble_eq] at hc
     obtain ⟨hrw,hty,hce,hn63⟩:=hc
     split at e
     · rename_i cs hcs
       split at e
       . rename_i ns hns
         split at e
         . rename_i bs hbs
           cases e
           have hnpos:n≠0:=hn0
           obtain ⟨q,vs,hq,hl,hlen,hcell⟩:=rdL_rel R hcs (by omega)
           rw [hp] at hq;cases hq
           have hvs:=toBytes_rel hl hns
           have hint:=intBytes_eq hbs
           have hbl:bs.length=n:=by
            rw [<-hlen,hvs,hint];simp
           obtain ⟨N,hsh,hroom,hsz,_⟩:=R.shape hb hp
           have hlb:=Lib.run_loadBytes (P:=P) w bs ⟨p.block,p.off+off,none⟩ .empty (fun j x hx=>by
            rw [Addr.add_lit]
            refine hcell j _ ?_
            rw [hvs,hint]
            simp [hx])
           have hL:off+n<=b.size:=rdL_le hb hcs (by omega)
           have hlies:=liesAt_bytes_off (P:=P) hce (N / P.cellsOf el) (p.off+off) bs.length (by rw [hce];simp;omega)
           have hmax:IntKind.i64.max=9223372036854775807:=rfl
           have h63':¬ (9223372036854775807:Int)<(n:Int):=by omega
           have hneg:¬ (n:Int)<0:=by omega
           refine ⟨.string ⟨⟨bs⟩⟩,w.freeze ⟨p.block,p.off+off,none⟩ n,ρ,?_,Rho.le.refl _,R.lock hb hp hrw ⟨p.block,p.off+off,none⟩ rfl n (off+n) (by simp only;omega),rfl,?_⟩
           . have hdef:Builtin.unsafeString_ #[pt,it] ty #[.pointer (some ⟨p.block,p.off+off,none⟩),.int .i64 (n:Int)] =
              (do
               let n <-asInt (.int .i64 (n:Int))
               if n<0 then runtimePanic (.error "unsafe.String: len out of range")
               if n > IntKind.i64.max then unsupported (.unsafePointer "String: a length above the largest int")
               if n=0 then pure (.string .empty)
               else if <-variablesAt ⟨p.block,p.off+off,none⟩ (<-elemOf pt) n.toNat then do
                let s <-loadBytes ⟨p.block,p.off+off,none⟩ .empty n.toNat
                freeze ⟨p.block,p.off+off,none⟩ n.toNat
                pure (.string s)
               else unsupported (.unsafePointer "String: not so many bytes at ptr")):=rfl
             show (Builtin.unsafeString_ #[pt,it] ty #[.pointer (some ⟨p.block,p.off+off,none⟩),.int .i64 (n:Int)]).run P w=_
             rw [hdef]
             rw [hty] at hsh
             rw [hbl] at hlb hlies
             simp [asInt,asIntOf,hmax,h63',hneg,hnpos,variablesAt,hsh,elemOf,run_underlying hu,hlies,hlb]
           . obtain ⟨q,hq,L⟩:=R.cells id b hb
             rw [hp] at hq;cases hq
             exact Lib.below_freeze (Below.refl _ _) (L.own hrw) _
         . cases e
       . cases e
     . cases e
   . cases e
 . cases e
end Go.Mill
