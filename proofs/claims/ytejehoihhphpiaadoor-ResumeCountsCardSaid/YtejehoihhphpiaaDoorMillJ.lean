/- A verified evaluator for the model. It holds for every program and every world, under the hypotheses that each theorem names. -/
import Derived.Test.YtejehoihhphpiaaDoorMillI
namespace Go.Mill
open Go.RowKit

noncomputable def bytesCV (l:List UInt8):List CV:=List.rec [] (fun b _ ih=>.int .u8 (Int.ofNat b.toNat)::ih) l
theorem bytesCV_cons {b:UInt8} {l:List UInt8}:bytesCV (b::l)=.int .u8 (Int.ofNat b.toNat)::bytesCV l:=rfl
theorem bytesCV_rel {ρ:Rho}:∀ (l:List UInt8),LRel (CRel ρ) (bytesCV l) (l.map fun b=>Value.int .u8 b.toNat)
 | []=>trivial
 | b::l=>by rw [bytesCV_cons];exact ⟨rfl,bytesCV_rel l⟩
noncomputable def srcE (h:H) (size:Nat):CV->Option (Nat×List CV)
 | .nilslice=>some (0,[])
 | .slice id off len _ _ _=>match rdL h id off (Nat.mul len size) with | some cs=>some (len,cs) | none=>none
 | .str s=>bif Nat.beq size 1 then some (s.size,bytesCV s.data.toList) else none
 | _=>none
theorem srcE_ok {base:Nat} {ρ:Rho} {h:H} {w:World} {P:Program} (R:Rel base ρ h w) {size:Nat} {x:CV} {u:Value} {m:Nat} {cs:List CV} (hx:CRel ρ x u) (e:srcE h size x=some (m,cs)) :
 ∃ vs,LRel (CRel ρ) cs vs/\vs.length=m*size/\(∀ w',(Builtin.lenOf u).run P w'=.ok m w')/\(∀ w',w'.heap=w.heap->(Builtin.firstCells size m u).run P w'=.ok vs.toArray w'):=by
 unfold srcE at e
 split at e
 . cases e;cases hx
   exact ⟨[],trivial,by simp,fun w'=>by simp [Builtin.lenOf],fun w' _=>by simp [Builtin.firstCells]⟩
 . rename_i id off len cap ex sz
   obtain ⟨p,c,hp,rfl,_⟩:=hx
   cases e1:rdL h id off (Nat.mul len size) with
   | none=>rw [e1] at e;cases e
   | some l =>
     rw [e1] at e;cases e
     have e1:rdL h id off (m*size)=some cs:=e1
     by_cases h0:m*size=0
     . rw [h0,rdL_zero] at e1;cases e1
       exact ⟨[],trivial,by simp [h0],fun w'=>by simp [Builtin.lenOf],fun w' _=>by simp [Builtin.firstCells,h0,loadCells,loadCellsFrom]⟩
     . obtain ⟨q,vs,hq,hl,hlen,hcs⟩:=rdL_rel R e1 (by omega)
       rw [hp] at hq;cases hq
       refine ⟨vs,hl,hlen,fun w'=>by simp [Builtin.lenOf],fun w' hw'=>?_⟩
       have hcell:∀ a,w'.cell? a=w.cell? a:=fun a=>by simp [World.cell?,hw']
       have:=run_loadCells_list (P:=P) w' ⟨p.block,p.off+off,none⟩ vs (fun j v hv=>by rw [Addr.add_lit,hcell];exact hcs j v hv)
       rw [hlen] at this
       simp [Builtin.firstCells,this]
 . rename_i s
   cases hx
   obtain ⟨hb,e⟩:=bif_some e
   cases e
   simp only [Nat.beq_eq] at hb
   subst hb
   refine ⟨s.data.toList.map fun b=>Value.int .u8 b.toNat,bytesCV_rel _,?_,fun w'=>by simp [Builtin.lenOf],fun w' _=>?_⟩
   . simp
   . have hx:s.extract 0 s.size=s:=by simp
     simp only [Builtin.firstCells,hx,Sem.run_pure]
     congr 1
     apply Array.ext'
     simp
 . cases e
noncomputable def appendE (P:Program) (h:H) (t ts:TypeId) (x y:CV):Option (AV×H) :=
 match P.underlying t with
 | some (.slice el) => match P.info? el, zeroPV P el, P.underlying ts with
   | some i,some z,some (.int _)=>match x,y with
     | .nilslice,.int _ (.ofNat n)=>bif (Nat.blt 0 n&&Nat.blt 0 i.size)&&(Nat.beq z.cells.length i.size&&(Nat.ble (Nat.mul n i.bytes) 140737488355328&&Nat.ble n 140737488355328)) then
      some (.p (.c (.slice h.next 0 n n false i.size)),h.newCells el (zerosE z.cells n) false) else none
     | _,_=>none
   | some i, some z, some _ => match srcE h i.size y with
     | some (m, cs) => bif Nat.beq z.cells.length i.size && Nat.blt 0 i.size then
       match x with
       | .nilslice=>bif Nat.beq m 0 then some (.p (.c .nilslice),h) else
         bif Nat.ble (Nat.mul m i.bytes) 140737488355328&&Nat.ble m 140737488355328 then some (.p (.c (.slice h.next 0 m m false i.size)),h.newCells el cs false) else none
       | .slice id off len cap ex sz=>bif Nat.beq sz i.size then
        bif Nat.ble (Nat.add len m) cap then
         match cs with
         | []=>some (.p (.c (.slice id off (Nat.add len m) cap ex sz)),h)
         | _=>match wrL h id (Nat.add off (Nat.mul len sz)) cs with | some h'=>some (.p (.c (.slice id off (Nat.add len m) cap ex sz)),h') | none=>none
        else bif Nat.ble (Nat.mul (Nat.add len m) i.bytes) 140737488355328 && Nat.ble (Nat.add len m) 140737488355328 then
         bif ex then
          match rdL h id off (Nat.mul len sz) with
          | some old=>some (.p (.c (.slice h.next 0 (Nat.add len m) (Nat.add len m) false sz)),h.newCells el (old++cs) false)
          | none=>none
         else match h.blk id with
          | some b=>bif b.rw&&((Nat.ble (Nat.add off (Nat.mul len sz)) b.size&&Nat.ble b.lo (Nat.add off (Nat.mul len sz)))&&Nat.beq b.ty el) then
           (match off with
           | 0=>some (.p (.c (.slice h.next 0 (Nat.add len m) (Nat.add len m) false sz)),h.branch id b (Nat.beq (Nat.mul len sz) b.size)
            { ty:=el,size:=Nat.add (Nat.mul len sz) cs.length,data:=T.ofListFrom b.data (Nat.mul len sz) cs,fam:=b.fam,rw:=true,ex:=false,lo:=b.lo,hi:=b.hi })
           | off=>match rdL h id off (Nat.mul len sz) with
             | some old=>some (.p (.c (.slice h.next 0 (Nat.add len m) (Nat.add len m) false sz)),h.branch id b (Nat.beq (Nat.add off (Nat.mul len sz)) b.size)
               { ty:=el,size:=Nat.add (Nat.mul len sz) cs.length,data:=T.ofList (old++cs),fam:=b.fam,rw:=true,ex:=false,lo:=Nat.sub b.lo off,hi:=b.hi })
             | none=>none)
            else none
          | none=>none
        else none
         else none
       | _=>none
       else none
     | none=>none
   | _,_,_=>none
 | _=>none

/-! the real machine's two ways -/
theorem append_grow_run {P:Program} (w:World) {t ts el ty:TypeId} {i:TypeInfo} {z:Value} {d:TypeDesc} (hu:P.underlying t=some (.slice el)) (hts:P.underlying ts=some d) (hd:∀ k,d≠.int k) (hi:P.info? el=some i) (hz:i.zero=some z)
 {b:Option Addr} {sLen sCap m:Nat} {u:Value} {olds news:List Value} (hold:(Builtin.firstCells i.size sLen (.slice b sLen sCap)).run P w.drew=.ok olds.toArray w.drew)
 (hlen:(Builtin.lenOf u).run P w=.ok m w) (hnew:(Builtin.firstCells i.size m u).run P w.drew=.ok news.toArray w.drew) (hg:sCap<sLen+m) (h63:sLen+m<=140737488355328) (hby:(sLen+m)*i.bytes<=140737488355328) :
 (Builtin.append_ #[t,ts] ty #[.slice b sLen sCap,u]).run P w=.ok (.slice (some ⟨w.heap.size,0,none⟩) (sLen+m) (grownCap w (sLen+m) sCap el))
  (w.drew.alloc (.cells (olds.toArray++news.toArray++Builtin.zeroCells z.cells (grownCap w (sLen+m) sCap el-(sLen+m))) el)):=by
 have hn:¬ (sLen+m<=sCap):=by omega
 have h63':¬ (9223372036854775807<((sLen:Int)+(m:Int))):=by omega
 have h48':¬ (281474976710656<Builtin.nextslicecap (sLen+m) sCap*i.bytes):=by have:=growslice_fits hg hby;omega
 simp [Builtin.append_,run_underlying hu,run_underlying hts,sizeOf,typeInfo,zeroValue,hi,hz,hlen,hn,h63',h48',Question.forced,hold,hnew,newRow,grownCap]
 congr 2
 apply Array.ext'
 simp
theorem append_room_run {P:Program} (w:World) {t ts el ty:TypeId} {i:TypeInfo} {d:TypeDesc} (hu:P.underlying t=some (.slice el)) (hts:P.underlying ts=some d) (hd:∀ k,d≠.int k) (hi:P.info? el=some i)
 {bk off sLen sCap m:Nat} {u:Value} {news:List Value} (hlen:(Builtin.lenOf u).run P w=.ok m w) (hnew:(Builtin.firstCells i.size m u).run P w=.ok news.toArray w) (hroom:sLen+m<=sCap)
 (hc:∀ j,j<news.length->(w.cell? ⟨bk,off+sLen*i.size+j,none⟩).isSome=true) (hf:∀ j,j<news.length->w.frozen? ⟨bk,off+sLen*i.size+j,none⟩=false) (h1:∀ v∈news,v.oneCell'=true) :
 (Builtin.append_ #[t,ts] ty #[.slice (some ⟨bk,off,none⟩) sLen sCap,u]).run P w=.ok (.slice (some ⟨bk,off,none⟩) (sLen+m) sCap) (w.setCells bk (off+sLen*i.size) news):=by
 have hst:=run_storeCells_cells (P:=P) bk (off+sLen*i.size) news 0 w (by simpa using hc) (by simpa using hf) h1
 simp only [Nat.add_zero] at hst
 simp [Builtin.append_,run_underlying hu,run_underlying hts,sizeOf,typeInfo,hi,hlen,hroom,hnew,Addr.add_lit,hst]
theorem heap_setCells {bk:Nat} {e:TypeId} {fz:Nat×Nat}:∀ (vs:List Value) (o:Nat) (w:World) (c:Array Value),w.heap[bk]? = some (.cells c e fz)->
 ∃ c',(w.setCells bk o vs).heap[bk]? = some (.cells c' e fz)/\c'.size=c.size/\(∀ k,(k<o∨o+vs.length<=k)->c'[k]? = c[k]?)/\(∀ j,j<vs.length->o+j<c.size->c'[o+j]? = vs[j]?)
 | [],o,w,c,h=>⟨c,h,rfl,fun _ _=>rfl,fun j hj=>by simp at hj⟩
 | v :: vs, o, w, c, h => by
   obtain ⟨c',h1,h2,h3,h4⟩:=heap_setCells vs (o+1) (w.setCell ⟨bk,o,none⟩ v) _ (heap_setCell (off:=o) (v:=v) h)
   refine ⟨c',h1,by simpa using h2,?_,?_⟩
   . intro k hk
     simp only [List.length_cons] at hk
     rw [h3 k (by omega),Array.getElem?_setIfInBounds_ne (by omega)]
   . intro j hj hs
     cases j with
     | zero =>
       rw [Nat.add_zero,h3 o (by omega),Array.getElem?_setIfInBounds_self_of_lt (by omega)]
       rfl
     | succ j =>
       simp only [List.length_cons] at hj
       rw [show o+(j+1)=o+1+j by omega,h4 j (by omega) (by simp;omega)]
       simp
theorem heap_setCells_other {bk k:Nat} (hk:k≠bk):∀ (vs:List Value) (o:Nat) (w:World),(w.setCells bk o vs).heap[k]? = w.heap[k]?
 | [],_,_=>rfl
 | v::vs,o,w=>(heap_setCells_other hk vs (o+1) _).trans (Below.heap_setCell w _ v k hk)
theorem size_setCells {bk:Nat}:∀ (vs:List Value) (o:Nat) (w:World),(w.setCells bk o vs).heap.size=w.heap.size
 | [],_,_=>rfl
 | v::vs,o,w=>(size_setCells vs (o+1) _).trans (by simp [World.setCell])
theorem firstCells_old {base:Nat} {ρ:Rho} {h:H} {w:World} {P:Program} (R:Rel base ρ h w) {id off len c sz:Nat} {p:Place} {old:List CV} (hp:ρ id=some p) (e:rdL h id off (len*sz)=some old) :
 ∃ vs,LRel (CRel ρ) old vs/\vs.length=len*sz/\(∀ w',w'.heap=w.heap->(Builtin.firstCells sz len (.slice (some ⟨p.block,p.off+off,none⟩) len c)).run P w'=.ok vs.toArray w'):=by
 by_cases h0:len*sz=0
 . rw [h0,rdL_zero] at e;cases e
   exact ⟨[],trivial,by simp [h0],fun w' _=>by simp [Builtin.firstCells,h0,loadCells,loadCellsFrom]⟩
 . obtain ⟨q,vs,hq,hl,hlen,hcs⟩:=rdL_rel R e (by omega)
   rw [hp] at hq;cases hq
   refine ⟨vs,hl,hlen,fun w' hw'=>?_⟩
   have hcell:∀ a,w'.cell? a=w.cell? a:=fun a=>by simp [World.cell?,hw']
   have:=run_loadCells_list (P:=P) w' ⟨p.block,p.off+off,none⟩ vs (fun j v hv=>by rw [Addr.add_lit,hcell];exact hcs j v hv)
   rw [hlen] at this
   simp [Builtin.firstCells,this]
theorem grown_ok {base:Nat} {ρ:Rho} {h:H} {w:World} (R:Rel base ρ h w) {el:TypeId} {z:Value} {size need sCap:Nat} {cells:List CV} {vs:List Value} (hl:LRel (CRel ρ) cells vs) (hlen:vs.length=need*size) (hzs:z.cells.size=size) :
 ∃ ρ',ρ.le ρ'/\Rel base ρ' (h.newCells el cells false) (w.drew.alloc (.cells (vs.toArray++Builtin.zeroCells z.cells (grownCap w need sCap el-need)) el))/\
  CRel ρ' (.slice h.next 0 need need false size) (.slice (some ⟨w.heap.size,0,none⟩) need (grownCap w need sCap el))/\
  Below base w (w.drew.alloc (.cells (vs.toArray++Builtin.zeroCells z.cells (grownCap w need sCap el-need)) el)):=by
 have hge:=grownCap_ge w need sCap el
 have hcs:(vs.toArray++Builtin.zeroCells z.cells (grownCap w need sCap el-need)).size=grownCap w need sCap el*size:=by
  simp only [Array.size_append,List.size_toArray,size_zeroCells,hzs,hlen,<-Nat.add_mul]
  congr 1;omega
 have R1:=R.drawn (w.drawn+1)
 have R2:=R1.newCells (cs:=cells) (c:=vs.toArray++Builtin.zeroCells z.cells (grownCap w need sCap el-need)) el (fz:=(0,0)) (hi:=false) (fun i x hx=>by
  obtain ⟨v,hv,hr⟩:=hl.get hx
  refine ⟨v,?_,hr⟩
  have:=(List.getElem?_eq_some_iff.1 hv).1
  rw [Array.getElem?_append_left (by simpa using this)]
  simpa using hv) (by simp) (ex:=false) (by simp)
 refine ⟨_,Rho.le_add (R.fresh _ (Nat.le_refl _)),R2,⟨_,grownCap w need sCap el,Rho.add_self,?_,hge,(fun hh=>by cases hh),?_⟩,?_⟩
 . rfl
 . show 0+_<=(vs.toArray++Builtin.zeroCells z.cells (grownCap w need sCap el-need)).size
   rw [hcs];omega
 . exact ⟨rfl,rfl,rfl,(by show _<=(w.heap.push _).size;simp),fun k hk=>by
    have:=R.basele
    show (w.heap.push _)[k]? = _
    rw [Array.getElem?_push,if_neg (by omega)]⟩
theorem branch_ok {base:Nat} {ρ:Rho} {h:H} {w:World} {P:Program} (R:Rel base ρ h w) {t ts el ty:TypeId} {i:TypeInfo} {z:Value} {d:TypeDesc} (hu:P.underlying t=some (.slice el)) (hts:P.underlying ts=some d) (hd:∀ k,d≠.int k)
 (hi:P.info? el=some i) (hz:i.zero=some z) (hzs:z.cells.size=i.size) {id off len c m:Nat} {b:Blk} {p:Place} {u:Value} {cs old:List CV} {olds news:List Value} {data:T CV}
 (hp:ρ id=some p) (hb:h.blk id=some b) (hrw:b.rw=true) (hty:b.ty=el) (hroom:off+c*i.size<=p.room) (_hbs:off+len*i.size<=b.size) (hlo:b.lo<=off+len*i.size)
 (hold:LRel (CRel ρ) old olds) (holdl:olds.length=len*i.size) (holdr:∀ w',w'.heap=w.heap->(Builtin.firstCells i.size len (.slice (some ⟨p.block,p.off+off,none⟩) len c)).run P w'=.ok olds.toArray w')
 (holdc:∀ j,j<len*i.size->w.cell? ⟨p.block,p.off+off+j,none⟩=olds[j]?)
 (hcs:LRel (CRel ρ) cs news) (hnl:news.length=m*i.size) (hlen:∀ w',(Builtin.lenOf u).run P w'=.ok m w') (hnew:∀ w',w'.heap=w.heap->(Builtin.firstCells i.size m u).run P w'=.ok news.toArray w')
 (h63:len+m<=140737488355328) (hby:(len+m)*i.bytes<=140737488355328)
 (hdata:∀ j,j<len*i.size+cs.length->data.get j=(old++cs)[j]?) :
 Good base ρ w P (Builtin.append_ #[t,ts] ty #[.slice (some ⟨p.block,p.off+off,none⟩) len c,u]) (.p (.c (.slice h.next 0 (len+m) (len+m) false i.size)))
  (h.branch id b (Nat.beq (off+len*i.size) b.size) { ty:=el,size:=len*i.size+cs.length,data,fam:=b.fam,rw:=true,ex:=false,lo:=b.lo-off,hi:=b.hi }):=by
 obtain ⟨q,hq,L⟩:=R.cells id b hb
 rw [hp] at hq;cases hq
 obtain ⟨cc,fz,hcc,hccs,hccv,hccf,_⟩:=L.there
 have hfz:=hccf hrw
 have hcsl:cs.length=m*i.size:=by rw [hcs.length,hnl]
 have hall:=hold.append hcs
 have holdcl:old.length=len*i.size:=by rw [hold.length,holdl]
 by_cases hg:len+m<=c
 · -- there was room: the old memory is written on
   have hfit:off+len*i.size+news.length<=p.room:=by
    rw [hnl]
    have:=Nat.mul_le_mul_right i.size hg
    rw [Nat.add_mul] at this
    omega
   have hrun:=append_room_run (P:=P) (ty:=ty) w hu hts hd hi (bk:=p.block) (off:=p.off+off) (sLen:=len) (sCap:=c) (hlen w) (hnew w rfl) hg
    (fun j hj=>by
     have:p.off+off+len*i.size+j<cc.size:=by omega
     simp [World.cell?,hcc,Array.getElem?_eq_getElem this])
    (fun j hj=>by
     have h1:p.off+off+len*i.size+j<cc.size:=by omega
     have:=hfz.1 _ (by omega) h1
     simp only [World.frozen?,hcc]
     obtain ⟨lo,hi'⟩:=fz
     simp only at this ⊢
     simp only [Bool.and_eq_false_iff,decide_eq_false_iff_not]
     omega)
    (oneCells_of hcs)
   obtain ⟨c',hc1,hc2,hc3,hc4⟩:=heap_setCells (bk:=p.block) news (p.off+off+len*i.size) w cc hcc
   have hle:ρ.le (ρ.add h.next ⟨p.block,p.off+off,p.room-off⟩):=Rho.le_add (R.fresh _ (Nat.le_refl _))
   have hbr:=R.branch (w':=w.setCells p.block (p.off+off+len*i.size) news) (nb:={ ty:=el,size:=len*i.size+cs.length,data,fam:=b.fam,rw:=true,ex:=false,lo:=b.lo-off,hi:=b.hi }) (q:=⟨p.block,p.off+off,p.room-off⟩)
    (atEnd:=Nat.beq (off+len*i.size) b.size) hb hp rfl
    (fun hat _=>by simp only [Nat.beq_eq] at hat;show p.off+b.size<=p.off+off+(len*i.size+cs.length);omega) hrw
    (fun k hk _=>heap_setCells_other hk _ _ _)
    (fun hat j bj pj hbj hpj hf hbk hen=>by
     obtain ⟨qj,hqj,Lj⟩:=R.cells j bj hbj
     rw [hpj] at hqj;cases hqj
     obtain ⟨cj,fj,hcj,hsj,hvj,hfj,hxj⟩:=Lj.there
     rw [hbk,hcc] at hcj
     simp only [Option.some.injEq,Obj.cells.injEq] at hcj
     obtain ⟨rfl,hbt,rfl⟩:=hcj
     simp only [Nat.beq_eq] at hat
     refine ⟨⟨c',fz,by rw [hbk,hc1,hbt],by omega,fun k hk=>?_,(fun hh=>by rw [hc2];exact hfj hh),(fun hh=>by rw [hc2];exact hxj hh)⟩,Lj.size,Lj.own⟩
     obtain ⟨x,v,a,b',r⟩:=hvj k hk
     exact ⟨x,v,a,by rw [hc3 _ (by omega)];exact b',r⟩)
    (.inl rfl) (show p.block<_ from by rw [size_setCells];exact R.lt id p hp) (by rw [size_setCells];exact Nat.le_refl _)
    (fun ob hob=>by rw [hcc] at hob;cases hob;exact ⟨_,_,_,rfl⟩)
    ⟨⟨c',fz,by rw [hc1,hty],by simp only;rw [hc2];omega,fun k hk=>?_,(fun _=>⟨fun o ho1 ho2=>hfz.1 o (by simp only at ho1;omega) (by rw [hc2] at ho2;exact ho2),fun hh=>⟨(hfz.2 hh).1,fun hx=>by have:=(hfz.2 hh).2 hx;simp only;omega⟩⟩),(fun hh=>by cases hh)⟩,by simp only;omega,fun _=>L.own hrw⟩
   . refine ⟨_,_,_,hrun,hbr.1,hbr.2,⟨_,c,Rho.add_self,?_,hg,(fun hh=>by cases hh),?_⟩,below_setCells (L.own hrw) _ _ _⟩
     . simp
     . simp only;omega
   . simp only at hk
     have hk':k<(old++cs).length:=by rw [List.length_append];omega
     obtain ⟨v,hv,hr⟩:=hall.get (List.getElem?_eq_getElem hk')
     refine ⟨_,v,by rw [hdata k hk];exact List.getElem?_eq_getElem hk',?_,hr.mono hle⟩
     simp only
     by_cases hko:k<len*i.size
     . rw [hc3 _ (by omega)]
       have h1:=holdc k hko
       rw [List.getElem?_append_left (by omega)] at hv
       rw [hv] at h1
       simpa [World.cell?,hcc] using h1
     . rw [List.getElem?_append_right (by omega)] at hv
       have h1:=hc4 (k-len*i.size) (by omega) (by omega)
       rw [show p.off+off+k=p.off+off+len*i.size+(k-len*i.size) by omega,h1]
       rw [<-holdl];exact hv
 · -- there was none: new memory
   have hrun:=append_grow_run (P:=P) (ty:=ty) (m:=m) w hu hts hd hi hz (b:=some ⟨p.block,p.off+off,none⟩) (holdr w.drew rfl) (hlen w) (hnew w.drew rfl) (by omega) h63 hby
   have hge:=grownCap_ge w (len+m) c el
   have hsz:(olds.toArray++news.toArray++Builtin.zeroCells z.cells (grownCap w (len+m) c el-(len+m))).size=grownCap w (len+m) c el*i.size:=by
    simp only [Array.size_append,List.size_toArray,size_zeroCells,hzs,holdl,hnl,<-Nat.add_mul]
    congr 1;omega
   have hle:ρ.le (ρ.add h.next ⟨w.heap.size,0,grownCap w (len+m) c el*i.size⟩):=Rho.le_add (R.fresh _ (Nat.le_refl _))
   have hplt:=R.lt _ _ hp
   have hpush:∀ k,k<w.heap.size->(w.drew.alloc (.cells (olds.toArray++news.toArray++Builtin.zeroCells z.cells (grownCap w (len+m) c el-(len+m))) el)).heap[k]? = w.heap[k]?:=fun k hk=>by
    show (w.heap.push _)[k]? = _
    rw [Array.getElem?_push,if_neg (by omega)]
   have hbr:=R.branch (w':=w.drew.alloc (.cells (olds.toArray++news.toArray++Builtin.zeroCells z.cells (grownCap w (len+m) c el-(len+m))) el)) (nb:={ ty:=el,size:=len*i.size+cs.length,data,fam:=b.fam,rw:=true,ex:=false,lo:=b.lo-off,hi:=b.hi })
    (q:=⟨w.heap.size,0,grownCap w (len+m) c el*i.size⟩) (atEnd:=Nat.beq (off+len*i.size) b.size) hb hp rfl
    (fun _ hh=>by simp only at hh;omega) hrw
    (fun k _ hk=>hpush k hk)
    (fun _ j bj pj hbj hpj _ _ _=>by
     obtain ⟨qj,hqj,Lj⟩:=R.cells j bj hbj
     rw [hpj] at hqj;cases hqj
     exact Lj.mono (Rho.le.refl _) (hpush _ (R.lt _ _ hpj)))
    (.inr (Nat.le_refl _)) (by show w.heap.size<(w.heap.push _).size;simp) (by show _<=(w.heap.push _).size;simp)
    (fun ob hob=>by rw [hcc] at hob;cases hob;exact ⟨_,_,_,rfl⟩)
    ⟨⟨_,(0,0),by show (w.heap.push _)[w.heap.size]? = _;rw [Array.getElem?_push,if_pos rfl],by rw [hsz];simp,fun k hk=>?_,(fun _=>⟨fun o _ _ hh=>by simp only at hh;omega,fun _=>⟨Nat.le_refl _,fun hh=>by simp only at hh;omega⟩⟩),(fun hh=>by cases hh)⟩,by
     simp only;rw [hcsl,<-Nat.add_mul];exact Nat.mul_le_mul_right _ hge,fun _=>R.basele⟩
   . refine ⟨_,_,_,hrun,hbr.1,hbr.2,⟨_,grownCap w (len+m) c el,Rho.add_self,?_,hge,(fun hh=>by cases hh),?_⟩,?_⟩
     . simp
     . simp
     . exact ⟨rfl,rfl,rfl,(by show _<=(w.heap.push _).size;simp),fun k hk=>hpush k (by have:=R.basele;omega)⟩
   . simp only at hk
     have hk':k<(old++cs).length:=by rw [List.length_append];omega
     obtain ⟨v,hv,hr⟩:=hall.get (List.getElem?_eq_getElem hk')
     refine ⟨_,v,by rw [hdata k hk];exact List.getElem?_eq_getElem hk',?_,hr.mono hle⟩
     have hkv:=(List.getElem?_eq_some_iff.1 hv).1
     simp only [Nat.zero_add]
     rw [Array.getElem?_append_left (by simpa using hkv)]
     simpa using hv
end Go.Mill
