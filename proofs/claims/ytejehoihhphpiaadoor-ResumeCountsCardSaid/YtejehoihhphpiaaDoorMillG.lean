/- A verified evaluator for the model. It holds for every program and every world, under the hypotheses that each theorem names. -/
import Derived.Test.YtejehoihhphpiaaDoorMillF
namespace Go.Mill
open Go.RowKit

/-! ### make -/
noncomputable def T.full {α:Type} (d:Nat) (z:α):T α:=Nat.rec .leaf (fun _ ih=>.node ih (some z) ih) d
theorem T.get_full {α:Type} (z:α):∀ (d i:Nat),i+1<2 ^ d->(T.full d z).get i=some z
 | 0,i,h=>by simp at h
 | d + 1, i, h => by
   show (T.node (T.full d z) (some z) (T.full d z)).get i=_
   rw [T.get_node]
   rw [Nat.pow_succ] at h
   by_cases h0:i=0
   . rw [if_pos h0]
   . rw [if_neg h0]
     by_cases h1:i % 2=1
     . rw [if_pos h1];exact T.get_full z d _ (by omega)
     . rw [if_neg h1];exact T.get_full z d _ (by omega)
noncomputable def H.newData (h:H) (ty:TypeId) (size:Nat) (d:T CV):H:=h.new (.cells { ty,size,data:=d,fam:=h.next,rw:=true,ex:=true })
theorem newData_ok {base:Nat} {ρ:Rho} {h:H} {w:World} (R:Rel base ρ h w) (t:TypeId) {size:Nat} {d:T CV} {c:Array Value} {fz:Nat×Nat}
 (hd:∀ i,i<size->∃ x v,d.get i=some x/\c[i]? = some v/\CRel ρ x v) (hs:size=c.size) (hfz:(∀ o,o<c.size->¬ (fz.1<=o/\o<fz.2))/\(fz.1<=fz.2/\(fz.1<fz.2->fz.2<=0))) :
 ρ.le (ρ.add h.next ⟨w.heap.size,0,c.size⟩)/\Rel base (ρ.add h.next ⟨w.heap.size,0,c.size⟩) (h.newData t size d) { w with heap:=w.heap.push (.cells c t fz) }/\
  (ρ.add h.next ⟨w.heap.size,0,c.size⟩) h.next=some ⟨w.heap.size,0,c.size⟩/\Below base w { w with heap:=w.heap.push (.cells c t fz) }:=by
 have hle:ρ.le (ρ.add h.next ⟨w.heap.size,0,c.size⟩):=Rho.le_add (R.fresh _ (Nat.le_refl _))
 refine ⟨hle,R.new _ _ _ trivial ?_,by simp [Rho.add],⟨rfl,rfl,rfl,by simp,fun k hk=>by
  have:=R.basele
  show (w.heap.push _)[k]? = _
  rw [Array.getElem?_push,if_neg (by omega)]⟩⟩
 intro b hb
 cases hb
 refine ⟨rfl,⟨c,fz,by simp,by simp,?_,fun _=>⟨fun o _ ho=>hfz.1 o ho,fun _=>hfz.2⟩,fun _=>⟨rfl,hs.symm⟩⟩,Nat.le_of_eq hs,fun _=>R.basele⟩
 intro i hi
 obtain ⟨x,v,a,b,r⟩:=hd i hi
 exact ⟨x,v,a,by simpa using b,r.mono hle⟩
noncomputable def zerosT (z:List CV) (n:Nat):T CV :=
 match z with
 | [x]=>T.full (Nat.succ (Nat.log2 n)) x
 | z=>T.ofList (zerosE z n)
theorem zerosT_get {z:List CV} {n i:Nat} (hi:i<n*z.length):(zerosT z n).get i=z[i % z.length]?:=by
 unfold zerosT
 split
 . rename_i x
   simp at hi
   rw [T.get_full x _ _ (by have:=@Nat.lt_log2_self n;omega)]
   simp [Nat.mod_one]
 . rw [T.get_ofList,zerosE_get n i hi]
noncomputable def makeSliceE (P:Program) (h:H) (t:TypeId) (l c:Int):Option (AV×H) :=
 match P.underlying t with
 | some (.slice el)=>match P.info? el with
   | some i=>match zeroPV P el with
     | some z=>bif decide (0<=l)&&(decide (l<=c)&&(Nat.ble (Nat.mul i.bytes c.toNat) 140737488355328&&(Nat.ble c.toNat 140737488355328&&Nat.beq z.cells.length i.size))) then
      some (.p (.c (.slice h.next 0 l.toNat c.toNat true i.size)),h.newData el (Nat.mul c.toNat i.size) (zerosT z.cells c.toNat))
       else none
     | none=>none
   | none=>none
 | _=>none
theorem makeSliceE_ok {base : Nat} {ρ : Rho} {h h' : H} {w : World} {P : Program} (R : Rel base ρ h w) {t : TypeId} {kl kc : IntKind} {l c : Int} {v : AV} (e : makeSliceE P h t l c = some (v, h')) :
 Good base ρ w P (Instr.makeSlice t (.int kl l) (.int kc c)) v h':=by
 unfold makeSliceE at e
 split at e
 . rename_i el hu
   split at e
   . rename_i i hi
     split at e
     . rename_i z hz
       obtain ⟨hb,e⟩:=bif_some e
       cases e
       simp only [Bool.and_eq_true,decide_eq_true_eq,Nat.ble_eq,Nat.beq_eq] at hb
       obtain ⟨h0,hlc,hby,hc63,hzl⟩:=hb
       have hby:i.bytes*c.toNat<=140737488355328:=hby
       obtain ⟨zv,_,⟨i',hi',hz'⟩,hzp⟩:=zeroPV_run hz w
       rw [hi] at hi';cases hi'
       obtain ⟨hzrel,hzn⟩:=ofPV_rel (ρ:=ρ) hzp
       have hzc:=hzrel.cells hzn
       have hzs:zv.cells.size=i.size:=by have:=hzc.length;simp at this;omega
       have hrun:=run_make (P:=P) w t el i zv hu hi hz' kl kc l c h0 hlc (by
        have:((i.bytes*c.toNat:Nat):Int)<=140737488355328:=by omega
        rw [Int.natCast_mul,Int.toNat_of_nonneg (by omega)] at this;omega) (by omega)
       have hd:∀ j,j<c.toNat*i.size->∃ x u,(zerosT z.cells c.toNat).get j=some x/\(madeCells zv.cells (c.toNat*i.size))[j]? = some u/\CRel ρ x u:=by
        intro j hj
        have hs0:0<i.size:=Nat.pos_of_mul_pos_left (by omega:0<c.toNat*i.size)
        have hm:j % i.size<z.cells.length:=by rw [hzl];exact Nat.mod_lt _ hs0
        obtain ⟨u,hu',hr⟩:=hzc.get (List.getElem?_eq_getElem hm)
        refine ⟨_,u,by rw [zerosT_get (by rw [hzl];exact hj),hzl];exact List.getElem?_eq_getElem hm,?_,hr⟩
        have hm2:j % i.size<zv.cells.size:=by rw [hzs];exact Nat.mod_lt _ hs0
        simp only [madeCells,Array.getElem?_map,Array.getElem?_range,hj,if_true,Option.map_some,hzs]
        rw [getElem!_pos zv.cells _ hm2]
        simp at hu'
        rw [Array.getElem?_eq_getElem hm2] at hu'
        exact hu'
       obtain ⟨hle,R',hn',hB⟩:=newData_ok R el hd (by rw [size_madeCells]) (fz:=(0,0)) (by simp)
       refine ⟨_,_,_,hrun,hle,R',⟨_,c.toNat,hn',by simp,Nat.le_refl _,fun _=>rfl,by simp [size_madeCells]⟩,hB⟩
     . cases e
   . cases e
 . cases e

/-! ### addresses -/
noncomputable def indexE (P:Program) (t:TypeId) (x:CV) (i:Int):Option AV :=
 match P.underlying t,x with
 | some (.slice el),.slice id off len _ _ _=>match szOf P el with
   | some n=>bif decide (0<=i)&&decide (i<len) then some (.p (.c (.ptr id (Nat.add off (Nat.mul i.toNat n))))) else none
   | none=>none
 | some (.array len el),.ptr id off=>match szOf P el with
   | some n=>bif decide (0<=i)&&decide (i<len) then some (.p (.c (.ptr id (Nat.add off (Nat.mul i.toNat n))))) else none
   | none=>none
 | _,_=>none
theorem indexE_ok {base:Nat} {ρ:Rho} {h:H} {w:World} {P:Program} (R:Rel base ρ h w) {t:TypeId} {x:CV} {u:Value} {k:IntKind} {i:Int} {v:AV} (hx:CRel ρ x u) (e:indexE P t x i=some v) :
 Good base ρ w P (Instr.indexAt t u (.int k i)) v h:=by
 unfold indexE at e
 split at e
 . rename_i el id off len cap ex sz hu
   obtain ⟨p,c,hp,rfl,_⟩:=hx
   split at e
   . rename_i n hn
     obtain ⟨hb,e⟩:=bif_some e
     cases e
     simp only [Bool.and_eq_true,decide_eq_true_eq] at hb
     refine Good.still (u:=.pointer (some ⟨p.block,p.off+off+i.toNat*n,none⟩)) R ?_ ⟨p,hp,by simp [Nat.add_assoc]⟩
     simp [Instr.indexAt,asIntOf,run_underlying hu,hb,szOf_run hn,Addr.add_lit]
   . cases e
 . rename_i len el id off hu
   obtain ⟨p,hp,rfl⟩:=hx
   split at e
   . rename_i n hn
     obtain ⟨hb,e⟩:=bif_some e
     cases e
     simp only [Bool.and_eq_true,decide_eq_true_eq] at hb
     refine Good.still (u:=.pointer (some ⟨p.block,p.off+off+i.toNat*n,none⟩)) R ?_ ⟨p,hp,by simp [Nat.add_assoc]⟩
     simp [Instr.indexAt,asIntOf,run_underlying hu,hb,szOf_run hn,Addr.add_lit,Instr.sureAddr]
   . cases e
 . cases e
noncomputable def fieldAddrE (P:Program) (s:TypeId) (x:CV) (f:Nat):Option AV :=
 match P.underlying s,x with
 | some (.struct fs),.ptr id off=>match fs[f]? with
   | some fd=>match szOf P fd.type with
     | some n=>bif Nat.beq n 0 then none else some (.p (.c (.ptr id (Nat.add off fd.offset))))
     | none=>none
   | none=>none
 | _,_=>none
theorem fieldAddrE_ok {base:Nat} {ρ:Rho} {h:H} {w:World} {P:Program} (R:Rel base ρ h w) {s:TypeId} {x:CV} {u:Value} {f:Nat} {v:AV} (hx:CRel ρ x u) (e:fieldAddrE P s x f=some v) :
 Good base ρ w P (Instr.fieldAt s u f) v h:=by
 unfold fieldAddrE at e
 split at e
 . rename_i fs id off hu
   obtain ⟨p,hp,rfl⟩:=hx
   split at e
   . rename_i fd hfd
     split at e
     . rename_i n hn
       by_cases h0:n=0
       . subst h0;cases e
       . have hb:Nat.beq n 0=false:=by
          cases n with
          | zero=>exact absurd rfl h0
          | succ n=>rfl
         rw [hb] at e
         cases e
         refine Good.still (u:=.pointer (some ⟨p.block,p.off+off+fd.offset,none⟩)) R ?_ ⟨p,hp,by simp [Nat.add_assoc]⟩
         simp [Instr.fieldAt,run_underlying hu,hfd,Instr.sureAddr,fieldPlace,szOf_run hn,h0,Addr.add_lit]
     . cases e
   . cases e
 . cases e
noncomputable def partE (P:Program) (t:TypeId) (cs:List CV) (off:Nat):Option AV :=
 match isAggB P t with
 | some true=>match szOf P t with
   | some n=>bif Nat.ble (Nat.add off n) cs.length then some (.p (.agg ((cs.drop off).take n))) else none
   | none=>none
 | some false=>match cs[off]? with | some x=>some (.p (.c x)) | none=>none
 | none=>none
theorem LRel.drop {α β:Type} {R:α->β->Prop}:∀ {l:List α} {m:List β} (n:Nat),LRel R l m->LRel R (l.drop n) (m.drop n)
 | _,_,0,h=>h
 | [],[],_+1,_=>trivial
 | _::_,_::_,n+1,⟨_,h⟩=>by simpa using LRel.drop n h
theorem LRel.take {α β:Type} {R:α->β->Prop}:∀ {l:List α} {m:List β} (n:Nat),LRel R l m->LRel R (l.take n) (m.take n)
 | _,_,0,_=>trivial
 | [],[],_+1,_=>trivial
 | _::_,_::_,n+1,⟨a,h⟩=>⟨a,LRel.take n h⟩
theorem partE_run {ρ:Rho} {P:Program} (w:World) {t:TypeId} {cs:List CV} {vs:List Value} {off:Nat} {v:AV} (hl:LRel (CRel ρ) cs vs) (e:partE P t cs off=some v) :
 ∃ u,(part t vs.toArray off).run P w=.ok u w/\ARel ρ v u:=by
 unfold partE at e
 split at e
 . rename_i ha
   split at e
   . rename_i n hn
     obtain ⟨hb,e⟩:=bif_some e
     cases e
     refine ⟨.agg ((vs.drop off).take n).toArray,?_,⟨_,rfl,(hl.drop off).take n⟩⟩
     simp [part,isAgg_run ha,szOf_run hn,List.extract_toArray,Nat.add_sub_cancel_left]
   . cases e
 . rename_i ha
   cases e1:cs[off]? with
   | none=>rw [e1] at e;cases e
   | some x =>
     rw [e1] at e;cases e
     obtain ⟨u,hu,hr⟩:=hl.get e1
     exact ⟨u,by simp [part,isAgg_run ha,hu],hr⟩
 . cases e
noncomputable def fieldE (P:Program) (t:TypeId) (x:PV) (f:Nat):Option AV :=
 match P.underlying t,x with
 | some (.struct fs),.agg cs=>match fs[f]? with | some fd=>partE P fd.type cs fd.offset | none=>none
 | _,_=>none
theorem fieldE_ok {base:Nat} {ρ:Rho} {h:H} {w:World} {P:Program} (R:Rel base ρ h w) {t:TypeId} {x:PV} {u:Value} {f:Nat} {v:AV} (hx:PRel ρ x u) (e:fieldE P t x f=some v) :
 Good base ρ w P (Instr.field t u f) v h:=by
 unfold fieldE at e
 split at e
 . rename_i fs cs hu
   obtain ⟨vs,rfl,hl⟩:=hx
   split at e
   . rename_i fd hfd
     obtain ⟨y,hy,hr⟩:=partE_run w hl e
     refine Good.still (u:=y) R ?_ hr
     simp [Instr.field,run_underlying hu,hfd,asAgg,hy]
   . cases e
 . cases e
noncomputable def indexAggE (P:Program) (t:TypeId) (x:PV) (i:Int):Option AV :=
 match P.underlying t,x with
 | some (.array len el),.agg cs=>match szOf P el with
   | some n=>bif decide (0<=i)&&decide (i<len) then partE P el cs (Nat.mul i.toNat n) else none
   | none=>none
 | _,_=>none
theorem indexAggE_ok {base:Nat} {ρ:Rho} {h:H} {w:World} {P:Program} (R:Rel base ρ h w) {t:TypeId} {x:PV} {u:Value} {k:IntKind} {i:Int} {v:AV} (hx:PRel ρ x u) (e:indexAggE P t x i=some v) :
 Good base ρ w P (Instr.index t u (.int k i)) v h:=by
 unfold indexAggE at e
 split at e
 . rename_i len el cs hu
   obtain ⟨vs,rfl,hl⟩:=hx
   split at e
   . rename_i n hn
     obtain ⟨hb,e⟩:=bif_some e
     simp only [Bool.and_eq_true,decide_eq_true_eq] at hb
     obtain ⟨y,hy,hr⟩:=partE_run w hl e
     refine Good.still (u:=y) R ?_ hr
     have hy':(part el vs.toArray (i.toNat*n)).run P w=.ok y w:=hy
     simp [Instr.index,asIntOf,run_underlying hu,hb,szOf_run hn,hy']
   . cases e
 . cases e

/-! ### slices of slices -/
def clip (x:Option Int) (d lim:Nat):Option Nat :=
 match x with
 | none=>some d
 | some i=>bif decide (0<=i)&&decide (i<=lim) then some i.toNat else none
theorem clip_run {P:Program} (w:World) {k:IntKind} {i:Int} {d lim n:Nat} (code:BoundsCode) (e:clip (some i) d lim=some n):(Instr.sliceBound (.int k i) lim code).run P w=.ok n w:=by
 obtain ⟨hb,e⟩:=bif_some e
 cases e
 simp only [Bool.and_eq_true,decide_eq_true_eq] at hb
 simp [Instr.sliceBound,asIntOf,hb]
def BRel (x:Option Int) (v:Option Value):Prop :=
 match x,v with
 | none,none=>True
 | some i,some v=>∃ k,v=.int k i
 | _,_=>False
noncomputable def sliceE (P:Program) (hp:H) (t:TypeId) (x:CV) (lo hi mx:Option Int):Option AV :=
 match P.underlying t,x with
 | some (.slice el),.slice id off len cap ex sz =>
   match szOf P el with
   | some n=>bif Nat.beq n sz then
     match mx with
     | none=>match clip hi len cap with
       | some h=>match clip lo 0 h with
         | some l=>match l with
           | 0=>some (.p (.c (.slice id off h cap ex sz)))
           | l=>bif Nat.blt l cap then some (.p (.c (.slice id (Nat.add off (Nat.mul l n)) (Nat.sub h l) (Nat.sub cap l) ex sz)))
             else bif ex&&Nat.beq l cap then some (.p (.c (.slice id off (Nat.sub h l) 0 true sz))) else none
         | none=>none
       | none=>none
     | some _=>match clip mx 0 cap,hi with
       | some m,some _=>match clip hi 0 m with
         | some h=>match clip lo 0 h with
           | some l=>bif Nat.beq m l then some (.p (.c (.slice id off (Nat.sub h l) 0 true sz)))
             else some (.p (.c (.slice id (Nat.add off (Nat.mul l n)) (Nat.sub h l) (Nat.sub m l) true sz)))
           | none=>none
         | none=>none
       | _,_=>none
     else none
   | none=>none
 | some (.slice el),.nilslice=>match szOf P el with
   | some _=>match mx with
     | none=>match clip hi 0 0 with | some h=>(match clip lo 0 h with | some _=>some (.p (.c .nilslice)) | none=>none) | none=>none
     | some _=>none
   | none=>none
 | some (.array n el),.ptr id off =>
   match szOf P el with
   | some sz=>match mx with
     | none=>match clip hi n n with
       | some h=>match clip lo 0 h with
         | some l=>match hp.blk id with
           | some b=>bif Nat.blt l n&&Nat.ble (Nat.add off (Nat.mul n sz)) b.size then some (.p (.c (.slice id (Nat.add off (Nat.mul l sz)) (Nat.sub h l) (Nat.sub n l) true sz))) else none
           | none=>none
         | none=>none
       | none=>none
     | some _=>none
   | none=>none
 | _,_=>none
theorem clip_le {x:Option Int} {d lim n:Nat} (e:clip x d lim=some n) (hd:d<=lim∨x≠none):n<=lim:=by
 cases x with
 | none=>cases e;exact hd.resolve_right (by simp)
 | some i =>
   obtain ⟨hb,e⟩:=bif_some e
   cases e
   simp only [Bool.and_eq_true,decide_eq_true_eq] at hb
   omega
theorem bounds_run {P:Program} (w:World) {isS:Bool} {len cap:Nat} {lo hi:Option Int} {vlo vhi:Option Value} {h l:Nat} (c:Nat) (hc:cap<=c) (hlo:BRel lo vlo) (hhi:BRel hi vhi) (e1:clip hi len cap=some h) (e2:clip lo 0 h=some l) :
 (Instr.sliceBounds isS len c vlo vhi none).run P w=.ok (l,h,c) w:=by
 have e1':clip hi len c=some h:=by
  cases hi with
  | none=>exact e1
  | some i =>
    obtain ⟨hb,e⟩:=bif_some e1
    simp only [Bool.and_eq_true,decide_eq_true_eq] at hb
    simp only [clip]
    have:(decide (0<=i)&&decide (i<=(c:Int)))=true:=by simp;omega
    rw [this];exact e
 cases hi with
 | none =>
   cases vhi with
   | some _=>exact hhi.elim
   | none =>
     cases e1'
     cases lo with
     | none=>cases vlo with | some _=>exact hlo.elim | none=>cases e2;simp [Instr.sliceBounds]
     | some i=>cases vlo with
       | none=>exact hlo.elim
       | some v=>obtain ⟨k,rfl⟩:=hlo;simp [Instr.sliceBounds,clip_run w _ e2]
 | some j =>
   cases vhi with
   | none=>exact hhi.elim
   | some u =>
     obtain ⟨k',rfl⟩:=hhi
     cases lo with
     | none=>cases vlo with | some _=>exact hlo.elim | none=>cases e2;simp [Instr.sliceBounds,clip_run w _ e1']
     | some i=>cases vlo with
       | none=>exact hlo.elim
       | some v=>obtain ⟨k,rfl⟩:=hlo;simp [Instr.sliceBounds,clip_run w _ e1',clip_run w _ e2]
theorem bounds3_run {P:Program} (w:World) {len cap:Nat} {lo:Option Int} {j i:Int} {vlo:Option Value} {kh km:IntKind} {h l m:Nat} (c:Nat) (hc:cap<=c) (hlo:BRel lo vlo) (e0:clip (some i) 0 cap=some m) (e1:clip (some j) 0 m=some h) (e2:clip lo 0 h=some l) :
 (Instr.sliceBounds true len c vlo (some (.int kh j)) (some (.int km i))).run P w=.ok (l,h,m) w:=by
 have e0':clip (some i) 0 c=some m:=by
  obtain ⟨hb,e⟩:=bif_some e0
  simp only [Bool.and_eq_true,decide_eq_true_eq] at hb
  simp only [clip]
  have:(decide (0<=i)&&decide (i<=(c:Int)))=true:=by simp;omega
  rw [this];exact e
 cases lo with
 | none=>cases vlo with | some _=>exact hlo.elim | none=>cases e2;simp [Instr.sliceBounds,clip_run w _ e0',clip_run w _ e1]
 | some i=>cases vlo with
   | none=>exact hlo.elim
   | some v=>obtain ⟨k,rfl⟩:=hlo;simp [Instr.sliceBounds,clip_run w _ e0',clip_run w _ e1,clip_run w _ e2]
theorem sliceE_ok {base:Nat} {ρ:Rho} {hp:H} {w:World} {P:Program} (R:Rel base ρ hp w) {t:TypeId} {x:CV} {u:Value} {lo hi mx:Option Int} {vlo vhi vmx:Option Value} {v:AV} (hx:CRel ρ x u)
 (hlo:BRel lo vlo) (hhi:BRel hi vhi) (hmx:BRel mx vmx) (e:sliceE P hp t x lo hi mx=some v):Good base ρ w P (Instr.sliceAt t u vlo vhi vmx) v hp:=by
 unfold sliceE at e
 split at e
 · rename_i el id off len cap ex sz hu
   obtain ⟨p,c,hpl,rfl,hcap,hex,hroom⟩:=hx
   split at e
   · rename_i n hn
     replace e:=bif_some e;obtain ⟨hb,e⟩:=e
     simp only [Nat.beq_eq] at hb
     subst hb
     split at e
     · cases vmx with
       | some _=>exact hmx.elim
       | none =>
         split at e
         . rename_i h e1
           split at e
           . rename_i l e2
             have hbr:=bounds_run (P:=P) (isS:=true) w c hcap hlo hhi e1 e2
             have hl:l<=h:=clip_le e2 (.inl (Nat.zero_le _))
             have hrun:(Instr.sliceAt t (.slice (some ⟨p.block,p.off+off,none⟩) len c) vlo vhi none).run P w =
              .ok (.slice (some (if c=l then ⟨p.block,p.off+off,none⟩ else ⟨p.block,p.off+off+l*n,none⟩)) (h-l) (c-l)) w:=by
              simp only [Instr.sliceAt,Sem.run_bind,run_underlying hu,Result.andThen_ok,Instr.slice,hbr,szOf_run hn,Sem.run_pure,Option.map_some,Addr.add_lit]
              split <;> rfl
             split at e
             . cases e
               refine Good.still R hrun ⟨p,c,hpl,?_,hcap,hex,hroom⟩
               simp
             . rename_i hl0
               have hl0':l≠0:=fun hh=>hl0 hh
               by_cases hlt:Nat.blt l cap=true
               . rw [hlt] at e
                 cases e
                 have hlt':l<cap:=by simpa [Nat.blt_eq] using hlt
                 have hne:c≠l:=by omega
                 rw [if_neg hne] at hrun
                 refine Good.still R hrun ⟨p,c-l,hpl,by simp [Nat.add_assoc],Nat.sub_le_sub_right hcap l,fun hh=>by rw [hex hh];rfl,?_⟩
                 have:(c-l)*n+l*n=c*n:=by rw [<-Nat.add_mul];congr 1;omega
                 show off+l*n+(c-l)*n<=p.room
                 omega
               . simp only [hlt,cond_false] at e
                 replace e:=bif_some e;obtain ⟨hb,e⟩:=e
                 cases e
                 simp only [Bool.and_eq_true,Nat.beq_eq] at hb
                 have hce:=hex hb.1
                 rw [if_pos (by omega)] at hrun
                 refine Good.still R hrun ⟨p,c-l,hpl,rfl,Nat.zero_le _,fun _=>by omega,?_⟩
                 have:c-l=0:=by omega
                 rw [this];omega
           . cases e
         . cases e
     . rename_i i
       cases vmx with
       | none=>exact hmx.elim
       | some vm =>
         obtain ⟨km,rfl⟩:=hmx
         split at e
         . rename_i m j e0
           cases vhi with
           | none=>exact hhi.elim
           | some vh =>
             obtain ⟨kh,rfl⟩:=hhi
             split at e
             . rename_i h e1
               split at e
               . rename_i l e2
                 have hbr:=bounds3_run (P:=P) (len:=len) (kh:=kh) (km:=km) w c hcap hlo e0 e1 e2
                 have hl:l<=h:=clip_le e2 (.inl (Nat.zero_le _))
                 have hh:h<=m:=clip_le e1 (.inl (Nat.zero_le _))
                 have hm:m<=cap:=clip_le e0 (.inl (Nat.zero_le _))
                 have hrun:(Instr.sliceAt t (.slice (some ⟨p.block,p.off+off,none⟩) len c) vlo (some (.int kh j)) (some (.int km i))).run P w =
                  .ok (.slice (some (if m=l then ⟨p.block,p.off+off,none⟩ else ⟨p.block,p.off+off+l*n,none⟩)) (h-l) (m-l)) w:=by
                  simp only [Instr.sliceAt,Sem.run_bind,run_underlying hu,Result.andThen_ok,Instr.slice,hbr,szOf_run hn,Sem.run_pure,Option.map_some,Addr.add_lit]
                  split <;> rfl
                 by_cases hml:Nat.beq m l=true
                 . rw [hml] at e
                   cases e
                   simp only [Nat.beq_eq] at hml
                   rw [if_pos hml] at hrun
                   refine Good.still R hrun ⟨p,m-l,hpl,rfl,Nat.zero_le _,fun _=>by omega,?_⟩
                   have:m-l=0:=by omega
                   rw [this];omega
                 . simp only [hml,cond_false] at e
                   cases e
                   have hml':m≠l:=by simpa [Nat.beq_eq] using hml
                   rw [if_neg hml'] at hrun
                   refine Good.still R hrun ⟨p,m-l,hpl,by simp [Nat.add_assoc],Nat.le_refl _,fun _=>rfl,?_⟩
                   have h1:(m-l)*n+l*n=m*n:=by rw [<-Nat.add_mul];congr 1;omega
                   have h2:m*n<=c*n:=Nat.mul_le_mul_right _ (by omega)
                   show off+l*n+(m-l)*n<=p.room
                   omega
               . cases e
             . cases e
         . cases e
   . cases e
 . rename_i el hu
   cases hx
   split at e
   . rename_i n hn
     split at e
     · cases vmx with
       | some _=>exact hmx.elim
       | none =>
         split at e
         . rename_i h e1
           split at e
           . rename_i l e2
             cases e
             have hbr:=bounds_run (P:=P) (isS:=true) w 0 (Nat.le_refl _) hlo hhi e1 e2
             have hh:h<=0:=clip_le e1 (.inl (Nat.zero_le _))
             have hl:l<=h:=clip_le e2 (.inl (Nat.zero_le _))
             obtain rfl:h=0:=by omega
             obtain rfl:l=0:=by omega
             refine Good.still (u:=.slice none 0 0) R ?_ rfl
             simp [Instr.sliceAt,run_underlying hu,Instr.slice,hbr,szOf_run hn]
           . cases e
         . cases e
     . cases e
   . cases e
 · rename_i n el id off hu
   obtain ⟨p,hpl,rfl⟩:=hx
   split at e
   · rename_i sz hn
     split at e
     · cases vmx with
       | some _=>exact hmx.elim
       | none =>
         split at e
         . rename_i h e1
           split at e
           . rename_i l e2
             split at e
             . rename_i b hbk
               replace e:=bif_some e;obtain ⟨hb,e⟩:=e
               cases e
               simp only [Bool.and_eq_true,Nat.blt_eq,Nat.ble_eq] at hb
               have hb2:off+n*sz<=b.size:=hb.2
               have hbr:=bounds_run (P:=P) (isS:=false) w n (Nat.le_refl _) hlo hhi e1 e2
               obtain ⟨q,hq,L⟩:=R.cells id b hbk
               rw [hpl] at hq;cases hq
               have:=L.size
               refine Good.still (u:=.slice (some ⟨p.block,p.off+off+l*sz,none⟩) (h-l) (n-l)) R ?_ ⟨p,n-l,hpl,by simp [Nat.add_assoc],Nat.le_refl _,fun _=>rfl,?_⟩
               . have hne:n≠l:=by omega
                 simp only [Instr.sliceAt,Sem.run_bind,run_underlying hu,Result.andThen_ok,Instr.sureAddr,Sem.run_pure,hbr,szOf_run hn,Addr.add_lit,if_neg hne]
               . have h1:(n-l)*sz+l*sz=n*sz:=by rw [<-Nat.add_mul];congr 1;omega
                 show off+l*sz+(n-l)*sz<=p.room
                 omega
             . cases e
           . cases e
         . cases e
     . cases e
   . cases e
 . cases e
end Go.Mill
