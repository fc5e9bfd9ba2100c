/- A verified evaluator for the model. It holds for every program and every world, under the hypotheses that each theorem names. -/
import Derived.Test.YtejehoihhphpiaaDoorMillK
import Derived.Laws.BytesString
import Derived.Lib.UnsafeStr
namespace Go.Mill
open Go.RowKit

/-! ### copy, len, cap -/
noncomputable def lenE:CV->Option Nat
 | .nilslice=>some 0
 | .slice _ _ len _ _ _=>some len
 | .str s=>some s.size
 | _=>none
noncomputable def srcN (h:H) (size n:Nat):CV->Option (List CV)
 | .nilslice=>some []
 | .slice id off _ _ _ _=>rdL h id off (Nat.mul n size)
 | .str s=>bif Nat.beq size 1 then some (bytesCV (s.data.toList.take n)) else none
 | _=>none
theorem lenE_run {ρ:Rho} {P:Program} {x:CV} {u:Value} {n:Nat} (hx:CRel ρ x u) (e:lenE x=some n) (w:World):(Builtin.lenOf u).run P w=.ok n w:=by
 unfold lenE at e
 split at e <;> cases e
 . cases hx;simp [Builtin.lenOf]
 . obtain ⟨p,c,_,rfl,_⟩:=hx;simp [Builtin.lenOf]
 . cases hx;simp [Builtin.lenOf]
theorem srcN_run {base:Nat} {ρ:Rho} {h:H} {w:World} {P:Program} (R:Rel base ρ h w) {size n m:Nat} {x:CV} {u:Value} {cs:List CV} (hx:CRel ρ x u) (hm:lenE x=some m) (_hn:n<=m) (e:srcN h size n x=some cs) :
 ∃ vs,LRel (CRel ρ) cs vs/\(Builtin.firstCells size n u).run P w=.ok vs.toArray w:=by
 unfold srcN at e
 split at e
 . cases e;cases hx;exact ⟨[],trivial,by simp [Builtin.firstCells]⟩
 . rename_i id off len cap ex sz
   obtain ⟨p,c,hp,rfl,_⟩:=hx
   have e:rdL h id off (n*size)=some cs:=e
   by_cases h0:n*size=0
   . rw [h0,rdL_zero] at e;cases e
     exact ⟨[],trivial,by simp [Builtin.firstCells,h0,loadCells,loadCellsFrom]⟩
   . obtain ⟨q,vs,hq,hl,hlen,hcs⟩:=rdL_rel R e (by omega)
     rw [hp] at hq;cases hq
     refine ⟨vs,hl,?_⟩
     have:=run_loadCells_list (P:=P) w ⟨p.block,p.off+off,none⟩ vs (fun j v hv=>by rw [Addr.add_lit];exact hcs j v hv)
     rw [hlen] at this
     simp [Builtin.firstCells,this]
 . rename_i s
   cases hx
   obtain ⟨_,e⟩:=bif_some e
   cases e
   refine ⟨(s.data.toList.take n).map fun b=>Value.int .u8 b.toNat,bytesCV_rel _,?_⟩
   simp only [Builtin.firstCells,Sem.run_pure]
   congr 1
   apply Array.ext'
   simp [List.extract_eq_take_drop]
 . cases e
noncomputable def copyE (P:Program) (h:H) (t:TypeId) (x y:CV):Option (AV×H) :=
 match P.underlying t with
 | some (.slice el)=>match szOf P el,lenE y with
   | some size,some m=>match x with
     | .nilslice=>match srcN h size 0 y with | some _=>some (.p (.c (.int .i64 0)),h) | none=>none
     | .slice id off len _ _ _=>match srcN h size (Nat.min m len) y with
       | some []=>some (.p (.c (.int .i64 (Int.ofNat (Nat.min m len)))),h)
       | some cs=>match wrL h id off cs with | some h'=>some (.p (.c (.int .i64 (Int.ofNat (Nat.min m len)))),h') | none=>none
       | none=>none
     | _=>none
   | _,_=>none
 | _=>none
theorem copyE_ok {base:Nat} {ρ:Rho} {h h':H} {w:World} {P:Program} (R:Rel base ρ h w) {t ty:TypeId} {ts:Array TypeId} {x y:CV} {u v:Value} {r:AV} (ht:ts[0]? = some t) (hx:CRel ρ x u) (hy:CRel ρ y v) (e:copyE P h t x y=some (r,h')) :
 Good base ρ w P (Builtin.copy_ ts ty #[u,v]) r h':=by
 unfold copyE at e
 split at e
 . rename_i el hu
   split at e
   . rename_i size m hsz hm
     split at e
     . cases hx
       split at e
       . rename_i cs hcs
         cases e
         obtain ⟨vs,_,hrun⟩:=srcN_run (P:=P) R hy hm (Nat.zero_le _) hcs
         refine Good.still (u:=goInt 0) R ?_ rfl
         simp [Builtin.copy_,ht,run_underlying hu,lenE_run hy hm,szOf_run hsz,hrun]
       . cases e
     . rename_i id off len cap ex sz
       obtain ⟨p,c,hp,rfl,_⟩:=hx
       split at e
       . rename_i hcs
         cases e
         obtain ⟨vs,hl,hrun⟩:=srcN_run (P:=P) R hy hm (Nat.min_le_left _ _) hcs
         have hv0:vs=[]:=by cases vs with | nil=>rfl | cons _ _=>exact hl.elim
         subst hv0
         refine Good.still (u:=goInt (Nat.min m len)) R ?_ rfl
         simp only [Builtin.copy_,ht,Sem.run_bind,List.getElem?_toArray,List.getElem?_cons_zero,List.getElem?_cons_succ,run_underlying hu,Result.andThen_ok,lenE_run hy hm,szOf_run hsz,hrun,storeCells,Sem.run_pure]
       . rename_i cs hne hcs
         obtain ⟨vs,hl,hrun⟩:=srcN_run (P:=P) R hy hm (Nat.min_le_left _ _) hcs
         cases e1:wrL h id off cs with
         | none=>rw [e1] at e;cases e
         | some h1 =>
           rw [e1] at e;cases e
           obtain ⟨q,hq,hbase,hc,hf,R'⟩:=wrL_rel R e1 hl (fun hh=>hne hh)
           rw [hp] at hq;cases hq
           have hst:=run_storeCells_cells (P:=P) p.block (p.off+off) vs 0 w (by simpa using hc) (by simpa using hf) (oneCells_of hl)
           simp only [Nat.add_zero] at hst
           refine ⟨goInt (Nat.min m len),_,ρ,?_,Rho.le.refl _,R',rfl,below_setCells hbase _ _ _⟩
           simp only [Builtin.copy_,ht,Sem.run_bind,List.getElem?_toArray,List.getElem?_cons_zero,List.getElem?_cons_succ,run_underlying hu,Result.andThen_ok,lenE_run hy hm,szOf_run hsz,hrun,hst,Sem.run_pure]
       . cases e
     . cases e
   . cases e
 . cases e
noncomputable def clearE (P:Program) (h:H) (t:TypeId) (x:CV):Option (AV×H) :=
 match P.underlying t with
 | some (.slice el)=>match x with
   | .nilslice=>some (.tup [],h)
   | .slice id off len _ _ _=>bif Nat.beq len 0 then some (.tup [],h) else (match zeroPV P el with
     | some z=>(match zerosE z.cells len with
       | []=>none
       | c::cs=>match wrL h id off (c::cs) with | some h'=>some (.tup [],h') | none=>none)
     | none=>none)
   | _=>none
 | _=>none
theorem clearE_ok {base:Nat} {ρ:Rho} {h h':H} {w:World} {P:Program} (R:Rel base ρ h w) {t ty:TypeId} {ts:Array TypeId} {x:CV} {u:Value} {r:AV} (ht:ts[0]? = some t) (hx:CRel ρ x u) (e:clearE P h t x=some (r,h')) :
 Good base ρ w P (Builtin.clear_ ts ty #[u]) r h':=by
 unfold clearE at e
 split at e
 . rename_i el hu
   split at e
   . cases hx
     cases e
     exact Good.still (u:=.tuple #[]) R (by simp [Builtin.clear_,ht,run_underlying hu]) ⟨[],rfl,trivial⟩
   · rename_i id off len cap ex sz
     obtain ⟨p,c,hp,rfl,_⟩:=hx
     cases hb:Nat.beq len 0 with
     | true =>
       rw [hb] at e
       have h0:len=0:=Nat.eq_of_beq_eq_true hb
       subst h0
       cases e
       exact Good.still (u:=.tuple #[]) R (by simp [Builtin.clear_,ht,run_underlying hu]) ⟨[],rfl,trivial⟩
     | false =>
       rw [hb] at e
       have h0:len≠0:=Nat.ne_of_beq_eq_false hb
       simp only [cond_false] at e
       split at e
       . rename_i z hz
         split at e
         . cases e
         . rename_i c0 cs0 hcs
           split at e
           . rename_i h1 e1
             cases e
             obtain ⟨zv,hzr,_,hp2⟩:=zeroPV_run hz w
             obtain ⟨hr,hn⟩:=ofPV_rel (ρ:=ρ) hp2
             have hzc:=hr.cells hn
             have hlen:z.cells.length=zv.cells.size:=by have:=hzc.length;simpa using this
             have hpos:0<len*zv.cells.size:=by
              have h1:=zerosE_length (z:=z.cells) len
              rw [hcs,hlen] at h1
              simp at h1;omega
             have hrel:=zerosE_rel hzc len zv.cells.size hlen hpos
             rw [hcs] at hrel
             obtain ⟨q,hq,hbase,hc,hf,R'⟩:=wrL_rel R e1 hrel (by simp)
             rw [hp] at hq;cases hq
             have hst:=run_storeCells_cells (P:=P) p.block (p.off+off) _ 0 w (by simpa using hc) (by simpa using hf) (oneCells_of hrel)
             simp only [Nat.add_zero] at hst
             refine ⟨.tuple #[],_,ρ,?_,Rho.le.refl _,R',⟨[],rfl,trivial⟩,below_setCells hbase _ _ _⟩
             simp only [Builtin.clear_,ht,Sem.run_bind,List.getElem?_toArray,List.getElem?_cons_zero,run_underlying hu,Result.andThen_ok]
             cases len with
             | zero=>exact absurd rfl h0
             | succ n=>simp only [hzr,Result.andThen_ok,Builtin.zeroCells,hst,Sem.run_pure]
           . cases e
       . cases e
   . cases e
 . cases e
noncomputable def lenAcc {α:Type} (l:List α):Nat->Nat :=
 List.rec (motive:=fun _=>Nat->Nat) (fun acc=>acc) (fun _ _ ih acc=>Nat.rec (motive:=fun _=>Nat) (ih 1) (fun p _=>ih (Nat.add p 2)) acc) l
theorem lenAcc_eq {α:Type}:∀ (l:List α) (acc:Nat),lenAcc l acc=acc+l.length
 | [],acc=>rfl
 | a::l,acc=>by
   cases acc with
   | zero=>show lenAcc l 1=_;rw [lenAcc_eq l];simp;omega
   | succ p=>show lenAcc l (p+2)=_;rw [lenAcc_eq l];simp;omega
noncomputable def sizeE (s:ByteArray):Nat:=lenAcc s.data.toList 0
theorem sizeE_eq (s:ByteArray):sizeE s=s.size:=by
 unfold sizeE
 rw [lenAcc_eq,Nat.zero_add,Array.length_toList]
 rfl
noncomputable def blenE (P:Program) (t:TypeId) (x:PV):Option AV :=
 match P.underlying t,x with
 | some (.slice _),.c .nilslice=>some (.p (.c (.int .i64 0)))
 | some (.slice _),.c (.slice _ _ len _ _ _)=>some (.p (.c (.int .i64 (Int.ofNat len))))
 | some .string,.c (.str s)=>some (.p (.c (.int .i64 (Int.ofNat (sizeE s)))))
 | some (.array n _),_=>some (.p (.c (.int .i64 (Int.ofNat n))))
 | _,_=>none
theorem blenE_ok {base:Nat} {ρ:Rho} {h:H} {w:World} {P:Program} (R:Rel base ρ h w) {t ty:TypeId} {x:PV} {u:Value} {v:AV} (hx:PRel ρ x u) (e:blenE P t x=some v) :
 Good base ρ w P (Builtin.len_ #[t] ty #[u]) v h:=by
 unfold blenE at e
 split at e
 . rename_i el hu;cases e;cases hx
   exact Good.still (u:=goInt 0) R (by simp [Builtin.len_,run_underlying hu]) rfl
 . rename_i el id off len cap ex sz hu;cases e
   obtain ⟨p,c,_,rfl,_⟩:=hx
   exact Good.still (u:=goInt len) R (by simp [Builtin.len_,run_underlying hu]) rfl
 . rename_i s hu;cases e;cases hx
   rw [sizeE_eq]
   exact Good.still (u:=goInt s.size) R (by simp [Builtin.len_,run_underlying hu]) rfl
 . rename_i n el hu
   cases e
   exact Good.still (u:=goInt n) R (by simp [Builtin.len_,run_underlying hu]) rfl
 . cases e

/-! ### bytes and strings -/
noncomputable def toBytes (l:List CV):Option (List Int):=List.rec (some []) (fun x _ ih=>match x with | .int .u8 n=>(match ih with | some r=>some (n::r) | none=>none) | _=>none) l
theorem toBytes_cons {x:CV} {l:List CV}:toBytes (x::l)=match x with | .int .u8 n=>(match toBytes l with | some r=>some (n::r) | none=>none) | _=>none:=rfl
theorem toBytes_rel {ρ:Rho}:∀ {l:List CV} {vs:List Value} {ns:List Int},LRel (CRel ρ) l vs->toBytes l=some ns->vs=ns.map (Value.int .u8)
 | [],[],ns,_,e=>by
   have:ns=[]:=(Option.some.inj (show some []=some ns from e)).symm
   subst this;rfl
 | x :: l, v :: vs, ns, ⟨a, b⟩, e => by
   rw [toBytes_cons] at e
   split at e
   . rename_i n
     cases e1:toBytes l with
     | none=>rw [e1] at e;cases e
     | some r=>rw [e1] at e;cases e;cases a;rw [toBytes_rel b e1];rfl
   . cases e
noncomputable def packAll (l:List Int):ByteArray:=⟨⟨l.map fun n=>UInt8.ofNat n.toNat⟩⟩
theorem packAll_eq (l:List Int):packAll l=l.foldl (fun r n=>r.push (UInt8.ofNat n.toNat)) ByteArray.empty:=by
 have:∀ (l:List Int) (r:ByteArray),(l.foldl (fun r n=>r.push (UInt8.ofNat n.toNat)) r).data.toList=r.data.toList++l.map fun n=>UInt8.ofNat n.toNat:=by
  intro l
  induction l with
  | nil=>intro r;simp
  | cons n l ih=>intro r;simp only [List.foldl_cons];rw [ih];simp [ByteArray.push]
 have h:=this l ByteArray.empty
 apply ByteArray.ext
 apply Array.ext'
 rw [h]
 simp [packAll]
noncomputable def b2sE (P:Program) (h:H) (src dst:TypeId) (x:CV):Option AV :=
 match P.underlying src,P.underlying dst with
 | some (.slice el),some .string=>match P.underlying el with
   | some (.int .u8)=>match x with
     | .nilslice=>some (.p (.c (.str ⟨⟨[]⟩⟩)))
     | .slice id off len _ _ _=>match rdL h id off len with
       | some cs=>match toBytes cs with | some ns=>some (.p (.c (.str (packAll ns)))) | none=>none
       | none=>none
     | _=>none
   | _=>none
 | _,_=>none
theorem b2sE_ok {base:Nat} {ρ:Rho} {h:H} {w:World} {P:Program} (R:Rel base ρ h w) {src dst:TypeId} {x:CV} {u:Value} {v:AV} (hx:CRel ρ x u) (e:b2sE P h src dst x=some v) :
 Good base ρ w P (convert src dst u) v h:=by
 unfold b2sE at e
 split at e
 · rename_i el hs hd
   split at e
   · rename_i he
     split at e
     . cases e;cases hx
       refine Good.still (u:=.string ⟨⟨[]⟩⟩) R ?_ rfl
       simp [convert,run_underlying hs,run_underlying hd,run_underlying he,Conv.bytesToString]
       rfl
     . rename_i id off len cap ex sz
       obtain ⟨p,c,hp,rfl,_⟩:=hx
       split at e
       . rename_i cs hcs
         split at e
         . rename_i ns hns
           cases e
           have hload:(loadCells ⟨p.block,p.off+off,none⟩ len).run P w=.ok (ns.map (Value.int .u8)).toArray w:=by
            by_cases h0:len=0
            . subst h0
              rw [rdL_zero] at hcs;cases hcs
              have:ns=[]:=(Option.some.inj (show some []=some ns from hns)).symm
              subst this
              simp [loadCells,loadCellsFrom]
            . obtain ⟨q,vs,hq,hl,hlen,hc⟩:=rdL_rel R hcs (by omega)
              rw [hp] at hq;cases hq
              have:=run_loadCells_list (P:=P) w ⟨p.block,p.off+off,none⟩ vs (fun j v hv=>by rw [Addr.add_lit];exact hc j v hv)
              rw [hlen] at this
              rw [<-toBytes_rel hl hns];exact this
           refine Good.still (u:=.string (packAll ns)) R ?_ rfl
           have:=run_bytesToString (P:=P) w ⟨p.block,p.off+off,none⟩ len c ns hload
           simp only [convert,Sem.run_bind,run_underlying hs,run_underlying hd,run_underlying he,Result.andThen_ok,this,packAll_eq]
         . cases e
       . cases e
     . cases e
   . cases e
 . cases e
noncomputable def s2bE (P:Program) (h:H) (src dst:TypeId) (x:CV):Option (AV×H) :=
 match P.underlying src,P.underlying dst,x with
 | some .string,some (.slice el),.str s=>match P.underlying el with
   | some (.int .u8)=>some (.p (.c (.slice h.next 0 s.size s.size false 1)),h.newCells el (bytesCV s.data.toList) false true)
   | _=>none
 | _,_,_=>none
theorem s2bE_ok {base : Nat} {ρ : Rho} {h h' : H} {w : World} {P : Program} (R : Rel base ρ h w) {src dst : TypeId} {x : CV} {u : Value} {v : AV} (hx : CRel ρ x u) (e : s2bE P h src dst x = some (v, h')) :
 Good base ρ w P (convert src dst u) v h':=by
 unfold s2bE at e
 split at e
 . rename_i el s hs hd
   cases hx
   split at e
   . rename_i he
     cases e
     have hge:=grownCap_ge w s.size 0 el
     generalize hcap:grownCap w s.size 0 el=cap at hge
     have hcap':(Question.appendCap s.size 0 el).cut (w.tape w.drawn (Question.appendCap s.size 0 el))=cap:=hcap
     let c:Array Value:=s.data.map (fun b=>Value.int .u8 b.toNat)++Array.replicate (cap-s.size) (.int .u8 0)
     have hcs:c.size=cap:=by
      simp only [c,Array.size_append,Array.size_map,Array.size_replicate]
      have:s.data.size=s.size:=rfl
      omega
     have R1:=R.drawn (w.drawn+1)
     have R2:=R1.newCells (cs:=bytesCV s.data.toList) (c:=c) el (fz:=(cap,cap+1)) (fun i x hx=>by
      obtain ⟨v,hv,hr⟩:=(bytesCV_rel (ρ:=ρ) s.data.toList).get hx
      refine ⟨v,?_,hr⟩
      have hi:=(List.getElem?_eq_some_iff.1 hv).1
      have:i<(s.data.map (fun b=>Value.int .u8 b.toNat)).size:=by simpa using hi
      simp only [c]
      rw [Array.getElem?_append_left this]
      simpa using hv) (hi:=true) ⟨by rw [hcs];intro o ho hh;simp only at hh;omega,fun hh=>by cases hh⟩ (ex:=false) (by simp)
     refine ⟨.slice (some ⟨w.heap.size,0,none⟩) s.size cap,_,_,?_,Rho.le_add (R.fresh _ (Nat.le_refl _)),R2,⟨_,cap,Rho.add_self,rfl,hge,(fun hh=>by cases hh),?_⟩,?_⟩
     . simp only [convert,Sem.run_bind,run_underlying hs,run_underlying hd,run_underlying he,Result.andThen_ok]
       simp only [Conv.stringToBytes,Sem.run_bind,run_choose,Question.forced,Bool.false_eq_true,if_false,Result.andThen_ok,newRow,newObj,Sem.run,Sem.run_pure,hcap',markStringish,shape,World.shape?,freeze]
       have hc0:Array.map (fun b=>Value.int IntKind.u8 (b.toNat:Int)) s.data++Array.replicate (cap-s.size) (Value.int IntKind.u8 0)=c:=rfl
       rw [hc0]
       have e1:((w.heap.push (Obj.cells c el))[w.heap.size]?)=some (Obj.cells c el):=by simp
       simp only [e1,Sem.run,Result.andThen_ok,World.freeze,Nat.one_ne_zero,if_false,hcs]
       have e2:(w.heap.push (Obj.cells c el)).modify w.heap.size (fun x=>match x with
        | .cells c elem (lo,hi)=>.cells c elem (if lo == hi then (cap,cap+1) else (min lo cap,max hi (cap+1)))
        | o=>o)=w.heap.push (Obj.cells c el (cap,cap+1)):=by
        apply Array.ext_getElem?
        intro i
        rw [Array.getElem?_modify,Array.getElem?_push,Array.getElem?_push]
        by_cases hi:w.heap.size=i
        . subst hi;simp
        . rw [if_neg hi,if_neg (by omega),if_neg (by omega)]
       exact congrArg (fun hp=>Result.ok (Value.slice (some { block:=w.heap.size,off:=0 }) s.size cap) { w with heap:=hp,drawn:=w.drawn+1 }) e2
     . show 0+cap*1<=c.size
       omega
     . exact ⟨rfl,rfl,rfl,(by show _<=(w.heap.push _).size;simp),fun k hk=>by
        have:=R.basele
        show (w.heap.push _)[k]? = _
        rw [Array.getElem?_push,if_neg (by omega)]⟩
   . cases e
 . cases e
end Go.Mill
