/- A verified evaluator for the model. It holds for every program and every world, under the hypotheses that each theorem names. -/
import Derived.Test.YtejehoihhphpiaaDoorMillE
import Derived.Laws.MakeOwn
namespace Go.Mill
open Go.RowKit

/-! ### Literals -/
noncomputable def putL (l:List CV) (off:Nat) (cs:List CV):List CV:=List.rec (fun l _=>l) (fun c _ ih l off=>ih (l.set off c) (Nat.succ off)) cs l off
theorem putL_cons {l:List CV} {off:Nat} {c:CV} {cs:List CV}:putL l off (c::cs)=putL (l.set off c) (off+1) cs:=rfl
def putV (l:List Value) (off:Nat):List Value->List Value
 | []=>l
 | c::cs=>putV (l.set off c) (off+1) cs
theorem putL_rel {ρ:Rho}:∀ {cs:List CV} {vs:List Value} {l:List CV} {m:List Value} {off:Nat},LRel (CRel ρ) l m->LRel (CRel ρ) cs vs->LRel (CRel ρ) (putL l off cs) (putV m off vs)
 | [],[],_,_,_,h,_=>h
 | _::_,_::_,_,_,_,h,⟨a,b⟩=>by rw [putL_cons];exact putL_rel (h.set a) b
theorem foldl_put (off:Nat):∀ (vs:List Value) (k:Nat) (cells:Array Value),((vs.zipIdx k).foldl (fun (cs:Array Value) (x:Value×Nat)=>cs.setIfInBounds (off+x.2) x.1) cells).toList=putV cells.toList (off+k) vs
 | [],_,_=>rfl
 | v::vs,k,cells=>by
   simp only [List.zipIdx_cons,List.foldl_cons]
   rw [foldl_put off vs (k+1)]
   simp [putV,Array.toList_setIfInBounds,Nat.add_assoc]
noncomputable def fillE (place:Nat->Option (Nat×Nat)) (cells:List CV) (l:List (Nat×PV)):Option (List CV) :=
 List.rec (fun cells=>some cells) (fun x _ ih cells=>match x.2 with
  | .ifa _ _=>none
  | y=>match place x.1 with
    | some (off,size)=>bif Nat.beq y.cells.length size&&Nat.ble (Nat.add off size) cells.length then ih (putL cells off y.cells) else none
    | none=>none) l cells
theorem fillE_cons {place:Nat->Option (Nat×Nat)} {cells:List CV} {x:Nat×PV} {l:List (Nat×PV)}:fillE place cells (x::l)=match x.2 with
 | .ifa _ _=>none
 | y=>match place x.1 with
   | some (off,size)=>bif Nat.beq y.cells.length size&&Nat.ble (Nat.add off size) cells.length then fillE place (putL cells off y.cells) l else none
   | none=>none:=rfl
def PartRel (ρ:Rho) (x:Nat×PV) (y:Nat×Value):Prop:=x.1=y.1/\PRel ρ x.2 y.2
theorem fillE_rel {ρ:Rho} {place:Nat->Option (Nat×Nat)}:∀ {l:List (Nat×PV)} {m:List (Nat×Value)} {cells out:List CV} {c:Array Value},LRel (PartRel ρ) l m->LRel (CRel ρ) cells c.toList->fillE place cells l=some out->
 ∃ c',Instr.fill place c m=some c'/\LRel (CRel ρ) out c'.toList
 | [],[],_,_,c,_,h,e=>by cases e;exact ⟨c,rfl,h⟩
 | (i, x) :: l, (j, v) :: m, cells, out, c, ⟨⟨hij, hx⟩, hr⟩, h, e => by
   simp only at hij hx
   subst hij
   rw [fillE_cons] at e
   simp only at e
   split at e
   . cases e
   . rename_i hne
     have hx':=hx.cells (fun t cs hh=>hne t cs hh)
     split at e
     . rename_i off size hp
       obtain ⟨hb,e⟩:=bif_some e
       . simp only [Bool.and_eq_true,Nat.beq_eq,Nat.ble_eq] at hb
         have h1:v.cells.size=size:=by have:=hx'.length;rw [<-hb.1,this];simp
         have h2:c.size=cells.length:=by have:=h.length;rw [this];simp
         have hput:LRel (CRel ρ) (putL cells off x.cells) ((v.cells.zipIdx.foldl (fun (cs:Array Value) (x:Value×Nat)=>cs.setIfInBounds (off+x.2) x.1) c)).toList:=by
          rw [<-Array.foldl_toList,Array.toList_zipIdx,foldl_put]
          simpa using putL_rel h hx'
         obtain ⟨c',hc,hl⟩:=fillE_rel hr hput e
         refine ⟨c',?_,hl⟩
         have hle:off+size<=cells.length:=hb.2
         have h3:¬ (off+size > c.size):=by omega
         simp only [Instr.fill,hp,h1]
         simp only [ne_eq,not_true_eq_false,decide_false,h3,Bool.or_self,Bool.false_eq_true,if_false]
         exact hc
     . cases e
 | [],_::_,_,_,_,h,_,_=>h.elim
 | _::_,[],_,_,_,h,_,_=>h.elim
noncomputable def evPs (h:H) (fr:Fr) (l:List (Nat×Operand)):Option (List (Nat×PV)) :=
 List.rec (some []) (fun x _ ih=>match evO h fr x.2 with | some (.p v)=>(match ih with | some r=>some ((x.1,v)::r) | none=>none) | _=>none) l
theorem evPs_cons {h:H} {fr:Fr} {x:Nat×Operand} {l:List (Nat×Operand)}:evPs h fr (x::l)=match evO h fr x.2 with | some (.p v)=>(match evPs h fr l with | some r=>some ((x.1,v)::r) | none=>none) | _=>none:=rfl
theorem evPs_rel {base:Nat} {ρ:Rho} {h:H} {w:World} (R:Rel base ρ h w) {fr:Fr} {a:Act} (F:FrRel ρ fr a.tmps):∀ {l:List (Nat×Operand)} {vs:List (Nat×PV)},evPs h fr l=some vs->LRel (PartRel ρ) vs (l.map fun (i,x)=>(i,a.eval x))
 | [],vs,e=>by
   have:vs=[]:=(Option.some.inj (show some []=some vs from e)).symm
   subst this;trivial
 | x :: l, vs, e => by
   rw [evPs_cons] at e
   split at e
   . rename_i v hv
     cases e1:evPs h fr l with
     | none=>rw [e1] at e;cases e
     | some r=>rw [e1] at e;cases e;exact ⟨⟨rfl,evO_rel R F hv⟩,evPs_rel R F e1⟩
   . cases e
noncomputable def placesE (P:Program) (fs:List Field):Option (List (Nat×Nat)) :=
 List.rec (some []) (fun f _ ih=>match szOf P f.type with | some n=>(match ih with | some r=>some ((f.offset,n)::r) | none=>none) | none=>none) fs
theorem placesE_cons {P:Program} {f:Field} {fs:List Field}:placesE P (f::fs)=match szOf P f.type with | some n=>(match placesE P fs with | some r=>some ((f.offset,n)::r) | none=>none) | none=>none:=rfl
theorem placesE_run {P:Program} (w:World):∀ {fs:List Field} {l:List (Nat×Nat)},placesE P fs=some l->(fs.mapM (fun f=>do Pure.pure (f.offset,<-sizeOf f.type)):Sem (List (Nat×Nat))).run P w=.ok l w
 | [],l,e=>by
   have:l=[]:=(Option.some.inj (show some []=some l from e)).symm
   subst this;simp
 | f :: fs, l, e => by
   rw [placesE_cons] at e
   cases e1:szOf P f.type with
   | none=>rw [e1] at e;cases e
   | some n =>
     rw [e1] at e;simp only at e
     cases e2:placesE P fs with
     | none=>rw [e2] at e;cases e
     | some r =>
       rw [e2] at e;cases e
       have:=placesE_run w e2
       simp only [List.mapM_cons,Sem.run_bind,szOf_run e1,Result.andThen_ok,Sem.run_pure] at this ⊢
       rw [this]
       simp
noncomputable def buildE (P:Program) (t:TypeId) (ps:List (Nat×PV)):Option AV :=
 match zeroPV P t with
 | some z=>match P.underlying t with
   | some (.struct fs)=>match placesE P fs.toList with
     | some pl=>match fillE (fun i=>pl[i]?) z.cells ps with | some cs=>some (.p (.agg cs)) | none=>none
     | none=>none
   | some (.array _ el)=>match szOf P el with
     | some n=>match fillE (fun i=>some (i*n,n)) z.cells ps with | some cs=>some (.p (.agg cs)) | none=>none
     | none=>none
   | _=>none
 | none=>none
theorem buildE_ok {base:Nat} {ρ:Rho} {h:H} {w:World} {P:Program} (R:Rel base ρ h w) {t:TypeId} {ps:List (Nat×PV)} {parts:Array (Nat×Value)} {v:AV} (hp:LRel (PartRel ρ) ps parts.toList) (e:buildE P t ps=some v) :
 Good base ρ w P (Instr.build t parts) v h:=by
 unfold buildE at e
 split at e
 . rename_i z hz
   obtain ⟨zv,hzr,_,hzp⟩:=zeroPV_run hz w
   obtain ⟨hzrel,hzn⟩:=ofPV_rel (ρ:=ρ) hzp
   have hzc:=hzrel.cells hzn
   split at e
   . rename_i fs hu
     split at e
     . rename_i pl hpl
       cases e1:fillE (fun i=>pl[i]?) z.cells ps with
       | none=>rw [e1] at e;cases e
       | some cs =>
         rw [e1] at e;cases e
         obtain ⟨c',hc,hl⟩:=fillE_rel hp hzc e1
         refine Good.still (u:=.agg c') R ?_ ⟨c'.toList,by simp,hl⟩
         have hm:(fs.mapM (fun f=>do Pure.pure (f.offset,<-sizeOf f.type)):Sem (Array (Nat×Nat))).run P w=.ok pl.toArray w:=by
          rw [<-Array.toArray_toList (xs:=fs),List.mapM_toArray]
          have:=placesE_run w hpl
          simp only [Sem.run_map,this,Result.andThen_ok]
         simp only [Instr.build,Sem.run_bind,hzr,Result.andThen_ok,run_underlying hu,hm]
         have hg:(fun i:Nat=>(pl.toArray)[i]?)=fun i=>pl[i]?:=by funext i;simp
         simp only [hg,hc]
         rfl
     . cases e
   . rename_i len el hu
     split at e
     . rename_i n hn
       cases e1:fillE (fun i=>some (i*n,n)) z.cells ps with
       | none=>rw [e1] at e;cases e
       | some cs =>
         rw [e1] at e;cases e
         obtain ⟨c',hc,hl⟩:=fillE_rel hp hzc e1
         refine Good.still (u:=.agg c') R ?_ ⟨c'.toList,by simp,hl⟩
         simp only [Instr.build,Sem.run_bind,hzr,Result.andThen_ok,run_underlying hu,szOf_run hn,hc]
         rfl
     . cases e
   . cases e
 . cases e
noncomputable def zerosE (z:List CV) (n:Nat):List CV:=Nat.rec [] (fun _ ih=>z++ih) n
theorem zerosE_succ {z:List CV} {n:Nat}:zerosE z (n+1)=z++zerosE z n:=rfl
theorem zerosE_length {z:List CV}:∀ n,(zerosE z n).length=n*z.length
 | 0=>by show ([]:List CV).length=_;simp
 | n+1=>by rw [zerosE_succ,List.length_append,zerosE_length n,Nat.add_mul];omega
theorem zerosE_get {z:List CV}:∀ n i,i<n*z.length->(zerosE z n)[i]? = z[i % z.length]?
 | 0,i,h=>by simp at h
 | n + 1, i, h => by
   rw [zerosE_succ]
   have hz:0<z.length:=by
    rcases Nat.eq_zero_or_pos z.length with k | k
    . rw [k] at h;simp at h
    . exact k
   by_cases hi:i<z.length
   . rw [List.getElem?_append_left hi,Nat.mod_eq_of_lt hi]
   . rw [List.getElem?_append_right (by omega),zerosE_get n (i-z.length) (by rw [Nat.add_mul] at h;omega)]
     congr 1
     exact (Nat.mod_eq_sub_mod (by omega)).symm
theorem zerosE_rel {ρ:Rho} {z:List CV} {zc:Array Value} (h:LRel (CRel ρ) z zc.toList) (n size:Nat) (hs:z.length=size) (hpos:0<n*size):LRel (CRel ρ) (zerosE z n) ((Array.range (n*size)).map (zc[· % zc.size]!)).toList:=by
 have hlen:zc.size=size:=by have:=h.length;simp at this;omega
 have hs0:0<size:=Nat.pos_of_mul_pos_left hpos
 refine LRel.of_get (by simp [zerosE_length,hs]) ?_
 intro i x y hx hy
 have hi:i<n*size:=by
  have:=(List.getElem?_eq_some_iff.1 hx).1
  rw [zerosE_length,hs] at this;exact this
 rw [zerosE_get n i (by rw [hs];exact hi)] at hx
 obtain ⟨v,hv,hr⟩:=h.get hx
 have hmod:i % size<zc.size:=by rw [hlen];exact Nat.mod_lt _ hs0
 have:y=v:=by
  rw [hs] at hv
  simp [hi,hlen] at hy
  rw [<-hy,getElem!_pos zc (i % size) hmod]
  simp at hv
  rw [Array.getElem?_eq_getElem hmod] at hv
  exact Option.some.inj hv
 subst this;exact hr
noncomputable def buildSliceE (P:Program) (h:H) (t:TypeId) (len:Nat) (ps:List (Nat×PV)):Option (AV×H) :=
 match P.underlying t with
 | some (.slice el)=>match szOf P el with
   | some n=>match zeroPV P el with
     | some z=>bif Nat.beq z.cells.length n&&Nat.ble (Nat.mul len n) 16777216 then
      match fillE (fun i=>some (i*n,n)) (zerosE z.cells len) ps with
      | some cs=>some (.p (.c (.slice h.next 0 len len true n)),h.newCells el cs true)
      | none=>none
       else none
     | none=>none
   | none=>none
 | _=>none
theorem Nat_zero_or (a b:Nat):a*b=0∨0<a*b:=Nat.eq_zero_or_pos _
theorem putV_length:∀ (vs:List Value) (l:List Value) (off:Nat),(putV l off vs).length=l.length
 | [],_,_=>rfl
 | v::vs,l,off=>by simp [putV,putV_length vs]
theorem fill_size {place:Nat->Option (Nat×Nat)}:∀ {m:List (Nat×Value)} {c c':Array Value},Instr.fill place c m=some c'->c'.size=c.size
 | [],c,c',e=>by cases e;rfl
 | (i, v) :: m, c, c', e => by
   simp only [Instr.fill] at e
   split at e
   . cases e
   . split at e
     . cases e
     . have:=fill_size e
       rw [this]
       rename_i off _ _ _
       have:=foldl_put off v.cells.toList 0 c
       rw [<-Array.foldl_toList,Array.toList_zipIdx,<-Array.length_toList,this,putV_length]
       simp
theorem buildSliceE_ok {base:Nat} {ρ:Rho} {h h':H} {w:World} {P:Program} (R:Rel base ρ h w) {t:TypeId} {len:Nat} {ps:List (Nat×PV)} {parts:Array (Nat×Value)} {v:AV} (hp:LRel (PartRel ρ) ps parts.toList)
 (e:buildSliceE P h t len ps=some (v,h')):Good base ρ w P (Instr.buildSlice t len parts) v h':=by
 unfold buildSliceE at e
 split at e
 · rename_i el hu
   split at e
   · rename_i n hn
     split at e
     . rename_i z hz
       obtain ⟨hb,e⟩:=bif_some e
       · simp only [Bool.and_eq_true, Nat.beq_eq, Nat.ble_eq] at hb
         have hb2:len*n<=16777216:=hb.2
         obtain ⟨zv,hzr,_,hzp⟩:=zeroPV_run hz w
         obtain ⟨hzrel,hzn⟩:=ofPV_rel (ρ:=ρ) hzp
         have hzc:=hzrel.cells hzn
         cases e1:fillE (fun i=>some (i*n,n)) (zerosE z.cells len) ps with
         | none=>rw [e1] at e;cases e
         | some cs =>
           rw [e1] at e;cases e
           have key:∃ zero:Array Value,((if len*n=0 then (Pure.pure #[]:Sem (Array Value)) else do Pure.pure (<-zeroValue el).cells).run P w=.ok zero w)/\
            LRel (CRel ρ) (zerosE z.cells len) ((Array.range (len*n)).map (zero[· % zero.size]!)).toList:=by
            rcases Nat_zero_or len n with h0 | hpos
            . refine ⟨#[],by simp [h0],?_⟩
              have:zerosE z.cells len=[]:=by
               apply List.eq_nil_of_length_eq_zero
               rw [zerosE_length,hb.1,h0]
              rw [this,h0];simp [LRel]
            . refine ⟨zv.cells,by rw [if_neg (by omega)];simp [hzr],?_⟩
              exact zerosE_rel hzc len n hb.1 hpos
           obtain ⟨zero,hzero,hzeros⟩:=key
           obtain ⟨c',hc,hl⟩:=fillE_rel hp hzeros e1
           obtain ⟨ρ',e2,hle,R',hn',hB⟩:=newRow_ok (P:=P) R el hl
           have hsz:c'.size=len*n:=by rw [fill_size hc];simp
           refine ⟨.slice (some ⟨w.heap.size,0,none⟩) len len,_,ρ',?_,hle,R',⟨_,len,hn',by simp,Nat.le_refl _,fun _=>rfl,by simp [hsz]⟩,hB⟩
           have h24:¬ (len*n > 2 ^ 24):=by omega
           simp only [Instr.buildSlice,Sem.run_bind,run_underlying hu,Result.andThen_ok,szOf_run hn,h24,if_false]
           by_cases h0:len*n=0
           . rw [if_pos h0] at hzero ⊢
             obtain rfl:zero=#[]:=by
              have:=hzero
              simp only [Sem.run_pure,Result.ok.injEq] at this
              exact this.1.symm
             simp only [Sem.run_bind,Sem.run_pure,Result.andThen_ok,hc,e2]
           . rw [if_neg h0] at hzero ⊢
             simp only [Sem.run_bind,hzr,Sem.run_pure,Result.andThen_ok,Result.ok.injEq] at hzero
             obtain ⟨rfl,_⟩:=hzero
             simp only [Sem.run_bind,hzr,Sem.run_pure,Result.andThen_ok,hc,e2]
     . cases e
   . cases e
 . cases e
end Go.Mill
