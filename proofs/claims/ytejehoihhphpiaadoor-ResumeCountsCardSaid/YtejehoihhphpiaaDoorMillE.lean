/- A verified evaluator for the model. It holds for every program and every world, under the hypotheses that each theorem names. -/
import Derived.Test.YtejehoihhphpiaaDoorMillD
import Derived.WalkKit
namespace Go.Mill
open Go.RowKit

/-! ### Values without addresses -/
def CV.toV:CV->Option Value
 | .bool b=>some (.bool b)
 | .int k n=>some (.int k n)
 | .str s=>some (.string s)
 | .nilptr=>some (.pointer none)
 | .nilslice=>some (.slice none 0 0)
 | .nilfunc=>some .nilFunc
 | .func f []=>some (.func (.func f) #[] #[])
 | .nilif=>some .nilIface
 | .nilmap=>some (.map none)
 | .iface t x=>match x.toV with | some v=>some (.iface t v) | none=>none
 | _=>none
theorem CV.toV_rel {ρ:Rho}:∀ {x:CV} {v u:Value},x.toV=some v->CRel ρ x u->u=v
 | .bool _,_,_,e,h | .int _ _,_,_,e,h | .str _,_,_,e,h | .nilptr,_,_,e,h | .nilslice,_,_,e,h | .nilfunc,_,_,e,h | .nilif,_,_,e,h | .nilmap,_,_,e,h=>by
   cases e;exact h
 | .func f [],_,_,e,h=>by
   cases e
   obtain ⟨vs,rfl,hl⟩:=h
   cases vs with
   | nil=>rfl
   | cons _ _=>exact hl.elim
 | .func f (_::_),_,_,e,_ | .ptr _ _,_,_,e,_ | .slice ..,_,_,e,_ | .yield _,_,_,e,_ | .map _,_,_,e,_ | .meth ..,_,_,e,_=>by cases e
 | .iface t x,v,u,e,h=>by
   obtain ⟨y,rfl,hy⟩:=h
   simp only [CV.toV] at e
   cases ex:x.toV with
   | none=>rw [ex] at e;cases e
   | some z=>rw [ex] at e;cases e;rw [CV.toV_rel ex hy]
def ofV:Value->Option CV
 | .bool b=>some (.bool b)
 | .int k n=>some (.int k n)
 | .string s=>some (.str s)
 | .pointer none=>some .nilptr
 | .slice none 0 0=>some .nilslice
 | .nilFunc=>some .nilfunc
 | .func (.func f) ⟨[]⟩ ⟨[]⟩=>some (.func f [])
 | .nilIface=>some .nilif
 | .map none=>some .nilmap
 | .iface t (.int k n)=>some (.iface t (.int k n))
 | .iface t (.string s)=>some (.iface t (.str s))
 | .iface t (.bool s)=>some (.iface t (.bool s))
 | .iface t (.pointer none)=>some (.iface t .nilptr)
 | _=>none
theorem ofV_rel {ρ:Rho} {v:Value} {x:CV} (e:ofV v=some x):CRel ρ x v:=by
 unfold ofV at e
 split at e <;> first | (cases e;done) | skip
 all_goals (cases e;first | rfl | exact ⟨_,rfl,rfl⟩ | exact ⟨[],rfl,trivial⟩)
noncomputable def ofVs (l:List Value):Option (List CV):=List.rec (some []) (fun v _ ih=>match ofV v with | some x=>(match ih with | some xs=>some (x::xs) | none=>none) | none=>none) l
theorem ofVs_cons {v:Value} {l:List Value}:ofVs (v::l)=match ofV v with | some x=>(match ofVs l with | some xs=>some (x::xs) | none=>none) | none=>none:=rfl
theorem ofVs_rel {ρ:Rho}:∀ {l:List Value} {xs:List CV},ofVs l=some xs->LRel (CRel ρ) xs l
 | [], xs, e => by have : xs = [] := (Option.some.inj (show some [] = some xs from e)).symm
                   subst this;trivial
 | v :: l, xs, e => by
   rw [ofVs_cons] at e
   cases e1:ofV v with
   | none=>rw [e1] at e;cases e
   | some x =>
     rw [e1] at e;simp only at e
     cases e2:ofVs l with
     | none=>rw [e2] at e;cases e
     | some ys=>rw [e2] at e;simp only [Option.some.injEq] at e;subst e;exact ⟨ofV_rel e1,ofVs_rel e2⟩
noncomputable def ofPV:Value->Option PV
 | .agg cs=>match ofVs cs.toList with | some xs=>some (.agg xs) | none=>none
 | v=>match ofV v with | some x=>some (.c x) | none=>none
theorem ofPV_rel {ρ:Rho} {v:Value} {x:PV} (e:ofPV v=some x):PRel ρ x v/\∀ t cs,x≠.ifa t cs:=by
 unfold ofPV at e
 split at e
 . rename_i cs
   cases e1:ofVs cs.toList with
   | none=>rw [e1] at e;cases e
   | some xs=>rw [e1] at e;simp only [Option.some.injEq] at e;subst e;exact ⟨⟨cs.toList,by simp,ofVs_rel e1⟩,fun _ _ h=>by cases h⟩
 . cases e1:ofV v with
   | none=>rw [e1] at e;cases e
   | some xs=>rw [e1] at e;simp only [Option.some.injEq] at e;subst e;exact ⟨ofV_rel e1,fun _ _ h=>by cases h⟩
noncomputable def ofAV:Value->Option AV
 | .tuple ⟨[]⟩=>some (.tup [])
 | v=>match ofPV v with | some x=>some (.p x) | none=>none
theorem ofAV_rel {ρ:Rho} {v:Value} {x:AV} (e:ofAV v=some x):ARel ρ x v:=by
 unfold ofAV at e
 split at e
 . cases e;exact ⟨[],rfl,trivial⟩
 . cases e1:ofPV v with
   | none=>rw [e1] at e;cases e
   | some y=>rw [e1] at e;simp only [Option.some.injEq] at e;subst e;exact (ofPV_rel e1).1
def CVs.toVs:List CV->Option (List Value)
 | []=>some []
 | x::l=>match x.toV with | some v=>(match CVs.toVs l with | some vs=>some (v::vs) | none=>none) | none=>none
theorem CVs.toVs_rel {ρ:Rho}:∀ {l:List CV} {vs us:List Value},CVs.toVs l=some vs->LRel (CRel ρ) l us->us=vs
 | [],vs,us,e,h=>by
   cases e
   cases us with
   | nil=>rfl
   | cons _ _=>exact h.elim
 | x::l,vs,[],e,h=>h.elim
 | x :: l, vs, u :: us, e, ⟨h1, h2⟩ => by
   simp only [CVs.toVs] at e
   cases e1:x.toV with
   | none=>rw [e1] at e;cases e
   | some v =>
     rw [e1] at e;simp only at e
     cases e2:CVs.toVs l with
     | none=>rw [e2] at e;cases e
     | some ws=>rw [e2] at e;cases e;rw [CV.toV_rel e1 h1,CVs.toVs_rel e2 h2]
def PV.toV:PV->Option Value
 | .c x=>x.toV
 | .agg cs=>match CVs.toVs cs with | some vs=>some (.agg vs.toArray) | none=>none
 | .ifa t cs=>match CVs.toVs cs with | some vs=>some (.iface t (.agg vs.toArray)) | none=>none
theorem PV.toV_rel {ρ:Rho} {x:PV} {v u:Value} (e:x.toV=some v) (h:PRel ρ x u):u=v:=by
 cases x with
 | c x=>exact CV.toV_rel e h
 | agg cs =>
   obtain ⟨vs,rfl,hl⟩:=h
   simp only [PV.toV] at e
   cases e1:CVs.toVs cs with
   | none=>rw [e1] at e;cases e
   | some ws=>rw [e1] at e;cases e;rw [CVs.toVs_rel e1 hl]
 | ifa t cs =>
   obtain ⟨vs,rfl,hl⟩:=h
   simp only [PV.toV] at e
   cases e1:CVs.toVs cs with
   | none=>rw [e1] at e;cases e
   | some ws=>rw [e1] at e;cases e;rw [CVs.toVs_rel e1 hl]
def AV.toV:AV->Option Value
 | .p x=>x.toV
 | .tup _=>none
theorem AV.toV_rel {ρ:Rho} {x:AV} {v u:Value} (e:x.toV=some v) (h:ARel ρ x u):u=v:=by
 cases x with
 | p x=>exact PV.toV_rel e h
 | tup _=>cases e

/-! ### Programs that only reckon -/
noncomputable def pureRun {α:Type} (P:Program) (s:Sem α):Option α :=
 Sem.rec (motive:=fun _=>Option α) some (fun _ _ _ _=>none) (fun _ _ _ _ _=>none) (fun _ _ _=>none) (fun _ _ _=>none) (fun _ _ _ _=>none) (fun _ _ _=>none) (fun _ _ _=>none) (fun _ _ _ _=>none)
  (fun _ _ _=>none) (fun _ _ _=>none) (fun _ ih=>ih P) (fun _ _ ih=>ih) (fun _=>none) s
theorem pureRun_run {α:Type} {P:Program} {s:Sem α} {x:α} (w:World) (e:pureRun P s=some x):s.run P w=.ok x w:=by
 induction s with
 | pure a=>cases e;rfl
 | program k ih=>exact ih P e
 | mark m k ih=>exact ih e
 | _=>cases e

/-! ### Operands -/
noncomputable def evO (h:H) (fr:Fr):Operand->Option AV
 | .tmp t=>fr.t.get t
 | .const v=>ofAV v
 | .global g=>bif Nat.blt g h.ng then (match h.objs.get g with | some _=>some (.p (.c (.ptr g 0))) | none=>none) else none
 | .func f=>some (.p (.c (.func f [])))
theorem evO_rel {base:Nat} {ρ:Rho} {h:H} {w:World} (R:Rel base ρ h w) {fr:Fr} {a:Act} (F:FrRel ρ fr a.tmps) {x:Operand} {v:AV} (e:evO h fr x=some v):ARel ρ v (a.eval x):=by
 cases x with
 | tmp t =>
   obtain ⟨u,hu,hr⟩:=F.2 t v e
   simpa [Act.eval,Array.getD_eq_getD_getElem?,hu] using hr
 | const c=>exact ofAV_rel e
 | func f=>cases e;exact ⟨[],rfl,trivial⟩
 | global g =>
   simp only [evO] at e
   by_cases hg:Nat.blt g h.ng=true
   . rw [hg] at e
     simp only [cond_true] at e
     cases eo:h.objs.get g with
     | none=>rw [eo] at e;cases e
     | some o =>
       rw [eo] at e;cases e
       obtain ⟨p,hp,_⟩:=R.objs g o eo
       have:=R.glob g p (by simpa [Nat.blt_eq] using hg) hp
       refine ⟨p,hp,?_⟩
       simp [Act.eval,this.1,this.2]
   . simp [hg] at e

def Good (base:Nat) (ρ:Rho) (w:World) (P:Program) (s:Sem Value) (v:AV) (h':H):Prop :=
 ∃ u w' ρ',s.run P w=.ok u w'/\ρ.le ρ'/\Rel base ρ' h' w'/\ARel ρ' v u/\Below base w w'
theorem Good.still {base:Nat} {ρ:Rho} {w:World} {P:Program} {s:Sem Value} {v:AV} {h:H} {u:Value} (R:Rel base ρ h w) (e:s.run P w=.ok u w) (hr:ARel ρ v u):Good base ρ w P s v h :=
 ⟨u,w,ρ,e,Rho.le.refl _,R,hr,Below.refl _ _⟩
theorem Good.pure {base:Nat} {ρ:Rho} {w:World} {P:Program} {s:Sem Value} {v:AV} {h:H} {u:Value} (R:Rel base ρ h w) (e:pureRun P s=some u) (hr:ofAV u=some v):Good base ρ w P s v h :=
 Good.still R (pureRun_run w e) (ofAV_rel hr)

/-! ### load, store, new -/
noncomputable def isAggB (P:Program) (t:TypeId):Option Bool:=match P.underlying t with | some (.struct _)=>some true | some (.array _ _)=>some true | some _=>some false | none=>none
theorem isAgg_run {P:Program} {t:TypeId} {b:Bool} (e:isAggB P t=some b) (w:World):(isAgg t).run P w=.ok b w:=by
 unfold isAggB at e
 split at e <;> cases e <;> rename_i hu
 all_goals simp [isAgg,run_underlying hu]
noncomputable def szOf (P:Program) (t:TypeId):Option Nat:=match P.info? t with | some i=>some i.size | none=>none
theorem szOf_run {P:Program} {t:TypeId} {n:Nat} (e:szOf P t=some n) (w:World):(sizeOf t).run P w=.ok n w:=by
 unfold szOf at e
 split at e
 . rename_i i hi;cases e;simp [sizeOf,typeInfo,hi]
 . cases e
noncomputable def loadE (P:Program) (h:H) (t:TypeId):CV->Option AV
 | .ptr id off =>
   match isAggB P t with
   | some false=>match rd h id off with | some x=>some (.p (.c x)) | none=>none
   | some true=>match szOf P t with
     | some n=>match rdL h id off n with | some xs=>some (.p (.agg xs)) | none=>none
     | none=>none
   | none=>none
 | _=>none
theorem loadE_ok {base:Nat} {ρ:Rho} {h:H} {w:World} {P:Program} (R:Rel base ρ h w) {t:TypeId} {x:CV} {u:Value} {v:AV} (hx:CRel ρ x u) (e:loadE P h t x=some v) :
 Good base ρ w P (Instr.loadAt t u) v h:=by
 unfold loadE at e
 split at e
 . rename_i id off
   obtain ⟨p,hp,rfl⟩:=hx
   split at e
   . rename_i ha
     cases e1:rd h id off with
     | none=>rw [e1] at e;cases e
     | some x =>
       rw [e1] at e;cases e
       obtain ⟨q,v,hq,hc,hr⟩:=rd_rel R e1
       rw [hp] at hq;cases hq
       refine Good.still (u:=v) R ?_ hr
       simp [Instr.loadAt,Instr.sureAddr,loadVar,isAgg_run ha,hc]
   . rename_i ha
     split at e
     . rename_i n hn
       cases e1:rdL h id off n with
       | none=>rw [e1] at e;cases e
       | some xs =>
         rw [e1] at e;cases e
         by_cases h0:n=0
         . subst h0
           rw [rdL_zero] at e1;cases e1
           refine Good.still (u:=.agg #[]) R ?_ ⟨[],rfl,trivial⟩
           simp [Instr.loadAt,Instr.sureAddr,loadVar,isAgg_run ha,szOf_run hn,loadCells,loadCellsFrom]
         . obtain ⟨q,vs,hq,hl,hlen,hcs⟩:=rdL_rel R e1 (by omega)
           rw [hp] at hq;cases hq
           refine Good.still (u:=.agg vs.toArray) R ?_ ⟨vs,rfl,hl⟩
           have:=run_loadCells_list (P:=P) w ⟨p.block,p.off+off,none⟩ vs (fun j v hv=>by rw [Addr.add_lit];exact hcs j v hv)
           rw [hlen] at this
           simp [Instr.loadAt,Instr.sureAddr,loadVar,isAgg_run ha,szOf_run hn,this]
     . cases e
   . cases e
 . cases e
noncomputable def storeE (P:Program) (h:H) (t:TypeId) (x:CV) (y:PV):Option H :=
 match x,y with
 | .ptr _ _,.ifa _ _=>none
 | .ptr id off,y=>match szOf P t with
   | some n=>bif Nat.beq y.cells.length n then wrL h id off y.cells else none
   | none=>none
 | _,_=>none
def GoodU (base:Nat) (ρ:Rho) (w:World) (P:Program) (s:Sem Unit) (h':H):Prop :=
 ∃ w' ρ',s.run P w=.ok () w'/\ρ.le ρ'/\Rel base ρ' h' w'/\Below base w w'
theorem oneCell_of {ρ:Rho} {x:CV} {v:Value} (h:CRel ρ x v):v.oneCell'=true:=by
 have:=CRel.one h
 cases v <;> simp_all [Value.oneCell']
theorem oneCells_of {ρ:Rho}:∀ {l:List CV} {vs:List Value},LRel (CRel ρ) l vs->∀ v∈vs,v.oneCell'=true
 | [],[],_,v,hv=>by cases hv
 | _::_,_::_,⟨a,b⟩,v,hv=>by
   rcases List.mem_cons.1 hv with rfl | hv
   . exact oneCell_of a
   . exact oneCells_of b v hv
theorem storeE_ok {base : Nat} {ρ : Rho} {h h' : H} {w : World} {P : Program} (R : Rel base ρ h w) {t : TypeId} {x : CV} {y : PV} {u z : Value} (hx : CRel ρ x u) (hy : PRel ρ y z) (e : storeE P h t x y = some h') :
 GoodU base ρ w P (Instr.storeAt t u z) h':=by
 unfold storeE at e
 split at e
 . cases e
 . rename_i id off hne
   obtain ⟨p,hp,rfl⟩:=hx
   have hy':=hy.cells (fun t cs hh=>hne t cs hh)
   split at e
   . rename_i n hn
     by_cases hb:Nat.beq y.cells.length n=true
     · rw [hb] at e
       simp only [cond_true] at e
       have hlen:z.cells.size=n:=by
        have:=hy'.length
        simp only [Nat.beq_eq] at hb
        rw [<-hb,this];simp
       by_cases h0:y.cells=[]
       . rw [h0] at e hy'
         have hz:z.cells.toList=[]:=by
          cases hzz:z.cells.toList with
          | nil=>rfl
          | cons a b=>rw [hzz] at hy';exact hy'.elim
         have:h=h':=Option.some.inj (show some h=some h' from e)
         subst this
         refine ⟨w,ρ,?_,Rho.le.refl _,R,Below.refl _ _⟩
         simp [Instr.storeAt,Instr.sureAddr,storeVar,szOf_run hn,hlen,hz,storeCells]
       . obtain ⟨q,hq,hbase,hc,hf,R'⟩:=wrL_rel R e hy' h0
         rw [hp] at hq;cases hq
         refine ⟨_,ρ,?_,Rho.le.refl _,R',below_setCells hbase _ _ _⟩
         have:=run_storeCells_cells (P:=P) p.block (p.off+off) z.cells.toList 0 w (by simpa using hc) (by simpa using hf) (oneCells_of hy')
         simp only [Nat.add_zero] at this
         simp [Instr.storeAt,Instr.sureAddr,storeVar,szOf_run hn,hlen,this]
     . simp [hb] at e
   . cases e
 . cases e
theorem newRow_ok {base:Nat} {ρ:Rho} {h:H} {w:World} {P:Program} (R:Rel base ρ h w) (t:TypeId) {cs:List CV} {c:Array Value} (hc:LRel (CRel ρ) cs c.toList) :
 ∃ ρ',(newRow t c).run P w=.ok ⟨w.heap.size,0,none⟩ { w with heap:=w.heap.push (.cells c t (0,0)) }/\ρ.le ρ'/\Rel base ρ' (h.newCells t cs true) { w with heap:=w.heap.push (.cells c t (0,0)) }/\
  ρ' h.next=some ⟨w.heap.size,0,c.size⟩/\Below base w { w with heap:=w.heap.push (.cells c t (0,0)) }:=by
 refine ⟨ρ.add h.next ⟨w.heap.size,0,c.size⟩,?_,Rho.le_add (R.fresh _ (Nat.le_refl _)),R.newCells t ?_ (by simp) (fun _=>by have:=hc.length;simp at this;omega),Rho.add_self,?_⟩
 . simp [newRow,newObj,Sem.run]
 . intro i x hx
   obtain ⟨v,hv,hr⟩:=hc.get hx
   exact ⟨v,by simpa using hv,hr⟩
 . exact ⟨rfl,rfl,rfl,by simp,fun k hk=>by
    have:=R.basele
    show (w.heap.push _)[k]? = _
    rw [Array.getElem?_push,if_neg (by omega)]⟩
noncomputable def zeroPV (P:Program) (t:TypeId):Option PV:=match P.info? t with | some i=>(match i.zero with | some z=>ofPV z | none=>none) | none=>none
theorem zeroPV_run {P:Program} {t:TypeId} {x:PV} (e:zeroPV P t=some x) (w:World):∃ z,(zeroValue t).run P w=.ok z w/\(∃ i,P.info? t=some i/\i.zero=some z)/\ofPV z=some x:=by
 unfold zeroPV at e
 split at e
 . rename_i i hi
   split at e
   . rename_i z hz;exact ⟨z,by simp [zeroValue,typeInfo,hi,hz],⟨i,hi,hz⟩,e⟩
   . cases e
 . cases e
noncomputable def allocE (P:Program) (h:H) (t:TypeId):Option (AV×H) :=
 match zeroPV P t with
 | some x=>some (.p (.c (.ptr h.next 0)),h.newCells t x.cells true)
 | none=>none
theorem allocE_ok {base:Nat} {ρ:Rho} {h h':H} {w:World} {P:Program} (R:Rel base ρ h w) {t:TypeId} {v:AV} (e:allocE P h t=some (v,h')) :
 Good base ρ w P (Instr.alloc t true (.tuple #[])) v h':=by
 unfold allocE at e
 split at e
 . rename_i x hx
   cases e
   obtain ⟨z,hz,_,hp⟩:=zeroPV_run hx w
   obtain ⟨hr,hn⟩:=ofPV_rel (ρ:=ρ) hp
   obtain ⟨ρ',e1,hle,R',hn',hB⟩:=newRow_ok (P:=P) R t (hr.cells hn)
   refine ⟨.pointer (some ⟨w.heap.size,0,none⟩),_,ρ',?_,hle,R',⟨_,hn',by simp⟩,hB⟩
   simp [Instr.alloc,hz,newVar,e1]
 . cases e
noncomputable def boxE (h:H) (t:TypeId) (x:PV):Option (AV×H) :=
 match x with
 | .ifa _ _=>none
 | x=>some (.p (.c (.ptr h.next 0)),h.newCells t x.cells true)
theorem boxE_ok {base:Nat} {ρ:Rho} {h h':H} {w:World} {P:Program} (R:Rel base ρ h w) {t:TypeId} {x:PV} {u:Value} {v:AV} (hx:PRel ρ x u) (e:boxE h t x=some (v,h')) :
 Good base ρ w P (Instr.box t u) v h':=by
 unfold boxE at e
 split at e
 . cases e
 . rename_i hne
   cases e
   obtain ⟨ρ',e1,hle,R',hn',hB⟩:=newRow_ok (P:=P) R t (hx.cells (fun t cs hh=>hne t cs hh))
   refine ⟨.pointer (some ⟨w.heap.size,0,none⟩),_,ρ',?_,hle,R',⟨_,hn',by simp⟩,hB⟩
   simp [Instr.box,newVar,e1]
end Go.Mill
