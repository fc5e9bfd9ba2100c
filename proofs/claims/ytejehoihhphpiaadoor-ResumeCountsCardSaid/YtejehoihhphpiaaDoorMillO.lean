/- A verified evaluator for the model. It holds for every program and every world, under the hypotheses that each theorem names. -/
import Derived.Test.YtejehoihhphpiaaDoorMillP
namespace Go.Mill
open Go.RowKit

/-! ### One operation that is no call of a Go function -/
noncomputable def evP (h:H) (fr:Fr) (x:Operand):Option PV:=match evO h fr x with | some (.p v)=>some v | _=>none
noncomputable def evC (h:H) (fr:Fr) (x:Operand):Option CV:=match evO h fr x with | some (.p (.c v))=>some v | _=>none
noncomputable def evI (h:H) (fr:Fr) (x:Operand):Option (IntKind×Int):=match evO h fr x with | some (.p (.c (.int k n)))=>some (k,n) | _=>none
theorem evP_rel {base:Nat} {ρ:Rho} {h:H} {w:World} (R:Rel base ρ h w) {fr:Fr} {a:Act} (F:FrRel ρ fr a.tmps) {x:Operand} {v:PV} (e:evP h fr x=some v):PRel ρ v (a.eval x):=by
 unfold evP at e
 split at e
 . rename_i v' hv;cases e;exact evO_rel R F hv
 . cases e
theorem evC_rel {base:Nat} {ρ:Rho} {h:H} {w:World} (R:Rel base ρ h w) {fr:Fr} {a:Act} (F:FrRel ρ fr a.tmps) {x:Operand} {v:CV} (e:evC h fr x=some v):CRel ρ v (a.eval x):=by
 unfold evC at e
 split at e
 . rename_i v' hv;cases e;exact evO_rel R F hv
 . cases e
theorem evI_rel {base:Nat} {ρ:Rho} {h:H} {w:World} (R:Rel base ρ h w) {fr:Fr} {a:Act} (F:FrRel ρ fr a.tmps) {x:Operand} {k:IntKind} {n:Int} (e:evI h fr x=some (k,n)):a.eval x=.int k n:=by
 unfold evI at e
 split at e
 . rename_i v' hv;cases e;exact evO_rel R F hv
 . cases e
noncomputable def evB (h:H) (fr:Fr) (x:Option Operand):Option (Option Int):=match x with | none=>some none | some x=>match evI h fr x with | some (_,n)=>some (some n) | none=>none
theorem evB_rel {base:Nat} {ρ:Rho} {h:H} {w:World} (R:Rel base ρ h w) {fr:Fr} {a:Act} (F:FrRel ρ fr a.tmps) {x:Option Operand} {n:Option Int} (e:evB h fr x=some n):BRel n (x.map a.eval):=by
 cases x with
 | none=>cases e;trivial
 | some x =>
   simp only [evB] at e
   split at e
   . rename_i k m hm;cases e;exact ⟨k,evI_rel R F hm⟩
   . cases e
noncomputable def convE (P:Program) (h:H) (src dst:TypeId) (x:PV):Option (AV×H) :=
 match x.toV with
 | some u=>match pureRun P (convert src dst u) with
   | some z=>(match ofAV z with | some v=>some (v,h) | none=>none)
   | none=>match x with | .c x=>s2bE P h src dst x | _=>none
 | none=>match x with
   | .c x=>match b2sE P h src dst x with
     | some v=>some (v,h)
     | none=>match toUnsafeE P h src dst x with | some v=>some (v,h) | none=>none
   | _=>none
theorem convE_ok {base:Nat} {ρ:Rho} {h h':H} {w:World} {P:Program} (R:Rel base ρ h w) {src dst:TypeId} {x:PV} {u:Value} {v:AV} (hx:PRel ρ x u) (e:convE P h src dst x=some (v,h')) :
 Good base ρ w P (convert src dst u) v h':=by
 unfold convE at e
 split at e
 . rename_i u' hu
   split at e
   . rename_i z hz
     split at e
     . rename_i v' hv;cases e
       rw [PV.toV_rel hu hx]
       exact Good.pure R hz hv
     . cases e
   . split at e
     . exact s2bE_ok R hx e
     . cases e
 . split at e
   . split at e
     . rename_i v' hv;cases e;exact b2sE_ok R hx hv
     . split at e
       . rename_i v' hv;cases e;exact toUnsafeE_ok R hx hv
       . cases e
   . cases e
noncomputable def evVs (h:H) (fr:Fr) (l:List Operand):Option (List Value):=List.rec (some []) (fun x _ ih=>match evP h fr x with | some v=>(match v.toV with | some u=>(match ih with | some r=>some (u::r) | none=>none) | none=>none) | none=>none) l
theorem evVs_cons {h:H} {fr:Fr} {x:Operand} {l:List Operand}:evVs h fr (x::l)=match evP h fr x with | some v=>(match v.toV with | some u=>(match evVs h fr l with | some r=>some (u::r) | none=>none) | none=>none) | none=>none:=rfl
theorem evVs_eq {base:Nat} {ρ:Rho} {h:H} {w:World} (R:Rel base ρ h w) {fr:Fr} {a:Act} (F:FrRel ρ fr a.tmps):∀ {l:List Operand} {vs:List Value},evVs h fr l=some vs->l.map a.eval=vs
 | [],vs,e=>by
   have:vs=[]:=(Option.some.inj (show some []=some vs from e)).symm
   subst this;rfl
 | x :: l, vs, e => by
   rw [evVs_cons] at e
   split at e
   . rename_i v hv
     split at e
     . rename_i u hu
       split at e
       . rename_i r hr
         cases e
         simp only [List.map_cons,evVs_eq R F hr,PV.toV_rel hu (evP_rel R F hv)]
       . cases e
     . cases e
   . cases e
noncomputable def builtinE (P:Program) (h:H) (fr:Fr) (b:Builtin) (args:List Operand) (ts:List TypeId) (ty:TypeId):Option (AV×H) :=
 match b,args,ts with
 | .len,[x],[t]=>match evP h fr x with | some v=>(match blenH P h t v with | some r=>some (r,h) | none=>none) | none=>none
 | .append,[x,y],[t,u]=>match evC h fr x,evC h fr y with | some v,some z=>appendE P h t u v z | _,_=>none
 | .copy,[x,y],t::_=>match evC h fr x,evC h fr y with | some v,some z=>copyE P h t v z | _,_=>none
 | .clear,[x],t::_=>match evC h fr x with | some v=>clearE P h t v | none=>none
 | .cap,[x],[t]=>match evC h fr x,P.underlying t with
   | some (.slice _ _ _ cap true _),some (.slice _)=>some (.p (.c (.int .i64 (Int.ofNat cap))),h)
   | some .nilslice,some (.slice _)=>some (.p (.c (.int .i64 0)),h)
   | _,_=>none
 | .unsafeSliceData,[x],_=>match evC h fr x with | some v=>(match sliceDataE v with | some r=>some (r,h) | none=>none) | none=>none
 | .unsafeString,[x,y],[pt,_]=>match evC h fr x,evI h fr y with | some v,some (.i64,n)=>strE P h pt v n | _,_=>none
 | .min,args,_=>match evVs h fr args with | some vs=>(match pureRun P (Builtin.min_ ts.toArray ty vs.toArray) with | some z=>(match ofAV z with | some v=>some (v,h) | none=>none) | none=>none) | none=>none
 | .max,args,_=>match evVs h fr args with | some vs=>(match pureRun P (Builtin.max_ ts.toArray ty vs.toArray) with | some z=>(match ofAV z with | some v=>some (v,h) | none=>none) | none=>none) | none=>none
 | _,_,_=>none
def GoodN (base:Nat) (ρ:Rho) (w:World) (P:Program) (s:Sem Next) (v:AV) (h':H):Prop :=
 ∃ nx u w' ρ',s.run P w=.ok nx w'/\(nx=.value u∨(nx=.skip/\u=undef))/\ρ.le ρ'/\Rel base ρ' h' w'/\ARel ρ' v u/\Below base w w'
theorem Good.next {base:Nat} {ρ:Rho} {w:World} {P:Program} {s:Sem Value} {v:AV} {h':H} (g:Good base ρ w P s v h'):GoodN base ρ w P (do Pure.pure (Next.value (<-s))) v h':=by
 obtain ⟨u,w',ρ',e,r⟩:=g
 exact ⟨.value u,u,w',ρ',by simp [e],.inl rfl,r⟩
theorem GoodU.next {base:Nat} {ρ:Rho} {w:World} {P:Program} {s:Sem Unit} {h':H} (g:GoodU base ρ w P s h'):GoodN base ρ w P (do s;Pure.pure Next.skip) (.tup []) h':=by
 obtain ⟨w',ρ',e,hle,R,B⟩:=g
 exact ⟨.skip,undef,w',ρ',by simp [e],.inr ⟨rfl,rfl⟩,hle,R,⟨[],rfl,trivial⟩,B⟩
theorem builtinE_ok {base:Nat} {ρ:Rho} {h h':H} {w:World} {P:Program} (R:Rel base ρ h w) {fr:Fr} {a:Act} (F:FrRel ρ fr a.tmps) {b:Builtin} {args:List Operand} {ts:List TypeId} {ty:TypeId} {cs:Array Bool} {v:AV}
 (e:builtinE P h fr b args ts ty=some (v,h')):GoodN base ρ w P (builtin b ts.toArray ty cs (args.map a.eval).toArray) v h':=by
 unfold builtinE at e
 split at e
 . rename_i x t
   split at e
   . rename_i pv hpv
     split at e
     . rename_i r hr;cases e;exact (blenH_ok (ty:=ty) R (evP_rel R F hpv) hr).next
     . cases e
   . cases e
 . rename_i x y t u
   split at e
   . rename_i v' z hv hz;exact (appendE_ok (ty:=ty) R (evC_rel R F hv) (evC_rel R F hz) e).next
   . cases e
 . rename_i x y t r
   split at e
   . rename_i v' z hv hz;exact (copyE_ok (ty:=ty) (ts:=(t::r).toArray) R (by simp) (evC_rel R F hv) (evC_rel R F hz) e).next
   . cases e
 . rename_i x t r
   split at e
   . rename_i v' hv;exact (clearE_ok (ty:=ty) (ts:=(t::r).toArray) R (by simp) (evC_rel R F hv) e).next
   . cases e
 . rename_i x t
   split at e
   . rename_i id off len cap sz el hv hu
     cases e
     obtain ⟨p,c,hp,hev,_,hex,_⟩:=evC_rel R F hv
     have hc:=hex rfl
     subst hc
     refine Good.next (s:=Builtin.cap_ #[t] ty #[a.eval x]) (Good.still (v:=.p (.c (.int .i64 (Int.ofNat c)))) (u:=goInt c) R ?_ rfl)
     rw [hev]
     simp [Builtin.cap_,run_underlying hu]
   . rename_i el hv hu
     cases e
     have hev:a.eval x=.slice none 0 0:=evC_rel R F hv
     refine Good.next (s:=Builtin.cap_ #[t] ty #[a.eval x]) (Good.still (v:=.p (.c (.int .i64 0))) (u:=goInt 0) R ?_ rfl)
     rw [hev]
     simp [Builtin.cap_,run_underlying hu]
   . cases e
 . rename_i x _
   split at e
   . rename_i v' hv
     split at e
     . rename_i r hr;cases e;exact (sliceDataE_ok (ty:=ty) (ts:=ts.toArray) R (evC_rel R F hv) hr).next
     . cases e
   . cases e
 . rename_i x y pt it
   split at e
   . rename_i v' n hv hn
     have:=strE_ok (it:=it) (ty:=ty) R (evC_rel R F hv) e
     rw [<-evI_rel R F hn] at this
     exact this.next
   . cases e
 . split at e
   . rename_i vs hvs
     split at e
     . rename_i z hz
       split at e
       . rename_i r hr;cases e;rw [evVs_eq R F hvs];exact (Good.pure R hz hr).next
       . cases e
     . cases e
   . cases e
 . split at e
   . rename_i vs hvs
     split at e
     . rename_i z hz
       split at e
       . rename_i r hr;cases e;rw [evVs_eq R F hvs];exact (Good.pure R hz hr).next
       . cases e
     . cases e
   . cases e
 . cases e
noncomputable def opMoveE (h:H) (fr:Fr) (x:Operand):Option (AV×H) :=
 match evO h fr x with | some v=>some (v,h) | none=>none
noncomputable def opAssignE (h:H) (fr:Fr) (x:Operand):Option (AV×H) :=
 match evO h fr x with | some v=>some (v,h) | none=>none
noncomputable def opPickE (h:H) (fr:Fr) (c x y:Operand):Option (AV×H) :=
 match evC h fr c with | some (.bool b)=>(match evO h fr (bif b then x else y) with | some v=>some (v,h) | none=>none) | _=>none
noncomputable def opBoxE (h:H) (fr:Fr) (t:TypeId) (x:Operand):Option (AV×H) :=
 match evP h fr x with | some v=>boxE h t v | none=>none
noncomputable def opBuildE (P:Program) (h:H) (fr:Fr) (t:TypeId) (parts:Array (Nat×Operand)):Option (AV×H) :=
 match evPs h fr parts.toList with | some ps=>(match buildE P t ps with | some v=>some (v,h) | none=>none) | none=>none
noncomputable def opBuildSliceE (P:Program) (h:H) (fr:Fr) (t:TypeId) (len:Nat) (parts:Array (Nat×Operand)):Option (AV×H) :=
 match evPs h fr parts.toList with | some ps=>buildSliceE P h t len ps | none=>none
noncomputable def opLoadE (P:Program) (h:H) (fr:Fr) (t:TypeId) (x:Operand):Option (AV×H) :=
 match evC h fr x with | some v=>(match loadE P h t v with | some r=>some (r,h) | none=>none) | none=>none
noncomputable def opStoreE (P:Program) (h:H) (fr:Fr) (t:TypeId) (x y:Operand):Option (AV×H) :=
 match evC h fr x,evP h fr y with | some v,some z=>(match storeE P h t v z with | some h'=>some (.tup [],h') | none=>none) | _,_=>none
noncomputable def opNilCheckE (h:H) (fr:Fr) (x:Operand):Option (AV×H) :=
 match evC h fr x with | some (.ptr id off)=>some (.p (.c (.ptr id off)),h) | some (.func f [])=>some (.p (.c (.func f [])),h) | _=>none
noncomputable def opBinOpE (P:Program) (h:H) (fr:Fr) (op:BinOp) (t:TypeId) (x y:Operand):Option (AV×H) :=
 match evP h fr x,evP h fr y with | some v,some z=>(match binE P op t x y v z with | some r=>some (r,h) | none=>none) | _,_=>none
noncomputable def opUnOpE (P:Program) (h:H) (fr:Fr) (op:UnOp) (x:Operand):Option (AV×H) :=
 match evP h fr x with | some v=>(match v.toV with | some u=>(match pureRun P (Op.unary op u) with | some z=>(match ofAV z with | some r=>some (r,h) | none=>none) | none=>none) | none=>none) | none=>none
noncomputable def opConvertE (P:Program) (h:H) (fr:Fr) (src dst:TypeId) (x:Operand):Option (AV×H) :=
 match evP h fr x with | some v=>convE P h src dst v | none=>none
noncomputable def opMakeInterfaceE (P:Program) (h:H) (fr:Fr) (t:TypeId) (x:Operand):Option (AV×H) :=
 match evP h fr x with | some v=>(match mkIfaceE P t v with | some r=>some (r,h) | none=>none) | none=>none
noncomputable def opMakeFuncE (h:H) (fr:Fr) (f:FuncId) (caps:Array Operand):Option (AV×H) :=
 match capsE h fr caps.toList with | some cs=>some (.p (.c (.func f cs)),h) | none=>none
noncomputable def opMethE (h:H) (fr:Fr) (f:FuncId) (x:Operand):Option (AV×H) :=
 match evC h fr x with | some (.ptr id off)=>some (.p (.c (.meth f id off)),h) | _=>none
noncomputable def opMakeSliceE (P:Program) (h:H) (fr:Fr) (t:TypeId) (l c:Operand):Option (AV×H) :=
 match evI h fr l,evI h fr c with | some (_,l),some (_,c)=>makeSliceE P h t l c | _,_=>none
noncomputable def opSliceE (P:Program) (h:H) (fr:Fr) (t:TypeId) (x:Operand) (lo hi mx:Option Operand):Option (AV×H) :=
 match evP h fr x,evB h fr lo,evB h fr hi,evB h fr mx with
  | some (.c (.str s)),some _,some _,some _=>match evVs h fr (lo.toList++hi.toList++mx.toList) with
    | some _=>match pureRun P (Instr.sliceAt t (.string s) (lo.map fun x=>((evP h fr x).bind PV.toV).getD undef) (hi.map fun x=>((evP h fr x).bind PV.toV).getD undef) (mx.map fun x=>((evP h fr x).bind PV.toV).getD undef)) with
      | some z=>(match ofAV z with | some r=>some (r,h) | none=>none)
      | none=>none
    | none=>none
  | some (.c v),some l,some u,some m=>(match sliceE P h t v l u m with | some r=>some (r,h) | none=>none)
  | _,_,_,_=>none
noncomputable def opFieldAddrE (P:Program) (h:H) (fr:Fr) (s:TypeId) (x:Operand) (f:Nat):Option (AV×H) :=
 match evC h fr x with | some v=>(match fieldAddrE P s v f with | some r=>some (r,h) | none=>none) | none=>none
noncomputable def opFieldE (P:Program) (h:H) (fr:Fr) (t:TypeId) (x:Operand) (f:Nat):Option (AV×H) :=
 match evP h fr x with | some v=>(match fieldE P t v f with | some r=>some (r,h) | none=>none) | none=>none
noncomputable def opIndexAddrE (P:Program) (h:H) (fr:Fr) (t:TypeId) (x i:Operand):Option (AV×H) :=
 match evC h fr x,evI h fr i with | some v,some (_,n)=>(match indexE P t v n with | some r=>some (r,h) | none=>none) | _,_=>none
noncomputable def opIndexE (P:Program) (h:H) (fr:Fr) (t:TypeId) (x i:Operand):Option (AV×H) :=
 match evP h fr x,evI h fr i with
  | some (.c (.str s)),some (k,n)=>(match pureRun P (Instr.index t (.string s) (.int k n)) with | some z=>(match ofAV z with | some r=>some (r,h) | none=>none) | none=>none)
  | some v,some (_,n)=>(match indexAggE P t v n with | some r=>some (r,h) | none=>none)
  | _,_=>none
noncomputable def opExtractE (h:H) (fr:Fr) (x:Operand) (i:Nat):Option (AV×H) :=
 match evO h fr x with | some (.tup vs)=>(match vs[i]? with | some v=>some (.p v,h) | none=>none) | _=>none
noncomputable def opLookupE (P:Program) (h:H) (fr:Fr) (t:TypeId) (x k:Operand) (ok:Bool):Option (AV×H) :=
 match evC h fr x,evC h fr k with | some v,some z=>(match lookupE P h t v z ok with | some r=>some (r,h) | none=>none) | _,_=>none
noncomputable def opMapUpdateE (P:Program) (h:H) (fr:Fr) (t:TypeId) (x k y:Operand):Option (AV×H) :=
 match evC h fr x,evC h fr k,evP h fr y with | some v,some z,some u=>(match mapUpdateE P h t v z u with | some h'=>some (.tup [],h') | none=>none) | _,_,_=>none
noncomputable def opInsertE (P:Program) (h:H) (fr:Fr) (t:TypeId) (x k y:Operand):Option (AV×H) :=
 match evC h fr x,evC h fr k,evP h fr y with | some v,some z,some u=>(match mapUpdateE P h t v z u with | some h'=>some (.tup [],h') | none=>none) | _,_,_=>none
noncomputable def opAssertE (P:Program) (h:H) (fr:Fr) (x:Operand) (t:TypeId) (ok:Bool):Option (AV×H) :=
 match P.underlying t with
 | some (.interface _)=>none
 | some _=>match evP h fr x with
   | some (.ifa t' cs)=>bif Nat.beq t' t then some (bif ok then .tup [.agg cs,.c (.bool true)] else .p (.agg cs),h)
    else (bif ok then (match zeroPV P t with | some z=>some (.tup [z,.c (.bool false)],h) | none=>none) else none)
   | some (.c (.iface t' y))=>bif Nat.beq t' t then some (bif ok then .tup [.c y,.c (.bool true)] else .p (.c y),h)
    else (bif ok then (match zeroPV P t with | some z=>some (.tup [z,.c (.bool false)],h) | none=>none) else none)
   | some (.c .nilif)=>bif ok then (match zeroPV P t with | some z=>some (.tup [z,.c (.bool false)],h) | none=>none) else none
   | _=>none
 | none=>none
theorem assert_run {P:Program} {w:World} {t:TypeId} {d:TypeDesc} (hu:P.underlying t=some d) (hd:∀ ms,d≠.interface ms) (xt:TypeId) (ok:Bool) :
 (∀ v,(Instr.typeAssert (.iface t v) xt t ok).run P w=.ok (if ok then .tuple #[v,.bool true] else v) w)/\
 (∀ t' v z,t'≠t->(zeroValue t).run P w=.ok z w->(Instr.typeAssert (.iface t' v) xt t true).run P w=.ok (.tuple #[z,.bool false]) w)/\
 (∀ z,(zeroValue t).run P w=.ok z w->(Instr.typeAssert .nilIface xt t true).run P w=.ok (.tuple #[z,.bool false]) w):=by
 refine ⟨fun v=>?_,fun t' v z hne hz=>?_,fun z hz=>?_⟩
 . unfold Instr.typeAssert
   simp only [Sem.run_bind,run_underlying hu,Result.andThen_ok]
   cases d <;> first | exact absurd rfl (hd _) | (cases ok <;> simp)
 . unfold Instr.typeAssert
   simp only [Sem.run_bind,run_underlying hu,Result.andThen_ok]
   cases d <;> first | exact absurd rfl (hd _) | simp [hne,hz]
 . unfold Instr.typeAssert
   simp only [Sem.run_bind,run_underlying hu,Result.andThen_ok]
   cases d <;> first | exact absurd rfl (hd _) | simp [hz]
noncomputable def opE (P:Program) (h:H) (fr:Fr) (o:Oper):Option (AV×H) :=
 match o.op with
 | .move x=>opMoveE h fr x
 | .assign x=>opAssignE h fr x
 | .pick c x y=>opPickE h fr c x y
 | .alloc t=>allocE P h t
 | .box t x=>opBoxE h fr t x
 | .build t parts=>opBuildE P h fr t parts
 | .buildSlice t len parts=>opBuildSliceE P h fr t len parts
 | .load t x=>opLoadE P h fr t x
 | .store t x y=>opStoreE P h fr t x y
 | .nilCheck x=>opNilCheckE h fr x
 | .binOp op t x y _=>opBinOpE P h fr op t x y
 | .unOp op _ x=>opUnOpE P h fr op x
 | .convert src dst x=>opConvertE P h fr src dst x
 | .makeInterface t x=>opMakeInterfaceE P h fr t x
 | .makeFunc (.func f) ⟨[]⟩ caps=>opMakeFuncE h fr f caps
 | .makeFunc (.func f) ⟨[x]⟩ ⟨[]⟩=>opMethE h fr f x
 | .makeSlice t l c=>opMakeSliceE P h fr t l c
 | .slice t x lo hi mx=>opSliceE P h fr t x lo hi mx
 | .fieldAddr s x f=>opFieldAddrE P h fr s x f
 | .field t x f=>opFieldE P h fr t x f
 | .indexAddr t x i=>opIndexAddrE P h fr t x i
 | .index t x i=>opIndexE P h fr t x i
 | .extract x i=>opExtractE h fr x i
 | .typeAssert x _ t ok=>opAssertE P h fr x t ok
 | .makeMap t r=>makeMapE P h t (r.map (evI h fr))
 | .lookup t x k ok=>opLookupE P h fr t x k ok
 | .mapUpdate t x k y=>opMapUpdateE P h fr t x k y
 | .insert t x k y=>opInsertE P h fr t x k y
 | .call { callee:=.builtin b,args,argTypes }=>builtinE P h fr b args.toList argTypes.toList o.type
 | _=>none
set_option maxHeartbeats 4000000 in
theorem opE_ok {base:Nat} {ρ:Rho} {h h':H} {w:World} {P:Program} (R:Rel base ρ h w) {fr:Fr} {a:Act} (F:FrRel ρ fr a.tmps) {o:Oper} {v:AV} (e:opE P h fr o=some (v,h')) :
 GoodN base ρ w P (execOp a.eval o) v h':=by
 unfold opE at e
 unfold execOp
 split at e <;> rename_i hop <;> simp only [hop]
 all_goals first | unfold opMoveE at e | unfold opAssignE at e | unfold opPickE at e | unfold opBoxE at e | unfold opBuildE at e | unfold opBuildSliceE at e | unfold opLoadE at e | unfold opStoreE at e | unfold opNilCheckE at e | unfold opBinOpE at e | unfold opUnOpE at e | unfold opConvertE at e | unfold opMakeInterfaceE at e | unfold opMakeFuncE at e | unfold opMethE at e | unfold opMakeSliceE at e | unfold opSliceE at e | unfold opFieldAddrE at e | unfold opFieldE at e | unfold opIndexAddrE at e | unfold opIndexE at e | unfold opExtractE at e | unfold opAssertE at e | unfold opLookupE at e | unfold opMapUpdateE at e | unfold opInsertE at e | skip
 . split at e
   . rename_i v' hv;cases e;exact ⟨_,_,w,ρ,rfl,.inl rfl,Rho.le.refl _,R,evO_rel R F hv,Below.refl _ _⟩
   . cases e
 . split at e
   . rename_i v' hv;cases e;exact ⟨_,_,w,ρ,rfl,.inl rfl,Rho.le.refl _,R,evO_rel R F hv,Below.refl _ _⟩
   . cases e
 . rename_i c x y
   split at e
   . rename_i b hb
     have hbv:a.eval c=.bool b:=evC_rel R F hb
     split at e
     . rename_i v' hv
       cases e
       refine ⟨.value (if b then a.eval x else a.eval y),_,w,ρ,?_,.inl rfl,Rho.le.refl _,R,?_,Below.refl _ _⟩
       . rw [hbv];simp [asBool]
       . cases b
         . exact evO_rel R F hv
         . exact evO_rel R F hv
     . cases e
   . cases e
 . exact (allocE_ok R e).next
 . split at e
   . rename_i v' hv;exact (boxE_ok R (evP_rel R F hv) e).next
   . cases e
 . rename_i t parts
   split at e
   . rename_i ps hps
     split at e
     . rename_i v' hv;cases e
       exact (buildE_ok (parts:=parts.map fun (i,x)=>(i,a.eval x)) R (by simpa using evPs_rel R F hps) hv).next
     . cases e
   . cases e
 . rename_i t len parts
   split at e
   . rename_i ps hps
     exact (buildSliceE_ok (parts:=parts.map fun (i,x)=>(i,a.eval x)) R (by simpa using evPs_rel R F hps) e).next
   . cases e
 . split at e
   . rename_i v' hv
     split at e
     . rename_i r hr;cases e;exact (loadE_ok R (evC_rel R F hv) hr).next
     . cases e
   . cases e
 . split at e
   . rename_i v' z hv hz
     split at e
     . rename_i h1 h2;cases e;exact (storeE_ok R (evC_rel R F hv) (evP_rel R F hz) h2).next
     . cases e
   . cases e
 . rename_i x
   split at e
   . rename_i id off hv
     cases e
     obtain ⟨p,hp,hev⟩:=evC_rel R F hv
     rw [hev]
     exact ⟨_,_,w,ρ,rfl,.inl rfl,Rho.le.refl _,R,⟨p,hp,rfl⟩,Below.refl _ _⟩
   . rename_i f hv
     cases e
     obtain ⟨vs,hev,hl⟩:=evC_rel R F hv
     have:vs=[]:=by cases vs with | nil=>rfl | cons _ _=>exact hl.elim
     subst this
     rw [hev]
     exact ⟨_,_,w,ρ,rfl,.inl rfl,Rho.le.refl _,R,⟨[],rfl,trivial⟩,Below.refl _ _⟩
   . cases e
 . split at e
   . rename_i v' z hv hz
     split at e
     . rename_i r hr;cases e;exact (binE_ok R (evP_rel R F hv) (evP_rel R F hz) hr).next
     . cases e
   . cases e
 · split at e
   . rename_i v' hv
     split at e
     . rename_i u hu
       split at e
       . rename_i z hz
         split at e
         . rename_i r hr;cases e;rw [PV.toV_rel hu (evP_rel R F hv)];exact (Good.pure R hz hr).next
         . cases e
       . cases e
     . cases e
   . cases e
 . split at e
   . rename_i v' hv;exact (convE_ok R (evP_rel R F hv) e).next
   . cases e
 . split at e
   . rename_i v' hv
     split at e
     . rename_i r hr;cases e;exact (mkIfaceE_ok R (evP_rel R F hv) hr).next
     . cases e
   . cases e
 . rename_i f caps
   split at e
   . rename_i cs hcs
     cases e
     refine ⟨_,.func (.func f) #[] (caps.map a.eval),w,ρ,rfl,.inl (by simp),Rho.le.refl _,R,⟨(caps.toList.map a.eval),?_,capsE_rel R F hcs⟩,Below.refl _ _⟩
     have:Array.map a.eval caps=(List.map a.eval caps.toList).toArray:=by
      apply Array.ext'
      simp
     rw [this]
   . cases e
 . rename_i f x
   split at e
   . rename_i id off hx
     cases e
     exact ⟨_,.func (.func f) #[a.eval x] #[],w,ρ,rfl,.inl (by simp),Rho.le.refl _,R,⟨a.eval x,rfl,evC_rel R F hx⟩,Below.refl _ _⟩
   . cases e
 . split at e
   . rename_i kl l kc c hl hc
     rw [evI_rel R F hl,evI_rel R F hc]
     exact (makeSliceE_ok R e).next
   . cases e
 · rename_i t x lo hi mx
   split at e
   · rename_i s l u m hs hlo hhi hmx
     split at e
     · rename_i vs hvs
       split at e
       . rename_i z hz
         split at e
         . rename_i r hr
           cases e
           have hev:a.eval x=.string s:=evP_rel R F hs
           have key : ∀ (y : Option Operand), (∃ b, evB h fr y = some b) → (y.map fun x => ((evP h fr x).bind PV.toV).getD undef) = y.map a.eval := by
            intro y ⟨b,hb⟩
            cases y with
            | none=>rfl
            | some y =>
              simp only [evB] at hb
              split at hb
              . rename_i k n hk
                have h1:=evI_rel R F hk
                have h2:evP h fr y=some (.c (.int k n)):=by
                 unfold evI at hk
                 split at hk
                 . rename_i k' n' hv;cases hk;unfold evP;rw [hv]
                 . cases hk
                simp [h2,h1,PV.toV,CV.toV]
              . cases hb
           rw [key lo ⟨_,hlo⟩,key hi ⟨_,hhi⟩,key mx ⟨_,hmx⟩] at hz
           rw [hev]
           exact (Good.pure R hz hr).next
         . cases e
       . cases e
     . cases e
   . rename_i v' l u m hns hv hlo hhi hmx
     split at e
     . rename_i r hr;cases e
       exact (sliceE_ok R (evP_rel R F hv) (evB_rel R F hlo) (evB_rel R F hhi) (evB_rel R F hmx) hr).next
     . cases e
   . cases e
 . split at e
   . rename_i v' hv
     split at e
     . rename_i r hr;cases e;exact (fieldAddrE_ok R (evC_rel R F hv) hr).next
     . cases e
   . cases e
 . split at e
   . rename_i v' hv
     split at e
     . rename_i r hr;cases e;exact (fieldE_ok R (evP_rel R F hv) hr).next
     . cases e
   . cases e
 . split at e
   . rename_i v' k n hv hn
     split at e
     . rename_i r hr;cases e;rw [evI_rel R F hn];exact (indexE_ok R (evC_rel R F hv) hr).next
     . cases e
   . cases e
 · split at e
   . rename_i s k n hs hn
     split at e
     . rename_i z hz
       split at e
       . rename_i r hr
         cases e
         have hev:=evP_rel R F hs
         rw [show a.eval _=.string s from hev,evI_rel R F hn]
         exact (Good.pure R hz hr).next
       . cases e
     . cases e
   . rename_i v' k n hns hv hn
     split at e
     . rename_i r hr;cases e;rw [evI_rel R F hn];exact (indexAggE_ok R (evP_rel R F hv) hr).next
     . cases e
   . cases e
 . rename_i x i
   split at e
   . rename_i vs hvs
     split at e
     . rename_i v' hv
       cases e
       obtain ⟨us,hev,hl⟩:=evO_rel R F hvs
       obtain ⟨u,hu,hr⟩:=hl.get hv
       rw [hev]
       refine ⟨_,u,w,ρ,?_,.inl rfl,Rho.le.refl _,R,hr,Below.refl _ _⟩
       simp [Instr.extract,hu]
     . cases e
   . cases e
 . rename_i x xt t ok
   split at e
   . cases e
   . rename_i d hni hu
     have hd:∀ ms,d≠.interface ms:=fun ms hh=>hni ms hh
     obtain ⟨run1,run2,run3⟩:=assert_run (w:=w) hu hd xt ok
     have fails:∀ (z:PV),zeroPV P t=some z->ok=true->(∀ y,(zeroValue t).run P w=.ok y w->(Instr.typeAssert (a.eval x) xt t true).run P w=.ok (.tuple #[y,.bool false]) w)->GoodN base ρ w P (do pure (Next.value (<-Instr.typeAssert (a.eval x) xt t ok))) (.tup [z,.c (.bool false)]) h:=by
      intro z hz hok hrun
      obtain ⟨y,hy,_,hp⟩:=zeroPV_run hz w
      have hzr:=(ofPV_rel (ρ:=ρ) hp).1
      refine (Good.still (u:=.tuple #[y,.bool false]) R (by rw [hok];exact hrun y hy) ?_).next
      exact ⟨[y,.bool false],rfl,hzr,rfl,trivial⟩
     split at e
     . rename_i t' cs hx
       obtain ⟨vs,hev,hl⟩:=evP_rel R F hx
       cases hb:Nat.beq t' t with
       | true =>
         have ht:=Nat.eq_of_beq_eq_true hb
         subst ht
         rw [hb] at e
         cases e
         refine (Good.still (u:=if ok then .tuple #[.agg vs.toArray,.bool true] else .agg vs.toArray) R (by rw [hev];exact run1 _) ?_).next
         cases ok
         . exact ⟨vs,rfl,hl⟩
         . exact ⟨[.agg vs.toArray,.bool true],rfl,⟨vs,rfl,hl⟩,rfl,trivial⟩
       | false =>
         rw [hb] at e
         simp only [cond_false] at e
         obtain ⟨hok,e⟩:=bif_some e
         split at e
         . rename_i z hz
           cases e
           refine fails z hz hok fun y hy=>?_
           rw [hev]
           exact run2 _ _ _ (fun hh=>by subst hh;simp at hb) hy
         . cases e
     . rename_i t' y hx
       obtain ⟨u,hev,hl⟩:=evP_rel R F hx
       cases hb:Nat.beq t' t with
       | true =>
         have ht:=Nat.eq_of_beq_eq_true hb
         subst ht
         rw [hb] at e
         cases e
         refine (Good.still (u:=if ok then .tuple #[u,.bool true] else u) R (by rw [hev];exact run1 _) ?_).next
         cases ok
         . exact hl
         . exact ⟨[u,.bool true],rfl,hl,rfl,trivial⟩
       | false =>
         rw [hb] at e
         simp only [cond_false] at e
         obtain ⟨hok,e⟩:=bif_some e
         split at e
         . rename_i z hz
           cases e
           refine fails z hz hok fun y hy=>?_
           rw [hev]
           exact run2 _ _ _ (fun hh=>by subst hh;simp at hb) hy
         . cases e
     . rename_i hx
       have hev:a.eval x=.nilIface:=evP_rel R F hx
       obtain ⟨hok,e⟩:=bif_some e
       split at e
       . rename_i z hz
         cases e
         refine fails z hz hok fun y hy=>?_
         rw [hev]
         exact run3 _ hy
       . cases e
     . cases e
   . cases e
 . rename_i t r
   refine Good.next (makeMapE_ok R ?_ e)
   cases r with
   | none=>trivial
   | some x =>
     simp only [Option.map_some]
     cases hx:evI h fr x with
     | none=>trivial
     | some q=>obtain ⟨k,n⟩:=q;exact evI_rel R F hx
 . split at e
   . rename_i v' z hv hz
     split at e
     . rename_i r hr;cases e;exact (lookupE_ok R (evC_rel R F hv) (evC_rel R F hz) hr).next
     . cases e
   . cases e
 . split at e
   . rename_i v' z u hv hz hu
     split at e
     . rename_i h1 hr;cases e;exact (mapUpdateE_ok R (evC_rel R F hv) (evC_rel R F hz) (evP_rel R F hu) hr).next
     . cases e
   . cases e
 . split at e
   . rename_i v' z u hv hz hu
     split at e
     . rename_i h1 hr;cases e;exact (mapUpdateE_ok R (evC_rel R F hv) (evC_rel R F hz) (evP_rel R F hu) hr).next
     . cases e
   . cases e
 . rename_i b args ts
   have hargs:(List.map a.eval args.toList).toArray=Array.map a.eval args:=by
    apply Array.ext'
    simp
   have this:=fun cs=>builtinE_ok (cs:=cs) R F e
   rw [hargs] at this
   simp only [resolve,pure_bind,invoke]
   exact this _
 . cases e
end Go.Mill
