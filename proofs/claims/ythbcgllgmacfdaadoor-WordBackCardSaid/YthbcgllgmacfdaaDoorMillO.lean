/- A verified evaluator for the model. It holds for every program and every world, under the hypotheses that each theorem names. -/
import Derived.Test.YthbcgllgmacfdaaDoorMillP
namespace Go.Mill
open Go.RowKit

/-! ### One operation that is no call of a Go function -/
noncomputable def evP (h : H) (fr : Fr) (x : Operand) : Option PV := match evO h fr x with | some (.p v) => some v | _ => none
noncomputable def evC (h : H) (fr : Fr) (x : Operand) : Option CV := match evO h fr x with | some (.p (.c v)) => some v | _ => none
noncomputable def evI (h : H) (fr : Fr) (x : Operand) : Option (IntKind × Int) := match evO h fr x with | some (.p (.c (.int k n))) => some (k, n) | _ => none
theorem evC_rel {base : Nat} {ρ : Rho} {h : H} {w : World} (R : Rel base ρ h w) {fr : Fr} {a : Act} (F : FrRel ρ fr a.tmps) {x : Operand} {v : CV} (e : evC h fr x = some v) : CRel ρ v (a.eval x) := by
 unfold evC at e
 split at e
 · rename_i v' hv; cases e; exact evO_rel R F hv
 · cases e
theorem evI_rel {base : Nat} {ρ : Rho} {h : H} {w : World} (R : Rel base ρ h w) {fr : Fr} {a : Act} (F : FrRel ρ fr a.tmps) {x : Operand} {k : IntKind} {n : Int} (e : evI h fr x = some (k, n)) : a.eval x = .int k n := by
 unfold evI at e
 split at e
 · rename_i v' hv; cases e; exact evO_rel R F hv
 · cases e
noncomputable def evB (h : H) (fr : Fr) (x : Option Operand) : Option (Option Int) := match x with | none => some none | some x => match evI h fr x with | some (_, n) => some (some n) | none => none
theorem evB_rel {base : Nat} {ρ : Rho} {h : H} {w : World} (R : Rel base ρ h w) {fr : Fr} {a : Act} (F : FrRel ρ fr a.tmps) {x : Option Operand} {n : Option Int} (e : evB h fr x = some n) : BRel n (x.map a.eval) := by
 cases x with
 | none => cases e; trivial
 | some x =>
   simp only [evB] at e
   split at e
   · rename_i k m hm; cases e; exact ⟨k, evI_rel R F hm⟩
   · cases e
noncomputable def convE (P : Program) (h : H) (src dst : TypeId) (x : PV) : Option (AV × H) :=
 match x.toV with
 | some u => match pureRun P (convert src dst u) with
   | some z => (match ofAV z with | some v => some (v, h) | none => none)
   | none => match x with | .c x => s2bE P h src dst x | _ => none
 | none => match x with
   | .c x => match b2sE P h src dst x with
     | some v => some (v, h)
     | none => match toUnsafeE P h src dst x with | some v => some (v, h) | none => none
   | _ => none
noncomputable def evVs (h : H) (fr : Fr) (l : List Operand) : Option (List Value) := List.rec (some []) (fun x _ ih => match evP h fr x with | some v => (match v.toV with | some u => (match ih with | some r => some (u :: r) | none => none) | none => none) | none => none) l
noncomputable def builtinE (P : Program) (h : H) (fr : Fr) (b : Builtin) (args : List Operand) (ts : List TypeId) (ty : TypeId) : Option (AV × H) :=
 match b, args, ts with
 | .len, [x], [t] => match evP h fr x with | some v => (match blenH P h t v with | some r => some (r, h) | none => none) | none => none
 | .append, [x, y], [t, u] => match evC h fr x, evC h fr y with | some v, some z => appendE P h t u v z | _, _ => none
 | .copy, [x, y], t :: _ => match evC h fr x, evC h fr y with | some v, some z => copyE P h t v z | _, _ => none
 | .clear, [x], t :: _ => match evC h fr x with | some v => clearE P h t v | none => none
 | .cap, [x], [t] => match evC h fr x, P.underlying t with
   | some (.slice _ _ _ cap true _), some (.slice _) => some (.p (.c (.int .i64 (Int.ofNat cap))), h)
   | some .nilslice, some (.slice _) => some (.p (.c (.int .i64 0)), h)
   | _, _ => none
 | .unsafeSliceData, [x], _ => match evC h fr x with | some v => (match sliceDataE v with | some r => some (r, h) | none => none) | none => none
 | .unsafeString, [x, y], [pt, _] => match evC h fr x, evI h fr y with | some v, some (.i64, n) => strE P h pt v n | _, _ => none
 | .min, args, _ => match evVs h fr args with | some vs => (match pureRun P (Builtin.min_ ts.toArray ty vs.toArray) with | some z => (match ofAV z with | some v => some (v, h) | none => none) | none => none) | none => none
 | .max, args, _ => match evVs h fr args with | some vs => (match pureRun P (Builtin.max_ ts.toArray ty vs.toArray) with | some z => (match ofAV z with | some v => some (v, h) | none => none) | none => none) | none => none
 | _, _, _ => none
def GoodN (base : Nat) (ρ : Rho) (w : World) (P : Program) (s : Sem Next) (v : AV) (h' : H) : Prop :=
 ∃ nx u w' ρ', s.run P w = .ok nx w' ∧ (nx = .value u ∨ (nx = .skip ∧ u = undef)) ∧ ρ.le ρ' ∧ Rel base ρ' h' w' ∧ ARel ρ' v u ∧ Below base w w'
theorem Good.next {base : Nat} {ρ : Rho} {w : World} {P : Program} {s : Sem Value} {v : AV} {h' : H} (g : Good base ρ w P s v h') : GoodN base ρ w P (do Pure.pure (Next.value (← s))) v h' := by
 obtain ⟨u, w', ρ', e, r⟩ := g
 exact ⟨.value u, u, w', ρ', by simp [e], .inl rfl, r⟩
theorem GoodU.next {base : Nat} {ρ : Rho} {w : World} {P : Program} {s : Sem Unit} {h' : H} (g : GoodU base ρ w P s h') : GoodN base ρ w P (do s; Pure.pure Next.skip) (.tup []) h' := by
 obtain ⟨w', ρ', e, hle, R, B⟩ := g
 exact ⟨.skip, undef, w', ρ', by simp [e], .inr ⟨rfl, rfl⟩, hle, R, ⟨[], rfl, trivial⟩, B⟩
noncomputable def opMoveE (h : H) (fr : Fr) (x : Operand) : Option (AV × H) :=
 match evO h fr x with | some v => some (v, h) | none => none
noncomputable def opAssignE (h : H) (fr : Fr) (x : Operand) : Option (AV × H) :=
 match evO h fr x with | some v => some (v, h) | none => none
noncomputable def opPickE (h : H) (fr : Fr) (c x y : Operand) : Option (AV × H) :=
 match evC h fr c with | some (.bool b) => (match evO h fr (bif b then x else y) with | some v => some (v, h) | none => none) | _ => none
noncomputable def opBoxE (h : H) (fr : Fr) (t : TypeId) (x : Operand) : Option (AV × H) :=
 match evP h fr x with | some v => boxE h t v | none => none
noncomputable def opBuildE (P : Program) (h : H) (fr : Fr) (t : TypeId) (parts : Array (Nat × Operand)) : Option (AV × H) :=
 match evPs h fr parts.toList with | some ps => (match buildE P t ps with | some v => some (v, h) | none => none) | none => none
noncomputable def opBuildSliceE (P : Program) (h : H) (fr : Fr) (t : TypeId) (len : Nat) (parts : Array (Nat × Operand)) : Option (AV × H) :=
 match evPs h fr parts.toList with | some ps => buildSliceE P h t len ps | none => none
noncomputable def opLoadE (P : Program) (h : H) (fr : Fr) (t : TypeId) (x : Operand) : Option (AV × H) :=
 match evC h fr x with | some v => (match loadE P h t v with | some r => some (r, h) | none => none) | none => none
noncomputable def opStoreE (P : Program) (h : H) (fr : Fr) (t : TypeId) (x y : Operand) : Option (AV × H) :=
 match evC h fr x, evP h fr y with | some v, some z => (match storeE P h t v z with | some h' => some (.tup [], h') | none => none) | _, _ => none
noncomputable def opNilCheckE (h : H) (fr : Fr) (x : Operand) : Option (AV × H) :=
 match evC h fr x with | some (.ptr id off) => some (.p (.c (.ptr id off)), h) | some (.func f []) => some (.p (.c (.func f [])), h) | _ => none
noncomputable def opBinOpE (P : Program) (h : H) (fr : Fr) (op : BinOp) (t : TypeId) (x y : Operand) : Option (AV × H) :=
 match evP h fr x, evP h fr y with | some v, some z => (match binE P op t x y v z with | some r => some (r, h) | none => none) | _, _ => none
noncomputable def opUnOpE (P : Program) (h : H) (fr : Fr) (op : UnOp) (x : Operand) : Option (AV × H) :=
 match evP h fr x with | some v => (match v.toV with | some u => (match pureRun P (Op.unary op u) with | some z => (match ofAV z with | some r => some (r, h) | none => none) | none => none) | none => none) | none => none
noncomputable def opConvertE (P : Program) (h : H) (fr : Fr) (src dst : TypeId) (x : Operand) : Option (AV × H) :=
 match evP h fr x with | some v => convE P h src dst v | none => none
noncomputable def opMakeInterfaceE (P : Program) (h : H) (fr : Fr) (t : TypeId) (x : Operand) : Option (AV × H) :=
 match evP h fr x with | some v => (match mkIfaceE P t v with | some r => some (r, h) | none => none) | none => none
noncomputable def opMakeFuncE (h : H) (fr : Fr) (f : FuncId) (caps : Array Operand) : Option (AV × H) :=
 match capsE h fr caps.toList with | some cs => some (.p (.c (.func f cs)), h) | none => none
noncomputable def opMethE (h : H) (fr : Fr) (f : FuncId) (x : Operand) : Option (AV × H) :=
 match evC h fr x with | some (.ptr id off) => some (.p (.c (.meth f id off)), h) | _ => none
noncomputable def opMakeSliceE (P : Program) (h : H) (fr : Fr) (t : TypeId) (l c : Operand) : Option (AV × H) :=
 match evI h fr l, evI h fr c with | some (_, l), some (_, c) => makeSliceE P h t l c | _, _ => none
noncomputable def opSliceE (P : Program) (h : H) (fr : Fr) (t : TypeId) (x : Operand) (lo hi mx : Option Operand) : Option (AV × H) :=
 match evP h fr x, evB h fr lo, evB h fr hi, evB h fr mx with
  | some (.c (.str s)), some _, some _, some _ => match evVs h fr (lo.toList ++ hi.toList ++ mx.toList) with
    | some _ => match pureRun P (Instr.sliceAt t (.string s) (lo.map fun x => ((evP h fr x).bind PV.toV).getD undef) (hi.map fun x => ((evP h fr x).bind PV.toV).getD undef) (mx.map fun x => ((evP h fr x).bind PV.toV).getD undef)) with
      | some z => (match ofAV z with | some r => some (r, h) | none => none)
      | none => none
    | none => none
  | some (.c v), some l, some u, some m => (match sliceE P h t v l u m with | some r => some (r, h) | none => none)
  | _, _, _, _ => none
noncomputable def opFieldAddrE (P : Program) (h : H) (fr : Fr) (s : TypeId) (x : Operand) (f : Nat) : Option (AV × H) :=
 match evC h fr x with | some v => (match fieldAddrE P s v f with | some r => some (r, h) | none => none) | none => none
noncomputable def opFieldE (P : Program) (h : H) (fr : Fr) (t : TypeId) (x : Operand) (f : Nat) : Option (AV × H) :=
 match evP h fr x with | some v => (match fieldE P t v f with | some r => some (r, h) | none => none) | none => none
noncomputable def opIndexAddrE (P : Program) (h : H) (fr : Fr) (t : TypeId) (x i : Operand) : Option (AV × H) :=
 match evC h fr x, evI h fr i with | some v, some (_, n) => (match indexE P t v n with | some r => some (r, h) | none => none) | _, _ => none
noncomputable def opIndexE (P : Program) (h : H) (fr : Fr) (t : TypeId) (x i : Operand) : Option (AV × H) :=
 match evP h fr x, evI h fr i with
  | some (.c (.str s)), some (k, n) => (match pureRun P (Instr.index t (.string s) (.int k n)) with | some z => (match ofAV z with | some r => some (r, h) | none => none) | none => none)
  | some v, some (_, n) => (match indexAggE P t v n with | some r => some (r, h) | none => none)
  | _, _ => none
noncomputable def opExtractE (h : H) (fr : Fr) (x : Operand) (i : Nat) : Option (AV × H) :=
 match evO h fr x with | some (.tup vs) => (match vs[i]? with | some v => some (.p v, h) | none => none) | _ => none
noncomputable def opLookupE (P : Program) (h : H) (fr : Fr) (t : TypeId) (x k : Operand) (ok : Bool) : Option (AV × H) :=
 match evC h fr x, evC h fr k with | some v, some z => (match lookupE P h t v z ok with | some r => some (r, h) | none => none) | _, _ => none
noncomputable def opMapUpdateE (P : Program) (h : H) (fr : Fr) (t : TypeId) (x k y : Operand) : Option (AV × H) :=
 match evC h fr x, evC h fr k, evP h fr y with | some v, some z, some u => (match mapUpdateE P h t v z u with | some h' => some (.tup [], h') | none => none) | _, _, _ => none
noncomputable def opInsertE (P : Program) (h : H) (fr : Fr) (t : TypeId) (x k y : Operand) : Option (AV × H) :=
 match evC h fr x, evC h fr k, evP h fr y with | some v, some z, some u => (match mapUpdateE P h t v z u with | some h' => some (.tup [], h') | none => none) | _, _, _ => none
noncomputable def opAssertE (P : Program) (h : H) (fr : Fr) (x : Operand) (t : TypeId) (ok : Bool) : Option (AV × H) :=
 match P.underlying t with
 | some (.interface _) => none
 | some _ => match evP h fr x with
   | some (.ifa t' cs) => bif Nat.beq t' t then some (bif ok then .tup [.agg cs, .c (.bool true)] else .p (.agg cs), h)
    else (bif ok then (match zeroPV P t with | some z => some (.tup [z, .c (.bool false)], h) | none => none) else none)
   | some (.c (.iface t' y)) => bif Nat.beq t' t then some (bif ok then .tup [.c y, .c (.bool true)] else .p (.c y), h)
    else (bif ok then (match zeroPV P t with | some z => some (.tup [z, .c (.bool false)], h) | none => none) else none)
   | some (.c .nilif) => bif ok then (match zeroPV P t with | some z => some (.tup [z, .c (.bool false)], h) | none => none) else none
   | _ => none
 | none => none
noncomputable def opE (P : Program) (h : H) (fr : Fr) (o : Oper) : Option (AV × H) :=
 match o.op with
 | .move x => opMoveE h fr x
 | .assign x => opAssignE h fr x
 | .pick c x y => opPickE h fr c x y
 | .alloc t => allocE P h t
 | .box t x => opBoxE h fr t x
 | .build t parts => opBuildE P h fr t parts
 | .buildSlice t len parts => opBuildSliceE P h fr t len parts
 | .load t x => opLoadE P h fr t x
 | .store t x y => opStoreE P h fr t x y
 | .nilCheck x => opNilCheckE h fr x
 | .binOp op t x y _ => opBinOpE P h fr op t x y
 | .unOp op _ x => opUnOpE P h fr op x
 | .convert src dst x => opConvertE P h fr src dst x
 | .makeInterface t x => opMakeInterfaceE P h fr t x
 | .makeFunc (.func f) ⟨[]⟩ caps => opMakeFuncE h fr f caps
 | .makeFunc (.func f) ⟨[x]⟩ ⟨[]⟩ => opMethE h fr f x
 | .makeSlice t l c => opMakeSliceE P h fr t l c
 | .slice t x lo hi mx => opSliceE P h fr t x lo hi mx
 | .fieldAddr s x f => opFieldAddrE P h fr s x f
 | .field t x f => opFieldE P h fr t x f
 | .indexAddr t x i => opIndexAddrE P h fr t x i
 | .index t x i => opIndexE P h fr t x i
 | .extract x i => opExtractE h fr x i
 | .typeAssert x _ t ok => opAssertE P h fr x t ok
 | .makeMap t r => makeMapE P h t (r.map (evI h fr))
 | .lookup t x k ok => opLookupE P h fr t x k ok
 | .mapUpdate t x k y => opMapUpdateE P h fr t x k y
 | .insert t x k y => opInsertE P h fr t x k y
 | .call { callee := .builtin b, args, argTypes } => builtinE P h fr b args.toList argTypes.toList o.type
 | _ => none
end Go.Mill
