/- A verified evaluator for the model. It holds for every program and every world, under the hypotheses that each theorem names. -/
import Derived.Test.YthbcgllgmacfdaaDoorMillO
namespace Go.Mill
open Go.RowKit

/-! ### The evaluator -/
inductive X where
 | normal
 | exit (id : Nat)
 | ret
def X.toExit : X → Exit
 | .normal => .normal
 | .exit id => .exit id
 | .ret => .ret
inductive DM where
 | mark (id : Nat)
 | call (f : FuncId) (args : List AV)
inductive Task where
 | code (c : Code) (fr : Fr) (ms : List DM) (rd : Option Nat)
 | ops (ops : Array Oper) (l : List Oper) (fr : Fr) (ms : Option (List DM))
 | call (f : FuncId) (args : List AV)
 | fv (v : CV) (args : List AV)
inductive Out where
 | code (x : X) (fr : Fr) (ms : List DM) (h : H)
 | ops (fr : Fr) (ms : Option (List DM)) (h : H)
 | val (v : AV) (h : H)
 | pan (v : PV) (fr : Fr) (ms : Option (List DM)) (h : H)
 | vpan (v : PV) (h : H)
structure Env where
 P : Program
 same : List FuncId
 memo : List (FuncId × (List AV → Option AV))
 con : List (FuncId × (List AV → H → Option AV)) := []
 dfr : List (FuncId × (List AV → H → Option H)) := []
noncomputable def conE (l : List (FuncId × (List AV → H → Option AV))) (f : FuncId) (args : List AV) (h : H) : Option AV :=
 List.rec none (fun p _ ih => bif Nat.beq p.1 f then (match p.2 args h with | some r => some r | none => ih) else ih) l
noncomputable def dfrE (l : List (FuncId × (List AV → H → Option H))) (f : FuncId) (args : List AV) (h : H) : Option H :=
 List.rec none (fun p _ ih => bif Nat.beq p.1 f then (match p.2 args h with | some r => some r | none => ih) else ih) l
noncomputable def memoE (l : List (FuncId × (List AV → Option AV))) (f : FuncId) (args : List AV) : Option AV :=
 List.rec none (fun p _ ih => bif Nat.beq p.1 f then (match p.2 args with | some r => some r | none => ih) else ih) l

noncomputable def wantE (ops : Array Oper) (fr : Fr) (o : Oper) : Option Bool :=
 match o.guard with
 | none => some true
 | some (j, want) => match (ops[j]?).bind (·.dst) with
   | some d => match fr.t.get d with
     | some (.p (.c (.bool b))) => some (b == want)
     | some _ => some false
     | none => none
   | none => some false
noncomputable def putE (fr : Fr) (dst : Option Nat) (v : AV) : Option Fr :=
 match dst with
 | none => some fr
 | some d => bif Nat.blt d fr.n then some (fr.set d v) else none
noncomputable def evAs (h : H) (fr : Fr) (l : List Operand) : Option (List AV) := List.rec (some []) (fun x _ ih => match evO h fr x with | some v => (match ih with | some r => some (v :: r) | none => none) | none => none) l
noncomputable def oneE (ih : Task → H → Option Out) (E : Env) (ops : Array Oper) (o : Oper) (fr : Fr) (h : H) : Option (AV × H) :=
 match wantE ops fr o with
 | some false => some (.tup [], h)
 | some true => match o.op with
   | .call { callee := .value x, args, .. } => match evC h fr x, evAs h fr args.toList with
     | some v, some vs => (match ih (.fv v vs) h with | some (.val r h') => some (r, h') | _ => none)
     | _, _ => none
   | _ => opE E.P h fr o
 | none => none

/-! results, marks -/
/-! deferred functions that may recover -/
noncomputable def frOf (n : Nat) (args : List AV) : Fr := { n, t := T.ofList args }
inductive Md where
 | ret
 | pan (v : PV)
 | got (v : PV)
/-! ### Regions that draw their order: what must hold of the text alone -/
def loudOp : Op → Bool
 | .move _ | .assign _ | .pick .. | .build .. | .load .. | .nilCheck _ | .binOp .. | .unOp .. | .makeInterface .. | .makeFunc .. | .slice .. | .fieldAddr .. | .field .. | .indexAddr .. | .index .. | .extract .. => false
 | .call { callee := .builtin .len, .. } | .call { callee := .builtin .cap, .. } | .call { callee := .builtin .min, .. } | .call { callee := .builtin .max, .. } | .call { callee := .builtin .unsafeSliceData, .. } => false
 | .convert .. => true
 | _ => true
def slotsOf (ops : Array Oper) (o : Oper) : List Nat :=
 (match o.guard with | some (j, _) => ((ops[j]?).bind (·.dst)).toList | none => []) ++ (o.op.operands.toList.filterMap fun | .tmp t => some t | _ => none)
noncomputable def befores (l : List Oper) (acc : List Nat) : List Nat :=
 List.rec (fun acc => acc) (fun o _ ih acc => ih (acc ++ [o.after.toList.foldl (fun s e => bif Region.binds .any e then Nat.lor s (Nat.lor (Nat.pow 2 e.on) (acc.getD e.on 0)) else s) 0])) l acc
def bit (m i : Nat) : Bool := Nat.beq (Nat.mod (Nat.div m (Nat.pow 2 i)) 2) 1
def isGcOnly (e : Edge) : Bool := match e.ground with | .gcOnly _ => true | _ => false
def ordOk (ops : Array Oper) (m : Region.Mode) (l : List Nat) : Bool :=
 (l.zipIdx.all fun (i, k) => match ops[i]? with | some o => o.after.toList.all fun e => !(Region.binds m e) || (l.take k).any (Nat.beq e.on ·) | none => true) &&
 (((List.range ops.size).all fun i => l.any (Nat.beq i ·)) && l.all fun i => Nat.blt i ops.size)
noncomputable def drawOk0 (ops : Array Oper) : Bool :=
 let l := ops.toList
 let bf := befores l []
 let ix := l.zipIdx
 -- edges go back
 (ix.all fun (o, i) => o.after.toList.all fun e => isGcOnly e || Nat.blt e.on i) &&
 (bif ops.any (fun o => o.after.any isGcOnly) then ordOk ops .gc (Region.linearise .gc ops 0) else true) &&
 -- writers of one slot are in order
 (ix.all fun (o, i) => ix.all fun (o', j) => !(Nat.blt i j) || (match o.dst, o'.dst with | some d, some d' => !(Nat.beq d d') || bit (bf.getD j 0) i | _, _ => true)) &&
 -- readers and writers of one slot are in order
 (ix.all fun (o, i) => (slotsOf ops o).all fun s => ix.all fun (o', j) => match o'.dst with
  | some d => !(Nat.beq d s) || (Nat.beq i j || (bif Nat.blt j i then bit (bf.getD i 0) j else bit (bf.getD j 0) i))
  | none => true)
noncomputable def drawOk (ops : Array Oper) : Bool :=
 let bf := befores ops.toList []
 let ix := ops.toList.zipIdx
 drawOk0 ops && (ix.all fun (o, i) => ix.all fun (o', j) => !(Nat.blt i j) || (!(loudOp o.op) || (!(loudOp o'.op) || bit (bf.getD j 0) i)))
noncomputable def loudsBefore (ops : Array Oper) (i : Nat) : Nat × Nat :=
 let bf := befores ops.toList []
 let ix := ops.toList.zipIdx
 ((ix.filter fun (o, j) => loudOp o.op && bit (bf.getD i 0) j).length, (ix.filter fun (o, j) => loudOp o.op && !(bit (bf.getD j 0) i) && !(Nat.beq i j)).length)

/-! the same values -/
def CV.same : CV → CV → Bool
 | .bool a, .bool b => a == b
 | .int k a, .int k' b => decide (k = k') && a == b
 | .str a, .str b => a.data.toList == b.data.toList
 | .nilptr, .nilptr | .nilslice, .nilslice | .nilfunc, .nilfunc | .nilif, .nilif | .nilmap, .nilmap => true
 | .ptr a b, .ptr c d => Nat.beq a c && Nat.beq b d
 | .slice a b c d e f, .slice a' b' c' d' e' f' => Nat.beq a a' && (Nat.beq b b' && (Nat.beq c c' && (Nat.beq d d' && (e == e' && Nat.beq f f'))))
 | .func f l, .func g m => Nat.beq f g && l == m
 | .yield a, .yield b => Nat.beq a b
 | .meth f a b, .meth g c d => Nat.beq f g && (Nat.beq a c && Nat.beq b d)
 | .map a, .map b => Nat.beq a b
 | .iface t x, .iface u y => Nat.beq t u && x.same y
 | _, _ => false
def samesCV : List CV → List CV → Bool
 | [], [] => true
 | a :: l, b :: m => a.same b && samesCV l m
 | _, _ => false
def PV.same : PV → PV → Bool
 | .c a, .c b => a.same b
 | .agg l, .agg m => samesCV l m
 | .ifa t l, .ifa u m => Nat.beq t u && samesCV l m
 | _, _ => false
def samesPV : List PV → List PV → Bool
 | [], [] => true
 | a :: l, b :: m => a.same b && samesPV l m
 | _, _ => false
def AV.same : AV → AV → Bool
 | .p a, .p b => a.same b
 | .tup l, .tup m => samesPV l m
 | _, _ => false
noncomputable def Fr.only (fr : Fr) (l : List Nat) : Fr := { n := fr.n, t := List.rec .leaf (fun s _ ih => T.put ih s (fr.t.get s)) l }
structure Row where
 o : Oper
 fr : Fr
 v : AV
 loud : Bool
noncomputable def drawGo (ih : Task → H → Option Out) (E : Env) (ops : Array Oper) (l : List Oper) : Fr → H → Option (List Row × List H × Fr × H) :=
 List.rec (fun fr h => some ([], [], fr, h)) (fun o _ go fr h =>
  match oneE ih E ops o (fr.only (slotsOf ops o)) h with
  | some (v, h') => match putE fr o.dst v with
    | some fr' => match go fr' h' with
      | some (rows, hs, fr'', h'') => some ({ o, fr := fr.only (slotsOf ops o), v, loud := loudOp o.op } :: rows, bif loudOp o.op then h' :: hs else hs, fr'', h'')
      | none => none
    | none => none
  | none => none) l
end Go.Mill
