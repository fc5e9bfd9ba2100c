/- A verified evaluator for the model. It holds for every program and every world, under the hypotheses that each theorem names. -/
import Derived.Test.YthbcgllgmacfdaaDoorMillL
namespace Go.Mill
open Go.RowKit

/-! ### equality where an address is at stake -/
noncomputable def eqE (P : Program) (t : TypeId) (x y : PV) : Option Bool :=
 match P.underlying t, x, y with
 | some (.slice _), .c (.slice ..), .c .nilslice => some false
 | some (.slice _), .c .nilslice, .c (.slice ..) => some false
 | some (.pointer _), .c (.ptr ..), .c .nilptr => some false
 | some (.pointer _), .c .nilptr, .c (.ptr ..) => some false
 | some (.func _ _ _), .c (.func ..), .c .nilfunc => some false
 | some (.func _ _ _), .c (.yield ..), .c .nilfunc => some false
 | some (.func _ _ _), .c .nilfunc, .c (.func ..) => some false
 | some (.interface _), .c (.iface ..), .c .nilif => some false
 | some (.interface _), .c .nilif, .c (.iface ..) => some false
 | some (.interface _), .ifa .., .c .nilif => some false
 | some (.interface _), .c .nilif, .ifa .. => some false
 | some (.map _ _), .c (.map ..), .c .nilmap => some false
 | some (.map _ _), .c .nilmap, .c (.map ..) => some false
 | some (.pointer el), .c (.ptr id o), .c (.ptr id' o') => match szOf P el with
   | some n => bif Nat.beq id id' && Nat.blt 0 n then some (Nat.beq o o') else none
   | none => none
 | _, _, _ => none
noncomputable def binE (P : Program) (op : BinOp) (t : TypeId) (ox oy : Operand) (x y : PV) : Option AV :=
 match x.toV, y.toV with
 | some u, some v => match pureRun P (do eqGuard op t ox oy u v; binOp op t u v) with | some z => ofAV z | none => none
 | _, _ => match op with
   | .eql => match eqE P t x y with | some b => some (.p (.c (.bool b))) | none => none
   | .neq => match eqE P t x y with | some b => some (.p (.c (.bool (!b)))) | none => none
   | _ => none
/-! ### function values, interface values -/
noncomputable def capsE (h : H) (fr : Fr) (l : List Operand) : Option (List (Nat × Nat)) := List.rec (some []) (fun x _ ih => match evO h fr x with | some (.p (.c (.ptr id off))) => (match ih with | some r => some ((id, off) :: r) | none => none) | _ => none) l
noncomputable def mkIfaceE (P : Program) (t : TypeId) (x : PV) : Option AV :=
 match P.underlying t with
 | some (.interface _) => none
 | some _ => match x with
   | .c v => some (.p (.c (.iface t v)))
   | .agg cs => some (.p (.ifa t cs))
   | .ifa _ _ => none
 | none => none
end Go.Mill
