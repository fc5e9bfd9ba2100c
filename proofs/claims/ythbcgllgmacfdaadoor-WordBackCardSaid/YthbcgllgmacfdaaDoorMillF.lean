/- A verified evaluator for the model. It holds for every program and every world, under the hypotheses that each theorem names. -/
import Derived.Test.YthbcgllgmacfdaaDoorMillE
import Derived.Laws.MakeOwn
namespace Go.Mill
open Go.RowKit

/-! ### Literals -/
noncomputable def putL (l : List CV) (off : Nat) (cs : List CV) : List CV := List.rec (fun l _ => l) (fun c _ ih l off => ih (l.set off c) (Nat.succ off)) cs l off
def putV (l : List Value) (off : Nat) : List Value → List Value
 | [] => l
 | c :: cs => putV (l.set off c) (off + 1) cs
theorem foldl_put (off : Nat) : ∀ (vs : List Value) (k : Nat) (cells : Array Value), ((vs.zipIdx k).foldl (fun (cs : Array Value) (x : Value × Nat) => cs.setIfInBounds (off + x.2) x.1) cells).toList = putV cells.toList (off + k) vs
 | [], _, _ => rfl
 | v :: vs, k, cells => by
   simp only [List.zipIdx_cons, List.foldl_cons]
   rw [foldl_put off vs (k + 1)]
   simp [putV, Array.toList_setIfInBounds, Nat.add_assoc]
noncomputable def fillE (place : Nat → Option (Nat × Nat)) (cells : List CV) (l : List (Nat × PV)) : Option (List CV) :=
 List.rec (fun cells => some cells) (fun x _ ih cells => match x.2 with
  | .ifa _ _ => none
  | y => match place x.1 with
    | some (off, size) => bif Nat.beq y.cells.length size && Nat.ble (Nat.add off size) cells.length then ih (putL cells off y.cells) else none
    | none => none) l cells
noncomputable def evPs (h : H) (fr : Fr) (l : List (Nat × Operand)) : Option (List (Nat × PV)) :=
 List.rec (some []) (fun x _ ih => match evO h fr x.2 with | some (.p v) => (match ih with | some r => some ((x.1, v) :: r) | none => none) | _ => none) l
noncomputable def placesE (P : Program) (fs : List Field) : Option (List (Nat × Nat)) :=
 List.rec (some []) (fun f _ ih => match szOf P f.type with | some n => (match ih with | some r => some ((f.offset, n) :: r) | none => none) | none => none) fs
noncomputable def buildE (P : Program) (t : TypeId) (ps : List (Nat × PV)) : Option AV :=
 match zeroPV P t with
 | some z => match P.underlying t with
   | some (.struct fs) => match placesE P fs.toList with
     | some pl => match fillE (fun i => pl[i]?) z.cells ps with | some cs => some (.p (.agg cs)) | none => none
     | none => none
   | some (.array _ el) => match szOf P el with
     | some n => match fillE (fun i => some (i * n, n)) z.cells ps with | some cs => some (.p (.agg cs)) | none => none
     | none => none
   | _ => none
 | none => none
noncomputable def zerosE (z : List CV) (n : Nat) : List CV := Nat.rec [] (fun _ ih => z ++ ih) n
noncomputable def buildSliceE (P : Program) (h : H) (t : TypeId) (len : Nat) (ps : List (Nat × PV)) : Option (AV × H) :=
 match P.underlying t with
 | some (.slice el) => match szOf P el with
   | some n => match zeroPV P el with
     | some z => bif Nat.beq z.cells.length n && Nat.ble (Nat.mul len n) 16777216 then
      match fillE (fun i => some (i * n, n)) (zerosE z.cells len) ps with
      | some cs => some (.p (.c (.slice h.next 0 len len true n)), h.newCells el cs true)
      | none => none
       else none
     | none => none
   | none => none
 | _ => none
theorem putV_length : ∀ (vs : List Value) (l : List Value) (off : Nat), (putV l off vs).length = l.length
 | [], _, _ => rfl
 | v :: vs, l, off => by simp [putV, putV_length vs]
end Go.Mill
