/- A verified evaluator for the model. It holds for every program and every world, under the hypotheses that each theorem names. -/
import Derived.Test.YthbcgllgmacfdaaDoorMillK
import Derived.Laws.BytesString
import Derived.Lib.UnsafeStr
namespace Go.Mill
open Go.RowKit

/-! ### copy, len, cap -/
noncomputable def lenE : CV → Option Nat
 | .nilslice => some 0
 | .slice _ _ len _ _ _ => some len
 | .str s => some s.size
 | _ => none
noncomputable def srcN (h : H) (size n : Nat) : CV → Option (List CV)
 | .nilslice => some []
 | .slice id off _ _ _ _ => rdL h id off (Nat.mul n size)
 | .str s => bif Nat.beq size 1 then some (bytesCV (s.data.toList.take n)) else none
 | _ => none
noncomputable def copyE (P : Program) (h : H) (t : TypeId) (x y : CV) : Option (AV × H) :=
 match P.underlying t with
 | some (.slice el) => match szOf P el, lenE y with
   | some size, some m => match x with
     | .nilslice => match srcN h size 0 y with | some _ => some (.p (.c (.int .i64 0)), h) | none => none
     | .slice id off len _ _ _ => match srcN h size (Nat.min m len) y with
       | some [] => some (.p (.c (.int .i64 (Int.ofNat (Nat.min m len)))), h)
       | some cs => match wrL h id off cs with | some h' => some (.p (.c (.int .i64 (Int.ofNat (Nat.min m len)))), h') | none => none
       | none => none
     | _ => none
   | _, _ => none
 | _ => none
noncomputable def clearE (P : Program) (h : H) (t : TypeId) (x : CV) : Option (AV × H) :=
 match P.underlying t with
 | some (.slice el) => match x with
   | .nilslice => some (.tup [], h)
   | .slice id off len _ _ _ => bif Nat.beq len 0 then some (.tup [], h) else (match zeroPV P el with
     | some z => (match zerosE z.cells len with
       | [] => none
       | c :: cs => match wrL h id off (c :: cs) with | some h' => some (.tup [], h') | none => none)
     | none => none)
   | _ => none
 | _ => none
noncomputable def lenAcc {α : Type} (l : List α) : Nat → Nat :=
 List.rec (motive := fun _ => Nat → Nat) (fun acc => acc) (fun _ _ ih acc => Nat.rec (motive := fun _ => Nat) (ih 1) (fun p _ => ih (Nat.add p 2)) acc) l
noncomputable def sizeE (s : ByteArray) : Nat := lenAcc s.data.toList 0
noncomputable def blenE (P : Program) (t : TypeId) (x : PV) : Option AV :=
 match P.underlying t, x with
 | some (.slice _), .c .nilslice => some (.p (.c (.int .i64 0)))
 | some (.slice _), .c (.slice _ _ len _ _ _) => some (.p (.c (.int .i64 (Int.ofNat len))))
 | some .string, .c (.str s) => some (.p (.c (.int .i64 (Int.ofNat (sizeE s)))))
 | some (.array n _), _ => some (.p (.c (.int .i64 (Int.ofNat n))))
 | _, _ => none
/-! ### bytes and strings -/
noncomputable def toBytes (l : List CV) : Option (List Int) := List.rec (some []) (fun x _ ih => match x with | .int .u8 n => (match ih with | some r => some (n :: r) | none => none) | _ => none) l
noncomputable def packAll (l : List Int) : ByteArray := ⟨⟨l.map fun n => UInt8.ofNat n.toNat⟩⟩
theorem packAll_eq (l : List Int) : packAll l = l.foldl (fun r n => r.push (UInt8.ofNat n.toNat)) ByteArray.empty := by
 have : ∀ (l : List Int) (r : ByteArray), (l.foldl (fun r n => r.push (UInt8.ofNat n.toNat)) r).data.toList = r.data.toList ++ l.map fun n => UInt8.ofNat n.toNat := by
  intro l
  induction l with
  | nil => intro r; simp
  | cons n l ih => intro r; simp only [List.foldl_cons]; rw [ih]; simp [ByteArray.push]
 have h := this l ByteArray.empty
 apply ByteArray.ext
 apply Array.ext'
 rw [h]
 simp [packAll]
noncomputable def b2sE (P : Program) (h : H) (src dst : TypeId) (x : CV) : Option AV :=
 match P.underlying src, P.underlying dst with
 | some (.slice el), some .string => match P.underlying el with
   | some (.int .u8) => match x with
     | .nilslice => some (.p (.c (.str ⟨⟨[]⟩⟩)))
     | .slice id off len _ _ _ => match rdL h id off len with
       | some cs => match toBytes cs with | some ns => some (.p (.c (.str (packAll ns)))) | none => none
       | none => none
     | _ => none
   | _ => none
 | _, _ => none
noncomputable def s2bE (P : Program) (h : H) (src dst : TypeId) (x : CV) : Option (AV × H) :=
 match P.underlying src, P.underlying dst, x with
 | some .string, some (.slice el), .str s => match P.underlying el with
   | some (.int .u8) => some (.p (.c (.slice h.next 0 s.size s.size false 1)), h.newCells el (bytesCV s.data.toList) false true)
   | _ => none
 | _, _, _ => none
end Go.Mill
