/- A verified evaluator for the model. It holds for every program and every world, under the hypotheses that each theorem names. -/
import Derived.Test.YthbcgllgmacfdaaDoorMillF
namespace Go.Mill
open Go.RowKit

/-! ### make -/
noncomputable def T.full {α : Type} (d : Nat) (z : α) : T α := Nat.rec .leaf (fun _ ih => .node ih (some z) ih) d
noncomputable def H.newData (h : H) (ty : TypeId) (size : Nat) (d : T CV) : H := h.new (.cells { ty, size, data := d, fam := h.next, rw := true, ex := true })
noncomputable def zerosT (z : List CV) (n : Nat) : T CV :=
 match z with
 | [x] => T.full (Nat.succ (Nat.log2 n)) x
 | z => T.ofList (zerosE z n)
noncomputable def makeSliceE (P : Program) (h : H) (t : TypeId) (l c : Int) : Option (AV × H) :=
 match P.underlying t with
 | some (.slice el) => match P.info? el with
   | some i => match zeroPV P el with
     | some z => bif decide (0 ≤ l) && (decide (l ≤ c) && (Nat.ble (Nat.mul i.bytes c.toNat) 140737488355328 && (Nat.ble c.toNat 140737488355328 && Nat.beq z.cells.length i.size))) then
      some (.p (.c (.slice h.next 0 l.toNat c.toNat true i.size)), h.newData el (Nat.mul c.toNat i.size) (zerosT z.cells c.toNat))
       else none
     | none => none
   | none => none
 | _ => none
/-! ### addresses -/
noncomputable def indexE (P : Program) (t : TypeId) (x : CV) (i : Int) : Option AV :=
 match P.underlying t, x with
 | some (.slice el), .slice id off len _ _ _ => match szOf P el with
   | some n => bif decide (0 ≤ i) && decide (i < len) then some (.p (.c (.ptr id (Nat.add off (Nat.mul i.toNat n))))) else none
   | none => none
 | some (.array len el), .ptr id off => match szOf P el with
   | some n => bif decide (0 ≤ i) && decide (i < len) then some (.p (.c (.ptr id (Nat.add off (Nat.mul i.toNat n))))) else none
   | none => none
 | _, _ => none
noncomputable def fieldAddrE (P : Program) (s : TypeId) (x : CV) (f : Nat) : Option AV :=
 match P.underlying s, x with
 | some (.struct fs), .ptr id off => match fs[f]? with
   | some fd => match szOf P fd.type with
     | some n => bif Nat.beq n 0 then none else some (.p (.c (.ptr id (Nat.add off fd.offset))))
     | none => none
   | none => none
 | _, _ => none
noncomputable def partE (P : Program) (t : TypeId) (cs : List CV) (off : Nat) : Option AV :=
 match isAggB P t with
 | some true => match szOf P t with
   | some n => bif Nat.ble (Nat.add off n) cs.length then some (.p (.agg ((cs.drop off).take n))) else none
   | none => none
 | some false => match cs[off]? with | some x => some (.p (.c x)) | none => none
 | none => none
theorem LRel.drop {α β : Type} {R : α → β → Prop} : ∀ {l : List α} {m : List β} (n : Nat), LRel R l m → LRel R (l.drop n) (m.drop n)
 | _, _, 0, h => h
 | [], [], _ + 1, _ => trivial
 | _ :: _, _ :: _, n + 1, ⟨_, h⟩ => by simpa using LRel.drop n h
theorem LRel.take {α β : Type} {R : α → β → Prop} : ∀ {l : List α} {m : List β} (n : Nat), LRel R l m → LRel R (l.take n) (m.take n)
 | _, _, 0, _ => trivial
 | [], [], _ + 1, _ => trivial
 | _ :: _, _ :: _, n + 1, ⟨a, h⟩ => ⟨a, LRel.take n h⟩
noncomputable def fieldE (P : Program) (t : TypeId) (x : PV) (f : Nat) : Option AV :=
 match P.underlying t, x with
 | some (.struct fs), .agg cs => match fs[f]? with | some fd => partE P fd.type cs fd.offset | none => none
 | _, _ => none
noncomputable def indexAggE (P : Program) (t : TypeId) (x : PV) (i : Int) : Option AV :=
 match P.underlying t, x with
 | some (.array len el), .agg cs => match szOf P el with
   | some n => bif decide (0 ≤ i) && decide (i < len) then partE P el cs (Nat.mul i.toNat n) else none
   | none => none
 | _, _ => none
/-! ### slices of slices -/
def clip (x : Option Int) (d lim : Nat) : Option Nat :=
 match x with
 | none => some d
 | some i => bif decide (0 ≤ i) && decide (i ≤ lim) then some i.toNat else none
def BRel (x : Option Int) (v : Option Value) : Prop :=
 match x, v with
 | none, none => True
 | some i, some v => ∃ k, v = .int k i
 | _, _ => False
noncomputable def sliceE (P : Program) (hp : H) (t : TypeId) (x : CV) (lo hi mx : Option Int) : Option AV :=
 match P.underlying t, x with
 | some (.slice el), .slice id off len cap ex sz =>
   match szOf P el with
   | some n => bif Nat.beq n sz then
     match mx with
     | none => match clip hi len cap with
       | some h => match clip lo 0 h with
         | some l => match l with
           | 0 => some (.p (.c (.slice id off h cap ex sz)))
           | l => bif Nat.blt l cap then some (.p (.c (.slice id (Nat.add off (Nat.mul l n)) (Nat.sub h l) (Nat.sub cap l) ex sz)))
             else bif ex && Nat.beq l cap then some (.p (.c (.slice id off (Nat.sub h l) 0 true sz))) else none
         | none => none
       | none => none
     | some _ => match clip mx 0 cap, hi with
       | some m, some _ => match clip hi 0 m with
         | some h => match clip lo 0 h with
           | some l => bif Nat.beq m l then some (.p (.c (.slice id off (Nat.sub h l) 0 true sz)))
             else some (.p (.c (.slice id (Nat.add off (Nat.mul l n)) (Nat.sub h l) (Nat.sub m l) true sz)))
           | none => none
         | none => none
       | _, _ => none
     else none
   | none => none
 | some (.slice el), .nilslice => match szOf P el with
   | some _ => match mx with
     | none => match clip hi 0 0 with | some h => (match clip lo 0 h with | some _ => some (.p (.c .nilslice)) | none => none) | none => none
     | some _ => none
   | none => none
 | some (.array n el), .ptr id off =>
   match szOf P el with
   | some sz => match mx with
     | none => match clip hi n n with
       | some h => match clip lo 0 h with
         | some l => match hp.blk id with
           | some b => bif Nat.blt l n && Nat.ble (Nat.add off (Nat.mul n sz)) b.size then some (.p (.c (.slice id (Nat.add off (Nat.mul l sz)) (Nat.sub h l) (Nat.sub n l) true sz))) else none
           | none => none
         | none => none
       | none => none
     | some _ => none
   | none => none
 | _, _ => none
end Go.Mill
