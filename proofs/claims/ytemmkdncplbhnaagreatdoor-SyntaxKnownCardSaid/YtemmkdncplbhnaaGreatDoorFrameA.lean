/- The world of the witness: the listed tables and the two errors laid in it. -/
import Derived.Test.YtemmkdncplbhnaaGreatDoorCards
import Derived.Test.YtemmkdncplbhnaaGreatDoorTie
import Derived.WalkKit
import Derived.ProofKit
import Derived.OpenShut
import Derived.Deep.DeepHandedRow
import Derived.Lib.LaidTab
import Derived.Test.YtemmkdncplbhnaaGreatDoorMillX
namespace Go.Proofs.YtemmkdncplbhnaaGreatDoor
open Go.ChangeShapes Go.WideShapes Go.ChangeAt Go.RowKit Go.Mill
set_option maxRecDepth 1000000
theorem own : ownKnob Tryz.prog.godebug = none := by kernel_rfl
def cells0 : DataW Unit → List Value
 | .lit (.int k n) => [.int k n]
 | _ => []
def cells1 : DataW Unit → List Value
 | .agg l => l.flatMap cells0
 | d => cells0 d
def cellsD : DataW Unit → List Value
 | .agg l => l.flatMap cells1
 | d => cells0 d
def textD : DataW Unit → ByteArray
 | .iface _ (.ptr (.agg [.lit (.string l)])) => ⟨l.toArray⟩
 | _ => ⟨#[]⟩
def isErr : DataW Unit → Bool
 | .iface _ _ => true
 | _ => false
noncomputable def low : Nat := (World.holding Tryz.prog default ⟨#[], #[], []⟩).heap.size
noncomputable def layAll (w : World) (P : Program) (n : Nat) : List (String × DataW Unit) → World
 | [] => w
 | (name, d) :: l => match P.globalNamed name with
   | some g => bif isErr d
    then layAll { w with heap := w.heap.modify g fun | .cells _ t frozen => .cells #[.iface 171 (.pointer (some ⟨low + n, 0, none⟩))] t frozen | o => o } P (n + 1) l
    else layAll { w with heap := w.heap.modify g fun | .cells _ t frozen => .cells (cellsD d).toArray t frozen | o => o } P n l
   | none => w
def errs (l : List (String × DataW Unit)) : List Obj := (l.filter fun x => isErr x.2).map fun x => .cells #[.string (textD x.2)] 173
noncomputable def laidWorld (os : Os) (l : List (String × DataW Unit)) : World := layAll (World.holding Tryz.prog os ⟨(errs l).toArray, #[], []⟩) Tryz.prog 0 l
theorem laid_met5 (os : Os) (args : Array Value) : laidMet Tryz.prog Rows.syntaxKnownRow.laid ((laidWorld os Rows.syntaxKnownRow.laid).forCall (fun _ _ => 0) ⟨#[], args, []⟩).memory :=
 laidMet_of_run' 8 (by kernel_rfl) (by kernel_rfl)
end Go.Proofs.YtemmkdncplbhnaaGreatDoor
