/- The world of the witness: the listed tables laid in it. -/
import Derived.Test.YtbgfpacjoneaeaaDoorCards
import Derived.Test.YtbgfpacjoneaeaaDoorTie
import Derived.WalkKit
import Derived.ProofKit
import Derived.OpenShut
import Derived.Deep.DeepHandedRow
import Derived.Lib.LaidTab
import Derived.Test.YtbgfpacjoneaeaaDoorMillX
namespace Go.Proofs.YtbgfpacjoneaeaaDoor
open Go.ChangeShapes Go.WideShapes Go.ChangeAt Go.RowKit Go.Mill
set_option maxRecDepth 1000000
theorem own : ownKnob Tryd.prog.godebug = none := by kernel_rfl
def cells0 : DataW Unit → List Value
 | .lit (.int k n) => [.int k n]
 | _ => []
def cells1 : DataW Unit → List Value
 | .agg l => l.flatMap cells0
 | d => cells0 d
def cellsD : DataW Unit → List Value
 | .agg l => l.flatMap cells1
 | d => cells0 d
def lay (w : World) (P : Program) (name : String) (d : DataW Unit) : World :=
 match P.globalNamed name with
 | some g => { w with heap := w.heap.modify g fun | .cells _ t frozen => .cells (cellsD d).toArray t frozen | o => o }
 | none => w
noncomputable def laidWorld (os : Os) (l : List (String × DataW Unit)) : World := l.foldl (fun w x => lay w Tryd.prog x.1 x.2) (World.holding Tryd.prog os ⟨#[], #[], []⟩)
theorem laid_met3 (os : Os) (args : Array Value) : laidMet Tryd.prog Rows.permGroupRow.laid ((laidWorld os Rows.permGroupRow.laid).forCall (fun _ _ => 0) ⟨#[], args, []⟩).memory :=
 laidMet_of_run' 8 (by kernel_rfl) (by kernel_rfl)
end Go.Proofs.YtbgfpacjoneaeaaDoor
