/- The three listed tables of the program, as the evaluator and the row see them; the world of the witness. -/
import Derived.Test.YtbdghadkccpgdaaDoorCards
import Derived.Test.YtbdghadkccpgdaaDoorTie
import Derived.WalkKit
import Derived.ProofKit
import Derived.OpenShut
import Derived.Deep.DeepHandedRow
import Derived.Lib.LaidTab
import Derived.Test.YtbdghadkccpgdaaDoorMillX
namespace Go.Proofs.YtbdghadkccpgdaaDoor
open Go.ChangeShapes Go.WideShapes Go.ChangeAt Go.RowKit Go.Mill
set_option maxRecDepth 1000000
theorem own : ownKnob Tryd.prog.godebug = none := by kernel_rfl
/-- The cells that a plain datum of at most two levels is laid in. -/
def cells0 : DataW Unit → List Value
  | .lit (.int k n) => [.int k n]
  | _ => []
def cells1 : DataW Unit → List Value
  | .agg l => l.flatMap cells0
  | d => cells0 d
def cellsD : DataW Unit → List Value
  | .agg l => l.flatMap cells1
  | d => cells0 d
def lay (w : World) (P : Program) (name : String) (d : DataW Unit) : World :=
  match P.globalNamed name with
  | some g => { w with heap := w.heap.modify g fun | .cells _ t frozen => .cells (cellsD d).toArray t frozen | o => o }
  | none => w
noncomputable def laidWorld (os : Os) (l : List (String × DataW Unit)) : World := l.foldl (fun w x => lay w Tryd.prog x.1 x.2) (World.holding Tryd.prog os ⟨#[], #[], []⟩)
theorem laid_met3 (os : Os) (args : Array Value) : laidMet Tryd.prog Rows.resumeKnownRow.laid ((laidWorld os Rows.resumeKnownRow.laid).forCall (fun _ _ => 0) ⟨#[], args, []⟩).memory :=
  laidMet_of_run' 8 (by kernel_rfl) (by kernel_rfl)
def zs32 : List Int := [0, 1, 28, 2, 29, 14, 24, 3, 30, 22, 20, 15, 25, 17, 4, 8, 31, 27, 13, 23, 21, 19, 16, 7, 26, 12, 18, 6, 11, 5, 10, 9]
def zs64 : List Int := [0, 1, 56, 2, 57, 49, 28, 3, 61, 58, 42, 50, 38, 29, 17, 4, 62, 47, 59, 36, 45, 43, 51, 22, 53, 39, 33, 30, 24, 18, 12, 5, 63, 55, 48, 27, 60, 41, 37, 16, 46, 35, 44, 21, 52, 32, 23, 11, 54, 26, 40, 15, 34, 20, 31, 10, 25, 14, 19, 9, 13, 8, 7, 6]
def zs10 : List Int := [1, 10, 100, 1000, 10000, 100000, 1000000, 10000000, 100000000, 1000000000, 10000000000, 100000000000, 1000000000000, 10000000000000, 100000000000000, 1000000000000000, 10000000000000000, 100000000000000000, 1000000000000000000, 10000000000000000000]
theorem laidMet_tl {P : Program} {x : String × DataW Unit} {r : List (String × DataW Unit)} {W : World} (h : laidMet P (x :: r) W) : laidMet P r W := by
  obtain ⟨ps, hv, hnd, hall⟩ := h
  obtain ⟨n, d⟩ := x
  obtain ⟨g, t, cs, fuel, p, q, _, _, _, _, h5, rfl⟩ := hv
  exact ⟨q, h5, (List.nodup_append.1 hnd).2.1, fun b off hm => hall b off (by simp [hm])⟩
theorem tab_of {P : Program} {W : World} (hS : W.ShapedOpen P) {name : String} {g : Nat} {k : IntKind} {zs : List Int} {t : TypeId} (hg : P.globalNamed name = some g) (hgl : g < P.globals.size)
    (h0 : (((begin P (fun _ _ => 0) default).world.heap[g]?).bind Obj.row?).map (·.2) = some t) (ht : Lib.TabIs P W name k zs) : ∃ fz, W.heap[g]? = some (.cells (zs.map (Value.int k)).toArray t fz) := by
  obtain ⟨⟨zero, t'⟩, hz, rfl⟩ := Option.map_eq_some_iff.1 h0
  obtain ⟨cs, hc, _⟩ := hS.1 g zero t' hgl hz
  unfold Lib.TabIs World.var? at ht
  rw [hg] at ht
  simp only [Option.bind_some, hc, Option.some.injEq] at ht
  exact ⟨_, by rw [hc, ht]⟩
theorem tabs_of {W : World} (hS : W.ShapedOpen Tryd.prog) (h : laidMet Tryd.prog Rows.resumeKnownRow.laid W) (T32 T64 T10 : TypeId)
    (h32 : (((begin Tryd.prog (fun _ _ => 0) default).world.heap[2]?).bind Obj.row?).map (·.2) = some T32) (h64 : (((begin Tryd.prog (fun _ _ => 0) default).world.heap[3]?).bind Obj.row?).map (·.2) = some T64) (h10 : (((begin Tryd.prog (fun _ _ => 0) default).world.heap[0]?).bind Obj.row?).map (·.2) = some T10) :
    TabsIn [⟨2, T32, .u8, zs32⟩, ⟨3, T64, .u8, zs64⟩, ⟨0, T10, .u64, zs10⟩] W := by
  have t32 : Lib.TabIs Tryd.prog W "math/bits.deBruijn32tab" .u8 zs32 := Lib.tabIs_of_head (g := 2) (t := 171) (e := 5) (n := 32) (by kernel_rfl) (by kernel_rfl) Tryd.underlying171 Tryd.underlying5 (by kernel_rfl) (by kernel_rfl) h
  have t64 : Lib.TabIs Tryd.prog W "math/bits.deBruijn64tab" .u8 zs64 := Lib.tabIs_of_head (g := 3) (t := 172) (e := 5) (n := 64) (by kernel_rfl) (by kernel_rfl) Tryd.underlying172 Tryd.underlying5 (by kernel_rfl) (by kernel_rfl) (laidMet_tl h)
  have t10 : Lib.TabIs Tryd.prog W "internal/strconv.uint64pow10" .u64 zs10 := Lib.tabIs_of_head (g := 0) (t := 164) (e := 96) (n := 20) (by kernel_rfl) (by kernel_rfl) Tryd.underlying164 Tryd.underlying96 (by kernel_rfl) (by kernel_rfl) (laidMet_tl (laidMet_tl h))
  intro x hx
  simp only [List.mem_cons, List.not_mem_nil, or_false] at hx
  rcases hx with rfl | rfl | rfl
  · exact tab_of hS (by kernel_rfl) (of_decide_eq_true (by kernel_rfl)) h32 t32
  · exact tab_of hS (by kernel_rfl) (of_decide_eq_true (by kernel_rfl)) h64 t64
  · exact tab_of hS (by kernel_rfl) (of_decide_eq_true (by kernel_rfl)) h10 t10
end Go.Proofs.YtbdghadkccpgdaaDoor
