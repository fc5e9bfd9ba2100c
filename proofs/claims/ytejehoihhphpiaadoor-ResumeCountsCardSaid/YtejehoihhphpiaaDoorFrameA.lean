/- The world of the witness; what a row's listed tables say. -/
import Derived.Test.YtejehoihhphpiaaDoorCards
import Derived.Test.YtejehoihhphpiaaDoorTie
import Derived.WalkKit
import Derived.ProofKit
import Derived.OpenShut
import Derived.Deep.DeepHandedRow
import Derived.Lib.LaidTab
import Derived.Test.YtejehoihhphpiaaDoorMillX
import Derived.Test.YtejehoihhphpiaaDoorLoom4
namespace Go.Proofs.YtejehoihhphpiaaDoor
open Go.ChangeShapes Go.WideShapes Go.ChangeAt Go.RowKit Go.Mill
set_option maxRecDepth 1000000
theorem own:ownKnob Tryd.prog.godebug=none:=by kernel_rfl
def cells0:DataW Unit->List Value
 | .lit (.int k n)=>[.int k n]
 | _=>[]
def cells1:DataW Unit->List Value
 | .agg l=>l.flatMap cells0
 | d=>cells0 d
def cellsD:DataW Unit->List Value
 | .agg l=>l.flatMap cells1
 | d=>cells0 d
def lay (w:World) (P:Program) (name:String) (d:DataW Unit):World :=
 match P.globalNamed name with
 | some g=>{ w with heap:=w.heap.modify g fun | .cells _ t frozen=>.cells (cellsD d).toArray t frozen | o=>o }
 | none=>w
noncomputable def laidWorld (os:Os) (l:List (String×DataW Unit)):World:=l.foldl (fun w x=>lay w Tryd.prog x.1 x.2) (World.holding Tryd.prog os ⟨#[],#[],[]⟩)
theorem laid_met3 (os:Os) (args:Array Value):laidMet Tryd.prog Rows.resumeCountsRow.laid ((laidWorld os Rows.resumeCountsRow.laid).forCall (fun _ _=>0) ⟨#[],args,[]⟩).memory :=
 laidMet_of_run' 8 (by kernel_rfl) (by kernel_rfl)
theorem laidMet_tl {P:Program} {x:String×DataW Unit} {r:List (String×DataW Unit)} {W:World} (h:laidMet P (x::r) W):laidMet P r W:=by
 obtain ⟨ps,hv,hnd,hall⟩:=h
 obtain ⟨n,d⟩:=x
 obtain ⟨g,t,cs,fuel,p,q,_,_,_,_,h5,rfl⟩:=hv
 exact ⟨q,h5,(List.nodup_append.1 hnd).2.1,fun b off hm=>hall b off (by simp [hm])⟩
theorem know_one {P:Program} {W:World} {name:String} {k:IntKind} {zs:List Int} (h:Lib.TabIs P W name k zs) {g:Nat} (hg:P.globalNamed name=some g):Loom.allZ W g=some (zs.map (Value.int k)).toArray:=by
 unfold Lib.TabIs World.var? at h
 rw [hg] at h
 simp only [Option.bind_some] at h
 unfold Loom.allZ
 split at h
 . rename_i c t fz e
   rw [e]
   simp only [Option.some.injEq] at h ⊢
   exact h
 . cases h
theorem knows {W:World} (h:laidMet Tryd.prog Rows.resumeCountsRow.laid W):Loom.Know Tryd.prog (Loom.allZ W):=by
 have t32:Lib.TabIs Tryd.prog W "math/bits.deBruijn32tab" .u8 Loom.tab32:=Lib.tabIs_of_head (g:=2) (t:=136) (e:=5) (n:=32) (by kernel_rfl) (by kernel_rfl) Tryd.underlying136 Tryd.underlying5 (by kernel_rfl) (by kernel_rfl) h
 have t64:Lib.TabIs Tryd.prog W "math/bits.deBruijn64tab" .u8 Loom.tab64:=Lib.tabIs_of_head (g:=3) (t:=137) (e:=5) (n:=64) (by kernel_rfl) (by kernel_rfl) Tryd.underlying137 Tryd.underlying5 (by kernel_rfl) (by kernel_rfl) (laidMet_tl h)
 have t10:Lib.TabIs Tryd.prog W "internal/strconv.uint64pow10" .u64 Loom.tab10:=Lib.tabIs_of_head (g:=0) (t:=131) (e:=98) (n:=20) (by kernel_rfl) (by kernel_rfl) Tryd.underlying131 Tryd.underlying98 (by kernel_rfl) (by kernel_rfl) (laidMet_tl (laidMet_tl h))
 intro x hx g hg
 simp only [Loom.tabsK,List.mem_cons,List.not_mem_nil,or_false] at hx
 rcases hx with rfl | rfl | rfl
 . exact know_one t32 hg
 . exact know_one t64 hg
 . exact know_one t10 hg
end Go.Proofs.YtejehoihhphpiaaDoor
