/- The recovering call where nothing is to be recovered. -/
import Derived.Test.YtlcpgjjfjgbocaaGreatDoorProg
import Derived.Tactics
import Derived.Tactics2
import Derived.Defers
import Derived.Recover
import Derived.Laws.Pointers
import Derived.TacticsInMore
import Derived.RegionIn
import Derived.LoopNIn
import Derived.RecoverIn
namespace Go.Proofs.YtlcpgjjfjgbocaaGreatDoor
set_option maxRecDepth 100000
theorem recovers_idle (x y : Value) (w : World) :
 CallsDIn Fence.wide 0 Tryz.prog 94 #[x, y] .returning w fun e u' w' => e = .returned (.tuple #[]) ∧ u' = .returning ∧ w' = w := by
 refine callsDIn_of_wpSIn Tryz.func94 rfl (by simp [Fence.wide]) fun c₀ cs hu => ?_
 apply wpSIn_seq
 apply wpSIn_region
 simp [wpOpsSIn, go_sem, recoverD, hu, Tryz.ntmps94, Exit.thenS, Fence.wide]
 apply wpSIn_seq
 apply wpSIn_seq
 apply wpSIn_region
 simp [wpOpsSIn, go_sem, recoverD, hu, Exit.thenS]
 refine wpSIn_cond (t := true) (by simp [Act.eval, Array.replicate]) ?_
 simp only [if_true]
 refine wpSIn_of_wpIn rfl (wpIn_ret ?_)
 cases c₀
 simp_all [bodyPostS, results, Tryz.results94, Exit.thenS]
end Go.Proofs.YtlcpgjjfjgbocaaGreatDoor
