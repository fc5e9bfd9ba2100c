/- The law PresKnown as a call. -/
import Derived.Test.YtlcpgjjfjgbocaaGreatDoorKnown2
import Derived.Test.YtlcpgjjfjgbocaaGreatDoorLoom4
namespace Go.Proofs.YtlcpgjjfjgbocaaGreatDoor
open Go.Loom
theorem known_sem : FnSem Tryz.prog 4 [] [] (A.p (.c (.bool true))) [] := fnSem_below (d := .bool) (y := true) fun η Z w vs hvs => by
 cases vs with
 | cons _ _ => exact hvs.elim
 | nil => exact (known_true w).mono fun e w' ⟨he, hB⟩ => ⟨_, he, fun _ => rfl, hB⟩
end Go.Proofs.YtlcpgjjfjgbocaaGreatDoor
