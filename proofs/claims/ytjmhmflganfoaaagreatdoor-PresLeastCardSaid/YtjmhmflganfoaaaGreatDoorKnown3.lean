/- The law PresKnown as a call. -/
import Derived.Test.YtjmhmflganfoaaaGreatDoorKnown2
import Derived.Test.YtjmhmflganfoaaaGreatDoorLoom4
namespace Go.Proofs.YtjmhmflganfoaaaGreatDoor
open Go.Loom
theorem known_sem : FnSem Tryz.prog 7 [] [] (A.p (.c (.bool true))) [] := fnSem_below (d := .bool) (y := true) fun η Z w vs hvs => by
  cases vs with
  | cons _ _ => exact hvs.elim
  | nil => exact (known_true w).mono fun e w' ⟨he, hB⟩ => ⟨_, he, fun _ => rfl, hB⟩
theorem known_all : ForArgs (fun args => FnSem Tryz.prog 7 args [] (dat .bool true) []) [] [] := known_sem
end Go.Proofs.YtjmhmflganfoaaaGreatDoor
