/- The law SyntaxKnown as a call. -/
import Derived.Test.YtemmkdncplbhnaaGreatDoorKnown4
import Derived.Test.YtemmkdncplbhnaaGreatDoorLoom4
import Derived.Test.YtemmkdncplbhnaaGreatDoorFrameA
namespace Go.Proofs.YtemmkdncplbhnaaGreatDoor
open Go.Loom
theorem known_sem : FnSem Tryz.prog 3 [] [] (A.p (.c (.bool true))) [] := fnSem_below (d := .bool) (y := true) fun η Z w vs hvs => by
 cases vs with
 | cons _ _ => exact hvs.elim
 | nil => exact (known_true w).mono fun e w' ⟨he, hB⟩ => ⟨_, he, fun _ => rfl, hB⟩
theorem known_all : ForArgs (fun args => FnSem Tryz.prog 3 args [] (dat .bool true) []) [] [] := known_sem
end Go.Proofs.YtemmkdncplbhnaaGreatDoor

namespace Go.Proofs.YtemmkdncplbhnaaGreatDoor
open Go.ChangeShapes Go.WideShapes Go.ChangeAt Go.RowKit Go.ChangeMaps
set_option maxRecDepth 1000000
namespace syntaxKnown
theorem laid_met (os : Os) (args : Array Value) : laidMet Tryz.prog Rows.syntaxKnownRow.laid ((laidWorld os Rows.syntaxKnownRow.laid).forCall (fun _ _ => 0) ⟨#[], args, []⟩).memory :=
 laid_met5 os args
theorem contract (H : Type) (enc : TypeId × Value → H) (W : World) (base : Nat) (args : Array Value) (ds gs : List (DataW H)) (before : List MemPlace)
 (hval : ∀ (j : Nat) t v, Tryz.f3.params[j]? = some t → args[j]? = some v → Value.okWide Tryz.prog W .any base t v)
 (hW : DataW.Whole enc Tryz.prog Tryz.f3.params.toList Rows.syntaxKnownSpec.vars false W args.toList ds gs before) :
 Calls Tryz.prog 3 args W fun e W' => ∃ v, e = .returned v ∧ Rows.syntaxKnownSpec.post enc Tryz.prog Tryz.f3 false true false false W args v W' :=
 Loom.law_contract (kinds := []) (by kernel_rfl) (by kernel_rfl) known_all (by kernel_rfl) Tryz.underlying4 rfl (fun ds h => by
  match ds, h with
  | [], _ => exact ⟨rfl, rfl, rfl⟩) hval hW
theorem reads (os : Os) {H : Type} (enc : TypeId × Value → H) : ∃ places, DataW.whole enc Tryz.prog ((laidWorld os Rows.syntaxKnownRow.laid).forCall (fun _ _ => 0) ⟨#[], #[], []⟩).memory Tryz.f3.params.toList Rows.syntaxKnownSpec.vars false (#[] : Array Value).toList 8 = some ([], [], places) :=
 ⟨[], by kernel_rfl⟩
theorem lifted (os : Os) (started : os.Started) (H : Type) (enc : TypeId × Value → H) (F : Stop.Interp) :
 ReturnsInHanded {} Tryz.checked os 3 .any ((OpenSpec.ofChange Rows.syntaxKnownSpec).preRow enc Tryz.prog Tryz.f3 Rows.syntaxKnownRow.domain false Rows.syntaxKnownRow.laid) (((OpenSpec.ofChange Rows.syntaxKnownSpec).at F).post enc Tryz.prog Tryz.f3 false true false false) := by
 obtain ⟨places, hx⟩ := reads os enc
 refine returnsInHanded_of_row (C := Tryz.checked) (s := OpenSpec.ofChange Rows.syntaxKnownSpec) own started (by kernel_rfl) Tryz.func3
  (witness_row_at (enc := enc) (C := Tryz.checked) false (laidWorld os Rows.syntaxKnownRow.laid) #[] rfl (by kernel_rfl) (by kernel_rfl) (by kernel_rfl)
   (OpenSpec.preRow_of_cond 8 hx (by kernel_rfl) (fun k hk => by cases hk) (by kernel_rfl) (laid_met os _))) ?_
 intro W base args ds gs before hval hW _ _ _ hL _ _
 exact contract H enc W base args ds gs before hval hW
theorem said : Rows.SyntaxKnownSaid :=
 OpenClaim.holds_of_cond 3 Tryz.f3 rfl rfl rfl rfl rfl rfl rfl ⟨rfl, rfl, rfl, rfl, rfl⟩ rfl rfl rfl rfl rfl (by kernel_rfl) Tryz.func3 (by kernel_rfl)
  (of_decide_eq_true (by kernel_rfl)) (by unfold Func.isWrapper; first | (rw [if_pos (by decide +kernel)]; kernel_rfl) | (rw [if_neg (by decide +kernel)]; exact ⟨rfl, rfl⟩))
  (fun os started H enc _ F => by rw [OpenClaim.pre_eq_preRow]; exact lifted os started H enc F)
theorem plain (f : FuncId) (fn : Func) (hf : Tryz.pinned.checked.prog.funcNamed "cayley/cayleylaw37.SyntaxKnown" = some f) (hfn : Tryz.pinned.checked.prog.funcs[f]? = some fn) :
 true = Tryz.pinned.checked.prog.looks [] ∧ ∀ (j : Nat) t, fn.params[j]? = some t → Tryz.pinned.checked.prog.wantsStandIn t = false := by
 obtain rfl : f = 3 := Option.some.inj ((show Tryz.prog.funcNamed "cayley/cayleylaw37.SyntaxKnown" = some 3 by kernel_rfl).symm.trans hf) |>.symm
 obtain rfl : fn = Tryz.f3 := (Option.some.inj (Tryz.func3.symm.trans hfn)).symm
 refine ⟨by kernel_rfl, fun j t ht => ?_⟩
 rw [Tryz.params3] at ht
 simp at ht
end syntaxKnown
theorem syntaxKnown_holds : Rows.SyntaxKnownCardSaid :=
 Claim7.holds_tied_plain_at .later [] _ _ _ _ syntaxKnown.said (fun _ h => by cases h) (by kernel_rfl) (fun _ h => by cases h) syntaxKnown_row_tie rfl ⟨rfl, rfl⟩ (by kernel_rfl) rfl syntaxKnown.plain (by kernel_rfl)
end Go.Proofs.YtemmkdncplbhnaaGreatDoor
