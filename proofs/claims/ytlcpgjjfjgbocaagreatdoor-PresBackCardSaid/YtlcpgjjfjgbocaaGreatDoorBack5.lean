/- The law PresBack is proved: its call returns true at every input, in every world (the tied card PresBackCardSaid). -/
import Derived.Test.YtlcpgjjfjgbocaaGreatDoorBack4
import Derived.Test.YtlcpgjjfjgbocaaGreatDoorFrameA
namespace Go.Proofs.YtlcpgjjfjgbocaaGreatDoor
open Go.ChangeShapes Go.WideShapes Go.ChangeAt Go.RowKit Go.ChangeMaps
set_option maxRecDepth 1000000
namespace presBack
theorem laid_met (os : Os) (args : Array Value) : laidMet Tryz.prog Rows.presBackRow.laid ((laidWorld os Rows.presBackRow.laid).forCall (fun _ _ => 0) ⟨#[], args, []⟩).memory :=
 laid_met5 os args
theorem contract (H : Type) (enc : TypeId × Value → H) (W : World) (base : Nat) (args : Array Value) (ds gs : List (DataW H)) (before : List MemPlace)
 (hval : ∀ (j : Nat) t v, Tryz.f3.params[j]? = some t → args[j]? = some v → Value.okWide Tryz.prog W .any base t v)
 (hW : DataW.Whole enc Tryz.prog Tryz.f3.params.toList Rows.presBackSpec.vars false W args.toList ds gs before) :
 Calls Tryz.prog 3 args W fun e W' => ∃ v, e = .returned v ∧ Rows.presBackSpec.post enc Tryz.prog Tryz.f3 false true false false W args v W' :=
 Loom.law_contract (kinds := [.int .i64, .sl (.int .i64)]) (by kernel_rfl) (by kernel_rfl) back_all (by kernel_rfl) Tryz.underlying4 rfl (fun ds h => by
  match ds, h with
  | [_, _], _ => exact ⟨rfl, rfl, rfl⟩) hval hW
theorem reads (os : Os) {H : Type} (enc : TypeId × Value → H) : ∃ places, DataW.whole enc Tryz.prog ((laidWorld os Rows.presBackRow.laid).forCall (fun _ _ => 0) ⟨#[], #[.int .i64 0, .slice none 0 0], []⟩).memory Tryz.f3.params.toList Rows.presBackSpec.vars false (#[.int .i64 0, .slice none 0 0] : Array Value).toList 8 = some ([.lit (.int .i64 0), .nil], [], places) :=
 ⟨[], by kernel_rfl⟩
theorem lifted (os : Os) (started : os.Started) (H : Type) (enc : TypeId × Value → H) (F : Stop.Interp) :
 ReturnsInHanded {} Tryz.checked os 3 .any ((OpenSpec.ofChange Rows.presBackSpec).preRow enc Tryz.prog Tryz.f3 Rows.presBackRow.domain false Rows.presBackRow.laid) (((OpenSpec.ofChange Rows.presBackSpec).at F).post enc Tryz.prog Tryz.f3 false true false false) := by
 obtain ⟨places, hx⟩ := reads os enc
 refine returnsInHanded_of_row (C := Tryz.checked) (s := OpenSpec.ofChange Rows.presBackSpec) own started (by kernel_rfl) Tryz.func3
  (witness_row_at (enc := enc) (C := Tryz.checked) false (laidWorld os Rows.presBackRow.laid) #[.int .i64 0, .slice none 0 0] rfl (by kernel_rfl) (by kernel_rfl) (by kernel_rfl)
   (OpenSpec.preRow_of_cond 8 hx (by kernel_rfl) (fun k hk => by cases hk) (by kernel_rfl) (laid_met os _))) ?_
 intro W base args ds gs before hval hW _ _ _ hL _ _
 exact contract H enc W base args ds gs before hval hW
theorem said : Rows.PresBackSaid :=
 OpenClaim.holds_of_cond 3 Tryz.f3 rfl rfl rfl rfl rfl rfl rfl ⟨rfl, rfl, rfl, rfl, rfl⟩ rfl rfl rfl rfl rfl (by kernel_rfl) Tryz.func3 (by kernel_rfl)
  (of_decide_eq_true (by kernel_rfl)) (by unfold Func.isWrapper; first | (rw [if_pos (by decide +kernel)]; kernel_rfl) | (rw [if_neg (by decide +kernel)]; exact ⟨rfl, rfl⟩))
  (fun os started H enc _ F => by rw [OpenClaim.pre_eq_preRow]; exact lifted os started H enc F)
theorem plain (f : FuncId) (fn : Func) (hf : Tryz.pinned.checked.prog.funcNamed "cayley/cayleylaw17.PresBack" = some f) (hfn : Tryz.pinned.checked.prog.funcs[f]? = some fn) :
 true = Tryz.pinned.checked.prog.looks [] ∧ ∀ (j : Nat) t, fn.params[j]? = some t → Tryz.pinned.checked.prog.wantsStandIn t = false := by
 obtain rfl : f = 3 := Option.some.inj ((show Tryz.prog.funcNamed "cayley/cayleylaw17.PresBack" = some 3 by kernel_rfl).symm.trans hf) |>.symm
 obtain rfl : fn = Tryz.f3 := (Option.some.inj (Tryz.func3.symm.trans hfn)).symm
 refine ⟨by kernel_rfl, fun j t ht => ?_⟩
 rw [Tryz.params3] at ht
 cases j with
 | zero => simp at ht; subst ht; kernel_rfl
 | succ j =>
   cases j with
   | zero => simp at ht; subst ht; kernel_rfl
   | succ j =>
     simp at ht
end presBack
theorem presBack_holds : Rows.PresBackCardSaid :=
 Claim7.holds_tied_plain_at .later [] _ _ _ _ presBack.said (fun _ h => by cases h) (by kernel_rfl) (fun _ h => by cases h) presBack_row_tie rfl ⟨rfl, rfl⟩ (by kernel_rfl) rfl presBack.plain (by kernel_rfl)
end Go.Proofs.YtlcpgjjfjgbocaaGreatDoor
