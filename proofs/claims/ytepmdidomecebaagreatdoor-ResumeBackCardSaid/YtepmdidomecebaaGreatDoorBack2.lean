/- The law ResumeBack is proved: its call returns true at every input, in every world (the tied card ResumeBackCardSaid). -/
import Derived.Test.YtepmdidomecebaaGreatDoorBack1
import Derived.Test.YtepmdidomecebaaGreatDoorFrame1
namespace Go.Proofs.YtepmdidomecebaaGreatDoor
open Go.ChangeShapes Go.WideShapes Go.ChangeAt Go.RowKit Go.ChangeMaps
set_option maxRecDepth 1000000
namespace resumeBack
theorem W9 (os:Os) (args:Array Value):laidMet Tryz.prog Rows.resumeBackRow.laid ((s7 os Rows.resumeBackRow.laid).forCall (fun _ _=>0) ⟨#[],args,[]⟩).memory :=
 TT os args
theorem contract (H:Type) (enc:TypeId×Value->H) (W:World) (base:Nat) (args:Array Value) (ds gs:List (DataW H)) (before:List MemPlace)
 (hval:∀ (j:Nat) t v,Tryz.f5.params[j]? = some t->args[j]? = some v->Value.okWide Tryz.prog W .any base t v)
 (hW:DataW.Whole enc Tryz.prog Tryz.f5.params.toList Rows.resumeBackSpec.vars false W args.toList ds gs before) (hK:aJ.gH Tryz.prog (aJ.kg W)) :
 Calls Tryz.prog 5 args W fun e W'=>∃ v,e=.returned v/\Rows.resumeBackSpec.post enc Tryz.prog Tryz.f5 false true false false W args v W' :=
 aJ.Ik (kinds:=[.int .i64,.int .i64,.sl (.int .i64),.sl (.int .i64)]) (by kernel_rfl) (by kernel_rfl) W8 (by kernel_rfl) Tryz.underlying4 rfl (fun ds h=>by
  match ds,h with
  | [_,_,_,_],_=>exact ⟨rfl,rfl,rfl⟩) hval hW hK
theorem reads (os:Os) {H:Type} (enc:TypeId×Value->H):∃ places,DataW.whole enc Tryz.prog ((s7 os Rows.resumeBackRow.laid).forCall (fun _ _=>0) ⟨#[],#[.int .i64 0,.int .i64 0,.slice none 0 0,.slice none 0 0],[]⟩).memory Tryz.f5.params.toList Rows.resumeBackSpec.vars false (#[.int .i64 0,.int .i64 0,.slice none 0 0,.slice none 0 0]:Array Value).toList 8=some ([.lit (.int .i64 0),.lit (.int .i64 0),.nil,.nil],[],places) :=
 ⟨[],by kernel_rfl⟩
theorem lifted (os:Os) (started:os.Started) (H:Type) (enc:TypeId×Value->H) (F:Stop.Interp) :
 ReturnsInHanded {} Tryz.checked os 5 .any ((OpenSpec.ofChange Rows.resumeBackSpec).preRow enc Tryz.prog Tryz.f5 Rows.resumeBackRow.domain false Rows.resumeBackRow.laid) (((OpenSpec.ofChange Rows.resumeBackSpec).at F).post enc Tryz.prog Tryz.f5 false true false false):=by
 obtain ⟨places,hx⟩:=reads os enc
 refine returnsInHanded_of_row (C:=Tryz.checked) (s:=OpenSpec.ofChange Rows.resumeBackSpec) own started (by kernel_rfl) Tryz.func5
  (witness_row_at (enc:=enc) (C:=Tryz.checked) false (s7 os Rows.resumeBackRow.laid) #[.int .i64 0,.int .i64 0,.slice none 0 0,.slice none 0 0] rfl (by kernel_rfl) (by kernel_rfl) (by kernel_rfl)
   (OpenSpec.preRow_of_cond 8 hx (by kernel_rfl) (fun k hk=>by cases hk) (by kernel_rfl) (W9 os _))) ?_
 intro W base args ds gs before hval hW _ _ _ hL _ _;exact contract H enc W base args ds gs before hval hW (knows hL)
theorem said:Rows.ResumeBackSaid :=
 OpenClaim.holds_of_cond 5 Tryz.f5 rfl rfl rfl rfl rfl rfl rfl ⟨rfl,rfl,rfl,rfl,rfl⟩ rfl rfl rfl rfl rfl (by kernel_rfl) Tryz.func5 (by kernel_rfl)
  (of_decide_eq_true (by kernel_rfl)) (by unfold Func.isWrapper;first | (rw [if_pos (by decide +kernel)];kernel_rfl) | (rw [if_neg (by decide +kernel)];exact ⟨rfl,rfl⟩))
  (fun os started H enc _ F=>by rw [OpenClaim.pre_eq_preRow];exact lifted os started H enc F)
theorem plain (f:FuncId) (fn:Func) (hf:Tryz.pinned.checked.prog.funcNamed "cayley/cayleylaw39.ResumeBack" = some f) (hfn:Tryz.pinned.checked.prog.funcs[f]? = some fn) :
 true=Tryz.pinned.checked.prog.looks []/\∀ (j:Nat) t,fn.params[j]? = some t->Tryz.pinned.checked.prog.wantsStandIn t=false:=by
 obtain rfl:f=5:=Option.some.inj ((show Tryz.prog.funcNamed "cayley/cayleylaw39.ResumeBack" = some 5 by kernel_rfl).symm.trans hf) |>.symm;obtain rfl:fn=Tryz.f5:=(Option.some.inj (Tryz.func5.symm.trans hfn)).symm;refine ⟨by kernel_rfl,fun j t ht=>?_⟩;rw [Tryz.params5] at ht;cases j with
 | zero=>simp at ht;subst ht;kernel_rfl
 | succ j =>
   cases j with
   | zero=>simp at ht;subst ht;kernel_rfl
   | succ j =>
     cases j with
     | zero=>simp at ht;subst ht;kernel_rfl
     | succ j =>
       cases j with
       | zero=>simp at ht;subst ht;kernel_rfl
       | succ j =>
         simp at ht
end resumeBack
theorem resumeBack_holds:Rows.ResumeBackCardSaid :=
 Claim7.holds_tied_plain_at .later [] _ _ _ _ resumeBack.said (fun _ h=>by cases h) (by kernel_rfl) (fun _ h=>by cases h) resumeBack_row_tie rfl ⟨rfl,rfl⟩ (by kernel_rfl) rfl resumeBack.plain (by kernel_rfl)
end Go.Proofs.YtepmdidomecebaaGreatDoor
