/- The law ResumeCounts is proved: its call returns true at every input, in every world (the tied card ResumeCountsCardSaid). -/
import Derived.Test.YtejehoihhphpiaaDoorCounts1
import Derived.Test.YtejehoihhphpiaaDoorFrameA
namespace Go.Proofs.YtejehoihhphpiaaDoor
open Go.ChangeShapes Go.WideShapes Go.ChangeAt Go.RowKit Go.ChangeMaps
set_option maxRecDepth 1000000
namespace resumeCounts
theorem laid_met (os:Os) (args:Array Value):laidMet Tryd.prog Rows.resumeCountsRow.laid ((laidWorld os Rows.resumeCountsRow.laid).forCall (fun _ _=>0) ⟨#[],args,[]⟩).memory :=
 laid_met3 os args
theorem contract (H:Type) (enc:TypeId×Value->H) (W:World) (base:Nat) (args:Array Value) (ds gs:List (DataW H)) (before:List MemPlace)
 (hval:∀ (j:Nat) t v,Tryd.f3.params[j]? = some t->args[j]? = some v->Value.okWide Tryd.prog W .any base t v)
 (hW:DataW.Whole enc Tryd.prog Tryd.f3.params.toList Rows.resumeCountsSpec.vars false W args.toList ds gs before) (hK:Loom.Know Tryd.prog (Loom.allZ W)) :
 Calls Tryd.prog 3 args W fun e W'=>∃ v,e=.returned v/\Rows.resumeCountsSpec.post enc Tryd.prog Tryd.f3 false true false false W args v W' :=
 Loom.law_contract (kinds:=[.int .i64,.int .i64,.int .i64,.sl (.int .i64),.sl (.int .i64)]) (by kernel_rfl) (by kernel_rfl) counts_all (by kernel_rfl) Tryd.underlying4 rfl (fun ds h=>by
  match ds,h with
  | [_,_,_,_,_],_=>exact ⟨rfl,rfl,rfl⟩) hval hW hK
theorem reads (os:Os) {H:Type} (enc:TypeId×Value->H):∃ places,DataW.whole enc Tryd.prog ((laidWorld os Rows.resumeCountsRow.laid).forCall (fun _ _=>0) ⟨#[],#[.int .i64 0,.int .i64 0,.int .i64 0,.slice none 0 0,.slice none 0 0],[]⟩).memory Tryd.f3.params.toList Rows.resumeCountsSpec.vars false (#[.int .i64 0,.int .i64 0,.int .i64 0,.slice none 0 0,.slice none 0 0]:Array Value).toList 8=some ([.lit (.int .i64 0),.lit (.int .i64 0),.lit (.int .i64 0),.nil,.nil],[],places) :=
 ⟨[],by kernel_rfl⟩
theorem lifted (os:Os) (started:os.Started) (H:Type) (enc:TypeId×Value->H) (F:Stop.Interp) :
 ReturnsInHanded {} Tryd.checked os 3 .any ((OpenSpec.ofChange Rows.resumeCountsSpec).preRow enc Tryd.prog Tryd.f3 Rows.resumeCountsRow.domain false Rows.resumeCountsRow.laid) (((OpenSpec.ofChange Rows.resumeCountsSpec).at F).post enc Tryd.prog Tryd.f3 false true false false):=by
 obtain ⟨places,hx⟩:=reads os enc
 refine returnsInHanded_of_row (C:=Tryd.checked) (s:=OpenSpec.ofChange Rows.resumeCountsSpec) own started (by kernel_rfl) Tryd.func3
  (witness_row_at (enc:=enc) (C:=Tryd.checked) false (laidWorld os Rows.resumeCountsRow.laid) #[.int .i64 0,.int .i64 0,.int .i64 0,.slice none 0 0,.slice none 0 0] rfl (by kernel_rfl) (by kernel_rfl) (by kernel_rfl)
   (OpenSpec.preRow_of_cond 8 hx (by kernel_rfl) (fun k hk=>by cases hk) (by kernel_rfl) (laid_met os _))) ?_
 intro W base args ds gs before hval hW _ _ _ hL _ _
 exact contract H enc W base args ds gs before hval hW (knows hL)
theorem said:Rows.ResumeCountsSaid :=
 OpenClaim.holds_of_cond 3 Tryd.f3 rfl rfl rfl rfl rfl rfl rfl ⟨rfl,rfl,rfl,rfl,rfl⟩ rfl rfl rfl rfl rfl (by kernel_rfl) Tryd.func3 (by kernel_rfl)
  (of_decide_eq_true (by kernel_rfl)) (by unfold Func.isWrapper;first | (rw [if_pos (by decide +kernel)];kernel_rfl) | (rw [if_neg (by decide +kernel)];exact ⟨rfl,rfl⟩))
  (fun os started H enc _ F=>by rw [OpenClaim.pre_eq_preRow];exact lifted os started H enc F)
theorem plain (f:FuncId) (fn:Func) (hf:Tryd.pinned.checked.prog.funcNamed "cayley/cayleylaw39.ResumeCounts" = some f) (hfn:Tryd.pinned.checked.prog.funcs[f]? = some fn) :
 false=Tryd.pinned.checked.prog.looks []/\∀ (j:Nat) t,fn.params[j]? = some t->Tryd.pinned.checked.prog.wantsStandIn t=false:=by
 obtain rfl:f=3:=Option.some.inj ((show Tryd.prog.funcNamed "cayley/cayleylaw39.ResumeCounts" = some 3 by kernel_rfl).symm.trans hf) |>.symm
 obtain rfl:fn=Tryd.f3:=(Option.some.inj (Tryd.func3.symm.trans hfn)).symm
 refine ⟨by kernel_rfl,fun j t ht=>?_⟩
 rw [Tryd.params3] at ht
 cases j with
 | zero=>simp at ht;subst ht;kernel_rfl
 | succ j =>
   cases j with
   | zero=>simp at ht;subst ht;kernel_rfl
   | succ j =>
     cases j with
     | zero=>simp at ht;subst ht;kernel_rfl
     | succ j =>
       cases j with
       | zero=>simp at ht;subst ht;kernel_rfl
       | succ j =>
         cases j with
         | zero=>simp at ht;subst ht;kernel_rfl
         | succ j =>
           simp at ht
end resumeCounts
theorem resumeCounts_holds:Rows.ResumeCountsCardSaid :=
 Claim7.holds_tied_plain_at .later [] _ _ _ _ resumeCounts.said (fun _ h=>by cases h) (by kernel_rfl) (fun _ h=>by cases h) resumeCounts_row_tie rfl ⟨rfl,rfl⟩ (by kernel_rfl) rfl resumeCounts.plain (by kernel_rfl)
end Go.Proofs.YtejehoihhphpiaaDoor
