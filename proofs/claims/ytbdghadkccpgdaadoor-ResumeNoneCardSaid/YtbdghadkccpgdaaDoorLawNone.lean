/- The law ResumeNone is proved: its call returns true at every number, in every world whose listed tables are as the program's text lays them (the tied card ResumeNoneCardSaid). -/
import Derived.Test.YtbdghadkccpgdaaDoorNoneA
namespace Go.Proofs.YtbdghadkccpgdaaDoor
open Go.ChangeShapes Go.WideShapes Go.ChangeAt Go.RowKit Go.Mill
set_option maxRecDepth 1000000
theorem calls_true_tab1 {E : Env} (hE : EnvOk E) {n f ng : Nat} {l : List Tab} (hng : (l.all fun x => Nat.blt x.g ng) = true) (a : Int) (h : saysTrue (ev E n (.call f [.p (.c (.int .i64 a))]) (hTab ng l)) = true) (w : World) (hT : TabsIn l w) :
    Calls E.P f #[.int .i64 a] w fun e w' => e = .returned (.bool true) ∧ Below w.heap.size w w' := by
  obtain ⟨h', e⟩ := saysTrue_some h
  have := (ev_sound hE n).call f [.p (.c (.int .i64 a))] (hTab ng l) _ h' e w.heap.size (rhoTab (hTab ng l)) w [.int .i64 a] (rel_hTab hng hT) ⟨rfl, trivial⟩
  refine (callsIn_wide.1 this).mono fun e w' ⟨u, ρ', he, _, _, hr, hB⟩ => ?_
  have hu : u = .bool true := hr
  subst hu
  exact ⟨he, hB⟩
theorem none_true {W : World} (hS : W.ShapedOpen Tryd.prog) (h : laidMet Tryd.prog Rows.resumeKnownRow.laid W) (n : Int) : Calls Tryd.prog 4 #[.int .i64 n] W fun e w' => e = .returned (.bool true) ∧ Below W.heap.size W w' :=
  calls_true_tab1 E0_ok (by kernel_rfl) n (none_eval n) W (tabs_of hS h 171 172 164 (by kernel_rfl) (by kernel_rfl) (by kernel_rfl))
namespace resumeNone
theorem contract (H : Type) (enc : TypeId × Value → H) (W : World) (base : Nat) (args : Array Value) (ds gs : List (DataW H)) (before : List MemPlace)
    (hval0 : ∀ (j : Nat) t v, Tryd.f4.params[j]? = some t → args[j]? = some v → Value.okWide Tryd.prog W .any base t v)
    (hW : DataW.Whole enc Tryd.prog Tryd.f4.params.toList Rows.resumeNoneSpec.vars false W args.toList ds gs before) (hL : laidMetH Tryd.prog Rows.resumeNoneRow.laid W) (hS : W.ShapedOpen Tryd.prog) :
    Calls Tryd.prog 4 args W fun e W' => ∃ v, e = .returned v ∧ Rows.resumeNoneSpec.post enc Tryd.prog Tryd.f4 false true false false W args v W' := by
  have hval := hval0
  have hW' := hW
  obtain ⟨p, q, hA0, hV, rfl, hfz, hnd⟩ := hW
  have hA : DataW.TrodAll enc Tryd.prog W 0 (fun _ => true) true Tryd.f4.params.toList args.toList ds p := hA0
  rw [Tryd.params4] at hA hval
  obtain ⟨v0, vs0, d0, ds0, p0, q0, hargs, rfl, rfl, h0, r0⟩ := trodAll_cons hA
  obtain ⟨rfl, rfl, rfl⟩ := trodAll_nil r0
  obtain rfl : args = #[v0] := by cases args; simp_all
  obtain ⟨rfl, rfl⟩ := trodVars_none hV
  obtain ⟨a0, rfl, rfl, rfl, w0⟩ := open_int Tryd.underlying3 (hval 0 3 v0 rfl rfl) h0
  clear hA0 hval0
  simp only [List.append_nil] at hW'
  refine (none_true hS hL a0).mono fun e W' ⟨he, hB⟩ => ?_
  subst he
  exact ⟨_, rfl, post_of_below (pa := []) (pv := []) hW' (fun _ _ _ => trodAll_cons_mk (shut_bool Tryd.underlying4 _) trodAll_mk0) (fun _ _ => trodAll_cons_mk (shut_int Tryd.underlying3 w0) trodAll_mk0) (fun _ _ => rfl) rfl hB (ok_one (by kernel_rfl) rfl (okWide_bool_mk Tryd.underlying4 _))⟩
theorem reads (os : Os) {H : Type} (enc : TypeId × Value → H) : ∃ places, DataW.whole enc Tryd.prog ((laidWorld os Rows.resumeNoneRow.laid).forCall (fun _ _ => 0) ⟨#[], #[.int .i64 0], []⟩).memory Tryd.f4.params.toList Rows.resumeNoneSpec.vars false (#[.int .i64 0] : Array Value).toList 8 = some ([.lit (.int .i64 0)], [], places) :=
  ⟨[], by kernel_rfl⟩
theorem lifted (os : Os) (started : os.Started) (H : Type) (enc : TypeId × Value → H) (F : Stop.Interp) :
    ReturnsInHanded {} Tryd.checked os 4 .any ((OpenSpec.ofChange Rows.resumeNoneSpec).preRow enc Tryd.prog Tryd.f4 Rows.resumeNoneRow.domain false Rows.resumeNoneRow.laid) (((OpenSpec.ofChange Rows.resumeNoneSpec).at F).post enc Tryd.prog Tryd.f4 false true false false) := by
  obtain ⟨places, hx⟩ := reads os enc
  refine returnsInHanded_of_row (C := Tryd.checked) (s := OpenSpec.ofChange Rows.resumeNoneSpec) own started (by kernel_rfl) Tryd.func4
    (witness_row_at (enc := enc) (C := Tryd.checked) false (laidWorld os Rows.resumeNoneRow.laid) #[.int .i64 0] rfl (by kernel_rfl) (by kernel_rfl) (by kernel_rfl)
      (OpenSpec.preRow_of_cond 8 hx (by kernel_rfl) (fun k hk => by cases hk) (by kernel_rfl) (laid_met3 os #[.int .i64 0]))) ?_
  intro W base args ds gs before hval hW _ _ _ hL hS _
  exact contract H enc W base args ds gs before hval hW hL hS
theorem said : Rows.ResumeNoneSaid :=
  OpenClaim.holds_of_cond 4 Tryd.f4 rfl rfl rfl rfl rfl rfl rfl ⟨rfl, rfl, rfl, rfl, rfl⟩ rfl rfl rfl rfl rfl (by kernel_rfl) Tryd.func4 (by kernel_rfl)
    (of_decide_eq_true (by kernel_rfl)) (by unfold Func.isWrapper; first | (rw [if_pos (by decide +kernel)]; kernel_rfl) | (rw [if_neg (by decide +kernel)]; exact ⟨rfl, rfl⟩))
    (fun os started H enc _ F => by rw [OpenClaim.pre_eq_preRow]; exact lifted os started H enc F)
theorem plain (f : FuncId) (fn : Func) (hf : Tryd.pinned.checked.prog.funcNamed "cayley/cayleylaw39.ResumeNone" = some f) (hfn : Tryd.pinned.checked.prog.funcs[f]? = some fn) :
    true = Tryd.pinned.checked.prog.looks [] ∧ ∀ (j : Nat) t, fn.params[j]? = some t → Tryd.pinned.checked.prog.wantsStandIn t = false := by
  obtain rfl : f = 4 := Option.some.inj ((show Tryd.prog.funcNamed "cayley/cayleylaw39.ResumeNone" = some 4 by kernel_rfl).symm.trans hf) |>.symm
  obtain rfl : fn = Tryd.f4 := (Option.some.inj (Tryd.func4.symm.trans hfn)).symm
  refine ⟨by kernel_rfl, fun j t ht => ?_⟩
  rw [Tryd.params4] at ht
  cases j with
  | zero => simp at ht; subst ht; kernel_rfl
  | succ j => simp at ht
end resumeNone
theorem resumeNone_holds : Rows.ResumeNoneCardSaid :=
  Claim7.holds_tied_plain_at .later [] _ _ _ _ resumeNone.said (fun _ h => by cases h) (by kernel_rfl) (fun _ h => by cases h) resumeNone_row_tie rfl ⟨rfl, rfl⟩ (by kernel_rfl) rfl resumeNone.plain (by kernel_rfl)
#print axioms resumeNone_holds
end Go.Proofs.YtbdghadkccpgdaaDoor
