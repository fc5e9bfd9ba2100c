/- A verified evaluator for the model. It holds for every program and every world, under the hypotheses that each theorem names. -/
import Derived.Test.YtlcpgjjfjgbocaaGreatDoorMillW
import Derived.ProofKit
namespace Go.Mill
open Go.RowKit Go.ChangeShapes Go.WideShapes Go.ChangeAt

/-! ### From the evaluator's answer to the call -/
def h0 : H := { ng := 0, next := 0, objs := .leaf, fams := .leaf }
theorem get_leaf {α : Type} (i : Nat) : (T.leaf : T α).get i = none := by
 unfold T.get; rfl
theorem rel_h0 (w : World) : Rel w.heap.size (fun _ => none) h0 w := by
 have hb : ∀ id b, h0.blk id = some b → False := fun id b e => by
  have := (H.blk_objs e).1
  rw [show h0.objs = .leaf from rfl, get_leaf] at this; cases this
 refine ⟨fun id b e => (hb id b e).elim, fun id o e => ?_, fun id id' o o' p p' e => ?_, fun id id' b b' p p' e => (hb id b e).elim, fun id id' b b' p p' e => (hb id b e).elim, fun _ _ => rfl, fun id p e => (by cases e), fun id b e => ?_, fun f lo hi mx e => ?_, fun id b e => ?_, fun id p _ e => (by cases e), Nat.le_refl _, Nat.le_refl _⟩
 · rw [show h0.objs = .leaf from rfl, get_leaf] at e; cases e
 · rw [show h0.objs = .leaf from rfl, get_leaf] at e; cases e
 · rw [show h0.objs = .leaf from rfl, get_leaf] at e; cases e
 · rw [show h0.fams = .leaf from rfl, get_leaf] at e; cases e
 · rw [show h0.objs = .leaf from rfl, get_leaf] at e; cases e
noncomputable def saysTrue (o : Option Out) : Bool := match o with | some (.val (.p (.c (.bool b))) _) => b | _ => false
theorem saysTrue_some {o : Option Out} (h : saysTrue o = true) : ∃ h', o = some (.val (.p (.c (.bool true))) h') := by
 unfold saysTrue at h
 split at h
 · subst h; exact ⟨_, rfl⟩
 · cases h
theorem calls_true {E : Env} (hE : EnvOk E) {n f : Nat} (h : saysTrue (ev E n (.call f []) h0) = true) (w : World) :
 Calls E.P f #[] w fun e w' => e = .returned (.bool true) ∧ Below w.heap.size w w' := by
 obtain ⟨h', e⟩ := saysTrue_some h
 have := (ev_sound hE n).call f [] h0 _ h' e w.heap.size (fun _ => none) w [] (rel_h0 w) trivial
 refine (callsIn_wide.1 this).mono fun e w' ⟨u, ρ', he, _, _, hr, hB⟩ => ?_
 have hu : u = .bool true := hr
 subst hu
 exact ⟨he, hB⟩

/-! ### Tables that the program's text lays -/
structure Tab where
 g : Nat
 ty : TypeId
 k : IntKind
 zs : List Int
/-! ### The environment -/
noncomputable def namesOk (P : Program) : Bool := P.funcs.toList.all fun fn => !(fn.body.isSome) || !(fn.name == "runtime.NumGoroutine")
theorem names_of {P : Program} (h : namesOk P = true) : ∀ (f : Nat) fn, P.funcs[f]? = some fn → fn.body.isSome = true → (fn.name == "runtime.NumGoroutine") = false := by
 intro f fn hf hb
 unfold namesOk at h
 rw [List.all_eq_true] at h
 have := h fn (by simpa using Array.mem_of_getElem? hf)
 rw [hb] at this
 simpa using this
theorem same_of {P : Program} {f : FuncId} {fn : Func} (hf : P.funcs[f]? = some fn) (hname : (fn.name == "runtime.NumGoroutine") = false) (hb : fn.body.isNone = true) (hn : Extern.findNext fn = none) (he : Extern.find fn = some Extern.AbiNoEscape.same) (x : Value) (w : World) :
 (callFunc f #[x]).run P w = .ok (.value x) w := by
 rw [run_callFunc_extern hf hname hb hn he]
 rfl

def MemoOk (P : Program) (f : FuncId) (g : List AV → Option AV) : Prop :=
 ∀ args r, g args = some r → ∀ (ρ : Rho) w vs, LRel (ARel ρ) args vs → CallsIn Fence.wide 0 P f vs.toArray w fun e w' => ∃ u, e = .returned u ∧ (∀ ρ' : Rho, ARel ρ' r u) ∧ Below w.heap.size w w'
theorem memo_nil {P : Program} : ∀ f args r, memoE [] f args = some r → ∀ (ρ : Rho) w vs, LRel (ARel ρ) args vs → CallsIn Fence.wide 0 P f vs.toArray w fun e w' => ∃ u, e = .returned u ∧ (∀ ρ' : Rho, ARel ρ' r u) ∧ Below w.heap.size w w' := by
 intro f args r e
 cases e
theorem memoE_cons {p : FuncId × (List AV → Option AV)} {l : List (FuncId × (List AV → Option AV))} {f : FuncId} {args : List AV} :
 memoE (p :: l) f args = bif Nat.beq p.1 f then (match p.2 args with | some r => some r | none => memoE l f args) else memoE l f args := rfl
theorem memo_cons {P : Program} {f : FuncId} {g : List AV → Option AV} {l : List (FuncId × (List AV → Option AV))} (hg : MemoOk P f g)
 (hl : ∀ f args r, memoE l f args = some r → ∀ (ρ : Rho) w vs, LRel (ARel ρ) args vs → CallsIn Fence.wide 0 P f vs.toArray w fun e w' => ∃ u, e = .returned u ∧ (∀ ρ' : Rho, ARel ρ' r u) ∧ Below w.heap.size w w') :
 ∀ f' args r, memoE ((f, g) :: l) f' args = some r → ∀ (ρ : Rho) w vs, LRel (ARel ρ) args vs → CallsIn Fence.wide 0 P f' vs.toArray w fun e w' => ∃ u, e = .returned u ∧ (∀ ρ' : Rho, ARel ρ' r u) ∧ Below w.heap.size w w' := by
 intro f' args r e
 rw [memoE_cons] at e
 by_cases h : Nat.beq f f' = true
 · simp only [h, cond_true] at e
   have : f = f' := by simpa [Nat.beq_eq] using h
   subst this
   split at e
   · rename_i r' hr'
     cases e
     exact hg args r hr'
   · exact hl f args r e
 · simp only [h, cond_false] at e
   exact hl f' args r e
def trueG (args : List AV) : Option AV := match args with | [] => some (.p (.c (.bool true))) | _ => none
theorem memo_true {P : Program} {f : FuncId} (h : ∀ w, Calls P f #[] w fun e w' => e = .returned (.bool true) ∧ Below w.heap.size w w') : MemoOk P f trueG := by
 intro args r e ρ w vs hvs
 unfold trueG at e
 split at e
 · cases e
   cases vs with
   | nil => exact (callsIn_wide.2 (h w)).mono fun e w' ⟨he, hB⟩ => ⟨_, he, fun _ => rfl, hB⟩
   | cons _ _ => cases hvs
 · cases e

/-! ### Calls with plain arguments and plain results, once evaluated -/
/-! ### What a row asks, where nothing old was touched -/
theorem post_of_below {H : Type} {enc : TypeId × Value → H} {P : Program} {f : Func} {s : ChangeSpec} {apart fresh handsOn again : Bool} {W W' : World} {args : Array Value} {v : Value} {ds gs : List (DataW H)} {before pa pv : List MemPlace}
 (hW : DataW.Whole enc P f.params.toList s.vars apart W args.toList ds gs before)
 (hres : ∀ (b : Nat) (sp : Nat → Bool) (hd : Bool), DataW.TrodAll enc P W' b sp hd f.resultTypes.toList (v.resultList f.resultTypes.size) (s.fn H (ds ++ gs)).results [])
 (hargs : ∀ sp : Nat → Bool, (∀ p ∈ before, sp p.block = true) → DataW.TrodAll enc P W' 0 sp true f.params.toList args.toList (s.fn H (ds ++ gs)).args pa)
 (hvars : ∀ sp : Nat → Bool, (∀ p ∈ before, sp p.block = true) → DataW.TrodVars enc P W' sp s.vars (s.fn H (ds ++ gs)).vars pv)
 (hps : before = pa ++ pv) (hB : Below W.heap.size W W')
 (hok : ∀ (j : Nat) (t : TypeId) (r : Value), f.resultTypes[j]? = some t → (v.resultList f.resultTypes.size)[j]? = some r → Value.okWide P W' .any 0 t r) :
 s.post enc P f apart fresh handsOn again W args v W' := by
 have hlt : ∀ p ∈ before, p.block < W.heap.size := fun p hp => hW.lt p hp
 have hold : ∀ p ∈ before, (fun b => decide (b < W.heap.size)) p.block = true := fun p hp => by simpa using hlt p hp
 refine ⟨ds, gs, before, [], pa, pv, hW, hres _ _ _, hargs _ hold, hvars _ hold, World.keptBut_mono (fun p hp => ⟨hp, ?_⟩) (hB.frame (· ∈ before)), fun _ => ?_⟩
 · rw [hps, List.mem_append] at hp
   exact Or.inr hp
 · obtain ⟨_, _, _, _, _, hz, hn⟩ := hW
   refine ⟨hok, _, _, ([] ++ pa) ++ pv, ⟨[] ++ pa, pv, trodAll_append (hargs _ (fun _ _ => rfl)) (hres _ _ _), hvars _ (fun _ _ => rfl), rfl, ?_, ?_⟩, ?_⟩
   · intro b off hp
     have hp' : (MemPlace.cell b off) ∈ before := by rw [hps]; simpa using hp
     rw [hB.frozen (by have := hlt _ hp'; exact this)]
     exact hz b off hp'
   · intro ha
     have := hn ha
     rw [hps] at this
     simpa using this
   · intro p hp _
     rw [hps]
     simpa using hp
end Go.Mill
