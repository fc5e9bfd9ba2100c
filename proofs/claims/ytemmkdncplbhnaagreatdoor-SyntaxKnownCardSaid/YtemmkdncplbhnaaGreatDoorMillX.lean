/- A verified evaluator for the model. It holds for every program and every world, under the hypotheses that each theorem names. -/
import Derived.Test.YtemmkdncplbhnaaGreatDoorMillW
import Derived.ProofKit
namespace Go.Mill
open Go.RowKit Go.ChangeShapes Go.WideShapes Go.ChangeAt

/-! ### From the evaluator's answer to the call -/
def h0 : H := { ng := 0, next := 0, objs := .leaf, fams := .leaf }
theorem get_leaf {α : Type} (i : Nat) : (T.leaf : T α).get i = none := by
 unfold T.get; rfl
theorem rel_h0 (w : World) : Rel w.heap.size (fun _ => none) h0 w := by
 have hb : ∀ id b, h0.blk id = some b → False := fun id b e => by
  have := (H.blk_objs e).1
  rw [show h0.objs = .leaf from rfl, get_leaf] at this; cases this
 refine ⟨fun id b e => (hb id b e).elim, fun id o e => ?_, fun id id' o o' p p' e => ?_, fun id id' b b' p p' e => (hb id b e).elim, fun id id' b b' p p' e => (hb id b e).elim, fun _ _ => rfl, fun id p e => (by cases e), fun id b e => ?_, fun f lo hi mx e => ?_, fun id b e => ?_, fun id p _ e => (by cases e), Nat.le_refl _, Nat.le_refl _⟩
 · rw [show h0.objs = .leaf from rfl, get_leaf] at e; cases e
 · rw [show h0.objs = .leaf from rfl, get_leaf] at e; cases e
 · rw [show h0.objs = .leaf from rfl, get_leaf] at e; cases e
 · rw [show h0.fams = .leaf from rfl, get_leaf] at e; cases e
 · rw [show h0.objs = .leaf from rfl, get_leaf] at e; cases e
noncomputable def saysTrue (o : Option Out) : Bool := match o with | some (.val (.p (.c (.bool b))) _) => b | _ => false
theorem saysTrue_some {o : Option Out} (h : saysTrue o = true) : ∃ h', o = some (.val (.p (.c (.bool true))) h') := by
 unfold saysTrue at h
 split at h
 · subst h; exact ⟨_, rfl⟩
 · cases h
theorem calls_true {E : Env} (hE : EnvOk E) {n f : Nat} (h : saysTrue (ev E n (.call f []) h0) = true) (w : World) :
 Calls E.P f #[] w fun e w' => e = .returned (.bool true) ∧ Below w.heap.size w w' := by
 obtain ⟨h', e⟩ := saysTrue_some h
 have := (ev_sound hE n).call f [] h0 _ h' e w.heap.size (fun _ => none) w [] (rel_h0 w) trivial
 refine (callsIn_wide.1 this).mono fun e w' ⟨u, ρ', he, _, _, hr, hB⟩ => ?_
 have hu : u = .bool true := hr
 subst hu
 exact ⟨he, hB⟩

/-! ### Tables that the program's text lays -/
structure Tab where
 g : Nat
 ty : TypeId
 k : IntKind
 zs : List Int
/-! ### The environment -/
noncomputable def namesOk (P : Program) : Bool := P.funcs.toList.all fun fn => !(fn.body.isSome) || !(fn.name == "runtime.NumGoroutine")
theorem names_of {P : Program} (h : namesOk P = true) : ∀ (f : Nat) fn, P.funcs[f]? = some fn → fn.body.isSome = true → (fn.name == "runtime.NumGoroutine") = false := by
 intro f fn hf hb
 unfold namesOk at h
 rw [List.all_eq_true] at h
 have := h fn (by simpa using Array.mem_of_getElem? hf)
 rw [hb] at this
 simpa using this
theorem same_of {P : Program} {f : FuncId} {fn : Func} (hf : P.funcs[f]? = some fn) (hname : (fn.name == "runtime.NumGoroutine") = false) (hb : fn.body.isNone = true) (hn : Extern.findNext fn = none) (he : Extern.find fn = some Extern.AbiNoEscape.same) (x : Value) (w : World) :
 (callFunc f #[x]).run P w = .ok (.value x) w := by
 rw [run_callFunc_extern hf hname hb hn he]
 rfl

def MemoOk (P : Program) (f : FuncId) (g : List AV → Option AV) : Prop :=
 ∀ args r, g args = some r → ∀ (ρ : Rho) w vs, LRel (ARel ρ) args vs → CallsIn Fence.wide 0 P f vs.toArray w fun e w' => ∃ u, e = .returned u ∧ (∀ ρ' : Rho, ARel ρ' r u) ∧ Below w.heap.size w w'
theorem memo_nil {P : Program} : ∀ f args r, memoE [] f args = some r → ∀ (ρ : Rho) w vs, LRel (ARel ρ) args vs → CallsIn Fence.wide 0 P f vs.toArray w fun e w' => ∃ u, e = .returned u ∧ (∀ ρ' : Rho, ARel ρ' r u) ∧ Below w.heap.size w w' := by
 intro f args r e
 cases e
theorem memoE_cons {p : FuncId × (List AV → Option AV)} {l : List (FuncId × (List AV → Option AV))} {f : FuncId} {args : List AV} :
 memoE (p :: l) f args = bif Nat.beq p.1 f then (match p.2 args with | some r => some r | none => memoE l f args) else memoE l f args := rfl
theorem memo_cons {P : Program} {f : FuncId} {g : List AV → Option AV} {l : List (FuncId × (List AV → Option AV))} (hg : MemoOk P f g)
 (hl : ∀ f args r, memoE l f args = some r → ∀ (ρ : Rho) w vs, LRel (ARel ρ) args vs → CallsIn Fence.wide 0 P f vs.toArray w fun e w' => ∃ u, e = .returned u ∧ (∀ ρ' : Rho, ARel ρ' r u) ∧ Below w.heap.size w w') :
 ∀ f' args r, memoE ((f, g) :: l) f' args = some r → ∀ (ρ : Rho) w vs, LRel (ARel ρ) args vs → CallsIn Fence.wide 0 P f' vs.toArray w fun e w' => ∃ u, e = .returned u ∧ (∀ ρ' : Rho, ARel ρ' r u) ∧ Below w.heap.size w w' := by
 intro f' args r e
 rw [memoE_cons] at e
 by_cases h : Nat.beq f f' = true
 · simp only [h, cond_true] at e
   have : f = f' := by simpa [Nat.beq_eq] using h
   subst this
   split at e
   · rename_i r' hr'
     cases e
     exact hg args r hr'
   · exact hl f args r e
 · simp only [h, cond_false] at e
   exact hl f' args r e
/-! ### Calls with plain arguments and plain results, once evaluated -/
noncomputable def cvB : CV → CV → Bool
 | .bool a, .bool b => bif a then b else !b
 | .int k a, .int l b => kindB k l && intB a b
 | .str a, .str b => bytesB a.data.toList b.data.toList
 | _, _ => false
theorem cvB_eq {a b : CV} (h : cvB a b = true) : a = b := by
 unfold cvB at h
 split at h
 · rename_i x y; cases x <;> cases y <;> simp at h <;> rfl
 · simp only [Bool.and_eq_true, kindB, decide_eq_true_eq] at h
   rw [h.1, intB_eq h.2]
 · rename_i x y
   have := bytesB_eq h
   cases x; cases y
   simp only [Array.toList_inj] at this
   rw [this]
 · cases h
theorem cvB_plain {a b : CV} (h : cvB a b = true) {ρ ρ' : Rho} {u : Value} (hr : CRel ρ b u) : CRel ρ' b u := by
 unfold cvB at h
 split at h
 · exact hr
 · exact hr
 · exact hr
 · cases h
noncomputable def pvB (x y : PV) : Bool := match x, y with | .c x, .c y => cvB x y | _, _ => false
noncomputable def pvsB (a : List PV) : List PV → Bool :=
 List.rec (motive := fun _ => List PV → Bool) (fun b => match b with | [] => true | _ :: _ => false)
  (fun x _ ih b => match b with | [] => false | y :: t => pvB x y && ih t) a
noncomputable def avB : AV → AV → Bool
 | .p (.c a), .p (.c b) => cvB a b
 | .tup a, .tup b => pvsB a b
 | _, _ => false
theorem pvsB_eq : ∀ {a b : List PV}, pvsB a b = true → a = b ∧ ∀ (ρ ρ' : Rho) (us : List Value), LRel (PRel ρ) b us → LRel (PRel ρ') b us
 | [], [], _ => ⟨rfl, fun _ _ us h => by cases us <;> exact h⟩
 | [], _ :: _, h => by cases h
 | _ :: _, [], h => by cases h
 | x :: a, y :: b, h => by
   have h' : (pvB x y && pvsB a b) = true := h
   simp only [Bool.and_eq_true] at h'
   obtain ⟨e, hp⟩ := pvsB_eq (a := a) (b := b) h'.2
   have h1 := h'.1
   unfold pvB at h1
   split at h1
   · refine ⟨by rw [cvB_eq h1, e], fun ρ ρ' us hu => ?_⟩
     cases us with
     | nil => cases hu
     | cons u us => exact ⟨cvB_plain h1 (ρ := ρ) hu.1, hp ρ ρ' us hu.2⟩
   · cases h1
theorem avB_eq {a b : AV} (h : avB a b = true) : a = b ∧ ∀ (ρ ρ' : Rho) (u : Value), ARel ρ b u → ARel ρ' b u := by
 unfold avB at h
 split at h
 · exact ⟨by rw [cvB_eq h], fun ρ ρ' u hu => cvB_plain h (ρ := ρ) hu⟩
 · obtain ⟨e, hp⟩ := pvsB_eq h
   refine ⟨by rw [e], fun ρ ρ' u ⟨vs, hv, hl⟩ => ⟨vs, hv, hp ρ ρ' vs hl⟩⟩
 · cases h
noncomputable def avsB (a : List AV) : List AV → Bool :=
 List.rec (motive := fun _ => List AV → Bool) (fun b => match b with | [] => true | _ :: _ => false)
  (fun x _ ih b => match b with | [] => false | y :: t => avB x y && ih t) a
theorem avsB_eq : ∀ {a b : List AV}, avsB a b = true → a = b
 | [], [], _ => rfl
 | [], _ :: _, h => by cases h
 | _ :: _, [], h => by cases h
 | x :: a, y :: b, h => by
   have h' : (avB x y && avsB a b) = true := h
   simp only [Bool.and_eq_true] at h'
   rw [(avB_eq h'.1).1, avsB_eq h'.2]
noncomputable def constG (a0 : List AV) (r : AV) (args : List AV) : Option AV := bif avsB args a0 then some r else none
noncomputable def answers (o : Option Out) (r : AV) : Bool := match o with | some (.val v _) => avB v r | _ => false
theorem memo_const {E : Env} (hE : EnvOk E) {n f : Nat} {a0 : List AV} {r : AV} (h : answers (ev E n (.call f a0) h0) r = true) : MemoOk E.P f (constG a0 r) := by
 intro args r' e ρ w vs hvs
 unfold constG at e
 obtain ⟨hb, e⟩ := bif_some e
 cases e
 have := avsB_eq hb
 subst this
 unfold answers at h
 split at h
 · rename_i v h' hev
   obtain ⟨hv, hp⟩ := avB_eq h
   subst hv
   have hvs' : LRel (ARel (fun _ => none)) args vs := by
    refine LRel.of_get hvs.length ?_
    intro i x y hx hy
    obtain ⟨y', hy', hr⟩ := hvs.get hx
    rw [hy] at hy'; cases hy'
    have hbx : ∀ {a b : List AV}, avsB a b = true → ∀ (i : Nat) (x : AV), b[i]? = some x → ∃ y, avB y x = true := by
     intro a
     induction a with
     | nil => intro b hb i x hx; cases b with
       | nil => simp at hx
       | cons _ _ => cases hb
     | cons z a ih => intro b hb i x hx; cases b with
       | nil => cases hb
       | cons q b =>
         have hb' : (avB z q && avsB a b) = true := hb
         simp only [Bool.and_eq_true] at hb'
         cases i with
         | zero => simp at hx; subst hx; exact ⟨z, hb'.1⟩
         | succ i => simp at hx; exact ih hb'.2 i x hx
    obtain ⟨z, hz⟩ := hbx hb i x hx
    exact (avB_eq hz).2 ρ _ _ hr
   have hc := (ev_sound hE n).call f args h0 _ h' hev w.heap.size (fun _ => none) w vs (rel_h0 w) hvs'
   exact hc.mono fun e w' ⟨u, ρ', he, _, _, hr, hB⟩ => ⟨u, he, fun ρ'' => hp ρ' ρ'' u hr, hB⟩
 · cases h

/-! ### What a row asks, where nothing old was touched -/
theorem post_of_below {H : Type} {enc : TypeId × Value → H} {P : Program} {f : Func} {s : ChangeSpec} {apart fresh handsOn again : Bool} {W W' : World} {args : Array Value} {v : Value} {ds gs : List (DataW H)} {before pa pv : List MemPlace}
 (hW : DataW.Whole enc P f.params.toList s.vars apart W args.toList ds gs before)
 (hres : ∀ (b : Nat) (sp : Nat → Bool) (hd : Bool), DataW.TrodAll enc P W' b sp hd f.resultTypes.toList (v.resultList f.resultTypes.size) (s.fn H (ds ++ gs)).results [])
 (hargs : ∀ sp : Nat → Bool, (∀ p ∈ before, sp p.block = true) → DataW.TrodAll enc P W' 0 sp true f.params.toList args.toList (s.fn H (ds ++ gs)).args pa)
 (hvars : ∀ sp : Nat → Bool, (∀ p ∈ before, sp p.block = true) → DataW.TrodVars enc P W' sp s.vars (s.fn H (ds ++ gs)).vars pv)
 (hps : before = pa ++ pv) (hB : Below W.heap.size W W')
 (hok : ∀ (j : Nat) (t : TypeId) (r : Value), f.resultTypes[j]? = some t → (v.resultList f.resultTypes.size)[j]? = some r → Value.okWide P W' .any 0 t r) :
 s.post enc P f apart fresh handsOn again W args v W' := by
 have hlt : ∀ p ∈ before, p.block < W.heap.size := fun p hp => hW.lt p hp
 have hold : ∀ p ∈ before, (fun b => decide (b < W.heap.size)) p.block = true := fun p hp => by simpa using hlt p hp
 refine ⟨ds, gs, before, [], pa, pv, hW, hres _ _ _, hargs _ hold, hvars _ hold, World.keptBut_mono (fun p hp => ⟨hp, ?_⟩) (hB.frame (· ∈ before)), fun _ => ?_⟩
 · rw [hps, List.mem_append] at hp
   exact Or.inr hp
 · obtain ⟨_, _, _, _, _, hz, hn⟩ := hW
   refine ⟨hok, _, _, ([] ++ pa) ++ pv, ⟨[] ++ pa, pv, trodAll_append (hargs _ (fun _ _ => rfl)) (hres _ _ _), hvars _ (fun _ _ => rfl), rfl, ?_, ?_⟩, ?_⟩
   · intro b off hp
     have hp' : (MemPlace.cell b off) ∈ before := by rw [hps]; simpa using hp
     rw [hB.frozen (by have := hlt _ hp'; exact this)]
     exact hz b off hp'
   · intro ha
     have := hn ha
     rw [hps] at this
     simpa using this
   · intro p hp _
     rw [hps]
     simpa using hp
end Go.Mill
