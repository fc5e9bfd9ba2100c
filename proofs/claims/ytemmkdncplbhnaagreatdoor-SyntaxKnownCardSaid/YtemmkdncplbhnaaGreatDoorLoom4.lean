/- The walk by values, fourth part: loops over functions, rows of laws. It holds for every program and every world, under the hypotheses that each theorem names. -/
import Derived.Test.YtemmkdncplbhnaaGreatDoorLoom3
import Derived.Test.YtemmkdncplbhnaaGreatDoorMillX
import Derived.Carry
import Derived.OpenShut
import Derived.ShutString
import Derived.ChangeMaps5
namespace Go.Loom
open Go.RowKit
open Go.Mill (T WF X)

/-! ### A function that hands values on -/
/-! ### A loop that takes values -/
def idK (k : Nat) (n : Nat) : Option Nat := bif Nat.blt n k then some n else none
def setAll : List Tmp → List Value → Array Value → Array Value
 | p :: ps, u :: us, t => setAll ps us (t.setIfInBounds p u)
 | _, _, t => t
def RangeAt (s : Site) (Qv : A → List Ob → Prop) (C : Ctx) (lo : Nat) (rp : List Nat) (ps : List Tmp) (assign body : Code) (two : Bool) (d : D) : List d.ty → Fr → Sto → Prop
 | [], F, S => ∀ η Z w a, Inv C η Z S w → FrRel s.fn.ntmps η Z F a.tmps → DOk false s.dl lo a w → kp s.P Fence.wide s.root (fnQ s C Qv) rp .normal a w
 | y :: ys, F, S => ∃ k, C.keep ≤ k ∧ ∀ C1 : Ctx, C1.base = C.base → C1.keep = k → ∀ Fc, WF Fc → ∀ η Z w tmps us, Inv C1 η Z S w → FrRel s.fn.ntmps η Z F tmps → YRel two Z d y us →
  assign.wpIn Fc 0 s.P (fun e a1 w1 => e = .normal ∧ ∃ η1 Z1 S1, Inv C1 η1 Z1 S1 w1 ∧
   ∀ C2 : Ctx, C2.base = C.base → C2.keep = k → ∀ w1', Inv C2 η1 Z1 S1 w1' →
    body.wpIn Fc 0 s.P (fun e _ w2 => e = .normal ∧ ∃ η2 Z2 S2, Inv C2 η2 Z2 S2 w2 ∧ ∃ F3 S3, canon s.keep (s.live rp) (renF (idK k) F (s.live rp)) S2 = some (F3, S3) ∧ RangeAt s Qv C lo rp ps assign body two d ys F3 S3) a1 w1')
   { tmps := setAll ps us tmps, defers := [] } w
structure AtYield (s : Site) (Qv : A → List Ob → Prop) (rp : List Nat) (d : D) (ys : List d.ty) (F : Fr) (S : Sto) (two : Bool := false) : Prop where
 go : ∀ C lo, s.keep = C.keep → Fit s.P false C lo → ∀ g ps assign body, subR s.root rp = some (.rangeFunc g ps.toArray assign body) → RangeAt s Qv C lo rp ps assign body two d ys F S
structure AtLoopR (s : Site) (root : Code) (keep : Nat) (fin : X → Fr → Sto → Prop) (rp : List Nat) (F : Fr) (S : Sto) : Prop where
 go : ∀ (C : Ctx), keep = C.keep → ∀ Fc, WF Fc → ∀ (Q : Post), (∀ x F S, fin x F S → ∀ η Z w a, Inv C η Z S w → FrRel s.fn.ntmps η Z F a.tmps → a.defers = [] → Q x.toExit a w) →
  ∀ η Z w a, Inv C η Z S w → FrRel s.fn.ntmps η Z F a.tmps → a.defers = [] → ∀ b, subR root rp = some (.loop b) → LoopIn s.P Fc b (kp s.P Fc root Q rp) a w
end Go.Loom

namespace Go.Loom
open Go.RowKit
open Go.Mill (T WF X)

/-! ### Worlds that differ where nobody looks -/
structure StepL (l : Nat) (Z : Zeta) (M : Nat → Prop) (w : World) (Z' : Zeta) (M' : Nat → Prop) (w' : World) : Prop where
 size : w.heap.size ≤ w'.heap.size
 block : ∀ b, b < w.heap.size → b ≠ l → ¬ M b → w'.heap[b]? = w.heap[b]?
 own : ∀ b, M' b → M b ∨ w.heap.size ≤ b
 zle : Z.le Z'
 znew : ∀ b c, Z' b = some c → Z b = some c ∨ M b ∨ w.heap.size ≤ b
theorem StepL.trans {l : Nat} {Z Z1 Z2 : Zeta} {M M1 M2 : Nat → Prop} {w w1 w2 : World} (h : StepL l Z M w Z1 M1 w1) (k : StepM Z1 M1 w1 Z2 M2 w2) : StepL l Z M w Z2 M2 w2 where
 size := Nat.le_trans h.size k.size
 block := fun b hb hl ho => (k.block b (Nat.lt_of_lt_of_le hb h.size) (fun ho' => by
  rcases h.own b ho' with hh | hh
  · exact ho hh
  · omega)).trans (h.block b hb hl ho)
 own := fun b ho => by
  rcases k.own b ho with hh | hh
  · exact h.own b hh
  · exact .inr (Nat.le_trans h.size hh)
 zle := h.zle.trans k.zle
 znew := fun b c hc => by
  rcases k.znew b c hc with hh | hh | hh
  · exact h.znew b c hh
  · exact .inr (h.own b hh)
  · exact .inr (.inr (Nat.le_trans h.size hh))
section
variable {s : Site} {Qv : A → List Ob → Prop} {rp : List Nat} {ps : List Tmp} {assign body : Code} {two : Bool} {d : D} {base keep : Nat} {η0 : Eta} {Z0 : Zeta} {M0 : Nat → Prop} {w0 : World}
end
end Go.Loom

namespace Go.Loom
open Go.RowKit
open Go.Mill (T WF X)

end Go.Loom

namespace Go.Loom
open Go.RowKit
open Go.Mill (T)
end Go.Loom

namespace Go.Loom
open Go.RowKit Go.ChangeShapes Go.WideShapes Go.ChangeAt Go.ChangeMaps

/-! ### Types of plain data -/
def tyD (P : Program) : D → TypeId → Bool
 | .int k, t => match P.underlying t with | some (.int k') => decide (k = k') | _ => false
 | .bool, t => match P.underlying t with | some .bool => true | _ => false
 | .str, t => match P.underlying t with | some .string => true | _ => false
 | .sl d, t => match P.underlying t with | some (.slice e) => Nat.beq (P.cellsOf e) 1 && tyD P d e | _ => false
def D.wf : (d : D) → d.ty → Prop
 | .int k, n => (Lit.int k n).wf = true
 | .bool, _ => True
 | .str, s => s.size ≤ maxLen
 | .sl d, l => List.length (α := d.ty) l ≤ maxLen ∧ ∀ x ∈ (show List d.ty from l), D.wf d x
section
variable {H : Type} {enc : TypeId × Value → H} {P : Program} {W : World}
theorem cell_allZ {a : Addr} {v : Value} (h : W.cell? a = some v) : ∃ c, a.spot = none ∧ allZ W a.block = some c ∧ c[a.off]? = some v := by
 unfold World.cell? at h
 split at h
 · rename_i c _ _ hc
   split at h
   · cases h
   · rename_i hs
     refine ⟨c, by simpa using hs, ?_, h⟩
     unfold allZ
     rw [hc]
 · cases h
theorem drel_trod : ∀ (d : D) {base : Nat} {sp : Nat → Bool} {hd : Bool} {t : TypeId} {fuel : Nat} {cs : List Value} {x : DataW H × List MemPlace}, tyD P d t = true → DataW.trod enc P W base sp hd fuel t cs = some x → ∃ v y, cs = [v] ∧ v.cells = #[v] ∧ DRel (allZ W) d y v ∧ d.wf y
 | .int k, base, sp, hd, t, fuel, cs, x, ht, h => by
   simp only [tyD] at ht
   split at ht
   · rename_i k' hu
     have : k = k' := of_decide_eq_true ht
     subst this
     obtain ⟨n, rfl, _, hw⟩ := DataW.trod_int hu h
     exact ⟨_, n, rfl, rfl, rfl, hw⟩
   · cases ht
 | .bool, base, sp, hd, t, fuel, cs, x, ht, h => by
   simp only [tyD] at ht
   split at ht
   · rename_i hu
     obtain ⟨b, rfl, _⟩ := DataW.trod_bool hu h
     exact ⟨_, b, rfl, rfl, rfl, trivial⟩
   · cases ht
 | .str, base, sp, hd, t, fuel, cs, x, ht, h => by
   simp only [tyD] at ht
   split at ht
   · rename_i hu
     obtain ⟨s, rfl, _, hs⟩ := DataW.trod_string hu h
     exact ⟨_, s, rfl, rfl, rfl, hs⟩
   · cases ht
 | .sl d, base, sp, hd, t, fuel, cs, x, ht, h => by
   simp only [tyD] at ht
   split at ht
   · rename_i e hu
     simp only [Bool.and_eq_true, Nat.beq_eq] at ht
     obtain ⟨hc, hd'⟩ := ht
     rcases DataW.trod_slice hu h with ⟨rfl, _⟩ | ⟨a, len, cap, elems, rest, n, _, rfl, _, hb, hl, hm, hlen, hel, _, _⟩
     · exact ⟨_, ([] : List d.ty), rfl, rfl, ⟨none, 0, 0, rfl, rfl, Nat.le_refl _, .inl rfl⟩, Nat.zero_le _, fun x hx => by cases hx⟩
     · rw [hc] at hel
       have each : ∀ i, i < len → ∃ v y, W.cell? (a.add i) = some v ∧ DRel (allZ W) d y v ∧ d.wf y := by
        intro i hi
        have h1 := hel i hi
        have h2 : ∃ y, elems[i]? = some y := ⟨_, List.getElem?_eq_getElem (by omega)⟩
        obtain ⟨y, hy⟩ := h2
        rw [hy] at h1
        obtain ⟨cs, h3, h4⟩ := Option.bind_eq_some_iff.1 h1
        obtain ⟨v, z, rfl, _, hr, hw⟩ := drel_trod d hd' h4
        rw [Nat.mul_one] at h3
        have h5 := (World.cells?_some h3).2.2 0 (by omega)
        refine ⟨v, z, ?_, hr, hw⟩
        simpa [Addr.add] using h5
       have hex : ∀ m, m ≤ len → ∃ l : List d.ty, l.length = m ∧ ∀ i y, l[i]? = some y → ∃ v, W.cell? (a.add i) = some v ∧ DRel (allZ W) d y v ∧ d.wf y := by
        intro m
        induction m with
        | zero => exact fun _ => ⟨[], rfl, fun i y h => by simp at h⟩
        | succ m ih =>
          intro hm'
          obtain ⟨l, h1, h2⟩ := ih (by omega)
          obtain ⟨v, y, h3, h4, h5⟩ := each m (by omega)
          refine ⟨l ++ [y], by simp [h1], fun i z hz => ?_⟩
          rcases Nat.lt_or_ge i l.length with hi | hi
          · rw [List.getElem?_append_left hi] at hz; exact h2 i z hz
          · have : i = m := by
             have := (List.getElem?_eq_some_iff.1 hz).1
             simp at this; omega
            subst this
            rw [List.getElem?_append_right (by omega), h1] at hz
            simp at hz; subst hz
            exact ⟨v, h3, h4, h5⟩
       obtain ⟨l, h1, h2⟩ := hex len (Nat.le_refl _)
       refine ⟨_, l, rfl, rfl, ⟨some a, len, cap, rfl, h1, hl, ?_⟩, by rw [h1]; omega, fun x hx => ?_⟩
       · cases hl0 : l with
         | nil => exact .inl rfl
         | cons y0 l' =>
           right
           obtain ⟨v0, hv0, _⟩ := h2 0 y0 (by rw [hl0]; rfl)
           obtain ⟨c, hs, hz, _⟩ := cell_allZ hv0
           obtain ⟨blk, off, spot⟩ := a
           have hs' : spot = none := hs
           subst hs'
           refine ⟨blk, off, c, rfl, by simpa [Addr.add] using hz, fun i x hx => ?_⟩
           rw [← hl0] at hx
           obtain ⟨v, hv, hr, _⟩ := h2 i x hx
           rw [add_plain] at hv
           obtain ⟨c', _, hz', hc'⟩ := cell_allZ hv
           have : c' = c := by
            have e1 : allZ W blk = some c' := hz'
            have e2 : allZ W blk = some c := by simpa [Addr.add] using hz
            rw [e1] at e2; exact Option.some.inj e2
           subst this
           exact ⟨v, hc', hr⟩
       · obtain ⟨i, hi, rfl⟩ := List.getElem_of_mem hx
         obtain ⟨_, _, _, hw⟩ := h2 i _ (List.getElem?_eq_getElem hi)
         exact hw
   · cases ht
theorem okWide_one {d : D} {t : TypeId} {r : Reach} {b0 : Nat} {v : Value} (ht : tyD P d t = true) (h : Value.okWide P W r b0 t v) : v.cells = #[v] := by
 cases d <;> simp only [tyD] at ht <;> split at ht
 all_goals first | (cases ht; done) | skip
 · rename_i hu; obtain ⟨n, rfl⟩ := okWide_int hu h; rfl
 · rename_i hu; obtain ⟨n, rfl⟩ := okWide_bool hu h; rfl
 · rename_i hu; obtain ⟨n, rfl⟩ := okWide_string hu h; rfl
 · rename_i hu; obtain ⟨_, _, _, rfl⟩ := okWide_slice hu h; rfl
theorem drel_arg {d : D} {t : TypeId} {r : Reach} {b0 base : Nat} {sp : Nat → Bool} {hd : Bool} {v : Value} {x : DataW H} {ps : List MemPlace} (ht : tyD P d t = true) (hv : Value.okWide P W r b0 t v) (h : DataW.Trod enc P W base sp hd t v x ps) : ∃ y, DRel (allZ W) d y v ∧ d.wf y := by
 obtain ⟨fuel, hf⟩ := h
 obtain ⟨u, y, hc, hu, hr, hw⟩ := drel_trod d ht hf
 rw [okWide_one ht hv] at hc
 simp only [List.cons.injEq, and_true] at hc
 subst hc
 exact ⟨y, hr, hw⟩

/-! ### All arguments -/
def ForArgs (Q : List A → Prop) : List D → List A → Prop
 | [], acc => Q acc
 | d :: ds, acc => ∀ x : d.ty, d.wf x → ForArgs Q ds (acc ++ [dat d x])
def tysD (P : Program) : List D → List TypeId → Bool
 | [], [] => true
 | d :: ds, t :: ts => tyD P d t && (P.readableRec t && (decide (t < P.types.size) && tysD P ds ts))
 | _, _ => false
theorem lrel_snoc {α β : Type} {R : α → β → Prop} {l : List α} {m : List β} {x : α} {y : β} (h : LRel R l m) (h' : R x y) : LRel R (l ++ [x]) (m ++ [y]) := LRel.append h ⟨h', trivial⟩
theorem forArgs_get {Q : List A → Prop} {r : Reach} {b0 : Nat} {base : Nat} {sp : Nat → Bool} {hd : Bool} : ∀ {ds : List D} {ts : List TypeId} {vs : List Value} {xs : List (DataW H)} {ps : List MemPlace} {acc : List A} {us : List Value}, tysD P ds ts = true → ForArgs Q ds acc →
 (∀ (j : Nat) t v, ts[j]? = some t → vs[j]? = some v → Value.okWide P W r b0 t v) → DataW.TrodAll enc P W base sp hd ts vs xs ps → LRel (ARel (fun _ => none) (allZ W)) acc us → ∃ args, LRel (ARel (fun _ => none) (allZ W)) args (us ++ vs) ∧ Q args
 | [], [], [], [], _, acc, us, _, hq, _, _, ha => ⟨acc, by simpa using ha, hq⟩
 | d :: ds, t :: ts, v :: vs, x :: xs, ps, acc, us, ht, hq, hv, h, ha => by
   simp only [tysD, Bool.and_eq_true] at ht
   obtain ⟨p, q, h1, h2, _⟩ := h
   obtain ⟨y, hr, hw⟩ := drel_arg ht.1 (hv 0 t v rfl rfl) h1
   have := forArgs_get (acc := acc ++ [dat d y]) (us := us ++ [v]) ht.2.2.2 (hq y hw) (fun j t' v' e1 e2 => hv (j + 1) t' v' (by simpa using e1) (by simpa using e2)) h2 (lrel_snoc ha ⟨D.w_live _ _, (D.w_wrel d).2 hr⟩)
   simpa using this
 | [], _ :: _, _, _, _, _, _, ht, _, _, _, _ => by simp [tysD] at ht
 | _ :: _, [], _, _, _, _, _, ht, _, _, _, _ => by simp [tysD] at ht
 | [], [], _ :: _, _, _, _, _, _, _, _, h, _ => by cases h
 | [], [], [], _ :: _, _, _, _, _, _, _, h, _ => by cases h
 | _ :: _, _ :: _, [], _, _, _, _, _, _, _, h, _ => by cases h
 | _ :: _, _ :: _, _ :: _, [], _, _, _, _, _, _, h, _ => by cases h
theorem trodAll_stays {W' : World} (hl : laidOutB P = true) (hb : Below W.heap.size W W') {sp : Nat → Bool} : ∀ {ds : List D} {ts : List TypeId} {vs : List Value} {xs : List (DataW H)} {ps : List MemPlace}, tysD P ds ts = true → DataW.TrodAll enc P W 0 (fun _ => true) true ts vs xs ps → (∀ x ∈ ps, x.block < W.heap.size) → (∀ x ∈ ps, sp x.block = true) → DataW.TrodAll enc P W' 0 sp true ts vs xs ps
 | [], [], [], [], _, _, h, _, _ => h
 | d :: ds, t :: ts, v :: vs, x :: xs, ps, ht, h, hlt, hsp => by
   simp only [tysD, Bool.and_eq_true, decide_eq_true_eq] at ht
   obtain ⟨p, q, h1, h2, rfl⟩ := h
   exact ⟨p, q, WideElems.Trod_stays hl ht.2.1 ht.2.2.1 h1 (fun x hx => hb.same (hlt x (List.mem_append_left _ hx))) (fun x hx => hsp x (List.mem_append_left _ hx)),
    trodAll_stays hl hb ht.2.2.2 h2 (fun x hx => hlt x (List.mem_append_right _ hx)) (fun x hx => hsp x (List.mem_append_right _ hx)), rfl⟩
 | [], _ :: _, _, _, _, ht, _, _, _ => by simp [tysD] at ht
 | _ :: _, [], _, _, _, ht, _, _, _ => by simp [tysD] at ht
 | [], [], _ :: _, _, _, _, h, _, _ => by cases h
 | [], [], [], _ :: _, _, _, h, _, _ => by cases h
 | _ :: _, _ :: _, [], _, _, _, h, _, _ => by cases h
 | _ :: _, _ :: _, _ :: _, [], _, _, h, _, _ => by cases h
theorem trodAll_len {base : Nat} {sp : Nat → Bool} {hd : Bool} : ∀ {ds : List D} {ts : List TypeId} {vs : List Value} {xs : List (DataW H)} {ps : List MemPlace}, tysD P ds ts = true → DataW.TrodAll enc P W base sp hd ts vs xs ps → xs.length = ds.length
 | [], [], [], [], _, _, _ => rfl
 | d :: ds, t :: ts, v :: vs, x :: xs, ps, ht, h => by
   simp only [tysD, Bool.and_eq_true] at ht
   obtain ⟨p, q, h1, h2, rfl⟩ := h
   simp [trodAll_len ht.2.2.2 h2]
 | [], _ :: _, _, _, _, ht, _ => by simp [tysD] at ht
 | _ :: _, [], _, _, _, ht, _ => by simp [tysD] at ht
 | [], [], _ :: _, _, _, _, h => by cases h
 | [], [], [], _ :: _, _, _, h => by cases h
 | _ :: _, _ :: _, [], _, _, _, h => by cases h
 | _ :: _, _ :: _, _ :: _, [], _, _, h => by cases h
theorem law_contract {f : FuncId} {fn : Func} {s : ChangeSpec} {kinds : List D} {tb : TypeId} (hl : laidOutB P = true) (hty : tysD P kinds fn.params.toList = true)
 (hsem : ForArgs (fun args => FnSem P f args [] (dat .bool true) []) kinds []) (hres : fn.resultTypes = #[tb]) (hb : P.underlying tb = some .bool) (hvars : s.vars = [])
 (hfn : ∀ ds : List (DataW H), ds.length = kinds.length → (s.fn H (ds ++ [])).args = ds ∧ (s.fn H (ds ++ [])).results = [.lit (.bool true)] ∧ (s.fn H (ds ++ [])).vars = [])
 {base : Nat} {args : Array Value} {ds gs : List (DataW H)} {before : List MemPlace}
 (hval : ∀ (j : Nat) t v, fn.params[j]? = some t → args[j]? = some v → Value.okWide P W .any base t v)
 (hW : DataW.Whole enc P fn.params.toList s.vars false W args.toList ds gs before) :
 Calls P f args W fun e W' => ∃ v, e = .returned v ∧ s.post enc P fn false true false false W args v W' := by
 have hW' := hW
 obtain ⟨p, q, hA, hV, rfl, hfz, hnd⟩ := hW
 rw [hvars] at hV
 obtain ⟨rfl, rfl⟩ := trodVars_none hV
 obtain ⟨as, has, hq⟩ := forArgs_get (acc := []) (us := []) hty hsem (fun j t v e1 e2 => hval j t v (by simpa using e1) (by simpa using e2)) hA trivial
 have hcall := calls_out (d := .bool) (y := true) hq (w := W) (vs := args.toList) (by simpa using has) rfl
 rw [Array.toArray_toList] at hcall
 refine hcall.mono ?_
 rintro e W' ⟨u, rfl, hu, hB⟩
 have hu' : u = .bool true := hu fun _ => none
 subst hu'
 obtain ⟨f1, f2, f3⟩ := hfn ds (trodAll_len hty hA)
 have hlt : ∀ x ∈ p ++ [], x.block < W.heap.size := fun x hx => hW'.lt x hx
 refine ⟨_, rfl, Mill.post_of_below (pa := p) (pv := []) hW' (fun b sp hd => ?_) (fun sp hsp => ?_) (fun sp hsp => ?_) rfl hB (ok_one hres rfl (okWide_bool_mk hb _))⟩
 · rw [f2, hres]; exact trodAll_cons_mk (shut_bool hb _) trodAll_mk0
 · rw [f1]; exact trodAll_stays hl hB hty hA (fun x hx => hlt x (by simp [hx])) (fun x hx => hsp x (by simp [hx]))
 · rw [f3, hvars]; rfl
end
end Go.Loom

namespace Go.Loom
open Go.RowKit Go.ChangeShapes Go.WideShapes Go.ChangeAt Go.ChangeMaps
inductive Kd
 | d (d : D)
 | st (ds : List D)
section
variable {H : Type} {enc : TypeId × Value → H} {P : Program} {W0 : World}
end
end Go.Loom
