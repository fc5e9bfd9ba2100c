/- A verified evaluator for the model. It holds for every program and every world, under the hypotheses that each theorem names. -/
import Derived.Test.YthbcgllgmacfdaaDoorMillD
import Derived.WalkKit
namespace Go.Mill
open Go.RowKit

/-! ### Values without addresses -/
def CV.toV : CV → Option Value
 | .bool b => some (.bool b)
 | .int k n => some (.int k n)
 | .str s => some (.string s)
 | .nilptr => some (.pointer none)
 | .nilslice => some (.slice none 0 0)
 | .nilfunc => some .nilFunc
 | .func f [] => some (.func (.func f) #[] #[])
 | .nilif => some .nilIface
 | .nilmap => some (.map none)
 | .iface t x => match x.toV with | some v => some (.iface t v) | none => none
 | _ => none
def ofV : Value → Option CV
 | .bool b => some (.bool b)
 | .int k n => some (.int k n)
 | .string s => some (.str s)
 | .pointer none => some .nilptr
 | .slice none 0 0 => some .nilslice
 | .nilFunc => some .nilfunc
 | .func (.func f) ⟨[]⟩ ⟨[]⟩ => some (.func f [])
 | .nilIface => some .nilif
 | .map none => some .nilmap
 | .iface t (.int k n) => some (.iface t (.int k n))
 | .iface t (.string s) => some (.iface t (.str s))
 | .iface t (.bool s) => some (.iface t (.bool s))
 | .iface t (.pointer none) => some (.iface t .nilptr)
 | _ => none
theorem ofV_rel {ρ : Rho} {v : Value} {x : CV} (e : ofV v = some x) : CRel ρ x v := by
 unfold ofV at e
 split at e <;> first | (cases e; done) | skip
 all_goals (cases e; first | rfl | exact ⟨_, rfl, rfl⟩ | exact ⟨[], rfl, trivial⟩)
noncomputable def ofVs (l : List Value) : Option (List CV) := List.rec (some []) (fun v _ ih => match ofV v with | some x => (match ih with | some xs => some (x :: xs) | none => none) | none => none) l
theorem ofVs_cons {v : Value} {l : List Value} : ofVs (v :: l) = match ofV v with | some x => (match ofVs l with | some xs => some (x :: xs) | none => none) | none => none := rfl
theorem ofVs_rel {ρ : Rho} : ∀ {l : List Value} {xs : List CV}, ofVs l = some xs → LRel (CRel ρ) xs l
 | [], xs, e => by have : xs = [] := (Option.some.inj (show some [] = some xs from e)).symm
                   subst this; trivial
 | v :: l, xs, e => by
   rw [ofVs_cons] at e
   cases e1 : ofV v with
   | none => rw [e1] at e; cases e
   | some x =>
     rw [e1] at e; simp only at e
     cases e2 : ofVs l with
     | none => rw [e2] at e; cases e
     | some ys => rw [e2] at e; simp only [Option.some.injEq] at e; subst e; exact ⟨ofV_rel e1, ofVs_rel e2⟩
noncomputable def ofPV : Value → Option PV
 | .agg cs => match ofVs cs.toList with | some xs => some (.agg xs) | none => none
 | v => match ofV v with | some x => some (.c x) | none => none
theorem ofPV_rel {ρ : Rho} {v : Value} {x : PV} (e : ofPV v = some x) : PRel ρ x v ∧ ∀ t cs, x ≠ .ifa t cs := by
 unfold ofPV at e
 split at e
 · rename_i cs
   cases e1 : ofVs cs.toList with
   | none => rw [e1] at e; cases e
   | some xs => rw [e1] at e; simp only [Option.some.injEq] at e; subst e; exact ⟨⟨cs.toList, by simp, ofVs_rel e1⟩, fun _ _ h => by cases h⟩
 · cases e1 : ofV v with
   | none => rw [e1] at e; cases e
   | some xs => rw [e1] at e; simp only [Option.some.injEq] at e; subst e; exact ⟨ofV_rel e1, fun _ _ h => by cases h⟩
noncomputable def ofAV : Value → Option AV
 | .tuple ⟨[]⟩ => some (.tup [])
 | v => match ofPV v with | some x => some (.p x) | none => none
theorem ofAV_rel {ρ : Rho} {v : Value} {x : AV} (e : ofAV v = some x) : ARel ρ x v := by
 unfold ofAV at e
 split at e
 · cases e; exact ⟨[], rfl, trivial⟩
 · cases e1 : ofPV v with
   | none => rw [e1] at e; cases e
   | some y => rw [e1] at e; simp only [Option.some.injEq] at e; subst e; exact (ofPV_rel e1).1
def CVs.toVs : List CV → Option (List Value)
 | [] => some []
 | x :: l => match x.toV with | some v => (match CVs.toVs l with | some vs => some (v :: vs) | none => none) | none => none
def PV.toV : PV → Option Value
 | .c x => x.toV
 | .agg cs => match CVs.toVs cs with | some vs => some (.agg vs.toArray) | none => none
 | .ifa t cs => match CVs.toVs cs with | some vs => some (.iface t (.agg vs.toArray)) | none => none
def AV.toV : AV → Option Value
 | .p x => x.toV
 | .tup _ => none
/-! ### Programs that only reckon -/
noncomputable def pureRun {α : Type} (P : Program) (s : Sem α) : Option α :=
 Sem.rec (motive := fun _ => Option α) some (fun _ _ _ _ => none) (fun _ _ _ _ _ => none) (fun _ _ _ => none) (fun _ _ _ => none) (fun _ _ _ _ => none) (fun _ _ _ => none) (fun _ _ _ => none) (fun _ _ _ _ => none)
  (fun _ _ _ => none) (fun _ _ _ => none) (fun _ ih => ih P) (fun _ _ ih => ih) (fun _ => none) s
theorem pureRun_run {α : Type} {P : Program} {s : Sem α} {x : α} (w : World) (e : pureRun P s = some x) : s.run P w = .ok x w := by
 induction s with
 | pure a => cases e; rfl
 | program k ih => exact ih P e
 | mark m k ih => exact ih e
 | _ => cases e

/-! ### Operands -/
noncomputable def evO (h : H) (fr : Fr) : Operand → Option AV
 | .tmp t => fr.t.get t
 | .const v => ofAV v
 | .global g => bif Nat.blt g h.ng then (match h.objs.get g with | some _ => some (.p (.c (.ptr g 0))) | none => none) else none
 | .func f => some (.p (.c (.func f [])))
theorem evO_rel {base : Nat} {ρ : Rho} {h : H} {w : World} (R : Rel base ρ h w) {fr : Fr} {a : Act} (F : FrRel ρ fr a.tmps) {x : Operand} {v : AV} (e : evO h fr x = some v) : ARel ρ v (a.eval x) := by
 cases x with
 | tmp t =>
   obtain ⟨u, hu, hr⟩ := F.2 t v e
   simpa [Act.eval, Array.getD_eq_getD_getElem?, hu] using hr
 | const c => exact ofAV_rel e
 | func f => cases e; exact ⟨[], rfl, trivial⟩
 | global g =>
   simp only [evO] at e
   by_cases hg : Nat.blt g h.ng = true
   · rw [hg] at e
     simp only [cond_true] at e
     cases eo : h.objs.get g with
     | none => rw [eo] at e; cases e
     | some o =>
       rw [eo] at e; cases e
       obtain ⟨p, hp, _⟩ := R.objs g o eo
       have := R.glob g p (by simpa [Nat.blt_eq] using hg) hp
       refine ⟨p, hp, ?_⟩
       simp [Act.eval, this.1, this.2]
   · simp [hg] at e

def Good (base : Nat) (ρ : Rho) (w : World) (P : Program) (s : Sem Value) (v : AV) (h' : H) : Prop :=
 ∃ u w' ρ', s.run P w = .ok u w' ∧ ρ.le ρ' ∧ Rel base ρ' h' w' ∧ ARel ρ' v u ∧ Below base w w'
theorem Good.still {base : Nat} {ρ : Rho} {w : World} {P : Program} {s : Sem Value} {v : AV} {h : H} {u : Value} (R : Rel base ρ h w) (e : s.run P w = .ok u w) (hr : ARel ρ v u) : Good base ρ w P s v h :=
 ⟨u, w, ρ, e, Rho.le.refl _, R, hr, Below.refl _ _⟩
theorem Good.pure {base : Nat} {ρ : Rho} {w : World} {P : Program} {s : Sem Value} {v : AV} {h : H} {u : Value} (R : Rel base ρ h w) (e : pureRun P s = some u) (hr : ofAV u = some v) : Good base ρ w P s v h :=
 Good.still R (pureRun_run w e) (ofAV_rel hr)

/-! ### load, store, new -/
noncomputable def isAggB (P : Program) (t : TypeId) : Option Bool := match P.underlying t with | some (.struct _) => some true | some (.array _ _) => some true | some _ => some false | none => none
noncomputable def szOf (P : Program) (t : TypeId) : Option Nat := match P.info? t with | some i => some i.size | none => none
theorem szOf_run {P : Program} {t : TypeId} {n : Nat} (e : szOf P t = some n) (w : World) : (sizeOf t).run P w = .ok n w := by
 unfold szOf at e
 split at e
 · rename_i i hi; cases e; simp [sizeOf, typeInfo, hi]
 · cases e
noncomputable def loadE (P : Program) (h : H) (t : TypeId) : CV → Option AV
 | .ptr id off =>
   match isAggB P t with
   | some false => match rd h id off with | some x => some (.p (.c x)) | none => none
   | some true => match szOf P t with
     | some n => match rdL h id off n with | some xs => some (.p (.agg xs)) | none => none
     | none => none
   | none => none
 | _ => none
noncomputable def storeE (P : Program) (h : H) (t : TypeId) (x : CV) (y : PV) : Option H :=
 match x, y with
 | .ptr _ _, .ifa _ _ => none
 | .ptr id off, y => match szOf P t with
   | some n => bif Nat.beq y.cells.length n then wrL h id off y.cells else none
   | none => none
 | _, _ => none
def GoodU (base : Nat) (ρ : Rho) (w : World) (P : Program) (s : Sem Unit) (h' : H) : Prop :=
 ∃ w' ρ', s.run P w = .ok () w' ∧ ρ.le ρ' ∧ Rel base ρ' h' w' ∧ Below base w w'
theorem newRow_ok {base : Nat} {ρ : Rho} {h : H} {w : World} {P : Program} (R : Rel base ρ h w) (t : TypeId) {cs : List CV} {c : Array Value} (hc : LRel (CRel ρ) cs c.toList) :
 ∃ ρ', (newRow t c).run P w = .ok ⟨w.heap.size, 0, none⟩ { w with heap := w.heap.push (.cells c t (0, 0)) } ∧ ρ.le ρ' ∧ Rel base ρ' (h.newCells t cs true) { w with heap := w.heap.push (.cells c t (0, 0)) } ∧
  ρ' h.next = some ⟨w.heap.size, 0, c.size⟩ ∧ Below base w { w with heap := w.heap.push (.cells c t (0, 0)) } := by
 refine ⟨ρ.add h.next ⟨w.heap.size, 0, c.size⟩, ?_, Rho.le_add (R.fresh _ (Nat.le_refl _)), R.newCells t ?_ (by simp) (fun _ => by have := hc.length; simp at this; omega), Rho.add_self, ?_⟩
 · simp [newRow, newObj, Sem.run]
 · intro i x hx
   obtain ⟨v, hv, hr⟩ := hc.get hx
   exact ⟨v, by simpa using hv, hr⟩
 · exact ⟨rfl, rfl, rfl, by simp, fun k hk => by
    have := R.basele
    show (w.heap.push _)[k]? = _
    rw [Array.getElem?_push, if_neg (by omega)]⟩
noncomputable def zeroPV (P : Program) (t : TypeId) : Option PV := match P.info? t with | some i => (match i.zero with | some z => ofPV z | none => none) | none => none
noncomputable def allocE (P : Program) (h : H) (t : TypeId) : Option (AV × H) :=
 match zeroPV P t with
 | some x => some (.p (.c (.ptr h.next 0)), h.newCells t x.cells true)
 | none => none
noncomputable def boxE (h : H) (t : TypeId) (x : PV) : Option (AV × H) :=
 match x with
 | .ifa _ _ => none
 | x => some (.p (.c (.ptr h.next 0)), h.newCells t x.cells true)
end Go.Mill
