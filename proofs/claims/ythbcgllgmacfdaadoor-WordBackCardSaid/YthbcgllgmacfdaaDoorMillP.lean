/- A verified evaluator for the model. It holds for every program and every world, under the hypotheses that each theorem names. -/
import Derived.Test.YthbcgllgmacfdaaDoorMillN
import Derived.RangeFuncRecord
import Derived.MapKept
namespace Go.Mill
open Go.RowKit

/-! ### Objects that are set anew; maps -/
noncomputable def H.setObj (h : H) (id : Nat) (o : O) : H := { h with objs := h.objs.set id o }
theorem Rel.setObj {base : Nat} {ρ : Rho} {h : H} {w : World} (R : Rel base ρ h w) {id : Nat} {o o' : O} {p : Place} {ob : Obj} (ho : h.objs.get id = some o) (hpl : o.plain = false) (hpl' : o'.plain = false) (hp : ρ id = some p)
 (hno : ∀ c e f, w.heap[p.block]? ≠ some (.cells c e f)) (hnew : ORel base ρ (w.putObj p.block ob) p o') : Rel base ρ (h.setObj id o') (w.putObj p.block ob) := by
 have hkeep : ∀ k, k ≠ p.block → (w.putObj p.block ob).heap[k]? = w.heap[k]? := fun k hk => by
  simp only [World.putObj]
  rw [Array.getElem?_setIfInBounds_ne (by omega)]
 have hsize : (w.putObj p.block ob).heap.size = w.heap.size := by simp [World.putObj]
 have hobj : ∀ j, (h.setObj id o').objs.get j = if j = id then some o' else h.objs.get j := fun j => by simp [H.setObj, T.get_set]
 have hblk : ∀ j b, (h.setObj id o').blk j = some b ↔ h.blk j = some b := by
  intro j b
  constructor
  · intro e
    obtain ⟨e1, e2⟩ := H.blk_objs e
    rw [hobj] at e1
    by_cases hj : j = id
    · rw [if_pos hj] at e1; cases e1; cases hpl'
    · rw [if_neg hj] at e1; exact H.blk_of e1 e2
  · intro e
    obtain ⟨e1, e2⟩ := H.blk_objs e
    refine H.blk_of ?_ e2
    rw [hobj]
    by_cases hj : j = id
    · subst hj; rw [ho] at e1; cases e1; cases hpl
    · rw [if_neg hj]; exact e1
 have hcell : ∀ j b q, h.blk j = some b → ρ j = some q → q.block ≠ p.block := by
  intro j b q e hq he
  obtain ⟨q', hq', L⟩ := R.cells j b e
  rw [hq] at hq'; cases hq'
  obtain ⟨c, fz, hc, _⟩ := L.there
  rw [he] at hc
  exact hno _ _ _ hc
 constructor
 · intro j b e
   rw [hblk] at e
   obtain ⟨q, hq, L⟩ := R.cells j b e
   exact ⟨q, hq, L.mono (Rho.le.refl _) (hkeep _ (hcell j b q e hq))⟩
 · intro j oj e
   rw [hobj] at e
   by_cases hj : j = id
   · subst hj; rw [if_pos rfl] at e; cases e; exact ⟨p, hp, hnew⟩
   · rw [if_neg hj] at e
     obtain ⟨q, hq, L⟩ := R.objs j oj e
     refine ⟨q, hq, ?_⟩
     cases oj with
     | cells b => trivial
     | loop r => exact L.mono (Rho.le.refl _) (hkeep _ (R.inj _ _ _ _ _ _ e ho rfl hpl hj hq hp))
     | dfr d => exact L.mono (Rho.le.refl _) (hkeep _ (R.inj _ _ _ _ _ _ e ho rfl hpl hj hq hp))
     | map es clock => exact L.mono (Rho.le.refl _) (hkeep _ (R.inj _ _ _ _ _ _ e ho rfl hpl hj hq hp))
 · intro j j' o1 o2 p1 p2 e1 e2 q1 q2 hne h1 h2
   rw [hobj] at e1 e2
   by_cases hj : j = id
   · rw [if_neg (fun hh => hne (hj.trans hh.symm))] at e2
     subst hj
     exact R.inj _ _ _ _ _ _ ho e2 hpl q2 hne h1 h2
   · rw [if_neg hj] at e1
     by_cases hj' : j' = id
     · subst hj'; exact R.inj _ _ _ _ _ _ e1 ho q1 hpl hne h1 h2
     · rw [if_neg hj'] at e2; exact R.inj _ _ _ _ _ _ e1 e2 q1 q2 hne h1 h2
 · intro j j' b b' q q' e e'
   rw [hblk] at e e'
   exact R.sep _ _ _ _ _ _ e e'
 · intro j j' b b' q q' e e'
   rw [hblk] at e e'
   exact R.ends _ _ _ _ _ _ e e'
 · exact R.fresh
 · intro j q hq; rw [hsize]; exact R.lt _ _ hq
 · intro j b e
   rw [hobj] at e
   by_cases hj : j = id
   · rw [if_pos hj] at e; cases e; cases hpl'
   · rw [if_neg hj] at e; exact R.famle _ _ e
 · exact R.famok
 · intro j b e
   rw [hobj] at e
   by_cases hj : j = id
   · rw [if_pos hj] at e; cases e; cases hpl'
   · rw [if_neg hj] at e; exact R.fammx _ _ e
 · exact R.glob
 · exact R.ngle
 · rw [hsize]; exact R.basele
theorem heap_putObj {k : Nat} {w : World} {ob : Obj} (hk : k < w.heap.size) : (w.putObj k ob).heap[k]? = some ob := by
 simp only [World.putObj]
 rw [Array.getElem?_setIfInBounds_self_of_lt hk]
noncomputable def bytesB (a : List UInt8) : List UInt8 → Bool :=
 List.rec (motive := fun _ => List UInt8 → Bool) (fun b => match b with | [] => true | _ :: _ => false)
  (fun x _ ih b => match b with | [] => false | y :: t => bif Nat.beq x.toNat y.toNat then ih t else false) a
theorem bytesB_eq : ∀ {a b : List UInt8}, bytesB a b = true → a = b
 | [], [], _ => rfl
 | [], _ :: _, h => by cases h
 | _ :: _, [], h => by cases h
 | x :: a, y :: b, h => by
   have h' : (bif Nat.beq x.toNat y.toNat then bytesB a b else false) = true := h
   by_cases hx : Nat.beq x.toNat y.toNat = true
   · rw [hx] at h'
     have := bytesB_eq (a := a) (b := b) h'
     have hxy : x = y := UInt8.toNat_inj.1 (by simpa [Nat.beq_eq] using hx)
     rw [this, hxy]
   · simp [hx] at h'
noncomputable def kindB (a b : IntKind) : Bool := decide (a = b)
noncomputable def intB : Int → Int → Bool
 | .ofNat a, .ofNat b => Nat.beq a b
 | .negSucc a, .negSucc b => Nat.beq a b
 | _, _ => false
theorem bytesB_self : ∀ (a : List UInt8), bytesB a a = true
 | [] => rfl
 | x :: a => by
   show (bif Nat.beq x.toNat x.toNat then bytesB a a else false) = true
   rw [bytesB_self a]; simp
theorem strB_iff {a b : ByteArray} : bytesB a.data.toList b.data.toList = (a == b) := by
 show _ = (a.data == b.data)
 rw [Bool.eq_iff_iff, beq_iff_eq]
 constructor
 · intro h
   exact Array.toList_inj.1 (bytesB_eq h)
 · intro h; rw [h]; exact bytesB_self _
noncomputable def sameE (d : TypeDesc) (x y : CV) : Option Bool :=
 match d, x, y with
 | .int _, .int k a, .int l b => bif kindB k l then some (intB a b) else none
 | .string, .str a, .str b => some (bytesB a.data.toList b.data.toList)
 | _, _, _ => none
noncomputable def findE (d : TypeDesc) (k : CV) (es : List ME) : Nat → Option (Option (Nat × PV)) :=
 List.rec (motive := fun _ => Nat → Option (Option (Nat × PV))) (fun _ => some none)
  (fun e _ ih i => match sameE d k e.key with | some true => some (some (i, e.val)) | some false => ih (Nat.succ i) | none => none) es
noncomputable def plainKey : TypeDesc → Bool
 | .int _ => true
 | .string => true
 | _ => false
theorem checkKey_run {P : Program} (w : World) {kt : TypeId} {d : TypeDesc} (hd : P.underlying kt = some d) (hp : plainKey d = true) (b : Bool) (v : Value) : (Instr.checkKey b 10000 kt v).run P w = .ok () w := by
 unfold plainKey at hp
 split at hp
 · rw [show (10000 : Nat) = 9999 + 1 from rfl, Instr.checkKey]
   simp only [Sem.run_bind, run_underlying hd, Result.andThen_ok, Sem.run_pure]
 · rw [show (10000 : Nat) = 9999 + 1 from rfl, Instr.checkKey]
   simp only [Sem.run_bind, run_underlying hd, Result.andThen_ok, Sem.run_pure]
 · cases hp
theorem findKey_run {P : Program} (w : World) {kt : TypeId} {d : TypeDesc} (hd : P.underlying kt = some d) {k : Value} {es : List MapEntry} {r : Option (Nat × Value)} (h : Instr.findNow d k es 0 = some r) : (Instr.findKey kt k es).run P w = .ok r w := by
 simp [Instr.findKey, run_underlying hd, h]

noncomputable def makeMapE (P : Program) (h : H) (t : TypeId) (r : Option (Option (IntKind × Int))) : Option (AV × H) :=
 match r with
 | none => some (.p (.c (.map h.next)), h.new (.map [] 0))
 | some (some _) => match P.underlying t with | some (.map _ _) => some (.p (.c (.map h.next)), h.new (.map [] 0)) | _ => none
 | some none => none
noncomputable def entriesE (h : H) (x : CV) : Option (List ME) :=
 match x with
 | .nilmap => some []
 | .map id => match h.objs.get id with | some (.map es _) => some es | _ => none
 | _ => none
noncomputable def lookupE (P : Program) (h : H) (t : TypeId) (x k : CV) (ok : Bool) : Option AV :=
 match P.underlying t with
 | some (.map kt et) => match P.underlying kt, entriesE h x with
   | some d, some es => bif plainKey d then
    match findE d k es 0 with
    | some (some (_, v)) => some (bif ok then .tup [v, .c (.bool true)] else .p v)
    | some none => match zeroPV P et with | some z => some (bif ok then .tup [z, .c (.bool false)] else .p z) | none => none
    | none => none
     else none
   | _, _ => none
 | _ => none
noncomputable def mapUpdateE (P : Program) (h : H) (t : TypeId) (x k : CV) (v : PV) : Option H :=
 match P.underlying t, x with
 | some (.map kt _), .map id => match P.underlying kt, h.objs.get id with
   | some d, some (.map es clock) => bif plainKey d then
    match findE d k es 0 with
    | some (some (j, _)) => match es[j]? with
      | some m => some (h.setObj id (.map (es.set j { key := k, val := v, born := m.born }) clock))
      | none => none
    | some none => some (h.setObj id (.map (es ++ [{ key := k, val := v, born := clock }]) (Nat.succ clock)))
    | none => none
     else none
   | _, _ => none
 | _, _ => none
noncomputable def blenH (P : Program) (h : H) (t : TypeId) (x : PV) : Option AV :=
 match P.underlying t with
 | some (.map _ _) => match x with
   | .c y => match entriesE h y with | some es => some (.p (.c (.int .i64 (Int.ofNat es.length)))) | none => none
   | _ => none
 | _ => blenE P t x
end Go.Mill
