/- A verified evaluator for the model. It holds for every program and every world, under the hypotheses that each theorem names. -/
import Derived.Test.YthbcgllgmacfdaaDoorMillM
namespace Go.Mill
open Go.RowKit

/-! ### unsafe pointers, the bytes of a Builder -/
theorem Rel.shape {base : Nat} {ρ : Rho} {h : H} {w : World} (R : Rel base ρ h w) {id : Nat} {b : Blk} {p : Place} (hb : h.blk id = some b) (hp : ρ id = some p) :
 ∃ n, w.shape? p.block = some (b.ty, n) ∧ p.off + p.room ≤ n ∧ b.size ≤ p.room ∧ (b.ex = true → p.off = 0 ∧ n = b.size) := by
 obtain ⟨q, hq, L⟩ := R.cells id b hb
 rw [hp] at hq; cases hq
 obtain ⟨c, fz, hc, hs, _, _, hx⟩ := L.there
 exact ⟨c.size, by simp [World.shape?, hc], hs, L.size, hx⟩
noncomputable def toUnsafeE (P : Program) (h : H) (src dst : TypeId) (x : CV) : Option AV :=
 match P.underlying src, P.underlying dst, x with
 | some (.pointer t), some .unsafePointer, .ptr id off => match szOf P t, h.blk id with
   | some n, some b => bif Nat.blt 0 n && Nat.blt off b.size then some (.p (.c (.ptr id off))) else none
   | _, _ => none
 | some .unsafePointer, some (.pointer u), .ptr id off => match szOf P u, h.blk id with
   | some n, some b => bif Nat.blt 0 n && (b.ex && liesAt P P.depth b.ty (b.size / P.cellsOf b.ty) off u 1) then some (.p (.c (.ptr id off))) else none
   | _, _ => none
 | _, _, _ => none
noncomputable def sliceDataE (x : CV) : Option AV :=
 match x with
 | .nilslice => some (.p (.c .nilptr))
 | .slice id off _ cap _ _ => bif Nat.blt 0 cap then some (.p (.c (.ptr id off))) else none
 | _ => none
noncomputable def Blk.locked (b : Blk) (k : Nat) : Blk := bif b.hi then { b with rw := false } else { b with lo := bif Nat.ble b.lo k then k else b.lo }
noncomputable def H.lock (h : H) (id : Nat) (b : Blk) (k : Nat) : H := { h with objs := h.objs.set id (.cells (b.locked k)), fams := h.narrow b.fam id }
theorem Rel.lock {base : Nat} {ρ : Rho} {h : H} {w : World} (R : Rel base ρ h w) {id : Nat} {b : Blk} {p : Place} (hb : h.blk id = some b) (hp : ρ id = some p) (hrw : b.rw = true) (a : Addr) (ha : a.block = p.block) (n k : Nat) (hk : a.off + n ≤ p.off + k) :
 Rel base ρ (h.lock id b k) (w.freeze a n) := by
 obtain ⟨ho, hl⟩ := H.blk_objs hb
 have hid := R.blk_lt hb
 have hfl : b.fam < h.next := Nat.lt_of_le_of_lt (R.famle' hb) hid
 obtain ⟨q, hq, L⟩ := R.cells id b hb
 rw [hp] at hq; cases hq
 generalize hh : h.lock id b k = h'
 have hfam : h'.fams = h.narrow b.fam id := by rw [← hh]; rfl
 have hobj : ∀ j, h'.objs.get j = if j = id then some (.cells (b.locked k)) else h.objs.get j := by intro j; rw [← hh]; simp [H.lock, T.get_set]
 have hnext : h'.next = h.next := by rw [← hh]; rfl
 have hng : h'.ng = h.ng := by rw [← hh]; rfl
 have lv := fun g id' => live_narrow hl ⟨hfl, hid⟩ (g := g) (id' := id') h' hfam
 have hlf : (b.locked k).fam = b.fam := by unfold Blk.locked; cases b.hi <;> rfl
 have bself : h'.blk id = some (b.locked k) := H.blk_of (by rw [hobj, if_pos rfl]) (by rw [hlf]; exact ((lv b.fam id).1 rfl).2 rfl)
 have bother : ∀ j b', j ≠ id → h'.blk j = some b' → h.blk j = some b' ∧ b'.fam ≠ b.fam := by
  intro j b' hj e'
  obtain ⟨ho', hl'⟩ := H.blk_objs e'
  rw [hobj, if_neg hj] at ho'
  by_cases hf : b'.fam = b.fam
  · exact absurd (((lv b'.fam j).1 hf).1 hl') hj
  · exact ⟨H.blk_of ho' (((lv b'.fam j).2 hf) ▸ hl'), hf⟩
 have hkeep : ∀ k, k ≠ p.block → (w.freeze a n).heap[k]? = w.heap[k]? := by
  intro k hk
  unfold World.freeze
  split
  · rfl
  · simp only [Array.getElem?_modify]; rw [if_neg (by omega)]
 have hfar : ∀ j b', j ≠ id → h'.blk j = some b' → ∀ q, ρ j = some q → q.block ≠ p.block := by
  intro j b' hj e' q hq
  obtain ⟨e1, hf⟩ := bother j b' hj e'
  exact fun he => R.sep id j b b' p q hb e1 hp hq (Ne.symm hf) hrw he.symm
 obtain ⟨c, fz, hc, hs, hv, hfz, hxx⟩ := L.there
 have hlok : b.lo ≤ (bif Nat.ble b.lo k then k else b.lo) ∧ k ≤ (bif Nat.ble b.lo k then k else b.lo) := by
  cases hh : Nat.ble b.lo k with
  | true => simp only [cond_true]; exact ⟨by simpa [Nat.ble_eq] using hh, Nat.le_refl _⟩
  | false =>
    simp only [cond_false]
    refine ⟨Nat.le_refl _, ?_⟩
    rcases Nat.lt_or_ge b.lo k with h1 | h1
    · have : Nat.ble b.lo k = true := by simp [Nat.ble_eq]; omega
      rw [hh] at this; cases this
    · exact h1
 have hnew : ∃ fz', (w.freeze a n).heap[p.block]? = some (.cells c b.ty fz') ∧ ((b.locked k).rw = true → FzOk (b.locked k) p.off c.size fz') := by
  have h0 := hfz hrw
  have hmk : ∀ fz' : Nat × Nat, (b.hi = false → fz'.1 ≤ fz'.2 ∧ (fz'.1 < fz'.2 → fz'.2 ≤ p.off + (bif Nat.ble b.lo k then k else b.lo))) → ((b.locked k).rw = true → FzOk (b.locked k) p.off c.size fz') := by
   intro fz' hx hr
   unfold Blk.locked at hr ⊢
   cases hh : b.hi with
   | true => rw [hh] at hr; simp at hr
   | false =>
     obtain ⟨x1, x2⟩ := hx hh
     simp only [cond_false]
     refine ⟨fun o ho1 ho2 ho3 => ?_, fun _ => ⟨x1, x2⟩⟩
     simp only at ho1
     have := x2 (by omega)
     omega
  unfold World.freeze
  split
  · exact ⟨fz, hc, hmk fz fun hh => ⟨(h0.2 hh).1, fun hx => by have := (h0.2 hh).2 hx; omega⟩⟩
  · obtain ⟨lo, hi⟩ := fz
    simp only [Array.getElem?_modify, ha, if_pos, hc, Option.map_some]
    refine ⟨_, rfl, hmk _ fun hh => ?_⟩
    have h1 := h0.2 hh
    simp only at h1
    by_cases hlh : lo = hi
    · subst hlh
      simp only [beq_self_eq_true, if_pos]
      exact ⟨by omega, fun _ => by omega⟩
    · have hb : (lo == hi) = false := by simpa using hlh
      simp only [hb, if_neg (by simp : ¬ (false = true))]
      have := h1.2 (by omega)
      refine ⟨by omega, fun _ => ?_⟩
      omega
 obtain ⟨fz', hc', hfz'⟩ := hnew
 have hlsize : (b.locked k).size = b.size ∧ (b.locked k).ty = b.ty ∧ (b.locked k).data = b.data ∧ (b.locked k).fam = b.fam ∧ (b.locked k).ex = b.ex := by
  unfold Blk.locked
  cases b.hi <;> exact ⟨rfl, rfl, rfl, rfl, rfl⟩
 have hsize : (w.freeze a n).heap.size = w.heap.size := by unfold World.freeze; split <;> simp
 constructor
 · intro j b' e'
   by_cases hj : j = id
   · subst hj
     rw [bself] at e'; cases e'
     exact ⟨p, hp, ⟨c, fz', by rw [hlsize.2.1]; exact hc', hs, by rw [hlsize.1, hlsize.2.2.1]; exact hv, hfz', by rw [hlsize.2.2.2.2, hlsize.1]; exact hxx⟩, by rw [hlsize.1]; exact L.size, fun _ => L.own hrw⟩
   · obtain ⟨e1, hf⟩ := bother j b' hj e'
     obtain ⟨q, hq, L'⟩ := R.cells j b' e1
     exact ⟨q, hq, L'.mono (Rho.le.refl _) (hkeep _ (hfar j b' hj e' q hq))⟩
 · intro j o e'
   rw [hobj] at e'
   by_cases hj : j = id
   · subst hj; rw [if_pos rfl] at e'; cases e'; exact ⟨p, hp, trivial⟩
   · rw [if_neg hj] at e'
     obtain ⟨q, hq, L'⟩ := R.objs j o e'
     refine ⟨q, hq, ?_⟩
     cases o with
     | cells b' => trivial
     | loop r =>
       refine L'.mono (Rho.le.refl _) (hkeep _ ?_)
       rintro hqe
       obtain ⟨_, ob, hob, _, _, _, rfl, _⟩ := L'
       rw [hqe, hc] at hob; cases hob
     | dfr od =>
       refine L'.mono (Rho.le.refl _) (hkeep _ ?_)
       rintro hqe
       have hob := L'.2
       rw [hqe, hc] at hob; cases hob
     | map es clock =>
       refine L'.mono (Rho.le.refl _) (hkeep _ ?_)
       rintro hqe
       obtain ⟨_, es', hob, _⟩ := L'
       rw [hqe, hc] at hob; cases hob
 · intro j j' o1 o2 p1 p2 e1 e2 q1 q2 hne h1 h2
   rw [hobj] at e1 e2
   by_cases hj : j = id
   · rw [if_pos hj] at e1; cases e1; cases q1
   · by_cases hj' : j' = id
     · rw [if_pos hj'] at e2; cases e2; cases q2
     · rw [if_neg hj] at e1; rw [if_neg hj'] at e2; exact R.inj _ _ _ _ _ _ e1 e2 q1 q2 hne h1 h2
 · intro j j' b1 b2 p1 p2 e1 e2 h1 h2 hf hr
   by_cases hj : j = id
   · subst hj; rw [bself] at e1; cases e1
     rw [hp] at h1; cases h1
     by_cases hj' : j' = j
     · subst hj'; rw [bself] at e2; cases e2; exact absurd rfl hf
     · exact fun he => hfar j' b2 hj' e2 p2 h2 he.symm
   · obtain ⟨f1, g1⟩ := bother j b1 hj e1
     by_cases hj' : j' = id
     · subst hj'; rw [hp] at h2; cases h2; exact hfar j b1 hj e1 p1 h1
     · exact R.sep j j' b1 b2 p1 p2 f1 (bother j' b2 hj' e2).1 h1 h2 hf hr
 · intro j j' b1 b2 p1 p2 e1 e2 h1 h2 hf hle hbk
   by_cases hj : j = id
   · subst hj
     by_cases hj' : j' = j
     · subst hj'; rw [e1] at e2; cases e2; rw [h1] at h2; cases h2; exact Nat.le_refl _
     · rw [bself] at e1; cases e1
       exact absurd (hf.symm.trans hlf) (bother j' b2 hj' e2).2
   · by_cases hj' : j' = id
     · subst hj'; rw [bself] at e2; cases e2; exact absurd (hf.trans hlf) (bother j b1 hj e1).2
     · exact R.ends j j' b1 b2 p1 p2 (bother j b1 hj e1).1 (bother j' b2 hj' e2).1 h1 h2 hf hle hbk
 · intro j hj; rw [hnext] at hj; exact R.fresh j hj
 · intro j q hq; rw [hsize]; exact R.lt j q hq
 · intro j b' e'
   rw [hobj] at e'
   by_cases hj : j = id
   · subst hj; rw [if_pos rfl] at e'; cases e'; rw [hlf]; exact Rel.famle' (b := b) R hb
   · rw [if_neg hj] at e'; exact R.famle _ _ e'
 · rw [hfam, hnext]; exact narrow_ok ⟨hfl, hid⟩ R.famok
 · intro j b' e'
   rw [hobj] at e'
   have key : (h.fams.get b'.fam = none → j = b'.fam) ∧ (∀ lo hi mx, h.fams.get b'.fam = some (lo, hi, mx) → j ≤ mx) := by
    by_cases hj : j = id
    · subst hj; rw [if_pos rfl] at e'; cases e'; rw [hlf]; exact R.fammx j b ho
    · rw [if_neg hj] at e'; exact R.fammx _ _ e'
   rw [hfam]
   refine ⟨fun h0 => key.1 ((narrow_mx _).1.1 h0), fun lo hi mx h0 => ?_⟩
   obtain ⟨lo', hi', h1⟩ := (narrow_mx _).2 lo hi mx h0
   exact key.2 _ _ _ h1
 · intro j q hj hq; rw [hng] at hj; exact R.glob j q hj hq
 · rw [hng, hnext]; exact R.ngle
 · rw [hsize]; exact R.basele
noncomputable def intBytes (l : List Int) : Option (List UInt8) := List.rec (some []) (fun n _ ih => bif Nat.blt n.toNat 256 && decide (0 ≤ n) then (match ih with | some r => some (UInt8.ofNat n.toNat :: r) | none => none) else none) l
noncomputable def strE (P : Program) (h : H) (pt : TypeId) (x : CV) (n : Int) : Option (AV × H) :=
 match x, n with
 | .nilptr, .ofNat 0 => some (.p (.c (.str ⟨⟨[]⟩⟩)), h)
 | .ptr _ _, .ofNat 0 => some (.p (.c (.str ⟨⟨[]⟩⟩)), h)
 | .ptr id off, .ofNat n => match P.underlying pt, h.blk id with
   | some (.pointer e), some b => bif b.rw && (Nat.beq b.ty e && (Nat.beq (P.cellsOf e) 1 && Nat.ble n 140737488355328)) then
    match rdL h id off n with
    | some cs => match toBytes cs with
      | some ns => match intBytes ns with
        | some bs => some (.p (.c (.str ⟨⟨bs⟩⟩)), h.lock id b (Nat.add off n))
        | none => none
      | none => none
    | none => none
     else none
   | _, _ => none
 | _, _ => none
end Go.Mill
