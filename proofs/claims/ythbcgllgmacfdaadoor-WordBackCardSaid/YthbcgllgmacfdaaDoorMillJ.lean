/- A verified evaluator for the model. It holds for every program and every world, under the hypotheses that each theorem names. -/
import Derived.Test.YthbcgllgmacfdaaDoorMillI
namespace Go.Mill
open Go.RowKit

noncomputable def bytesCV (l : List UInt8) : List CV := List.rec [] (fun b _ ih => .int .u8 (Int.ofNat b.toNat) :: ih) l
noncomputable def srcE (h : H) (size : Nat) : CV → Option (Nat × List CV)
 | .nilslice => some (0, [])
 | .slice id off len _ _ _ => match rdL h id off (Nat.mul len size) with | some cs => some (len, cs) | none => none
 | .str s => bif Nat.beq size 1 then some (s.size, bytesCV s.data.toList) else none
 | _ => none
noncomputable def appendE (P : Program) (h : H) (t ts : TypeId) (x y : CV) : Option (AV × H) :=
 match P.underlying t with
 | some (.slice el) => match P.info? el, zeroPV P el, P.underlying ts with
   | some i, some z, some (.int _) => match x, y with
     | .nilslice, .int _ (.ofNat n) => bif (Nat.blt 0 n && Nat.blt 0 i.size) && (Nat.beq z.cells.length i.size && (Nat.ble (Nat.mul n i.bytes) 140737488355328 && Nat.ble n 140737488355328)) then
      some (.p (.c (.slice h.next 0 n n false i.size)), h.newCells el (zerosE z.cells n) false) else none
     | _, _ => none
   | some i, some z, some _ => match srcE h i.size y with
     | some (m, cs) => bif Nat.beq z.cells.length i.size && Nat.blt 0 i.size then
       match x with
       | .nilslice => bif Nat.beq m 0 then some (.p (.c .nilslice), h) else
         bif Nat.ble (Nat.mul m i.bytes) 140737488355328 && Nat.ble m 140737488355328 then some (.p (.c (.slice h.next 0 m m false i.size)), h.newCells el cs false) else none
       | .slice id off len cap ex sz => bif Nat.beq sz i.size then
        bif Nat.ble (Nat.add len m) cap then
         match cs with
         | [] => some (.p (.c (.slice id off (Nat.add len m) cap ex sz)), h)
         | _ => match wrL h id (Nat.add off (Nat.mul len sz)) cs with | some h' => some (.p (.c (.slice id off (Nat.add len m) cap ex sz)), h') | none => none
        else bif Nat.ble (Nat.mul (Nat.add len m) i.bytes) 140737488355328 && Nat.ble (Nat.add len m) 140737488355328 then
         bif ex then
          match rdL h id off (Nat.mul len sz) with
          | some old => some (.p (.c (.slice h.next 0 (Nat.add len m) (Nat.add len m) false sz)), h.newCells el (old ++ cs) false)
          | none => none
         else match h.blk id with
          | some b => bif b.rw && ((Nat.ble (Nat.add off (Nat.mul len sz)) b.size && Nat.ble b.lo (Nat.add off (Nat.mul len sz))) && Nat.beq b.ty el) then
           (match off with
           | 0 => some (.p (.c (.slice h.next 0 (Nat.add len m) (Nat.add len m) false sz)), h.branch id b (Nat.beq (Nat.mul len sz) b.size)
            { ty := el, size := Nat.add (Nat.mul len sz) cs.length, data := T.ofListFrom b.data (Nat.mul len sz) cs, fam := b.fam, rw := true, ex := false, lo := b.lo, hi := b.hi })
           | off => match rdL h id off (Nat.mul len sz) with
             | some old => some (.p (.c (.slice h.next 0 (Nat.add len m) (Nat.add len m) false sz)), h.branch id b (Nat.beq (Nat.add off (Nat.mul len sz)) b.size)
               { ty := el, size := Nat.add (Nat.mul len sz) cs.length, data := T.ofList (old ++ cs), fam := b.fam, rw := true, ex := false, lo := Nat.sub b.lo off, hi := b.hi })
             | none => none)
            else none
          | none => none
        else none
         else none
       | _ => none
       else none
     | none => none
   | _, _, _ => none
 | _ => none

/-! the real machine's two ways -/
theorem append_grow_run {P : Program} (w : World) {t ts el ty : TypeId} {i : TypeInfo} {z : Value} {d : TypeDesc} (hu : P.underlying t = some (.slice el)) (hts : P.underlying ts = some d) (hd : ∀ k, d ≠ .int k) (hi : P.info? el = some i) (hz : i.zero = some z)
 {b : Option Addr} {sLen sCap m : Nat} {u : Value} {olds news : List Value} (hold : (Builtin.firstCells i.size sLen (.slice b sLen sCap)).run P w.drew = .ok olds.toArray w.drew)
 (hlen : (Builtin.lenOf u).run P w = .ok m w) (hnew : (Builtin.firstCells i.size m u).run P w.drew = .ok news.toArray w.drew) (hg : sCap < sLen + m) (h63 : sLen + m ≤ 140737488355328) (hby : (sLen + m) * i.bytes ≤ 140737488355328) :
 (Builtin.append_ #[t, ts] ty #[.slice b sLen sCap, u]).run P w = .ok (.slice (some ⟨w.heap.size, 0, none⟩) (sLen + m) (grownCap w (sLen + m) sCap el))
  (w.drew.alloc (.cells (olds.toArray ++ news.toArray ++ Builtin.zeroCells z.cells (grownCap w (sLen + m) sCap el - (sLen + m))) el)) := by
 have hn : ¬ (sLen + m ≤ sCap) := by omega
 have h63' : ¬ (9223372036854775807 < ((sLen : Int) + (m : Int))) := by omega
 have h48' : ¬ (281474976710656 < Builtin.nextslicecap (sLen + m) sCap * i.bytes) := by have := growslice_fits hg hby; omega
 simp [Builtin.append_, run_underlying hu, run_underlying hts, sizeOf, typeInfo, zeroValue, hi, hz, hlen, hn, h63', h48', Question.forced, hold, hnew, newRow, grownCap]
 congr 2
 apply Array.ext'
 simp
theorem append_room_run {P : Program} (w : World) {t ts el ty : TypeId} {i : TypeInfo} {d : TypeDesc} (hu : P.underlying t = some (.slice el)) (hts : P.underlying ts = some d) (hd : ∀ k, d ≠ .int k) (hi : P.info? el = some i)
 {bk off sLen sCap m : Nat} {u : Value} {news : List Value} (hlen : (Builtin.lenOf u).run P w = .ok m w) (hnew : (Builtin.firstCells i.size m u).run P w = .ok news.toArray w) (hroom : sLen + m ≤ sCap)
 (hc : ∀ j, j < news.length → (w.cell? ⟨bk, off + sLen * i.size + j, none⟩).isSome = true) (hf : ∀ j, j < news.length → w.frozen? ⟨bk, off + sLen * i.size + j, none⟩ = false) (h1 : ∀ v ∈ news, v.oneCell' = true) :
 (Builtin.append_ #[t, ts] ty #[.slice (some ⟨bk, off, none⟩) sLen sCap, u]).run P w = .ok (.slice (some ⟨bk, off, none⟩) (sLen + m) sCap) (w.setCells bk (off + sLen * i.size) news) := by
 have hst := run_storeCells_cells (P := P) bk (off + sLen * i.size) news 0 w (by simpa using hc) (by simpa using hf) h1
 simp only [Nat.add_zero] at hst
 simp [Builtin.append_, run_underlying hu, run_underlying hts, sizeOf, typeInfo, hi, hlen, hroom, hnew, Addr.add_lit, hst]
theorem heap_setCells {bk : Nat} {e : TypeId} {fz : Nat × Nat} : ∀ (vs : List Value) (o : Nat) (w : World) (c : Array Value), w.heap[bk]? = some (.cells c e fz) →
 ∃ c', (w.setCells bk o vs).heap[bk]? = some (.cells c' e fz) ∧ c'.size = c.size ∧ (∀ k, (k < o ∨ o + vs.length ≤ k) → c'[k]? = c[k]?) ∧ (∀ j, j < vs.length → o + j < c.size → c'[o + j]? = vs[j]?)
 | [], o, w, c, h => ⟨c, h, rfl, fun _ _ => rfl, fun j hj => by simp at hj⟩
 | v :: vs, o, w, c, h => by
   obtain ⟨c', h1, h2, h3, h4⟩ := heap_setCells vs (o + 1) (w.setCell ⟨bk, o, none⟩ v) _ (heap_setCell (off := o) (v := v) h)
   refine ⟨c', h1, by simpa using h2, ?_, ?_⟩
   · intro k hk
     simp only [List.length_cons] at hk
     rw [h3 k (by omega), Array.getElem?_setIfInBounds_ne (by omega)]
   · intro j hj hs
     cases j with
     | zero =>
       rw [Nat.add_zero, h3 o (by omega), Array.getElem?_setIfInBounds_self_of_lt (by omega)]
       rfl
     | succ j =>
       simp only [List.length_cons] at hj
       rw [show o + (j + 1) = o + 1 + j by omega, h4 j (by omega) (by simp; omega)]
       simp
theorem heap_setCells_other {bk k : Nat} (hk : k ≠ bk) : ∀ (vs : List Value) (o : Nat) (w : World), (w.setCells bk o vs).heap[k]? = w.heap[k]?
 | [], _, _ => rfl
 | v :: vs, o, w => (heap_setCells_other hk vs (o + 1) _).trans (Below.heap_setCell w _ v k hk)
theorem size_setCells {bk : Nat} : ∀ (vs : List Value) (o : Nat) (w : World), (w.setCells bk o vs).heap.size = w.heap.size
 | [], _, _ => rfl
 | v :: vs, o, w => (size_setCells vs (o + 1) _).trans (by simp [World.setCell])
theorem grown_ok {base : Nat} {ρ : Rho} {h : H} {w : World} (R : Rel base ρ h w) {el : TypeId} {z : Value} {size need sCap : Nat} {cells : List CV} {vs : List Value} (hl : LRel (CRel ρ) cells vs) (hlen : vs.length = need * size) (hzs : z.cells.size = size) :
 ∃ ρ', ρ.le ρ' ∧ Rel base ρ' (h.newCells el cells false) (w.drew.alloc (.cells (vs.toArray ++ Builtin.zeroCells z.cells (grownCap w need sCap el - need)) el)) ∧
  CRel ρ' (.slice h.next 0 need need false size) (.slice (some ⟨w.heap.size, 0, none⟩) need (grownCap w need sCap el)) ∧
  Below base w (w.drew.alloc (.cells (vs.toArray ++ Builtin.zeroCells z.cells (grownCap w need sCap el - need)) el)) := by
 have hge := grownCap_ge w need sCap el
 have hcs : (vs.toArray ++ Builtin.zeroCells z.cells (grownCap w need sCap el - need)).size = grownCap w need sCap el * size := by
  simp only [Array.size_append, List.size_toArray, size_zeroCells, hzs, hlen, ← Nat.add_mul]
  congr 1; omega
 have R1 := R.drawn (w.drawn + 1)
 have R2 := R1.newCells (cs := cells) (c := vs.toArray ++ Builtin.zeroCells z.cells (grownCap w need sCap el - need)) el (fz := (0, 0)) (hi := false) (fun i x hx => by
  obtain ⟨v, hv, hr⟩ := hl.get hx
  refine ⟨v, ?_, hr⟩
  have := (List.getElem?_eq_some_iff.1 hv).1
  rw [Array.getElem?_append_left (by simpa using this)]
  simpa using hv) (by simp) (ex := false) (by simp)
 refine ⟨_, Rho.le_add (R.fresh _ (Nat.le_refl _)), R2, ⟨_, grownCap w need sCap el, Rho.add_self, ?_, hge, (fun hh => by cases hh), ?_⟩, ?_⟩
 · rfl
 · show 0 + _ ≤ (vs.toArray ++ Builtin.zeroCells z.cells (grownCap w need sCap el - need)).size
   rw [hcs]; omega
 · exact ⟨rfl, rfl, rfl, (by show _ ≤ (w.heap.push _).size; simp), fun k hk => by
    have := R.basele
    show (w.heap.push _)[k]? = _
    rw [Array.getElem?_push, if_neg (by omega)]⟩
end Go.Mill
