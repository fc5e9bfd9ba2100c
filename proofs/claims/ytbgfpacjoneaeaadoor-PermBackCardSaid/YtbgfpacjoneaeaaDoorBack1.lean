/- Reading the text of a permutation's cycles gives the permutation. -/
import Derived.Test.YtbgfpacjoneaeaaDoorText3
import Derived.Test.YtbgfpacjoneaeaaDoorCalls1
import Derived.Test.YtbgfpacjoneaeaaDoorCalls4
namespace Go.Proofs.YtbgfpacjoneaeaaDoor
open Go.Loom
set_option maxRecDepth 100000
theorem drop_hd {l : List Int} {i : Nat} {x : Int} {r : List Int} (h : l.drop i = x :: r) : i < l.length ∧ l.getD i 0 = x ∧ l.drop (i + 1) = r := by
 have hl : i < l.length := by
  rcases Nat.lt_or_ge i l.length with h1 | h1
  · exact h1
  · rw [List.drop_eq_nil_of_le h1] at h; cases h
 rw [getD_lt hl] at h
 injection h with h1 h2
 exact ⟨hl, h1, h2⟩
def decL (x : Nat) : List Int := if x < 10 then [48 + (x : Int)] else [48 + ((x / 10 : Nat) : Int), 48 + ((x % 10 : Nat) : Int)]
theorem bytes_dec (x : Nat) (h : x < 100) : bytesI (decT x) = decL x := by
 revert x
 decide +kernel
theorem dec_read {l : List Int} {i x : Nat} {t : Int} {r : List Int} (hx : x < 64) (ht : dig t = false) (h : l.drop i = decL x ++ t :: r) :
 digP l i = i + (decL x).length ∧ valP 64 l i 0 = x ∧ ¬ (digP l i = i ∨ (i + 1 < digP l i ∧ l.getD i 0 = 48)) ∧ l.getD i 0 ≠ 32 ∧ l.getD i 0 ≠ 41 ∧ i < l.length ∧ l.drop (i + (decL x).length) = t :: r := by
 unfold decL at h ⊢
 split at h
 · rename_i h10
   rw [if_pos h10]
   obtain ⟨a1, a2, a3⟩ := drop_hd h
   obtain ⟨b1, b2, b3⟩ := drop_hd a3
   have d1 : dig (l.getD i 0) = true := by rw [a2]; exact isdig (by omega)
   have e1 : digP l i = i + 1 := by rw [digP_yes ⟨a1, d1⟩, digP_no (by rw [b2, ht]; simp)]
   refine ⟨e1, ?_, by rw [e1]; omega, by rw [a2]; omega, by rw [a2]; omega, a1, a3⟩
   rw [valP_yes ⟨a1, d1⟩, valP_no (by rw [b2, ht]; simp), a2]
   omega
 · rename_i h10
   rw [if_neg h10]
   obtain ⟨a1, a2, a3⟩ := drop_hd h
   obtain ⟨b1, b2, b3⟩ := drop_hd a3
   obtain ⟨c1, c2, c3⟩ := drop_hd b3
   have d1 : dig (l.getD i 0) = true := by rw [a2]; exact isdig (by omega)
   have d2 : dig (l.getD (i + 1) 0) = true := by rw [b2]; exact isdig (by omega)
   have e1 : digP l i = i + 2 := by rw [digP_yes ⟨a1, d1⟩, digP_yes ⟨b1, d2⟩, digP_no (by rw [c2, ht]; simp)]
   refine ⟨e1, ?_, by rw [e1, a2]; omega, by rw [a2]; omega, by rw [a2]; omega, a1, b3⟩
   rw [valP_yes ⟨a1, d1⟩, valP_yes ⟨b1, d2⟩, valP_no (by rw [c2, ht]; simp), a2, b2]
   omega
theorem rX_head (c : List Int) (r : List Int) : ∃ t q, rX true c ++ r = t :: q ∧ dig t = false := by
 cases c with
 | nil => exact ⟨41, r, rfl, by decide⟩
 | cons x c => exact ⟨32, bytesI (decT x.toNat) ++ rX true c ++ r, rfl, by decide⟩
theorem decT_pos (x : Nat) (h : x < 100) : 1 ≤ (decL x).length := by unfold decL; split <;> simp
theorem rX_len : ∀ (c : List Int) (b : Bool), (∀ x ∈ c, 0 ≤ x ∧ x < 64) → c.length < (rX b c).length
 | [], b, _ => by simp [rX]
 | x :: c, b, h => by
   have := rX_len c true fun y hy => h y (by simp [hy])
   have hx := h x (by simp)
   have h1 := decT_pos x.toNat (by omega)
   rw [rX, List.length_append, List.length_append, bytes_dec _ (by omega), List.length_cons]
   omega
theorem cyc_read {l : List Int} {n : Nat} (hn : n ≤ 64) : ∀ (c : List Int) (b : Bool) (m i : Nat) (seen : List Bool) (c0 rest : List Int), c.length < m → (∀ x ∈ c, 0 ≤ x ∧ x < n) → c.Nodup → seen.length = 64 → (∀ x ∈ c, seen.getD x.toNat false = false) → l.drop i = rX b c ++ rest →
 ∃ j seen', cyc l n m seen c0 i = .inr (j, seen', c0 ++ c) ∧ l.drop (j + 1) = rest ∧ seen'.length = 64 ∧ ∀ y : Int, 0 ≤ y → y ∉ c → seen'.getD y.toNat false = seen.getD y.toNat false
 | [], b, 0, i, seen, c0, rest, hm, hx, hnd, hl, hs, h => by simp at hm
 | [], b, m + 1, i, seen, c0, rest, hm, hx, hnd, hl, hs, h => by
   obtain ⟨h1, h2, h3⟩ := drop_hd (show l.drop i = 41 :: rest from h)
   have e : skipP l i = i := skipP_no (by rw [h2]; simp)
   refine ⟨i, seen, ?_, h3, hl, fun _ _ _ => rfl⟩
   rw [cyc, e, if_pos ⟨h1, h2⟩, List.append_nil]
 | x :: c, b, 0, i, seen, c0, rest, hm, hx, hnd, hl, hs, h => by omega
 | x :: c, b, m + 1, i, seen, c0, rest, hm, hx, hnd, hl, hs, h => by
   have hxx := hx x (by simp)
   obtain ⟨t, q, ht, hdt⟩ := rX_head c rest
   have hd : ∀ i', l.drop i' = decL x.toNat ++ t :: q → ∃ j seen', cyc l n (m + 1) seen c0 i' = .inr (j, seen', c0 ++ (x :: c)) ∧ l.drop (j + 1) = rest ∧ seen'.length = 64 ∧ ∀ y : Int, 0 ≤ y → y ∉ x :: c → seen'.getD y.toNat false = seen.getD y.toNat false := by
    intro i' h'
    obtain ⟨r1, r2, r3, r4, r5, r6, r7⟩ := dec_read (by omega) hdt h'
    have e : skipP l i' = i' := skipP_no (fun h => r4 h.2)
    have hp : ptE l n seen i' = 0 := ptE_ok r3 (by rw [r2]; omega) (by rw [r2, show ((x.toNat : Nat) : Int).toNat = x.toNat by omega, hs x (by simp)]; simp)
    have hv : ptV l n seen i' = x := by rw [ptV, if_pos hp, r2]; omega
    have hj : ptJ l n seen i' = i' + (decL x.toNat).length := by rw [ptJ, if_pos hp, r1]
    have hse : ptS l n seen i' = seen.set x.toNat true := by rw [ptS, if_pos hp, r2]; rfl
    obtain ⟨hn1, hn2⟩ := List.nodup_cons.1 hnd
    obtain ⟨j, seen', g1, g2, g3, g4⟩ := cyc_read hn c true m (i' + (decL x.toNat).length) (seen.set x.toNat true) (c0 ++ [x]) rest (by simp at hm; omega) (fun y hy => hx y (by simp [hy])) hn2 (by simpa using hl) (fun y hy => by
     have hy2 := hx y (by simp [hy])
     have hne : x.toNat ≠ y.toNat := fun e => hn1 (by rwa [show x = y by omega])
     rw [List.getD_eq_getElem?_getD, List.getElem?_set_ne hne, ← List.getD_eq_getElem?_getD]
     exact hs y (by simp [hy])) (by rw [r7, ht])
    refine ⟨j, seen', ?_, g2, g3, fun y h0 hy => ?_⟩
    · rw [cyc, e, if_neg (by rintro ⟨_, k⟩; exact r5 k), if_pos hp, hv, hj, hse, g1, List.append_assoc]; rfl
    · simp only [List.mem_cons, not_or] at hy
      rw [g4 y h0 hy.2]
      have hne : x.toNat ≠ y.toNat := by omega
      rw [List.getD_eq_getElem?_getD, List.getElem?_set_ne hne, ← List.getD_eq_getElem?_getD]
   rw [rX, bytes_dec _ (by omega), List.append_assoc, List.append_assoc, ht] at h
   cases b with
   | false => exact hd i h
   | true =>
     obtain ⟨h1, h2, h3⟩ := drop_hd (show l.drop i = 32 :: (decL x.toNat ++ t :: q) from h)
     obtain ⟨j, seen', g1, g2⟩ := hd (i + 1) h3
     obtain ⟨r1, r2, r3, r4, r5, r6, r7⟩ := dec_read (by omega) hdt h3
     refine ⟨j, seen', ?_, g2⟩
     have e1 : skipP l i = skipP l (i + 1) := skipP_yes ⟨h1, h2⟩
     rw [← g1, cyc, cyc, e1]
def turnAll (ls : List (List Int)) (p : List Int) : List Int := ls.foldl (fun p c => turnL c c.length 0 p) p
theorem par_read {l : List Int} {n : Nat} (hn : n ≤ 64) : ∀ (ls : List (List Int)) (m i : Nat) (p : List Int) (seen : List Bool), ls.length < m → (∀ c ∈ ls, ∀ x ∈ c, 0 ≤ x ∧ x < n) → (flat ls).Nodup → seen.length = 64 → (∀ x ∈ flat ls, seen.getD x.toNat false = false) → l.drop i = rA ls → par l n m p seen i = (turnAll ls p, 0, 0)
 | _, 0, _, _, _, hm, _, _, _, _, _ => by omega
 | [], m + 1, i, p, seen, hm, hx, hnd, hl, hs, h => by
   have h' : l.drop i = [] := h
   have hi : l.length ≤ i := by
    have := congrArg List.length h'
    simp at this; omega
   have e : skipP l i = i := skipP_no (by omega)
   rw [par, e, if_neg (by omega)]; rfl
 | c :: ls, m + 1, i, p, seen, hm, hx, hnd, hl, hs, h => by
   obtain ⟨h1, h2, h3⟩ := drop_hd (show l.drop i = 40 :: (rX false c ++ rA ls) from h)
   have e : skipP l i = i := skipP_no (by rw [h2]; simp)
   rw [flat, List.nodup_append] at hnd
   have hlen : c.length < l.length + 1 := by
    have g1 := rX_len c false fun x hx' => by have := hx c (by simp) x hx'; omega
    have g2 := congrArg List.length h3
    rw [List.length_drop, List.length_append] at g2
    omega
   obtain ⟨j, seen', g1, g2, g3, g4⟩ := cyc_read (l := l) hn c false (l.length + 1) (i + 1) seen [] (rA ls) hlen (hx c (by simp)) hnd.1 hl (fun x hx' => hs x (by simp [flat, hx'])) h3
   rw [par, e, if_pos h1, if_pos h2, g1]
   show par l n m (turnL c c.length 0 p) seen' (j + 1) = _
   rw [par_read hn ls m (j + 1) _ seen' (by simp at hm; omega) (fun d hd => hx d (by simp [hd])) hnd.2.1 g3 (fun x hx' => by
    have hc : x ∉ c := fun k => hnd.2.2 x k x hx' rfl
    have h0 : 0 ≤ x := by
     obtain ⟨d, hd, hxd⟩ := mem_flat hx'
     exact (hx d (by simp [hd]) x hxd).1
    rw [g4 x h0 hc]; exact hs x (by simp [flat, hx'])) g2]
   rfl
end Go.Proofs.YtbgfpacjoneaeaaDoor

namespace Go.Proofs.YtbgfpacjoneaeaaDoor
open Go.Loom
set_option maxRecDepth 100000
theorem rep_false (k : Nat) : (List.replicate 64 false).getD k false = false := by
 rw [List.getD_eq_getElem?_getD, List.getElem?_replicate]; split <;> rfl
theorem flat_nd1 {c : List Int} : ∀ {l : List (List Int)}, (flat l).Nodup → c ∈ l → c.Nodup
 | [], _, h => by cases h
 | d :: l, hn, h => by
   rw [flat, List.nodup_append] at hn
   rcases List.mem_cons.1 h with rfl | h
   · exact hn.1
   · exact flat_nd1 hn.2.1 h
theorem cyc_next {a c : List Int} (hc : IsCyc a c) {i : Nat} (hi : i < c.length) : c.getD ((i + 1) % c.length) 0 = nx a (c.getD i 0) := by
 rcases Nat.lt_or_ge (i + 1) c.length with h | h
 · rw [Nat.mod_eq_of_lt h, hc.step i h]
 · have e : i = c.length - 1 := by omega
   have := hc.back
   rw [← e] at this
   rw [show i + 1 = c.length by omega, Nat.mod_self, this]
theorem turn_goes {a V c : List Int} (hc : IsCyc a c) (hr : ∀ x ∈ c, 0 ≤ x ∧ x < a.length) : ∀ (m i : Nat) (p : List Int), m + i = c.length → p.length = a.length → Goes2 a (V ++ c.take i) p → Goes2 a (V ++ c) (turnL c m i p)
 | 0, i, p, hm, hp, h => by
   rw [turnL]
   rwa [List.take_of_length_le (by omega)] at h
 | m + 1, i, p, hm, hp, h => by
   have hi : i < c.length := by omega
   have hci := hr _ (getD_mem hi)
   rw [turnL]
   refine turn_goes hc hr m (i + 1) _ (by omega) (by simpa using hp) fun x h0 h1 => ?_
   rw [take_succ' hi, cyc_next hc hi, ← List.append_assoc]
   by_cases e : x = c.getD i 0
   · subst e
     rw [if_pos (by simp)]
     show (p.set (c.getD i 0).toNat (nx a (c.getD i 0))).getD (c.getD i 0).toNat 0 = _
     rw [getD_set (by omega), if_pos rfl]
   · have hne : (c.getD i 0).toNat ≠ x.toNat := by omega
     have hn : nx (p.set (c.getD i 0).toNat (nx a (c.getD i 0))) x = nx p x := by
      show (p.set (c.getD i 0).toNat (nx a (c.getD i 0))).getD x.toNat 0 = p.getD x.toNat 0
      rw [getD_set (by omega), if_neg (Ne.symm hne)]
     rw [hn, h x h0 h1]
     simp only [List.mem_append (t := [c.getD i 0]), List.mem_singleton, e, or_false]
theorem goes_id (a : List Int) : Goes2 a [] (idL a.length) := fun x h0 h1 => by
 rw [nx_id h0 h1]; simp
theorem turnAll_len : ∀ (ls : List (List Int)) (p : List Int), (turnAll ls p).length = p.length
 | [], _ => rfl
 | c :: ls, p => by
   show (turnAll ls (turnL c c.length 0 p)).length = _
   rw [turnAll_len ls, turnL_length]
theorem turnAll_goes {a : List Int} : ∀ (ls : List (List Int)) (V p : List Int), (∀ c ∈ ls, IsCyc a c) → (∀ c ∈ ls, ∀ x ∈ c, 0 ≤ x ∧ x < a.length) → p.length = a.length → Goes2 a V p → Goes2 a (V ++ flat ls) (turnAll ls p)
 | [], V, p, _, _, _, h => by rw [flat, List.append_nil]; exact h
 | c :: ls, V, p, hc, hr, hp, h => by
   show Goes2 a _ (turnAll ls (turnL c c.length 0 p))
   rw [flat, ← List.append_assoc]
   refine turnAll_goes ls (V ++ c) _ (fun d hd => hc d (by simp [hd])) (fun d hd => hr d (by simp [hd])) (by rw [turnL_length]; exact hp) ?_
   exact turn_goes (hc c (by simp)) (hr c (by simp)) c.length 0 p (by omega) hp (by simpa using h)
theorem mem_bigs {l : List (List Int)} {c : List Int} : c ∈ bigs l ↔ c ∈ l ∧ 1 < c.length := by simp [bigs]
theorem goes_all {a p : List Int} (h : PermL a) (hp : p.length = a.length) (hg : Goes2 a (flat (bigs (cyclesL a))) p) : p = a := by
 refine ext_nx hp fun k h0 h1 => ?_
 rw [hp] at h1
 rw [hg k h0 h1]
 split
 · rfl
 · rename_i hk
   have C := cyclesL_ok h
   obtain ⟨c, hc, hkc⟩ := C.all k h0 h1
   have I := C.cyc c hc
   have h2 : ¬ 1 < c.length := fun h2 => hk (flat_mem (mem_bigs.2 ⟨hc, h2⟩) hkc)
   have h3 : c.length = 1 := by have := I.pos; omega
   have h4 := I.back
   rw [h3] at h4
   obtain ⟨i, hi, e⟩ := mem_getD hkc
   rw [show i = 0 by omega] at e
   rw [← e]; exact h4.symm
theorem flat_bigs_nodup : ∀ {l : List (List Int)}, (flat l).Nodup → (flat (bigs l)).Nodup := by
 intro l
 have hs : ∀ l : List (List Int), List.Sublist (flat (bigs l)) (flat l) := by
  intro l
  induction l with
  | nil => exact List.Sublist.refl _
  | cons c l ih =>
    by_cases h : 1 < c.length
    · rw [bigs_yes _ h, flat, flat]; exact List.Sublist.append (List.Sublist.refl _) ih
    · rw [bigs_no _ h, flat]; exact ih.trans (List.sublist_append_right _ _)
 exact fun h => h.sublist (hs l)
theorem read_back {a : List Int} (h : PermL a) (hl : a.length ≤ 64) {l : List Int} (hle : l = rA (bigs (cyclesL a))) (m : Nat) (hm : (bigs (cyclesL a)).length < m) :
 par l a.length m (idL a.length) (List.replicate 64 false) 0 = (a, 0, 0) := by
 have C := cyclesL_ok h
 rw [par_read hl (bigs (cyclesL a)) m 0 _ _ hm (fun c hc => C.rng c (mem_bigs.1 hc).1) (flat_bigs_nodup C.nd) (by simp) (fun x _ => rep_false x.toNat) (by rw [hle]; rfl)]
 have hlen : (turnAll (bigs (cyclesL a)) (idL a.length)).length = a.length := by rw [turnAll_len, idL_length]
 have hg := turnAll_goes (a := a) (bigs (cyclesL a)) [] (idL a.length) (fun c hc => C.cyc c (mem_bigs.1 hc).1) (fun c hc => C.rng c (mem_bigs.1 hc).1) (idL_length _) (goes_id a)
 rw [goes_all h hlen (by simpa using hg)]
theorem read_one {a c : List Int} (h : PermL a) (hl : a.length ≤ 64) (hc : c ∈ bigs (cyclesL a)) {l : List Int} (hle : l = 40 :: rX true c) (m : Nat) (hm : 1 < m) :
 ∃ q, par l a.length m (idL a.length) (List.replicate 64 false) 0 = (q, 0, 0) ∧ q.length = a.length ∧ Goes2 a c q := by
 have C := cyclesL_ok h
 have hc1 := (mem_bigs.1 hc).1
 obtain ⟨m', rfl⟩ : ∃ m', m = m' + 2 := ⟨m - 2, by omega⟩
 refine ⟨turnL c c.length 0 (idL a.length), ?_, by rw [turnL_length, idL_length], by simpa using turn_goes (V := []) (C.cyc c hc1) (C.rng c hc1) c.length 0 (idL a.length) (by omega) (idL_length _) (by simpa using goes_id a)⟩
 subst hle
 have hlen : c.length < (40 :: rX true c).length + 1 := by
  have g1 := rX_len c true fun x hx' => by have := C.rng c hc1 x hx'; omega
  simp only [List.length_cons]; omega
 have hnd : c.Nodup := flat_nd1 C.nd hc1
 obtain ⟨j, seen', g1, g2, g3, g4⟩ := cyc_read (l := 40 :: rX true c) hl c true ((40 :: rX true c).length + 1) 1 (List.replicate 64 false) [] [] hlen (C.rng c hc1) hnd (by simp) (fun x _ => rep_false x.toNat) (by simp)
 have e : skipP (40 :: rX true c) 0 = 0 := skipP_no (by simp)
 rw [par, e, if_pos (by simp), if_pos (by simp), g1]
 show par _ _ (m' + 1) (turnL c c.length 0 _) seen' (j + 1) = _
 have hj : (40 :: rX true c).length ≤ j + 1 := by
  have := congrArg List.length g2
  rw [List.length_drop, List.length_nil] at this
  omega
 have e2 : skipP (40 :: rX true c) (j + 1) = j + 1 := skipP_no (by omega)
 rw [par, e2, if_neg (by omega)]
theorem goes_mul {a V c p q : List Int} (hc : IsCyc a c) (hq : q.length = a.length) (hr : ∀ x ∈ c, 0 ≤ x ∧ x < a.length) (hd : ∀ x ∈ c, x ∉ V) (gq : Goes2 a c q) (gp : Goes2 a V p) : Goes2 a (V ++ c) (mulL q p) := by
 intro x h0 h1
 rw [mul_nx h0 (by omega), gq x h0 h1]
 by_cases hx : x ∈ c
 · have hn : nx a x ∈ c := by
    obtain ⟨i, hi, e⟩ := mem_getD hx
    rw [← e, ← cyc_next hc hi]
    exact getD_mem (Nat.mod_lt _ (by omega))
   have hn2 := hr _ hn
   rw [if_pos hx, gp _ hn2.1 hn2.2, if_neg (hd _ hn), if_pos (List.mem_append_right _ hx)]
 · rw [if_neg hx, gp x h0 h1]
   simp only [List.mem_append, hx, or_false]
end Go.Proofs.YtbgfpacjoneaeaaDoor

namespace Go.Proofs.YtbgfpacjoneaeaaDoor
open Go.Loom
set_option maxRecDepth 100000
noncomputable def s21F : Site := mkSiteF Tryd.prog g21 Tryd.f21 1 [([0, 1, 0, 1, 1], [0, 1, 5, 6])] [] [some dI]
theorem permF_loop (l : List Int) (n : Nat) (hn : n ≤ 64) : ∀ (m i : Nat) (p : List Int) (t : Nat), m + i + 1 = n → p.length = n → t + m ≤ 1000000 →
 AtLoop s21F (Says1 (lsI (permG l n m i p t).1) [takO l (permG l n m i p t).2]) [0, 1, 0, 1, 1] (fr [(0, .p (.c (.ptr 0 0))), (1, nI n), (5, slI 1 n), (6, nI i)]) (.ofList [takO l t, obI p])
 | m, i, p, t, hm, hp, ht => by
   refine atLoop_at g21_ok (by kernel_rfl) 100 ?_
   refine of_eq (q := let q0 := IntKind.i64.wrap; let q1 := ((i:Int) + takeV l t (q0 ((n:Int) - (i:Int)))); let q2 := (p.set ((0:Nat) + i) (p.getD ((0:Nat) + (q0 q1).toNat) (0:Int))); let q3 := decide (q0 ((i:Int) + (1:Int)) < (n:Int)); (q3 = true → ((0:Int) ≤ (t:Int) ∧ (t:Int) ≤ (1000000:Int) ∧ q0 ((n:Int) - (i:Int)) ≤ (1000000:Int)) ∧ ((0:Int) ≤ q0 q1 ∧ q0 q1 < (n:Int)) ∧ (0:Nat) + (q0 q1).toNat < p.length ∧ ((0:Int) ≤ (i:Int) ∧ (i:Int) < (n:Int)) ∧ (0:Nat) + i < p.length ∧ ((0:Int) ≤ (i:Int) ∧ (i:Int) < (n:Int)) ∧ (0:Nat) + i < p.length ∧ ((0:Int) ≤ q0 q1 ∧ q0 q1 < (n:Int)) ∧ (0:Nat) + (q0 q1).toNat < q2.length ∧ AtLoop s21F (Says1 (lsI (permG l n m i p t).fst) [takO l (permG l n m i p t).snd]) [0, 1, 0, 1, 1] (fr [(0, A.p (V.c (W.ptr 0 0))), (1, nI (n:Int)), (5, slI 1 n), (6, nI (q0 ((i:Int) + (1:Int))))]) (Sto.ofList [Ob.mk 44 [Fd.c (W.rd (D.int .i64) l), Fd.c (W.int .i64 (↑(takeI l t (q0 ((n:Int) - (i:Int)))) : Int))], obI (q2.set ((0:Nat) + (q0 q1).toNat) (p.getD ((0:Nat) + i) (0:Int)))])) ∧ (q3 = false → (0:Nat) + n ≤ p.length ∧ packV [V.c (W.rd (D.int .i64) (List.take n (List.drop (0:Nat) p)))] = lsI (permG l n m i p t).fst ∧ [Ob.mk 44 [Fd.c (W.rd (D.int .i64) l), Fd.c (W.int .i64 (t:Int))]] = [takO l (permG l n m i p t).snd])) (by kernel_rfl) ?_
   try simp only [Nat.zero_add, decide_eq_true_eq, decide_eq_false_iff_not, Int.not_lt, List.drop_zero]
   have hr := takeV_rng l t (n := (n : Int) - i) (by omega)
   rw [wrap64 (n := (n : Int) - i) (by omega) (by omega), wrap64 (n := (i : Int) + takeV l t ((n : Int) - i)) (by omega) (by omega), wrap64 (n := (i : Int) + 1) (by omega) (by omega)]
   have e : ((i : Int) + takeV l t ((n : Int) - i)).toNat = i + (takeV l t ((n : Int) - i)).toNat := by omega
   have hti := takeI_le l t ((n : Int) - i)
   rw [e]
   refine ⟨fun h => ⟨by omega, by omega, by omega, by omega, by omega, by omega, by omega, by omega, by simp; omega, ?_⟩, fun h => ?_⟩
   · cases m with
     | zero => omega
     | succ m => exact permF_loop l n hn m (i + 1) _ _ (by omega) (by simpa [swapL] using hp) (by omega)
   · have : m = 0 := by omega
     subst this
     refine ⟨by omega, ?_, rfl⟩
     rw [List.take_of_length_le (by omega)]; rfl
theorem permF_sem (l : List Int) (n t : Nat) (hn : 1 ≤ n ∧ n ≤ 64) (ht : t ≤ 900000) : FnSem Tryd.prog 21 [.p (.c (.ptr 0 0)), nI n] [takO l t] (lsI (permN l n t).1) [takO l (permN l n t).2] := by
 refine fnSemF_at (live := [([0, 1, 0, 1, 1], [0, 1, 5, 6])]) (fzl := []) (fz := [some dI]) g21_ok Tryd.func21 (by kernel_rfl) (keep := 1) rfl (by kernel_rfl) 100 ?_
 refine of_eq (q := ((0:Int) ≤ (n:Int) ∧ (n:Int) ≤ (1000000:Int)) ∧ AtLoop (mkSiteF Tryd.prog g21 Tryd.f21 (1:Nat) [([0, 1, 0, 1, 1], [0, 1, 5, 6])] [] [some dI]) (Says1 (lsI (permN l n t).fst) [takO l (permN l n t).snd]) [0, 1, 0, 1, 1] (fr [(0, A.p (V.c (W.ptr 0 0))), (1, nI (n:Int)), (5, slI 1 n), (6, nI (0))]) (Sto.ofList [Ob.mk 44 [Fd.c (W.rd (D.int .i64) l), Fd.c (W.int .i64 (t:Int))], obI (idL n)])) (by kernel_rfl) ?_
 refine ⟨by omega, ?_⟩
 exact permF_loop l n hn.2 (n - 1) 0 (idL n) t (by omega) (idL_length n) (by omega)
def cPermF : Con := { refs := [true, false], f := fun args objs => match args, objs with
 | [.p (.c (.ptr a b)), x], [o] => bif Nat.beq a 0 && Nat.beq b 0 then (match asTak o, asD (.int .i64) x with | some (l, i), some n => some (.p (0 ≤ i ∧ i ≤ 900000 ∧ 1 ≤ (show Int from n) ∧ (show Int from n) ≤ 64), lsI (permN l (show Int from n).toNat i.toNat).1, [takO l (permN l (show Int from n).toNat i.toNat).2]) | _, _ => none) else none
 | _, _ => none }
theorem permF_semI (l : List Int) (i n : Int) (h : 0 ≤ i ∧ i ≤ 900000 ∧ 1 ≤ n ∧ n ≤ 64) : FnSem Tryd.prog 21 [.p (.c (.ptr 0 0)), nI n] [takO l i.toNat] (lsI (permN l n.toNat i.toNat).1) [takO l (permN l n.toNat i.toNat).2] := by
 have := permF_sem l n.toNat i.toNat (by omega) (by omega)
 rwa [show ((n.toNat : Nat) : Int) = n by omega] at this
theorem cPermF_ok : ConOk Tryd.prog 21 cPermF := by
 refine ⟨by kernel_rfl, fun args objs c r objs' e hc => ?_⟩
 simp only [cPermF] at e
 split at e
 · obtain ⟨hb, e⟩ := Mill.bif_some e
   simp only [Bool.and_eq_true, Nat.beq_eq] at hb
   obtain ⟨rfl, rfl⟩ := hb
   split at e
   · rename_i l i n hr hn
     cases e
     rw [asTak_eq hr hc.1]
     exact FnSem.args (permF_semI _ _ _ hc) fun η Z vs hv => match vs, hv with | [_, _], ⟨a, b, c⟩ => ⟨a, asD_rel hn b, c⟩
   · cases e
 · cases e
end Go.Proofs.YtbgfpacjoneaeaaDoor
