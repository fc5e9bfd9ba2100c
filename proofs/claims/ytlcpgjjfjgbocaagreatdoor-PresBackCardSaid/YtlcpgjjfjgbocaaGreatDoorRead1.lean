/- Reading words: what the reader reads, in plain terms. -/
import Derived.Test.YtlcpgjjfjgbocaaGreatDoorWord2
import Derived.Test.YtlcpgjjfjgbocaaGreatDoorWord0
namespace Go.Proofs.YtlcpgjjfjgbocaaGreatDoor
open Go.Loom Go.Words
set_option maxRecDepth 100000
theorem drop_hd {l : List Int} {i : Nat} {x : Int} {r : List Int} (h : l.drop i = x :: r) : i < l.length ∧ l.getD i 0 = x ∧ l.drop (i + 1) = r := by
 have hl : i < l.length := by
  rcases Nat.lt_or_ge i l.length with h1 | h1
  · exact h1
  · rw [List.drop_eq_nil_of_le h1] at h; cases h
 rw [getD_lt hl] at h
 injection h with h1 h2
 exact ⟨hl, h1, h2⟩
theorem drop_end {l : List Int} {i : Nat} (h : l.drop i = []) : ¬ i < l.length := by
 have := List.drop_eq_nil_iff.1 h
 omega
/-! ### The plain reader -/
def dig (c : Int) : Bool := decide (48 ≤ c) && decide (c ≤ 57)
theorem isdig {c : Int} (h : 48 ≤ c ∧ c ≤ 57) : dig c = true := by simp [dig, h]
theorem dig_range {c : Int} (h : dig c = true) : 48 ≤ c ∧ c ≤ 57 := by
 unfold dig at h
 simpa using h
def skipP (l : List Int) (i : Nat) : Nat := if i < l.length ∧ l.getD i 0 = 32 then skipP l (i + 1) else i
 termination_by l.length - i
 decreasing_by omega
def digP (l : List Int) (i : Nat) : Nat := if i < l.length ∧ dig (l.getD i 0) = true then digP l (i + 1) else i
 termination_by l.length - i
 decreasing_by omega
theorem skipP_yes {l : List Int} {i : Nat} (h : i < l.length ∧ l.getD i 0 = 32) : skipP l i = skipP l (i + 1) := by rw [skipP, if_pos h]
theorem skipP_no {l : List Int} {i : Nat} (h : ¬ (i < l.length ∧ l.getD i 0 = 32)) : skipP l i = i := by rw [skipP, if_neg h]
theorem digP_yes {l : List Int} {i : Nat} (h : i < l.length ∧ dig (l.getD i 0) = true) : digP l i = digP l (i + 1) := by rw [digP, if_pos h]
theorem digP_no {l : List Int} {i : Nat} (h : ¬ (i < l.length ∧ dig (l.getD i 0) = true)) : digP l i = i := by rw [digP, if_neg h]
theorem skipP_le (l : List Int) : ∀ (m i : Nat), m = l.length - i → i ≤ l.length → i ≤ skipP l i ∧ skipP l i ≤ l.length
 | m, i, hm, hi => by
   by_cases h : i < l.length ∧ l.getD i 0 = 32
   · rw [skipP_yes h]
     cases m with
     | zero => omega
     | succ m => have := skipP_le l m (i + 1) (by omega) (by omega); omega
   · rw [skipP_no h]; omega
theorem skipP_stop (l : List Int) : ∀ (m i : Nat), m = l.length - i → ¬ (skipP l i < l.length ∧ l.getD (skipP l i) 0 = 32)
 | m, i, hm => by
   by_cases h : i < l.length ∧ l.getD i 0 = 32
   · rw [skipP_yes h]
     cases m with
     | zero => omega
     | succ m => exact skipP_stop l m (i + 1) (by omega)
   · rw [skipP_no h]; exact h
theorem skipP_skipP (l : List Int) (i : Nat) : skipP l (skipP l i) = skipP l i := skipP_no (skipP_stop l _ i rfl)
theorem digP_le (l : List Int) : ∀ (m i : Nat), m = l.length - i → i ≤ l.length → i ≤ digP l i ∧ digP l i ≤ l.length
 | m, i, hm, hi => by
   by_cases h : i < l.length ∧ dig (l.getD i 0) = true
   · rw [digP_yes h]
     cases m with
     | zero => omega
     | succ m => have := digP_le l m (i + 1) (by omega) (by omega); omega
   · rw [digP_no h]; omega
def seesP (l : List Int) (c : Int) (i : Nat) : Bool := decide (skipP l i < l.length ∧ l.getD (skipP l i) 0 = c)
def takeP (l : List Int) (c : Int) (i : Nat) : Nat := if seesP l c i = true then skipP l i + 1 else skipP l i
def expOk (l : List Int) (k : Nat) : Bool := decide (k < digP l k ∧ digP l k ≤ k + 4 ∧ ¬ (k + 1 < digP l k ∧ l.getD k 0 = 48))
def num (l : List Int) : Int := l.foldl (fun v c => v * 10 + (c - 48)) 0
def expV (l : List Int) (k : Nat) : Int := num ((l.drop k).take (digP l k - k))
abbrev Rdr := Nat → Option (List Int × Nat)
def facP (item : Rdr) (l : List Int) : Rdr := fun i => match item i with
 | none => none
 | some (w, j) => if 4000 < w.length then none else if seesP l 94 j = true then
  (if expOk l (takeP l 45 (takeP l 94 j)) = true then
   (if 4000 < expV l (takeP l 45 (takeP l 94 j)) * w.length then none else some (pw (if seesP l 45 (takeP l 94 j) = true then turnW w else w) (expV l (takeP l 45 (takeP l 94 j))).toNat, digP l (takeP l 45 (takeP l 94 j)))) else none)
   else some (w, takeP l 94 j)
def wLoop (fac : Rdr) (l : List Int) : Nat → List Int → Rdr
 | 0, _, _ => none
 | m + 1, acc, i => match fac (skipP l i) with
   | none => none
   | some (w, j) => if 4000 < (acc ++ w).length then none else if seesP l 42 j = true then wLoop fac l m (acc ++ w) (takeP l 42 j) else some (acc ++ w, takeP l 42 j)
def endP (l : List Int) (c : Int) (r : Option (List Int × Nat)) : Option (List Int × Nat) := match r with
 | none => none
 | some (w, k) => if seesP l c k = true then some (w, takeP l c k) else none
def comP (word : Rdr) (l : List Int) : Rdr := fun i => match endP l 44 (word i) with
 | none => none
 | some (x, k) => match word k with
   | none => none
   | some (y, j) => some (turnW x ++ turnW y ++ x ++ y, j)
def letP (g : Int) (l : List Int) : Rdr := fun i => if seesP l 49 i = true then some ([], takeP l 49 i) else
 if skipP l i < l.length ∧ 97 ≤ l.getD (skipP l i) 0 ∧ l.getD (skipP l i) 0 - 97 < g then some ([l.getD (skipP l i) 0 - 96], skipP l i + 1) else none
def itemP (g : Int) (l : List Int) : Nat → Rdr
 | 0, i => if seesP l 40 i = true ∨ seesP l 91 i = true then none else letP g l i
 | d + 1, i => if seesP l 40 i = true then endP l 41 (wLoop (facP (itemP g l d) l) l (l.length + 1) [] (skipP l i + 1))
  else if seesP l 91 i = true then endP l 93 (comP (wLoop (facP (itemP g l d) l) l (l.length + 1) []) l (skipP l i + 1))
  else letP g l i
def wordP (g : Int) (l : List Int) (d : Nat) : Rdr := wLoop (facP (itemP g l d) l) l (l.length + 1) []
def parseP (g : Int) (l : List Int) : Option (List Int) := match wordP g l 50 0 with
 | none => none
 | some (w, j) => if skipP l j < l.length then none else some w
end Go.Proofs.YtlcpgjjfjgbocaaGreatDoor

namespace Go.Proofs.YtlcpgjjfjgbocaaGreatDoor
open Go.Loom Go.Words
set_option maxRecDepth 100000
/-! ### What is seen -/
def StopL (r : List Int) : Prop := r.head? ≠ some 32 ∧ r.head? ≠ some 94 ∧ ∀ t, r.head? = some t → dig t = false
theorem sees_at {l : List Int} {i : Nat} {r : List Int} (h : l.drop i = r) (hr : r.head? ≠ some 32) : skipP l i = i := by
 cases r with
 | nil => have h1 := drop_end h; exact skipP_no (by omega)
 | cons t r =>
   obtain ⟨a1, a2, a3⟩ := drop_hd h
   exact skipP_no (by rintro ⟨_, h4⟩; rw [a2] at h4; simp [h4] at hr)
theorem sees_yes {l : List Int} {i : Nat} {c : Int} {r : List Int} (h : l.drop i = c :: r) (hc : c ≠ 32) : skipP l i = i ∧ seesP l c i = true ∧ takeP l c i = i + 1 ∧ l.drop (i + 1) = r := by
 obtain ⟨a1, a2, a3⟩ := drop_hd h
 have h2 := sees_at h (by simpa using hc)
 have h3 : seesP l c i = true := by unfold seesP; rw [h2, a2]; simp [a1]
 exact ⟨h2, h3, by unfold takeP; rw [h3, if_pos rfl, h2], a3⟩
theorem sees_no {l : List Int} {i : Nat} {r : List Int} (c : Int) (h : l.drop i = r) (hr : r.head? ≠ some 32) (hc : r.head? ≠ some c) : seesP l c i = false ∧ takeP l c i = i := by
 have h2 := sees_at h hr
 have h3 : seesP l c i = false := by
  unfold seesP; rw [h2]
  cases r with
  | nil => have := drop_end h; simp [this]
  | cons t r =>
    obtain ⟨a1, a2, a3⟩ := drop_hd h
    rw [a2]
    simp only [decide_eq_false_iff_not, not_and]
    intro _ h4
    simp [h4] at hc
 exact ⟨h3, by unfold takeP; rw [h3, if_neg (by simp), h2]⟩
def decL (x : Nat) : List Int := if x < 10 then [48 + (x : Int)] else [48 + ((x / 10 : Nat) : Int), 48 + ((x % 10 : Nat) : Int)]
theorem decL_head (x : Nat) (hx : x < 100) (r : List Int) : ∃ t, (decL x ++ r).head? = some t ∧ 48 ≤ t ∧ t ≤ 57 := by
 unfold decL
 split
 · exact ⟨_, rfl, by omega, by omega⟩
 · exact ⟨_, rfl, by omega, by omega⟩
theorem dig_stop {l : List Int} {i : Nat} {r : List Int} (h : l.drop i = r) (hr : ∀ t, r.head? = some t → dig t = false) : digP l i = i := by
 cases r with
 | nil => have := drop_end h; exact digP_no (by omega)
 | cons t r =>
   obtain ⟨a1, a2, a3⟩ := drop_hd h
   exact digP_no (by rw [a2, hr t rfl]; simp)
theorem dec_read {l : List Int} {i x : Nat} {r : List Int} (hx : x < 100) (hr : ∀ t, r.head? = some t → dig t = false) (h : l.drop i = decL x ++ r) :
 digP l i = i + (decL x).length ∧ expV l i = x ∧ expOk l i = true ∧ l.drop (i + (decL x).length) = r := by
 unfold expOk expV
 unfold decL at h ⊢
 split at h
 · rename_i h10
   rw [if_pos h10]
   obtain ⟨a1, a2, a3⟩ := drop_hd h
   have d1 : dig (l.getD i 0) = true := by rw [a2]; exact isdig (by omega)
   have e1 : digP l i = i + 1 := by rw [digP_yes ⟨a1, d1⟩, dig_stop a3 hr]
   refine ⟨e1, ?_, by rw [e1]; simp, a3⟩
   rw [h, e1, show i + 1 - i = 1 by omega]
   simp [num]; omega
 · rename_i h10
   rw [if_neg h10]
   obtain ⟨a1, a2, a3⟩ := drop_hd h
   obtain ⟨b1, b2, b3⟩ := drop_hd a3
   have d1 : dig (l.getD i 0) = true := by rw [a2]; exact isdig (by omega)
   have d2 : dig (l.getD (i + 1) 0) = true := by rw [b2]; exact isdig (by omega)
   have e1 : digP l i = i + 2 := by rw [digP_yes ⟨a1, d1⟩, digP_yes ⟨b1, d2⟩, dig_stop b3 hr]
   refine ⟨e1, ?_, ?_, b3⟩
   · rw [h, e1, show i + 2 - i = 2 by omega]
     simp [num]; omega
   · rw [e1, a2]; simp; omega
/-! ### Texts -/
def runLen (x : Int) : List Int → Nat
 | [] => 0
 | y :: l => if y = x then runLen x l + 1 else 0
theorem runLen_le (x : Int) : ∀ l : List Int, runLen x l ≤ l.length
 | [] => Nat.le_refl _
 | y :: l => by
   have := runLen_le x l
   unfold runLen
   split <;> simp <;> omega
theorem runLen_take (x : Int) : ∀ l : List Int, l.take (runLen x l) = List.replicate (runLen x l) x
 | [] => rfl
 | y :: l => by
   unfold runLen
   split
   · rename_i h
     subst h
     rw [List.take_succ_cons, runLen_take, List.replicate_succ]
   · rfl
def runsL : List Int → List (List Int)
 | [] => []
 | x :: l => [x, ((runLen x l + 1 : Nat) : Int)] :: runsL (l.drop (runLen x l))
 termination_by l => l.length
 decreasing_by simp; omega
def pieceL (x : Int) (n : Nat) : List Int := (96 + (x.natAbs : Int)) :: (if x < 0 then 94 :: 45 :: decL n else if 1 < n then 94 :: decL n else [])
def pieceY (y : List Int) : List Int := pieceL (y.getD 0 0) (y.getD 1 0).toNat
def joinL : List (List Int) → List Int
 | [] => []
 | [p] => p
 | p :: q :: r => p ++ 42 :: joinL (q :: r)
def textL (a : List Int) : List Int := if a = [] then [49] else joinL ((runsL a).map pieceY)
def flatY : List (List Int) → List Int
 | [] => []
 | y :: l => List.replicate (y.getD 1 0).toNat (y.getD 0 0) ++ flatY l
def GoodY (g : Int) (y : List Int) : Prop := ∃ (x : Int) (n : Nat), y = [x, (n : Int)] ∧ x ≠ 0 ∧ (x.natAbs : Int) ≤ g ∧ 1 ≤ n ∧ n < 100
def GoodW (g : Int) (a : List Int) : Prop := ∀ x ∈ a, x ≠ 0 ∧ (x.natAbs : Int) ≤ g
theorem runs_good {g : Int} : ∀ (n : Nat) (a : List Int), a.length ≤ n → n < 100 → GoodW g a → ∀ y ∈ runsL a, GoodY g y
 | _, [], _, _, _, y, hy => by rw [runsL] at hy; cases hy
 | 0, x :: l, h, _, _, _, _ => by simp at h
 | n + 1, x :: l, h, hn, hg, y, hy => by
   have hl := runLen_le x l
   simp only [List.length_cons] at h
   rw [runsL] at hy
   rcases List.mem_cons.1 hy with rfl | hy
   · obtain ⟨h1, h2⟩ := hg x (by simp)
     exact ⟨x, _, rfl, h1, h2, by omega, by omega⟩
   · exact runs_good n _ (by simp; omega) (by omega) (fun z hz => hg z (by simp [List.mem_of_mem_drop hz])) y hy
theorem flat_runs : ∀ (n : Nat) (a : List Int), a.length ≤ n → flatY (runsL a) = a
 | _, [], _ => by rw [runsL]; rfl
 | 0, x :: l, h => by simp at h
 | n + 1, x :: l, h => by
   simp only [List.length_cons] at h
   rw [runsL, flatY, flat_runs n _ (by simp; omega)]
   show List.replicate ((runLen x l + 1 : Nat) : Int).toNat x ++ _ = _
   rw [Int.toNat_natCast, List.replicate_succ, List.cons_append, ← runLen_take, List.take_append_drop]
theorem runs_ne {a : List Int} (h : a ≠ []) : runsL a ≠ [] := by
 cases a with
 | nil => exact absurd rfl h
 | cons x l => rw [runsL]; simp
theorem join_len : ∀ ys : List (List Int), ys.length ≤ (joinL (ys.map pieceY)).length
 | [] => Nat.le_refl _
 | [y] => by simp [joinL, pieceY, pieceL]
 | y :: z :: r => by
   have := join_len (z :: r)
   simp only [List.map_cons, joinL, List.length_append, List.length_cons] at this ⊢
   omega
/-! ### Reading them -/
theorem pw_one (x : Int) : ∀ n : Nat, pw [x] n = List.replicate n x
 | 0 => rfl
 | n + 1 => by rw [pw, pw_one x n]; rfl
theorem turnW_one {x : Int} (h : 0 ≤ x ∧ x ≤ 1000) : turnW [x] = [-x] := by
 simp only [turnW, List.map_cons, List.map_nil, List.reverse_cons, List.reverse_nil, List.nil_append]
 rw [wrap64 (by omega) (by omega), Int.zero_sub]
theorem let_read {l : List Int} {i : Nat} {g x : Int} {r : List Int} (hg : g ≤ 16) (hx : x ≠ 0 ∧ (x.natAbs : Int) ≤ g) (h : l.drop i = (96 + (x.natAbs : Int)) :: r) (d : Nat) : itemP g l d i = some ([(x.natAbs : Int)], i + 1) ∧ l.drop (i + 1) = r := by
 obtain ⟨a1, a2, a3⟩ := drop_hd h
 have n32 : 96 + (x.natAbs : Int) ≠ 32 := by omega
 have s1 := sees_at h (by simpa using n32)
 have s4 := (sees_no 40 h (by simpa using n32) (by simp; omega)).1
 have s5 := (sees_no 91 h (by simpa using n32) (by simp; omega)).1
 have s6 := (sees_no 49 h (by simpa using n32) (by simp; omega)).1
 have e : letP g l i = some ([(x.natAbs : Int)], i + 1) := by
  unfold letP
  rw [s6, if_neg (by simp), s1, a2, if_pos ⟨a1, by omega, by omega⟩, show 96 + (x.natAbs : Int) - 96 = x.natAbs by omega]
 refine ⟨?_, a3⟩
 cases d with
 | zero => rw [itemP, s4, s5, e]; simp
 | succ d => rw [itemP, s4, s5, e]; simp
theorem fac_read {l : List Int} {i : Nat} {g x : Int} {n : Nat} {r : List Int} (hg : g ≤ 16) (hx : x ≠ 0 ∧ (x.natAbs : Int) ≤ g) (hn : 1 ≤ n ∧ n < 100) (hr : StopL r) (h : l.drop i = pieceL x n ++ r) (d : Nat) : ∃ j, facP (itemP g l d) l i = some (List.replicate n x, j) ∧ l.drop j = r := by
 unfold pieceL at h
 rw [List.cons_append] at h
 obtain ⟨e1, e2⟩ := let_read hg hx h d
 unfold facP
 rw [e1]
 dsimp only
 rw [if_neg (by simp)]
 by_cases hneg : x < 0
 · rw [if_pos hneg] at e2
   simp only [List.cons_append] at e2
   obtain ⟨_, b2, b3, c0⟩ := sees_yes e2 (by decide)
   obtain ⟨_, c2, c3, d0⟩ := sees_yes c0 (by decide)
   obtain ⟨f1, f2, f3, f4⟩ := dec_read hn.2 hr.2.2 d0
   rw [b2, if_pos rfl, b3, c2, c3, f3, if_pos rfl, f2, if_neg (by simp; omega), if_pos rfl, f1, turnW_one (by omega), pw_one, Int.toNat_natCast, show -(x.natAbs : Int) = x by omega]
   exact ⟨_, rfl, f4⟩
 · rw [if_neg hneg] at e2
   have hxa : (x.natAbs : Int) = x := by omega
   by_cases h1 : 1 < n
   · rw [if_pos h1, List.cons_append] at e2
     obtain ⟨_, b2, b3, c0⟩ := sees_yes e2 (by decide)
     obtain ⟨t, ht, ht1, ht2⟩ := decL_head n hn.2 r
     obtain ⟨c2, c3⟩ := sees_no 45 c0 (by rw [ht]; simp; omega) (by rw [ht]; simp; omega)
     obtain ⟨f1, f2, f3, f4⟩ := dec_read hn.2 hr.2.2 c0
     rw [b2, if_pos rfl, b3, c2, c3, f3, if_pos rfl, f2, if_neg (by simp; omega), if_neg (by simp), f1, pw_one, Int.toNat_natCast, hxa]
     exact ⟨_, rfl, f4⟩
   · rw [if_neg h1, List.nil_append] at e2
     obtain ⟨b2, b3⟩ := sees_no 94 e2 hr.1 hr.2.1
     rw [b2, if_neg (by simp), b3, hxa, show n = 1 by omega]
     exact ⟨_, rfl, e2⟩
theorem piece_head (x : Int) (n : Nat) (r : List Int) : (pieceL x n ++ r).head? = some (96 + (x.natAbs : Int)) := rfl
theorem loop_read {l : List Int} {g : Int} (hg : g ≤ 16) (d : Nat) : ∀ (ys : List (List Int)) (m i : Nat) (acc r : List Int), ys ≠ [] → ys.length ≤ m → (∀ y ∈ ys, GoodY g y) → (acc ++ flatY ys).length ≤ 4000 → StopL r → r.head? ≠ some 42 → l.drop i = joinL (ys.map pieceY) ++ r →
 ∃ j, wLoop (facP (itemP g l d) l) l m acc i = some (acc ++ flatY ys, j) ∧ l.drop j = r
 | [], _, _, _, _, h, _, _, _, _, _, _ => absurd rfl h
 | y :: ys, 0, _, _, _, _, h, _, _, _, _, _ => by simp at h
 | [y], m + 1, i, acc, r, _, _, hy, hl, hr, h42, h => by
   obtain ⟨x, n, rfl, hx0, hxg, hn1, hn2⟩ := hy y (by simp)
   have h' : l.drop i = pieceL x n ++ r := h
   have s1 := sees_at h' (by rw [piece_head]; simp; omega)
   obtain ⟨j, e1, e2⟩ := fac_read hg ⟨hx0, hxg⟩ ⟨hn1, hn2⟩ hr h' d
   obtain ⟨b2, b3⟩ := sees_no 42 e2 hr.1 h42
   have hf : flatY [[x, (n : Int)]] = List.replicate n x := by simp [flatY]
   rw [hf] at hl ⊢
   rw [wLoop, s1, e1]
   dsimp only
   rw [if_neg (by omega), b2, if_neg (by simp), b3]
   exact ⟨_, rfl, e2⟩
 | y :: z :: ys, m + 1, i, acc, r, _, hm, hy, hl, hr, h42, h => by
   obtain ⟨x, n, rfl, hx0, hxg, hn1, hn2⟩ := hy y (by simp)
   have h' : l.drop i = pieceL x n ++ (42 :: (joinL ((z :: ys).map pieceY) ++ r)) := by
    rw [h]; simp [joinL, pieceY]
   have s1 := sees_at h' (by rw [piece_head]; simp; omega)
   obtain ⟨j, e1, e2⟩ := fac_read hg ⟨hx0, hxg⟩ ⟨hn1, hn2⟩ ⟨by simp, by simp, by simp [dig]⟩ h' d
   obtain ⟨_, b2, b3, e5⟩ := sees_yes e2 (by decide)
   have hf : flatY ([x, (n : Int)] :: z :: ys) = List.replicate n x ++ flatY (z :: ys) := by simp [flatY]
   rw [hf, ← List.append_assoc] at hl ⊢
   obtain ⟨k, k1, k2⟩ := loop_read hg d (z :: ys) m (j + 1) (acc ++ List.replicate n x) r (by simp) (by simpa using hm) (fun y hy' => hy y (by simp [hy'])) hl hr h42 e5
   rw [wLoop, s1, e1]
   dsimp only
   rw [if_neg (by rw [List.length_append] at hl; omega), b2, if_pos rfl, b3]
   exact ⟨k, k1, k2⟩
theorem one_read {l : List Int} {g : Int} (d m i : Nat) {r : List Int} (hr : StopL r) (h42 : r.head? ≠ some 42) (h : l.drop i = 49 :: r) : ∃ j, wLoop (facP (itemP g l d) l) l (m + 1) [] i = some ([], j) ∧ l.drop j = r := by
 obtain ⟨s1, s2, s3, a3⟩ := sees_yes h (by decide)
 have s4 := (sees_no 40 h (by simp) (by simp)).1
 have s5 := (sees_no 91 h (by simp) (by simp)).1
 have e : letP g l i = some ([], i + 1) := by
  unfold letP
  rw [s2, s3, if_pos rfl]
 have e2 : itemP g l d i = some ([], i + 1) := by
  cases d with
  | zero => rw [itemP, s4, s5, e]; simp
  | succ d => rw [itemP, s4, s5, e]; simp
 obtain ⟨b2, b3⟩ := sees_no 94 a3 hr.1 hr.2.1
 obtain ⟨c2, c3⟩ := sees_no 42 a3 hr.1 h42
 have e3 : facP (itemP g l d) l i = some ([], i + 1) := by
  unfold facP
  rw [e2]
  dsimp only
  rw [if_neg (by simp), b2, if_neg (by simp), b3]
 rw [wLoop, s1, e3]
 dsimp only
 rw [if_neg (by simp), c2, if_neg (by simp), c3]
 exact ⟨_, rfl, a3⟩
theorem word_read {l : List Int} {g : Int} (hg : g ≤ 16) (d i : Nat) {a r : List Int} (ha : GoodW g a) (hl : a.length < 100) (hr : StopL r) (h42 : r.head? ≠ some 42) (h : l.drop i = textL a ++ r) : ∃ j, wordP g l d i = some (a, j) ∧ l.drop j = r := by
 unfold textL at h
 by_cases ha0 : a = []
 · rw [if_pos ha0] at h
   subst ha0
   exact one_read d _ i hr h42 h
 · rw [if_neg ha0] at h
   have hf := flat_runs _ a (Nat.le_refl _)
   have := join_len (runsL a)
   have hll : (l.drop i).length = _ := congrArg List.length h
   rw [List.length_drop, List.length_append] at hll
   obtain ⟨j, e1, e2⟩ := loop_read hg d (runsL a) (l.length + 1) i [] r (runs_ne ha0) (by omega) (runs_good _ a (Nat.le_refl _) hl ha) (by rw [hf]; simp; omega) hr h42 h
   rw [hf] at e1
   exact ⟨j, e1, e2⟩
theorem stop_nil : StopL [] := ⟨by simp, by simp, by simp⟩
theorem parse_end {l : List Int} {j : Nat} (h : l.drop j = []) : ¬ skipP l j < l.length := by
 have h1 := drop_end h
 rw [skipP_no (by omega)]; omega
theorem parse_text {g : Int} (hg : g ≤ 16) {a : List Int} (ha : GoodW g a) (hl : a.length < 100) : parseP g (textL a) = some a := by
 obtain ⟨j, e1, e2⟩ := word_read (l := textL a) hg 50 0 ha hl stop_nil (by simp) (by simp)
 unfold parseP
 rw [e1]
 dsimp only
 rw [if_neg (parse_end e2)]
end Go.Proofs.YtlcpgjjfjgbocaaGreatDoor
