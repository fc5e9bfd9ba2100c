/- Reading presentations, in plain terms: what is read, and that reading a presentation's text gives the presentation. -/
import Derived.Test.YtlcpgjjfjgbocaaGreatDoorText1
namespace Go.Proofs.YtlcpgjjfjgbocaaGreatDoor
open Go.Loom Go.Words
set_option maxRecDepth 100000
/-! ### Blanks -/
def bl (k : Nat) : List Int := List.replicate k 32
theorem skip_bl {l r : List Int} : ∀ (k i : Nat), l.drop i = bl k ++ r → r.head? ≠ some 32 → skipP l i = i + k ∧ l.drop (i + k) = r
 | 0, i, h, hr => ⟨sees_at h hr, h⟩
 | k + 1, i, h, hr => by
   obtain ⟨a1, a2, a3⟩ := drop_hd (show l.drop i = 32 :: (bl k ++ r) from h)
   obtain ⟨b1, b2⟩ := skip_bl k (i + 1) a3 hr
   rw [skipP_yes ⟨a1, a2⟩, b1]
   exact ⟨by omega, by rw [← b2]; congr 1; omega⟩
theorem sees_bl {l r : List Int} {c : Int} (k i : Nat) (h : l.drop i = bl k ++ c :: r) (hc : c ≠ 32) : seesP l c i = true ∧ skipP l i = i + k ∧ takeP l c i = i + k + 1 ∧ l.drop (i + k + 1) = r ∧ i + k < l.length := by
 obtain ⟨b1, b2⟩ := skip_bl k i h (by simpa using hc)
 obtain ⟨a1, a2, a3⟩ := drop_hd b2
 have h3 : seesP l c i = true := by unfold seesP; rw [b1, a2]; simp [a1]
 exact ⟨h3, b1, by unfold takeP; rw [h3, if_pos rfl, b1], a3, a1⟩
theorem sees_bl_no {l r : List Int} (c : Int) (k i : Nat) (h : l.drop i = bl k ++ r) (hr : r.head? ≠ some 32) (hc : r.head? ≠ some c) : seesP l c i = false ∧ skipP l i = i + k := by
 obtain ⟨b1, b2⟩ := skip_bl k i h hr
 refine ⟨?_, b1⟩
 unfold seesP
 rw [b1]
 cases r with
 | nil => have := drop_end b2; simp [this]
 | cons t r =>
   obtain ⟨a1, a2, a3⟩ := drop_hd b2
   rw [a2]
   simp only [decide_eq_false_iff_not, not_and]
   intro _ h4
   simp [h4] at hc
/-! ### The letters -/
def letsP (l : List Int) : Nat → Nat → Nat → Option (Nat × Nat)
 | 0, _, _ => none
 | m + 1, g, i => if seesP l (97 + (g : Int)) i = true then
  (if g + 1 = 16 then some (16, takeP l (97 + (g : Int)) i) else if seesP l 44 (takeP l (97 + (g : Int)) i) = true then letsP l m (g + 1) (takeP l 44 (takeP l (97 + (g : Int)) i)) else some (g + 1, skipP l (takeP l (97 + (g : Int)) i)))
   else none
def letT (k : Nat) : Nat → Nat → List Int
 | _, 0 => []
 | g, 1 => [97 + (g : Int)]
 | g, n + 2 => (97 + (g : Int)) :: (bl k ++ (44 :: 32 :: letT k (g + 1) (n + 1)))
theorem lets_read {l : List Int} (k : Nat) (r : List Int) : ∀ (n m g a i : Nat), n + 1 ≤ m → g + n + 1 ≤ 16 → l.drop i = bl a ++ (letT k g (n + 1) ++ (32 :: (bl k ++ 124 :: r))) →
 ∃ j b, letsP l m g i = some (g + n + 1, j) ∧ l.drop j = bl b ++ 124 :: r
 | _, 0, _, _, _, h, _, _ => by omega
 | 0, m + 1, g, a, i, _, hg, h => by
   obtain ⟨s1, s2, s3, s4, _⟩ := sees_bl (c := 97 + (g : Int)) a i h (by omega)
   have s4' : l.drop (i + a + 1) = bl (k + 1) ++ 124 :: r := s4
   unfold letsP
   rw [s1, if_pos rfl, s3]
   by_cases h16 : g + 1 = 16
   · rw [if_pos h16]
     exact ⟨_, k + 1, by rw [show g + 0 + 1 = 16 by omega], s4'⟩
   · rw [if_neg h16]
     obtain ⟨n1, n2⟩ := sees_bl_no 44 (k + 1) (i + a + 1) s4' (by simp) (by simp)
     rw [n1, if_neg (by simp), n2]
     obtain ⟨_, b2⟩ := skip_bl (k + 1) (i + a + 1) s4' (by simp)
     exact ⟨_, 0, rfl, b2⟩
 | n + 1, m + 1, g, a, i, hm, hg, h => by
   have h' : l.drop i = bl a ++ (97 + (g : Int)) :: (bl k ++ 44 :: (bl 1 ++ (letT k (g + 1) (n + 1) ++ (32 :: (bl k ++ 124 :: r))))) := by rw [h]; simp [letT, bl]
   obtain ⟨s1, s2, s3, s4, _⟩ := sees_bl (c := 97 + (g : Int)) a i h' (by omega)
   obtain ⟨t1, t2, t3, t4, _⟩ := sees_bl (c := 44) k (i + a + 1) s4 (by decide)
   obtain ⟨j, b, e1, e2⟩ := lets_read k r n m (g + 1) 1 (i + a + 1 + k + 1) (by omega) (by omega) t4
   refine ⟨j, b, ?_, e2⟩
   rw [letsP, s1, if_pos rfl, s3, if_neg (by omega), t1, if_pos rfl, t3, e1, show g + 1 + n + 1 = g + (n + 1) + 1 by omega]
/-! ### Pieces -/
def nextD (c d : Int) : Int := if c = 44 ∨ c = 61 ∨ c = 62 then d else if c = 91 then d + 1 else if c = 93 then d - 1 else d
def stopC (c d : Int) : Prop := (c = 44 ∨ c = 61 ∨ c = 62) ∧ d = 0
instance (c d : Int) : Decidable (stopC c d) := by unfold stopC; infer_instance
def scanP (l : List Int) (i : Nat) (d : Int) : Nat := if i < l.length then (if stopC (l.getD i 0) d then i else scanP l (i + 1) (nextD (l.getD i 0) d)) else i
 termination_by l.length - i
 decreasing_by omega
theorem scan_end {l : List Int} {i : Nat} (d : Int) (h : ¬ i < l.length) : scanP l i d = i := by rw [scanP, if_neg h]
theorem scan_stop {l : List Int} {i : Nat} {d : Int} (h : i < l.length) (hs : stopC (l.getD i 0) d) : scanP l i d = i := by rw [scanP, if_pos h, if_pos hs]
theorem scan_go {l : List Int} {i : Nat} {d : Int} (h : i < l.length) (hs : ¬ stopC (l.getD i 0) d) : scanP l i d = scanP l (i + 1) (nextD (l.getD i 0) d) := by rw [scanP, if_pos h, if_neg hs]
def trimN (l : List Int) : Nat → Nat
 | 0 => 0
 | n + 1 => if l.getD n 0 = 32 then trimN l n else n + 1
theorem trimN_le (l : List Int) : ∀ n, trimN l n ≤ n
 | 0 => Nat.le_refl _
 | n + 1 => by
   rw [trimN]
   split
   · exact Nat.le_succ_of_le (trimN_le l n)
   · exact Nat.le_refl _
def trimR (l : List Int) : List Int := l.take (trimN l l.length)
def seg (l : List Int) (i j : Nat) : List Int := (l.drop i).take (j - i)
def pieceP (g : Int) (l : List Int) (i : Nat) : Option (List Int × Nat) := match parseP g (trimR (seg l (skipP l i) (scanP l (skipP l i) 0))) with
 | some w => some (w, scanP l (skipP l i) 0)
 | none => none
def relP (g : Int) (l : List Int) (i : Nat) : Option (List Int × Nat) := match pieceP g l i with
 | some (w, j) => if j < l.length ∧ l.getD j 0 ≠ 61 then some (w, j) else none
 | none => none
def relsP (g : Int) (l : List Int) : Nat → Nat → List (List Int) → Nat → Option (List (List Int) × Nat)
 | 0, _, _, _ => none
 | m + 1, left, rs, i => match relP g l i with
   | some (w, j) => if rs.length < 100 ∧ w.length ≤ left then (if l.getD j 0 = 44 then relsP g l m (left - w.length) (rs ++ [w]) (j + 1) else some (rs ++ [w], j)) else none
   | none => none
def Plain (T : List Int) : Prop := ∀ c ∈ T, c ≠ 32 ∧ c ≠ 44 ∧ c ≠ 61 ∧ c ≠ 62 ∧ c ≠ 91 ∧ c ≠ 93 ∧ c ≠ 124
theorem Plain.app {S T : List Int} (h : Plain S) (g : Plain T) : Plain (S ++ T) := fun c hc => (List.mem_append.1 hc).elim (h c) (g c)
theorem Plain.cons {c : Int} {T : List Int} (h : c ≠ 32 ∧ c ≠ 44 ∧ c ≠ 61 ∧ c ≠ 62 ∧ c ≠ 91 ∧ c ≠ 93 ∧ c ≠ 124) (g : Plain T) : Plain (c :: T) := by
 intro x hx
 rcases List.mem_cons.1 hx with rfl | hx
 · exact h
 · exact g x hx
theorem plain_nil : Plain [] := fun _ h => by cases h
theorem plain_dec (n : Nat) (hn : n < 100) : Plain (decL n) := by
 unfold decL
 split
 · exact Plain.cons (by omega) plain_nil
 · exact Plain.cons (by omega) (Plain.cons (by omega) plain_nil)
theorem plain_piece {x : Int} {n : Nat} (h0 : x ≠ 0) (hx : (x.natAbs : Int) ≤ 16) (hn : n < 100) : Plain (pieceL x n) := by
 unfold pieceL
 refine Plain.cons (by omega) ?_
 split
 · exact Plain.cons (by decide) (Plain.cons (by decide) (plain_dec n hn))
 · split
   · exact Plain.cons (by decide) (plain_dec n hn)
   · exact plain_nil
theorem plain_join : ∀ ps : List (List Int), (∀ p ∈ ps, Plain p) → Plain (joinL ps)
 | [], _ => plain_nil
 | [p], h => h p (by simp)
 | p :: q :: r, h => by
   rw [joinL]
   exact (h p (by simp)).app (Plain.cons (by decide) (plain_join (q :: r) fun x hx => h x (by simp [hx])))
theorem plain_text {a : List Int} (ha : GoodW 16 a) (hl : a.length < 100) : Plain (textL a) := by
 unfold textL
 split
 · exact Plain.cons (by decide) plain_nil
 · refine plain_join _ fun p hp => ?_
   obtain ⟨y, hy, rfl⟩ := List.mem_map.1 hp
   obtain ⟨x, n, rfl, h1, h2, h3, h4⟩ := runs_good _ a (Nat.le_refl _) hl ha y hy
   exact plain_piece h1 h2 h4
theorem join_ne : ∀ ps : List (List Int), ps ≠ [] → (∀ p ∈ ps, p ≠ []) → joinL ps ≠ []
 | [], h, _ => absurd rfl h
 | [p], _, h => h p (by simp)
 | p :: q :: r, _, _ => by rw [joinL]; simp
theorem text_ne (a : List Int) : textL a ≠ [] := by
 unfold textL
 split
 · simp
 · rename_i h
   refine join_ne _ (by simpa using runs_ne h) fun p hp => ?_
   obtain ⟨y, _, rfl⟩ := List.mem_map.1 hp
   simp [pieceY, pieceL]
theorem scan_plain {l r : List Int} {c : Int} (hc : c = 44 ∨ c = 62) (k : Nat) : ∀ (T : List Int) (i : Nat), Plain T → l.drop i = T ++ (bl k ++ c :: r) → scanP l i 0 = i + T.length + k
 | [], i, _, h => by
   have key : ∀ (k i : Nat), l.drop i = bl k ++ c :: r → scanP l i 0 = i + k := by
    intro k
    induction k with
    | zero =>
      intro i h
      obtain ⟨a1, a2, a3⟩ := drop_hd (show l.drop i = c :: r from h)
      rw [scan_stop a1 (by rw [a2]; unfold stopC; omega)]; rfl
    | succ k ih =>
      intro i h
      obtain ⟨a1, a2, a3⟩ := drop_hd (show l.drop i = 32 :: (bl k ++ c :: r) from h)
      rw [scan_go a1 (by rw [a2]; unfold stopC; omega), a2, show nextD 32 0 = 0 from rfl, ih _ a3]
      omega
   have := key k i h
   simpa using this
 | t :: T, i, hT, h => by
   obtain ⟨a1, a2, a3⟩ := drop_hd (show l.drop i = t :: (T ++ (bl k ++ c :: r)) from h)
   obtain ⟨h1, h2, h3, h4, h5, h6, h7⟩ := hT t (by simp)
   have hn : nextD t 0 = 0 := by unfold nextD; rw [if_neg (by omega), if_neg h5, if_neg h6]
   rw [scan_go a1 (by rw [a2]; unfold stopC; omega), a2, hn, scan_plain hc k T (i + 1) (fun x hx => hT x (by simp [hx])) a3]
   simp; omega
theorem trim_app (T : List Int) (hT : T ≠ []) (hl : ∀ c ∈ T, c ≠ 32) : ∀ k, trimN (T ++ bl k) (T.length + k) = T.length := by
 have key : ∀ (k m : Nat), k ≤ m → trimN (T ++ bl m) (T.length + k) = T.length := by
  intro k
  induction k with
  | zero =>
    intro m _
    obtain ⟨n, hn⟩ : ∃ n, T.length = n + 1 := ⟨T.length - 1, by have := List.length_pos_iff.2 hT; omega⟩
    have hlt : n < T.length := by omega
    have e : (T ++ bl m).getD n 0 = T[n] := by
     rw [List.getD_eq_getElem?_getD, List.getElem?_append_left hlt, List.getElem?_eq_getElem hlt]; rfl
    rw [Nat.add_zero, hn, trimN, e, if_neg (hl _ (List.getElem_mem hlt))]
  | succ k ih =>
    intro m hk
    have e : (T ++ bl m).getD (T.length + k) 0 = 32 := by
     rw [List.getD_eq_getElem?_getD, List.getElem?_append_right (by omega)]
     unfold bl
     rw [List.getElem?_replicate_of_lt (by omega)]; rfl
    rw [← Nat.add_assoc, trimN, e, if_pos rfl, ih m (by omega)]
 exact fun k => key k k (Nat.le_refl _)
theorem trimR_app {T : List Int} (hT : T ≠ []) (hl : Plain T) (k : Nat) : trimR (T ++ bl k) = T := by
 unfold trimR
 have e : (T ++ bl k).length = T.length + k := by simp [bl]
 rw [e, trim_app T hT (fun c hc => (hl c hc).1) k, List.take_left']
 rfl
theorem rel_read {l r : List Int} {g : Int} (hg : g ≤ 16) {w : List Int} (hw : GoodW g w) (hl : w.length < 100) {c : Int} (hc : c = 44 ∨ c = 62) (a k i : Nat) (h : l.drop i = bl a ++ (textL w ++ (bl k ++ c :: r))) :
 ∃ j, relP g l i = some (w, j) ∧ l.drop j = c :: r := by
 have hw16 : GoodW 16 w := fun x hx => ⟨(hw x hx).1, by have := (hw x hx).2; omega⟩
 have hpl := plain_text hw16 hl
 have hne := text_ne w
 have h32 : (textL w ++ (bl k ++ c :: r)).head? ≠ some 32 := by
  cases hT : textL w with
  | nil => exact absurd hT hne
  | cons t T =>
    rw [hT] at hpl
    have := (hpl t (by simp)).1
    simpa using this
 obtain ⟨b1, b2⟩ := skip_bl a i h h32
 have hs := scan_plain hc k (textL w) (i + a) hpl b2
 have hseg : seg l (i + a) (i + a + (textL w).length + k) = textL w ++ bl k := by
  unfold seg
  rw [b2, ← List.append_assoc, show i + a + (textL w).length + k - (i + a) = (textL w ++ bl k).length by simp [bl]; omega, List.take_left']
  rfl
 have hd : l.drop (i + a + (textL w).length + k) = c :: r := by
  have e : l.drop (i + a + (textL w).length + k) = (l.drop (i + a)).drop ((textL w).length + k) := by rw [List.drop_drop]; congr 1; omega
  rw [e, b2, ← List.append_assoc, show (textL w).length + k = (textL w ++ bl k).length by simp [bl], List.drop_left']
  rfl
 obtain ⟨d1, d2, d3⟩ := drop_hd hd
 refine ⟨i + a + (textL w).length + k, ?_, hd⟩
 unfold relP pieceP
 rw [b1, hs, hseg, trimR_app hne hpl, parse_text hg hw hl]
 dsimp only
 rw [if_pos ⟨d1, by rw [d2]; omega⟩]
def relsT (k : Nat) : List (List Int) → List Int
 | [] => []
 | [p] => p
 | p :: q :: r => p ++ (bl k ++ (44 :: 32 :: relsT k (q :: r)))
theorem rels_read {l r : List Int} {g : Int} (hg : g ≤ 16) (k : Nat) : ∀ (ws : List (List Int)) (m left a i : Nat) (rs : List (List Int)), ws ≠ [] → ws.length ≤ m → (∀ w ∈ ws, GoodW g w ∧ w.length < 100) → rs.length + ws.length ≤ 100 → ws.flatten.length ≤ left →
 l.drop i = bl a ++ (relsT k (ws.map textL) ++ (bl k ++ 62 :: r)) → ∃ j, relsP g l m left rs i = some (rs ++ ws, j) ∧ l.drop j = 62 :: r
 | [], _, _, _, _, _, h, _, _, _, _, _ => absurd rfl h
 | w :: ws, 0, _, _, _, _, _, h, _, _, _, _ => by simp at h
 | [w], m + 1, left, a, i, rs, _, _, hw, hn, hl, h => by
   obtain ⟨h1, h2⟩ := hw w (by simp)
   obtain ⟨j, e1, e2⟩ := rel_read hg h1 h2 (.inr rfl) a k i h
   obtain ⟨d1, d2, d3⟩ := drop_hd e2
   simp only [List.length_cons, List.length_nil, List.flatten_cons, List.flatten_nil, List.append_nil] at hn hl
   refine ⟨j, ?_, e2⟩
   rw [relsP, e1]
   dsimp only
   rw [if_pos ⟨by omega, hl⟩, d2, if_neg (by decide)]
 | w :: v :: ws, m + 1, left, a, i, rs, _, hm, hw, hn, hl, h => by
   obtain ⟨h1, h2⟩ := hw w (by simp)
   have h' : l.drop i = bl a ++ (textL w ++ (bl k ++ 44 :: (bl 1 ++ (relsT k ((v :: ws).map textL) ++ (bl k ++ 62 :: r))))) := by
    rw [h]; simp [relsT, bl]
   obtain ⟨j, e1, e2⟩ := rel_read hg h1 h2 (.inl rfl) a k i h'
   obtain ⟨d1, d2, d3⟩ := drop_hd e2
   simp only [List.length_cons, List.flatten_cons, List.length_append] at hn hl hm
   obtain ⟨j2, f1, f2⟩ := rels_read hg k (v :: ws) m (left - w.length) 1 (j + 1) (rs ++ [w]) (by simp) (by simpa using hm) (fun x hx => hw x (by simp [hx])) (by simp; omega) (by rw [List.flatten_cons, List.length_append]; omega) d3
   refine ⟨j2, ?_, f2⟩
   rw [relsP, e1]
   dsimp only
   rw [if_pos ⟨by omega, by omega⟩, d2, if_pos rfl, f1]
   simp
/-! ### Presentations -/
def prP (l : List Int) : Option (Nat × List (List Int)) :=
 if seesP l 60 0 = true then match letsP l 17 0 (takeP l 60 0) with
  | some (g, i) => if seesP l 124 i = true then (if seesP l 62 (takeP l 124 i) = true then (if skipP l (takeP l 62 (takeP l 124 i)) < l.length then none else some (g, []))
   else match relsP g l (l.length + 1) 4000 [] (skipP l (takeP l 124 i)) with
    | some (rs, j) => if skipP l (j + 1) < l.length then none else some (g, rs)
    | none => none) else none
  | none => none
 else none
def prT (k g : Nat) (ws : List (List Int)) : List Int := 60 :: (letT k 0 g ++ (32 :: (bl k ++ (124 :: 32 :: (relsT k (ws.map textL) ++ (bl k ++ [62]))))))
theorem rels_len (k : Nat) : ∀ ps : List (List Int), (∀ p ∈ ps, p ≠ []) → ps.length ≤ (relsT k ps).length
 | [], _ => Nat.le_refl _
 | [p], h => by have := List.length_pos_iff.2 (h p (by simp)); simp [relsT]; omega
 | p :: q :: r, h => by
   have h1 := List.length_pos_iff.2 (h p (by simp))
   have h2 := rels_len k (q :: r) fun x hx => h x (by simp [hx])
   simp only [relsT, List.length_append, List.length_cons] at h2 ⊢
   omega
theorem pr_read (k b0 b1 g : Nat) (hg : 1 ≤ g ∧ g ≤ 16) (ws : List (List Int)) (hw : ∀ w ∈ ws, GoodW g w ∧ w.length < 100) (hn : ws.length ≤ 100) (hl : ws.flatten.length ≤ 4000) : prP (bl b0 ++ (prT k g ws ++ bl b1)) = some (g, ws) := by
 generalize hL : bl b0 ++ (prT k g ws ++ bl b1) = l
 obtain ⟨n, rfl⟩ : ∃ n, g = n + 1 := ⟨g - 1, by omega⟩
 have h0 : l.drop 0 = bl b0 ++ 60 :: (bl 0 ++ (letT k 0 (n + 1) ++ (32 :: (bl k ++ 124 :: (bl 1 ++ (relsT k (ws.map textL) ++ (bl k ++ 62 :: bl b1))))))) := by
  rw [← hL]; simp [prT, bl]
 obtain ⟨s1, s2, s3, s4, _⟩ := sees_bl (c := 60) b0 0 h0 (by decide)
 obtain ⟨j, b, e1, e2⟩ := lets_read k _ n 17 0 0 (0 + b0 + 1) (by omega) (by omega) s4
 rw [show 0 + n + 1 = n + 1 by omega] at e1
 obtain ⟨t1, t2, t3, t4, t5⟩ := sees_bl (c := 124) b j e2 (by decide)
 have hend : ∀ i, l.drop i = bl b1 → ¬ skipP l i < l.length := by
  intro i hi
  obtain ⟨q1, q2⟩ := skip_bl (r := []) b1 i (by rw [hi, List.append_nil]) (by simp)
  have := drop_end q2
  omega
 unfold prP
 rw [s1, if_pos rfl, s3, e1]
 dsimp only
 rw [t1, if_pos rfl, t3]
 by_cases hws : ws = []
 · subst hws
   have t4' : l.drop (j + b + 1) = bl (k + 1) ++ 62 :: bl b1 := by rw [t4]; simp [relsT, bl, List.replicate_succ]
   obtain ⟨u1, u2, u3, u4, _⟩ := sees_bl (c := 62) (k + 1) (j + b + 1) t4' (by decide)
   rw [u1, if_pos rfl, u3, if_neg (hend _ u4)]
 · have hhd : ∃ t T, relsT k (ws.map textL) = t :: T ∧ t ≠ 32 ∧ t ≠ 62 := by
    obtain ⟨w, ws', rfl⟩ := List.exists_cons_of_ne_nil hws
    obtain ⟨h1, h2⟩ := hw w (by simp)
    have hp := plain_text (fun x hx => ⟨(h1 x hx).1, by have := (h1 x hx).2; omega⟩) h2
    obtain ⟨t, T, hT⟩ := List.exists_cons_of_ne_nil (text_ne w)
    rw [hT] at hp
    obtain ⟨q1, _, _, q4, _⟩ := hp t (by simp)
    cases ws' with
    | nil => exact ⟨t, T, by simp [relsT, hT], q1, q4⟩
    | cons v ws' => exact ⟨t, T ++ _, by simp [relsT, hT]; rfl, q1, q4⟩
   obtain ⟨t, T, hT, n32, n62⟩ := hhd
   obtain ⟨v1, v2⟩ := sees_bl_no 62 1 (j + b + 1) t4 (by rw [hT]; simpa using n32) (by rw [hT]; simpa using n62)
   obtain ⟨_, v3⟩ := skip_bl 1 (j + b + 1) t4 (by rw [hT]; simpa using n32)
   rw [v1, if_neg (by simp), v2]
   have hlen : ws.length ≤ l.length + 1 := by
    have h1 := rels_len k (ws.map textL) fun p hp => by
     obtain ⟨w, _, rfl⟩ := List.mem_map.1 hp
     exact text_ne w
    rw [List.length_map] at h1
    have h2 := congrArg List.length v3
    rw [List.length_drop, List.length_append] at h2
    omega
   obtain ⟨j2, f1, f2⟩ := rels_read (g := ((n + 1 : Nat) : Int)) (by omega) k ws (l.length + 1) 4000 0 (j + b + 1 + 1) [] hws hlen (fun w hw' => hw w hw') (by simpa using hn) hl v3
   rw [f1]
   dsimp only
   obtain ⟨d1, d2, d3⟩ := drop_hd f2
   rw [if_neg (hend _ d3), List.nil_append]
end Go.Proofs.YtlcpgjjfjgbocaaGreatDoor

namespace Go.Proofs.YtlcpgjjfjgbocaaGreatDoor
open Go.Loom Go.Words
set_option maxRecDepth 100000
def letS (i : Nat) : ByteArray := packI [97 + (i : Int)]
def letsS (i : Nat) : List ByteArray := (List.range i).map letS
def sepS : ByteArray := ⟨#[44, 32]⟩
def ltS : ByteArray := ⟨#[60]⟩
def barS : ByteArray := ⟨#[32, 124, 32]⟩
def gtS : ByteArray := ⟨#[62]⟩
def presS (g : Nat) (ws : List (List Int)) : ByteArray := ltS ++ joinT (letsS g) sepS ++ barS ++ joinT (ws.map textS) sepS ++ gtS
/-! ### In plain terms -/
theorem lets_join : ∀ (n g : Nat), joinI [44, 32] ((List.range' g n).map fun i : Nat => [97 + (i : Int)]) = letT 0 g n
 | 0, g => rfl
 | 1, g => rfl
 | n + 2, g => by
   have ih := lets_join (n + 1) (g + 1)
   rw [List.range'_succ] at ih ⊢
   rw [List.range'_succ]
   simp only [List.map_cons] at ih ⊢
   rw [joinI, ih]
   rfl
theorem rels_join : ∀ ps : List (List Int), joinI [44, 32] ps = relsT 0 ps
 | [] => rfl
 | [p] => rfl
 | p :: q :: r => by rw [joinI, rels_join (q :: r), relsT]; simp [bl]
theorem presS_bytes (g : Nat) (hg : 1 ≤ g ∧ g ≤ 16) (ws : List (List Int)) (hw : ∀ w ∈ ws, GoodW 16 w ∧ w.length < 100) : bytesI (presS g ws) = prT 0 g ws := by
 have e1 : (letsS g).map bytesI = (List.range' 0 g).map fun i : Nat => [97 + (i : Int)] := by
  unfold letsS
  rw [List.map_map, List.range_eq_range']
  refine List.map_congr_left fun i hi => ?_
  rw [List.mem_range'] at hi
  exact bytesI_pack (by simp; omega)
 have e2 : (ws.map textS).map bytesI = ws.map textL := by
  rw [List.map_map]
  refine List.map_congr_left fun w hw' => ?_
  exact textS_bytes (Int.le_refl 16) (hw w hw').1 (hw w hw').2
 unfold presS
 rw [bytesI_app, bytesI_app, bytesI_app, bytesI_app, joinT_bytes, joinT_bytes, show bytesI sepS = [44, 32] from rfl, e1, e2, lets_join, rels_join, show bytesI ltS = [60] from rfl, show bytesI barS = [32, 124, 32] from rfl, show bytesI gtS = [62] from rfl]
 simp [prT, bl]
theorem textL_len2 {a : List Int} (ha : GoodW 16 a) (hl : a.length < 100) : (textL a).length ≤ 6 * a.length + 1 := by
 unfold textL
 split
 · simp
 · have := joinL_len ((runsL a).map pieceY) fun p hp => by
    obtain ⟨y, hy, rfl⟩ := List.mem_map.1 hp
    obtain ⟨x, n, rfl, _, _, _, h4⟩ := runs_good _ a (Nat.le_refl _) hl ha y hy
    exact pieceL_len _ _ h4
   have h2 := runs_len _ a (Nat.le_refl _)
   rw [List.length_map] at this
   omega
theorem letT_len (k : Nat) : ∀ (n g : Nat), (letT k g n).length ≤ (3 + k) * n
 | 0, g => by simp [letT]
 | 1, g => by simp [letT]; omega
 | n + 2, g => by
   have := letT_len k (n + 1) (g + 1)
   simp only [letT, List.length_cons, List.length_append, bl, List.length_replicate]
   rw [Nat.mul_succ]
   omega
theorem relsT_len (k : Nat) : ∀ ws : List (List Int), (∀ w ∈ ws, GoodW 16 w ∧ w.length < 100) → (relsT k (ws.map textL)).length ≤ 6 * ws.flatten.length + (3 + k) * ws.length
 | [], _ => by simp [relsT]
 | [w], h => by
   have := textL_len2 (h w (by simp)).1 (h w (by simp)).2
   simp only [List.map_cons, List.map_nil, relsT, List.flatten_cons, List.flatten_nil, List.append_nil, List.length_cons, List.length_nil]
   omega
 | w :: v :: ws, h => by
   have h1 := textL_len2 (h w (by simp)).1 (h w (by simp)).2
   have h2 := relsT_len k (v :: ws) fun x hx => h x (by simp [hx])
   simp only [List.map_cons, relsT, List.flatten_cons, List.length_append, List.length_cons, bl, List.length_replicate] at h2 ⊢
   rw [Nat.mul_succ]
   omega
theorem prT_len (k : Nat) (hk : k ≤ 2) (g : Nat) (hg : g ≤ 16) (ws : List (List Int)) (hw : ∀ w ∈ ws, GoodW 16 w ∧ w.length < 100) : (prT k g ws).length ≤ 6 * ws.flatten.length + 5 * ws.length + 100 := by
 have h1 := letT_len k g 0
 have h2 := relsT_len k ws hw
 have h3 : (3 + k) * g ≤ 5 * 16 := Nat.mul_le_mul (by omega) hg
 have h4 : (3 + k) * ws.length ≤ 5 * ws.length := Nat.mul_le_mul_right _ (by omega)
 unfold prT
 simp only [List.length_cons, List.length_append, bl, List.length_replicate, List.length_nil]
 omega
/-! ### The walk -/
noncomputable def gPt : Gam := [(10, cCheck), (22, cText), (23, cJoin)]
theorem gPt_ok : GamOk Tryz.prog gPt := gamOk_cons cCheck_ok (gamOk_cons cText_ok (gamOk_cons cJoin_ok gamOk_nil))
abbrev pTa : List Nat := [0, 1, 0, 1, 1, 1]
abbrev pTb : List Nat := [0, 1, 0, 1, 1, 1, 1]
abbrev livePt : List (List Nat × List Nat) := [(pTa, [1, 6, 7, 23, 24]), (pTb, [6, 7, 36, 37, 38])]
noncomputable def sPt : Site := mkSite Tryz.prog gPt Tryz.f7 0 livePt
theorem letS_enc {i : Nat} (h : i < 16) : Utf8.encode (IntKind.i32.wrap (IntKind.i64.wrap (97 + (i : Int)))) = letS i := by
 rw [wrap64 (by omega) (by omega), IntWalk.i32_in _ (by constructor <;> omega), enc1 (by omega)]; rfl
theorem letsS_succ (i : Nat) : letsS (i + 1) = letsS i ++ [letS i] := by
 unfold letsS
 rw [List.range_succ, List.map_append]; rfl
theorem letsS_len (i : Nat) : (letsS i).length = i := by simp [letsS]
theorem mapS_snoc {ws : List (List Int)} {i : Nat} (h : i < ws.length) : (ws.take (i + 1)).map textS = (ws.take i).map textS ++ [textS (ws.getD i [])] := by
 rw [takeL_snoc h, List.map_append]; rfl
theorem getL_mem {ws : List (List Int)} {i : Nat} (h : i < ws.length) : ws.getD i [] ∈ ws := by
 rw [List.getD_eq_getElem?_getD, List.getElem?_eq_getElem h]; exact List.getElem_mem h
theorem ptB_loop (g : Nat) (hg16 : g ≤ 16) (ws : List (List Int)) (hw : ∀ w ∈ ws, GoodW 16 w ∧ w.length < 100) (hn : ws.length ≤ 100) (hz : (presS g ws).size ≤ 20000) : ∀ (k i : Nat), k + i = ws.length →
 AtLoop sPt (Says1 (txA (presS g ws) 0) []) pTb (fr [(6, slI 0 (letsS g).length), (7, slI 1 i), (36, llI ws), (37, nI ws.length), (38, nI i)]) (.ofList [obS (letsS g), obS ((ws.take i).map textS)])
 | k, i, hk => by
   refine atLoop_at gPt_ok (by kernel_rfl) 100 ?_
   refine of_eq (q := let q2 := (List.take (letsS g).length (List.drop (0:Nat) (letsS g))); let q3 := (ByteArray.mk #[(44 : UInt8), (32 : UInt8)]); let q4 := (List.drop (0:Nat) (List.map textS (List.take i ws))); let q5 := (9223372036854775807:Nat); let q1 := (ByteArray.mk #[(60 : UInt8)] ++ joinT q2 q3 ++ ByteArray.mk #[(32 : UInt8), (124 : UInt8), (32 : UInt8)] ++ joinT (List.take i q4) q3 ++ ByteArray.mk #[(62 : UInt8)]); (decide ((i:Int) < (ws.length:Int)) = true → ((0:Int) ≤ (i:Int) ∧ (i:Int) < (ws.length:Int)) ∧ i < ws.length ∧ (GoodW (16:Int) (ws.getD i []) ∧ (ws.getD i []).length < (100:Nat)) ∧ (0:Nat) + (1:Nat) ≤ (1:Nat) ∧ ((0:Nat) + i ≤ (List.map textS (List.take i ws)).length ∧ (i + (1:Nat)) * (16:Nat) ≤ (140737488355328:Nat)) ∧ AtLoop sPt (Says1 (txA (presS g ws) (0:Int)) []) [0, 1, 0, 1, 1, 1, 1] (fr [(6, A.p (V.c (W.sl 0 0 (letsS g).length (1:Nat)))), (7, A.p (V.c (W.sl 1 0 (i + (1:Nat)) 1))), (36, llI ws), (37, nI (ws.length:Int)), (38, nI (IntKind.i64.wrap ((i:Int) + (1:Int))))]) (Sto.ofList [Ob.mk 9 [Fd.a 0 D.str (letsS g)], Ob.mk 9 [Fd.a 0 D.str (List.take i q4 ++ List.take (1:Nat) (List.drop (0:Nat) [textS (ws.getD i [])]))]])) ∧ (decide ((i:Int) < (ws.length:Int)) = false → (0:Nat) + (letsS g).length ≤ (letsS g).length ∧ (q2.length ≤ (100000:Nat) ∧ (joinT q2 q3).size ≤ (1000000:Nat)) ∧ (1:Nat) + (joinT q2 q3).size ≤ q5 ∧ (ByteArray.mk #[(60 : UInt8)] ++ joinT q2 q3).size + (3:Nat) ≤ q5 ∧ (0:Nat) + i ≤ (List.map textS (List.take i ws)).length ∧ ((List.take i q4).length ≤ (100000:Nat) ∧ (joinT (List.take i q4) q3).size ≤ (1000000:Nat)) ∧ (ByteArray.mk #[(60 : UInt8)] ++ joinT q2 q3 ++ ByteArray.mk #[(32 : UInt8), (124 : UInt8), (32 : UInt8)]).size + (joinT (List.take i q4) q3).size ≤ q5 ∧ (ByteArray.mk #[(60 : UInt8)] ++ joinT q2 q3 ++ ByteArray.mk #[(32 : UInt8), (124 : UInt8), (32 : UInt8)] ++ joinT (List.take i q4) q3).size + (1:Nat) ≤ q5 ∧ (decide ((20000:Int) < (↑q1.size : Int)) = true → packV [V.c (W.str (ByteArray.mk #[])), V.c (W.int .i64 (4))] = txA (presS g ws) (0:Int) ∧ ([] : List Ob) = []) ∧ (decide ((20000:Int) < (↑q1.size : Int)) = false → packV [V.c (W.str q1), V.c (W.int .i64 (0))] = txA (presS g ws) (0:Int) ∧ ([] : List Ob) = []))) (by kernel_rfl) ?_
   try simp only [true_and, and_true, Nat.zero_add, decide_eq_true_eq, decide_eq_false_iff_not, Int.not_lt, List.drop_zero, List.take_length, List.take_succ_cons, List.take_zero, Nat.le_refl]
   have hm : (List.map textS (List.take i ws)).length = i := by rw [List.length_map, List.length_take]; omega
   have ht : List.take i (List.map textS (List.take i ws)) = List.map textS (List.take i ws) := List.take_of_length_le (by omega)
   rw [hm, ht]
   refine ⟨fun h => ⟨by omega, by omega, hw _ (getL_mem (by omega)), ⟨Nat.le_refl _, by omega⟩, ?_⟩, fun h => ?_⟩
   · rw [wrap64 (n := (i : Int) + 1) (by omega) (by omega), ← mapS_snoc (by omega)]
     cases k with
     | zero => omega
     | succ k => exact ptB_loop g hg16 ws hw hn hz k (i + 1) (by omega)
   · have hi : i = ws.length := by omega
     subst hi
     rw [List.take_length]
     unfold presS ltS sepS barS gtS at hz ⊢
     have z1 : (⟨#[60]⟩ ++ joinT (letsS g) ⟨#[44, 32]⟩ : ByteArray).size = 1 + (joinT (letsS g) ⟨#[44, 32]⟩).size := by rw [ByteArray.size_append]; rfl
     have z2 : (⟨#[60]⟩ ++ joinT (letsS g) ⟨#[44, 32]⟩ ++ ⟨#[32, 124, 32]⟩ : ByteArray).size = 1 + (joinT (letsS g) ⟨#[44, 32]⟩).size + 3 := by rw [ByteArray.size_append, z1]; rfl
     have z3 : (⟨#[60]⟩ ++ joinT (letsS g) ⟨#[44, 32]⟩ ++ ⟨#[32, 124, 32]⟩ ++ joinT (ws.map textS) ⟨#[44, 32]⟩ : ByteArray).size = 1 + (joinT (letsS g) ⟨#[44, 32]⟩).size + 3 + (joinT (ws.map textS) ⟨#[44, 32]⟩).size := by rw [ByteArray.size_append, z2]
     have z4 : (⟨#[60]⟩ ++ joinT (letsS g) ⟨#[44, 32]⟩ ++ ⟨#[32, 124, 32]⟩ ++ joinT (ws.map textS) ⟨#[44, 32]⟩ ++ ⟨#[62]⟩ : ByteArray).size = 1 + (joinT (letsS g) ⟨#[44, 32]⟩).size + 3 + (joinT (ws.map textS) ⟨#[44, 32]⟩).size + 1 := by rw [ByteArray.size_append, z3]; rfl
     have hlg := letsS_len g
     have hlw : (ws.map textS).length = ws.length := List.length_map _
     refine ⟨⟨by omega, by omega⟩, by omega, by omega, Nat.le_refl _, ⟨by omega, by omega⟩, by omega, by omega, fun h => by omega, fun _ => rfl⟩
theorem ptA_loop (g : Nat) (hg : 1 ≤ g) (hg16 : g ≤ 16) (ws : List (List Int)) (hw : ∀ w ∈ ws, GoodW 16 w ∧ w.length < 100) (hn : ws.length ≤ 100) (hz : (presS g ws).size ≤ 20000) : ∀ (k i : Nat), k + i = g →
 AtLoop sPt (Says1 (txA (presS g ws) 0) []) pTa (fr [(1, .p (.c (.ptr 0 0))), (6, slI 1 i), (7, slI 2 0), (23, nI g), (24, nI i)]) (.ofList [obP g ws, obS (letsS i), obS []])
 | k, i, hk => by
   refine atLoop_at gPt_ok (by kernel_rfl) 100 ?_
   refine of_eq (q := (decide ((i:Int) < (g:Int)) = true → (0:Nat) + (1:Nat) ≤ (1:Nat) ∧ ((0:Nat) + i ≤ (letsS i).length ∧ (i + (1:Nat)) * (16:Nat) ≤ (140737488355328:Nat)) ∧ AtLoop sPt (Says1 (txA (presS g ws) (0:Int)) []) [0, 1, 0, 1, 1, 1] (fr [(1, A.p (V.c (W.ptr 0 0))), (6, A.p (V.c (W.sl 1 0 (i + (1:Nat)) 1))), (7, A.p (V.c (W.sl 2 0 0 1))), (23, nI (g:Int)), (24, nI (IntKind.i64.wrap ((i:Int) + (1:Int))))]) (Sto.ofList [Ob.mk 28 [Fd.c (W.int .i64 (g:Int)), Fd.c (W.rd (D.int .i64).sl ws)], Ob.mk 9 [Fd.a 0 D.str (List.take i (List.drop (0:Nat) (letsS i)) ++ List.take (1:Nat) (List.drop (0:Nat) [Utf8.encode (IntKind.i32.wrap (IntKind.i64.wrap ((97:Int) + (i:Int))))]))], Ob.mk 9 [Fd.a 0 D.str []]])) ∧ (decide ((i:Int) < (g:Int)) = false → AtLoop sPt (Says1 (txA (presS g ws) (0:Int)) []) [0, 1, 0, 1, 1, 1, 1] (fr [(6, A.p (V.c (W.sl 0 0 i 1))), (7, A.p (V.c (W.sl 1 0 0 1))), (36, llI ws), (37, nI (ws.length:Int)), (38, nI (0))]) (Sto.ofList [Ob.mk 9 [Fd.a 0 D.str (letsS i)], Ob.mk 9 [Fd.a 0 D.str []]]))) (by kernel_rfl) ?_
   try simp only [true_and, Nat.zero_add, decide_eq_true_eq, decide_eq_false_iff_not, Int.not_lt, List.drop_zero, List.take_succ_cons, List.take_zero, Nat.le_refl]
   have hlen := letsS_len i
   rw [hlen, List.take_of_length_le (by omega)]
   refine ⟨fun h => ⟨⟨Nat.le_refl _, by omega⟩, ?_⟩, fun h => ?_⟩
   · rw [letS_enc (by omega), wrap64 (n := (i : Int) + 1) (by omega) (by omega), ← letsS_succ]
     cases k with
     | zero => omega
     | succ k => exact ptA_loop g hg hg16 ws hw hn hz k (i + 1) (by omega)
   · have hi : i = g := by omega
     subst hi
     have := ptB_loop i hg16 ws hw hn hz ws.length 0 (by omega)
     rw [hlen] at this
     exact this
theorem pt_sem (g : Nat) (hg : 1 ≤ g ∧ g ≤ 16) (ws : List (List Int)) (hw : ∀ w ∈ ws, GoodW 16 w ∧ w.length < 100) (hn : ws.length ≤ 100) (hz : (presS g ws).size ≤ 20000) (hc : chk g ws = (0, -1)) : FnSem Tryz.prog 7 [prA g ws] [] (txA (presS g ws) 0) [] := by
 refine fnSem_at (live := livePt) gPt_ok Tryz.func7 (by kernel_rfl) (keep := 0) rfl (by kernel_rfl) 100 ?_
 refine of_eq (q := Sh ws ∧ ((!decide ((chk (g:Int) ws).fst = (0:Int))) = true → packV [V.c (W.str (ByteArray.mk #[])), V.c (W.int .i64 (chk (g:Int) ws).fst)] = txA (presS g ws) (0:Int) ∧ ([] : List Ob) = []) ∧ ((!decide ((chk (g:Int) ws).fst = (0:Int))) = false → AtLoop (mkSite Tryz.prog gPt Tryz.f7 (0:Nat) livePt) (Says1 (txA (presS g ws) (0:Int)) []) [0, 1, 0, 1, 1, 1] (fr [(1, A.p (V.c (W.ptr 0 0))), (6, A.p (V.c (W.sl 1 0 0 1))), (7, A.p (V.c (W.sl 2 0 0 1))), (23, nI (g:Int)), (24, nI (0))]) (Sto.ofList [Ob.mk 28 [Fd.c (W.int .i64 (g:Int)), Fd.c (W.rd (D.int .i64).sl ws)], Ob.mk 9 [Fd.a 0 D.str []], Ob.mk 9 [Fd.a 0 D.str []]]))) (by kernel_rfl) ?_
 try simp only [and_true, Bool.not_eq_true', Bool.not_eq_false', decide_eq_true_eq, decide_eq_false_iff_not]
 have hsh : Sh ws := fun w hw' => by have := (hw w hw').2; omega
 rw [hc]
 refine ⟨hsh, fun h => absurd rfl h, fun _ => ?_⟩
 exact ptA_loop g hg.1 hg.2 ws hw hn hz g 0 (by omega)
def cPText : Con := conP fun g ws => (.p ((1 ≤ g ∧ g ≤ 16) ∧ (∀ w ∈ ws, GoodW 16 w ∧ w.length < 100) ∧ ws.length ≤ 100 ∧ (presS g.toNat ws).size ≤ 20000 ∧ chk g ws = (0, -1)), txA (presS g.toNat ws) 0, [])
theorem cPText_ok : ConOk Tryz.prog 7 cPText := conP_ok (by kernel_rfl) fun g ws h => by
 obtain ⟨h1, h2, h3, h4, h5⟩ := h
 obtain ⟨g, rfl⟩ := Int.eq_ofNat_of_zero_le (show 0 ≤ g by omega)
 exact pt_sem g (by omega) ws h2 h3 h4 h5
end Go.Proofs.YtlcpgjjfjgbocaaGreatDoor
