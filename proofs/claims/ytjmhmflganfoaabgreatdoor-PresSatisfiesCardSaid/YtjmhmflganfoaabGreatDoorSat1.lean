/- Presentations: rows of exponents, in the reference. -/
import Derived.Test.YtjmhmflganfoaabGreatDoorPres1
namespace Go.Proofs.YtjmhmflganfoaabGreatDoor
open Go.Loom
set_option maxRecDepth 100000
def bump (row : List Int) (x : Int) : List Int :=
  if 0 < x then row.set (x - 1).toNat (IntKind.i64.wrap (row.getD (x - 1).toNat 0 + 1)) else row.set (0 - x - 1).toNat (IntKind.i64.wrap (row.getD (0 - x - 1).toNat 0 - 1))
abbrev liveRE : List (List Nat × List Nat) := [([0, 1, 0, 1, 1, 1], [1, 6, 7]), ([0, 1, 0, 1, 0, 0, 1, 0, 0, 1, 0, 1, 1, 1], [1, 6, 7, 8, 9])]
theorem bump_length (row : List Int) (x : Int) : (bump row x).length = row.length := by unfold bump; split <;> simp
/-- A presentation without faults. -/
structure Good (g : Int) (r : List (List Int)) : Prop where
  g1 : 1 ≤ g
  g16 : g ≤ 16
  len : r.length ≤ 100
  let_ : ∀ w ∈ r, w.length ≤ 4000 ∧ ∀ x ∈ w, x ≠ 0 ∧ -g ≤ x ∧ x ≤ g
theorem chkGo_good {g : Int} (h1 : 1 ≤ g) (h2 : g ≤ 16) : ∀ (r : List (List Int)) (left i : Int), left ≤ 4000 → (chkGo g r left i).1 = 0 → ∀ w ∈ r, w.length ≤ 4000 ∧ ∀ x ∈ w, x ≠ 0 ∧ -g ≤ x ∧ x ≤ g
  | [], _, _, _, _ => by intro w hw; cases hw
  | w :: r, left, i, h0, h => by
    rw [chkGo] at h
    by_cases g1 : left < w.length
    · rw [if_pos g1] at h; exact absurd h (by simp)
    · rw [if_neg g1] at h
      by_cases g2 : w.any (badL g) = true
      · rw [if_pos g2] at h; exact absurd h (by simp)
      · rw [if_neg g2] at h
        have := chkGo_good h1 h2 r _ _ (by omega) h
        intro x hx
        rcases List.mem_cons.1 hx with rfl | hx
        · refine ⟨by omega, fun y hy => ?_⟩
          have g3 : badL g y = false := by
            rw [Bool.not_eq_true, List.any_eq_false] at g2
            simpa using g2 y hy
          unfold badL at g3
          rw [wrap64 (n := 0 - g) (by omega) (by omega)] at g3
          simp only [Bool.or_eq_false_iff, decide_eq_false_iff_not] at g3
          omega
        · exact this x hx
theorem Good.of {g : Int} {r : List (List Int)} (h : (chk g r).1 = 0) : Good g r := by
  unfold chk at h
  by_cases g1 : g < 1 ∨ 16 < g
  · rw [if_pos g1] at h; exact absurd h (by simp)
  · rw [if_neg g1] at h
    by_cases g2 : 100 < r.length
    · rw [if_pos g2] at h; exact absurd h (by simp)
    · rw [if_neg g2] at h
      exact ⟨by omega, by omega, by omega, chkGo_good (by omega) (by omega) r _ _ (by omega) h⟩
def expRow (g : Int) (w : List Int) : List Int := w.foldl bump (List.replicate g.toNat 0)
/-- The rows of exponents, and the error. -/
def expR (g : Int) (r : List (List Int)) : List (List Int) × Int := if (chk g r).1 = 0 then (r.map (expRow g), 0) else ([], (chk g r).1)
abbrev exA (x : List (List Int) × Int) : A := .tup [.c (.rd (.sl (.int .i64)) x.1), .c (.int .i64 x.2)]
abbrev obRE (l : List (List Int)) : Ob := ⟨22, [.a 0 (.sl (.int .i64)) l]⟩
def cRExp : Con := conP fun g r => (.p (Sh r), exA (expR g r), [])
end Go.Proofs.YtjmhmflganfoaabGreatDoor

namespace Go.Proofs.YtjmhmflganfoaabGreatDoor
open Go.Loom
set_option maxRecDepth 100000
/-! ### Inverses, one letter after the other -/
def invGo (d : Int) : List Int → Nat → List Int → Option (List Int)
  | [], _, out => some out
  | x :: l, i, out => if x < 0 ∨ d ≤ x ∨ 0 ≤ out.getD x.toNat 0 then none else invGo d l (i + 1) (out.set x.toNat (i : Int))
def invL (l : List Int) (d : Int) : Option (List Int) := if (l.length : Int) = d then invGo d l 0 (List.replicate d.toNat (-1)) else none
abbrev ivA (o : Option (List Int)) : A := .tup [.c (.rd (.int .i64) (o.getD [])), .c (.bool o.isSome)]
abbrev liveIv : List (List Nat × List Nat) := [([0, 1, 0, 1, 1, 1], [0, 1, 6, 17, 18]), ([0, 1, 0, 1, 1, 1, 1], [1, 6, 25, 26, 27])]
noncomputable def sIv : Site := mkSiteF Tryz.prog [] Tryz.f28 0 liveIv [] [some dI, none]
theorem iv_two (l : List Int) (d : Int) (hl : (l.length : Int) = d) (hd : d ≤ 1000) : ∀ (n i : Nat) (out : List Int), n = l.length - i → i ≤ l.length → out.length = d.toNat →
    AtLoop sIv (Says1 (ivA (invGo d (l.drop i) i out)) []) [0, 1, 0, 1, 1, 1, 1] (fr [(1, nI d), (6, slI 0 d.toNat), (25, lsI l), (26, nI l.length), (27, nI i)]) (.ofList [obI out])
  | n, i, out, hn, hi, ho => by
    refine atLoop_at gamOk_nil (by kernel_rfl) 100 ?_
    refine of_eq (q :=
        (decide ((↑i : Int) < (↑l.length : Int)) = true → ((0 : Int) ≤ (↑i : Int) ∧ (↑i : Int) < (↑l.length : Int)) ∧ i < l.length ∧ (decide (l.getD i (0 : Int) < (0 : Int)) = false → decide (l.getD i (0 : Int) < (0 : Int)) = false) ∧ (decide (l.getD i (0 : Int) < (0 : Int)) = false → decide (l.getD i (0 : Int) < (0 : Int)) = false) ∧ (decide (l.getD i (0 : Int) < (0 : Int)) = false → decide (l.getD i (0
        : Int) < (0 : Int)) = false) ∧ ((bif decide (l.getD i (0 : Int) < (0 : Int)) then true else decide (d ≤ l.getD i (0 : Int))) = false → (bif decide (l.getD i (0 : Int) < (0 : Int)) then true else decide (d ≤ l.getD i (0 : Int))) = false) ∧ ((bif decide (l.getD i (0 : Int) < (0 : Int)) then true else decide (d ≤ l.getD i (0 : Int))) = false → (bif decide (l.getD i (0 : Int) < (0 : Int)) then true
        else decide (d ≤ l.getD i (0 : Int))) = false) ∧ ((bif decide (l.getD i (0 : Int) < (0 : Int)) then true else decide (d ≤ l.getD i (0 : Int))) = false → (0 : Int) ≤ l.getD i (0 : Int) ∧ l.getD i (0 : Int) < (↑d.toNat : Int)) ∧ ((bif decide (l.getD i (0 : Int) < (0 : Int)) then true else decide (d ≤ l.getD i (0 : Int))) = false → (bif decide (l.getD i (0 : Int) < (0 : Int)) then true else decide (d
        ≤ l.getD i (0 : Int))) = false) ∧ ((bif decide (l.getD i (0 : Int) < (0 : Int)) then true else decide (d ≤ l.getD i (0 : Int))) = false → (0 : Nat) + (l.getD i (0 : Int)).toNat < out.length) ∧ ((bif decide (l.getD i (0 : Int) < (0 : Int)) then true else decide (d ≤ l.getD i (0 : Int))) = false → (bif decide (l.getD i (0 : Int) < (0 : Int)) then true else decide (d ≤ l.getD i (0 : Int))) = false) ∧
        ((bif decide (l.getD i (0 : Int) < (0 : Int)) then true else decide (d ≤ l.getD i (0 : Int))) = false → (bif decide (l.getD i (0 : Int) < (0 : Int)) then true else decide (d ≤ l.getD i (0 : Int))) = false) ∧ ((bif bif decide (l.getD i (0 : Int) < (0 : Int)) then true else decide (d ≤ l.getD i (0 : Int)) then true else decide ((0 : Int) ≤ out.getD ((0 : Nat) + (l.getD i (0 : Int)).toNat) (0 :
        Int))) = true → (0 : Nat) ≤ (0 : Nat) ∧ packV [V.c (W.rd (D.int IntKind.i64) (List.take (0 : Nat) (List.drop (0 : Nat) []))), V.c (W.bool false)] = ivA (invGo d (List.drop i l) i out) ∧ ([] : List Ob) = []) ∧ ((bif bif decide (l.getD i (0 : Int) < (0 : Int)) then true else decide (d ≤ l.getD i (0 : Int)) then true else decide ((0 : Int) ≤ out.getD ((0 : Nat) + (l.getD i (0 : Int)).toNat) (0 :
        Int))) = false → ((0 : Int) ≤ l.getD i (0 : Int) ∧ l.getD i (0 : Int) < (↑d.toNat : Int)) ∧ (0 : Nat) + (l.getD i (0 : Int)).toNat < out.length ∧ AtLoop sIv (Says1 (ivA (invGo d (List.drop i l) i out)) []) [(0 : Nat), (1 : Nat), (0 : Nat), (1 : Nat), (1 : Nat), (1 : Nat), (1 : Nat)] (fr [((1 : Nat), A.p (V.c (W.int IntKind.i64 d))), ((6 : Nat), A.p (V.c (W.sl (0 : Nat) (0 : Nat) d.toNat (1 :
        Nat)))), ((25 : Nat), A.p (V.c (W.rd (D.int IntKind.i64) l))), ((26 : Nat), A.p (V.c (W.int IntKind.i64 (↑l.length : Int)))), ((27 : Nat), A.p (V.c (W.int IntKind.i64 (IntKind.i64.wrap ((↑i : Int) + (1 : Int))))))]) (Sto.ofList [Ob.mk (3 : Nat) [Fd.a (0 : Nat) (D.int IntKind.i64) (out.set ((0 : Nat) + (l.getD i (0 : Int)).toNat) (↑i : Int))]]))) ∧ (decide ((↑i : Int) < (↑l.length : Int)) = false →
        (0 : Nat) + d.toNat ≤ out.length ∧ packV [V.c (W.rd (D.int IntKind.i64) (List.take d.toNat (List.drop (0 : Nat) out))), V.c (W.bool true)] = ivA (invGo d (List.drop i l) i out) ∧ ([] : List Ob) = [])) (by kernel_rfl) ?_
    try simp only [imp_self, true_and, and_true, Nat.zero_add, Bool.cond_true_left, Bool.or_eq_true, Bool.or_eq_false_iff, decide_eq_true_eq, decide_eq_false_iff_not, Int.not_lt, Int.not_le, List.drop_zero, List.take_zero, Nat.le_refl]
    rw [wrap64 (n := (i : Int) + 1) (by omega) (by omega)]
    refine ⟨fun h => ?_, fun h => ⟨by omega, ?_⟩⟩
    · rw [getD_lt (by omega), invGo]
      refine ⟨by omega, by omega, fun h1 => by omega, fun h1 => by omega, fun h1 => ?_, fun h1 => ⟨by omega, by omega, ?_⟩⟩
      · rw [if_pos (by omega)]; rfl
      · rw [if_neg (by omega)]
        cases n with
        | zero => omega
        | succ n => exact iv_two l d hl hd n (i + 1) _ (by omega) (by omega) (by simp [ho])
    · rw [List.drop_eq_nil_of_le (by omega), List.take_of_length_le (by omega)]; rfl
theorem iv_one (l : List Int) (d : Int) (hl : (l.length : Int) = d) (hd : d ≤ 1000) : ∀ (n i : Nat), n = d.toNat - i → i ≤ d.toNat →
    AtLoop sIv (Says1 (ivA (invL l d)) []) [0, 1, 0, 1, 1, 1] (fr [(0, lsI l), (1, nI d), (6, slI 0 d.toNat), (17, nI d.toNat), (18, nI i)]) (.ofList [obI (List.replicate i (-1) ++ List.replicate n 0)])
  | n, i, hn, hi => by
    refine atLoop_at gamOk_nil (by kernel_rfl) 100 ?_
    refine of_eq (q :=
        (decide ((↑i : Int) < (↑d.toNat : Int)) = true → ((0 : Int) ≤ (↑i : Int) ∧ (↑i : Int) < (↑d.toNat : Int)) ∧ (0 : Nat) + i < (List.replicate i (-1 : Int) ++ List.replicate n (0 : Int)).length ∧ AtLoop sIv (Says1 (ivA (invL l d)) []) [(0 : Nat), (1 : Nat), (0 : Nat), (1 : Nat), (1 : Nat), (1 : Nat)] (fr [((0 : Nat), A.p (V.c (W.rd (D.int IntKind.i64) l))), ((1 : Nat), A.p (V.c (W.int IntKind.i64
        d))), ((6 : Nat), A.p (V.c (W.sl (0 : Nat) (0 : Nat) d.toNat (1 : Nat)))), ((17 : Nat), A.p (V.c (W.int IntKind.i64 (↑d.toNat : Int)))), ((18 : Nat), A.p (V.c (W.int IntKind.i64 (IntKind.i64.wrap ((↑i : Int) + (1 : Int))))))]) (Sto.ofList [Ob.mk (3 : Nat) [Fd.a (0 : Nat) (D.int IntKind.i64) ((List.replicate i (-1 : Int) ++ List.replicate n (0 : Int)).set ((0 : Nat) + i) (-1 : Int))]])) ∧ (decide
        ((↑i : Int) < (↑d.toNat : Int)) = false → AtLoop sIv (Says1 (ivA (invL l d)) []) [(0 : Nat), (1 : Nat), (0 : Nat), (1 : Nat), (1 : Nat), (1 : Nat), (1 : Nat)] (fr [((1 : Nat), A.p (V.c (W.int IntKind.i64 d))), ((6 : Nat), A.p (V.c (W.sl (0 : Nat) (0 : Nat) d.toNat (1 : Nat)))), ((25 : Nat), A.p (V.c (W.rd (D.int IntKind.i64) l))), ((26 : Nat), A.p (V.c (W.int IntKind.i64 (↑l.length : Int)))), ((27
        : Nat), A.p (V.c (W.int IntKind.i64 (0 : Int))))]) (Sto.ofList [Ob.mk (3 : Nat) [Fd.a (0 : Nat) (D.int IntKind.i64) (List.replicate i (-1 : Int) ++ List.replicate n (0 : Int))]]))) (by kernel_rfl) ?_
    try simp only [Nat.zero_add, decide_eq_true_eq, decide_eq_false_iff_not, Int.not_lt]
    rw [wrap64 (n := (i : Int) + 1) (by omega) (by omega)]
    refine ⟨fun h => ⟨by omega, by simp; omega, ?_⟩, fun h => ?_⟩
    · cases n with
      | zero => omega
      | succ n =>
        have e : (List.replicate i (-1) ++ List.replicate (n + 1) 0).set i (-1) = List.replicate (i + 1) (-1) ++ List.replicate n (0 : Int) := by
          rw [List.set_append_right _ _ (by simp)]
          rw [List.length_replicate, Nat.sub_self, List.replicate_succ (n := n), List.set_cons_zero, List.replicate_succ' (n := i), List.append_assoc]; rfl
        rw [e]
        exact iv_one l d hl hd n (i + 1) (by omega) (by omega)
    · have hn0 : n = 0 := by omega
      have hi0 : i = d.toNat := by omega
      subst hn0; subst hi0
      rw [invL, if_pos hl, List.replicate_zero, List.append_nil]
      exact iv_two l d hl hd l.length 0 _ rfl (by omega) (by simp)
theorem iv_sem (l : List Int) (d : Int) (hd0 : 0 ≤ d) (hd : d ≤ 1000) : FnSem Tryz.prog 28 [lsI l, nI d] [] (ivA (invL l d)) [] := by
  refine fnSemF_at (live := liveIv) (fzl := []) (fz := [some dI, none]) gamOk_nil Tryz.func28 (by kernel_rfl) (keep := 0) rfl (by kernel_rfl) 100 ?_
  refine of_eq (q :=
      ((0 : Int) ≤ d ∧ d ≤ d ∧ (↑(8 : Nat) : Int) * d ≤ (140737488355328 : Int)) ∧ ((!decide ((↑l.length : Int) = d)) = true → (0 : Nat) ≤ (0 : Nat) ∧ packV [V.c (W.rd (D.int IntKind.i64) (List.take (0 : Nat) (List.drop (0 : Nat) []))), V.c (W.bool false)] = ivA (invL l d) ∧ ([] : List Ob) = []) ∧ ((!decide ((↑l.length : Int) = d)) = false → AtLoop (mkSiteF Tryz.prog [] Tryz.f28 (0 : Nat) liveIv []
      [some dI, none]) (Says1 (ivA (invL l d)) []) [(0 : Nat), (1 : Nat), (0 : Nat), (1 : Nat), (1 : Nat), (1 : Nat)] (fr [((0 : Nat), A.p (V.c (W.rd (D.int IntKind.i64) l))), ((1 : Nat), A.p (V.c (W.int IntKind.i64 d))), ((6 : Nat), A.p (V.c (W.sl (0 : Nat) (0 : Nat) d.toNat (1 : Nat)))), ((17 : Nat), A.p (V.c (W.int IntKind.i64 (↑d.toNat : Int)))), ((18 : Nat), A.p (V.c (W.int IntKind.i64 (0 :
      Int))))]) (Sto.ofList [Ob.mk (3 : Nat) [Fd.a (0 : Nat) (D.int IntKind.i64) (List.replicate d.toNat (0 : Int))]]))) (by kernel_rfl) ?_
  try simp only [true_and, and_true, Bool.not_eq_true', Bool.not_eq_false', decide_eq_true_eq, decide_eq_false_iff_not, List.drop_zero, List.take_zero, Nat.le_refl, Int.le_refl]
  refine ⟨by omega, fun h => ?_, fun h => ?_⟩
  · rw [invL, if_neg h]; rfl
  · exact iv_one l d h hd d.toNat 0 rfl (by omega)
/-! ### The reference: is it a permutation -/
abbrev obB (l : List Bool) : Ob := ⟨4, [.a 0 .bool l]⟩
def cInv : Con := con2 dI (.int .i64) fun l d => (.p (0 ≤ (show Int from d) ∧ (show Int from d) ≤ 1000), ivA (invL l d), [])
theorem cInv_ok : ConOk Tryz.prog 28 cInv := con2_ok (by kernel_rfl) fun l d h => iv_sem l d h.1 h.2
def cPm : Con := con2 dI (.int .i64) fun l d => (.p (0 ≤ (show Int from d) ∧ (show Int from d) ≤ 1000), bB (invL l d).isSome, [])
end Go.Proofs.YtjmhmflganfoaabGreatDoor

namespace Go.Proofs.YtjmhmflganfoaabGreatDoor
open Go.Loom
set_option maxRecDepth 100000
/-! ### What an inverse is -/
def fz0 (v : Int) : Int := if v < 0 then 0 else v
def setGo : List Int → Nat → List Int → List Int
  | [], _, out => out
  | x :: l, i, out => setGo l (i + 1) (out.set x.toNat (i : Int))
theorem invGo_facts (d : Int) : ∀ (l : List Int) (i : Nat) (out r : List Int), invGo d l i out = some r → out.length = d.toNat → (i : Int) + l.length ≤ d → (∀ v ∈ out, v < d) →
    (∀ x ∈ l, 0 ≤ x ∧ x < d) ∧ r.length = d.toNat ∧ (∀ v ∈ r, v < d) ∧ r.countP (fun v => decide (0 ≤ v)) = out.countP (fun v => decide (0 ≤ v)) + l.length ∧ setGo l i (out.map fz0) = r.map fz0
  | [], i, out, r, h, ho, _, hv => by
    cases h
    exact ⟨by simp, ho, hv, rfl, rfl⟩
  | x :: l, i, out, r, h, ho, hi, hv => by
    rw [invGo] at h
    by_cases hc : x < 0 ∨ d ≤ x ∨ 0 ≤ out.getD x.toNat 0
    · rw [if_pos hc] at h; cases h
    · rw [if_neg hc] at h
      simp only [List.length_cons] at hi
      have hx : x.toNat < out.length := by omega
      obtain ⟨h1, h2, h3, h4, h5⟩ := invGo_facts d l (i + 1) _ r h (by simp [ho]) (by omega) (by
        intro v hv'
        rcases List.mem_or_eq_of_mem_set hv' with hv' | rfl
        · exact hv v hv'
        · omega)
      refine ⟨fun y hy => ?_, h2, h3, ?_, ?_⟩
      · rcases List.mem_cons.1 hy with rfl | hy
        · omega
        · exact h1 y hy
      · rw [h4, List.countP_set hx]
        have h6 : ¬ (0 : Int) ≤ out[x.toNat] := by
          have : out.getD x.toNat 0 = out[x.toNat] := by rw [List.getD_eq_getElem?_getD, List.getElem?_eq_getElem hx]; rfl
          rw [← this]; omega
        rw [decide_eq_false h6, decide_eq_true (show (0 : Int) ≤ (i : Int) by omega)]
        simp; omega
      · rw [setGo, ← h5, List.map_set]
        rw [show fz0 (i : Int) = i by unfold fz0; rw [if_neg (by omega)]]
/-- The inverse of a list that is a permutation. -/
def invD (l : List Int) : List Int := (invL l l.length).getD []
structure IsPerm (l : List Int) (d : Int) : Prop where
  len : (l.length : Int) = d
  inv : invL l d = some (invD l)
  mem : ∀ x ∈ l, 0 ≤ x ∧ x < d
  ilen : ((invD l).length : Int) = d
  imem : ∀ x ∈ invD l, 0 ≤ x ∧ x < d
  set : setGo l 0 (List.replicate d.toNat 0) = invD l
theorem IsPerm.of {l : List Int} {d : Int} (h : (invL l d).isSome = true) : IsPerm l d := by
  unfold invL at h
  by_cases hl : (l.length : Int) = d
  · rw [if_pos hl] at h
    obtain ⟨r, hr⟩ := Option.isSome_iff_exists.1 h
    have hD : invD l = r := by unfold invD invL; rw [if_pos rfl, hl, hr]; rfl
    obtain ⟨h1, h2, h3, h4, h5⟩ := invGo_facts d l 0 _ r hr (by simp) (by omega) (by intro v hv; rw [List.mem_replicate] at hv; omega)
    have h6 : (List.replicate d.toNat (-1 : Int)).countP (fun v => decide (0 ≤ v)) = 0 := by
      rw [List.countP_eq_zero]; intro v hv; rw [List.mem_replicate] at hv; simp; omega
    rw [h6] at h4
    have h7 : ∀ v ∈ r, decide ((0 : Int) ≤ v) = true := List.countP_eq_length.1 (by omega)
    have h8 : r.map fz0 = r := by
      conv => rhs; rw [← List.map_id r]
      apply List.map_congr_left
      intro v hv
      have := of_decide_eq_true (h7 v hv)
      unfold fz0; rw [if_neg (by omega)]; rfl
    have h9 : (List.replicate d.toNat (-1 : Int)).map fz0 = List.replicate d.toNat 0 := by rw [List.map_replicate]; rfl
    rw [h8, h9] at h5
    exact ⟨hl, by rw [invL, if_pos hl, hr, hD], h1, by rw [hD]; omega, by rw [hD]; exact fun x hx => ⟨of_decide_eq_true (h7 x hx), h3 x hx⟩, by rw [hD]; exact h5⟩
  · rw [if_neg hl] at h; cases h
/-! ### How letters act -/
def actI (im : List (List Int)) (g y : Int) : Int := if 0 < g then (im.getD (g - 1).toNat []).getD y.toNat 0 else (invD (im.getD (0 - g - 1).toNat [])).getD y.toNat 0
def actW (im : List (List Int)) (w : List Int) (y : Int) : Int := w.foldl (fun y g => actI im g y) y
/-- From a point on, a relator leaves the points. -/
def fixes (im : List (List Int)) (w : List Int) (d : Nat) (x n : Nat) : Bool := match n with
  | 0 => true
  | n + 1 => decide (actW im w x = x) && fixes im w d (x + 1) n
def satB (im : List (List Int)) (d : Nat) (r : List (List Int)) : Bool := r.all fun w => fixes im w d 0 d
theorem getD_mem {l : List Int} {i : Nat} (h : i < l.length) : l.getD i 0 ∈ l := by rw [List.getD_eq_getElem?_getD, List.getElem?_eq_getElem h]; exact List.getElem_mem h
theorem getL_mem {l : List (List Int)} {i : Nat} (h : i < l.length) : l.getD i [] ∈ l := by rw [List.getD_eq_getElem?_getD, List.getElem?_eq_getElem h]; exact List.getElem_mem h
theorem actI_mem {im : List (List Int)} {d : Int} (hp : ∀ l ∈ im, IsPerm l d) {g y : Int} (h0 : g ≠ 0) (h1 : -(im.length : Int) ≤ g) (h2 : g ≤ im.length) (hy : 0 ≤ y ∧ y < d) : 0 ≤ actI im g y ∧ actI im g y < d := by
  unfold actI
  by_cases hg : 0 < g
  · rw [if_pos hg]
    have := hp _ (getL_mem (l := im) (i := (g - 1).toNat) (by omega))
    have hl := this.len
    exact this.mem _ (getD_mem (by omega))
  · rw [if_neg hg]
    have := hp _ (getL_mem (l := im) (i := (0 - g - 1).toNat) (by omega))
    have hl := this.ilen
    exact this.imem _ (getD_mem (by omega))
/-- What the walk answers once it has come to the lists. -/
def resB (im : List (List Int)) (d : Int) (r : List (List Int)) : Bool × Int := if im.all (fun l => (invL l d).isSome) = true then (satB im d.toNat r, 0) else (false, 3)
theorem allPerm {im : List (List Int)} {d : Int} (hp : ∀ j, j < im.length → IsPerm (im.getD j []) d) : ∀ l ∈ im, IsPerm l d := by
  intro l hl
  obtain ⟨j, hj, rfl⟩ := List.getElem_of_mem hl
  have := hp j hj
  rwa [List.getD_eq_getElem?_getD, List.getElem?_eq_getElem hj] at this
theorem resB_all {im : List (List Int)} {d : Int} (hp : ∀ l ∈ im, IsPerm l d) (r : List (List Int)) : resB im d r = (satB im d.toNat r, 0) := by
  rw [resB, if_pos]
  rw [List.all_eq_true]
  intro l hl
  rw [(hp l hl).inv]; rfl
theorem resB_no {im : List (List Int)} {d : Int} {i : Nat} (hi : i < im.length) (h : (invL (im.getD i []) d).isSome = false) (r : List (List Int)) : resB im d r = (false, 3) := by
  rw [resB, if_neg]
  rw [List.all_eq_true]
  intro h1
  rw [h1 _ (getL_mem hi)] at h; cases h
/-- Whether lists satisfy a presentation, and the error. -/
def satR (g : Int) (r im : List (List Int)) : Bool × Int :=
  if (chk g r).1 = 0 then (if (im.length : Int) = g then (if ((im.getD 0 []).length : Int) < 1 ∨ 64 < ((im.getD 0 []).length : Int) then (false, 3) else resB im ((im.getD 0 []).length : Int) r) else (false, 2)) else (false, (chk g r).1)
end Go.Proofs.YtjmhmflganfoaabGreatDoor
