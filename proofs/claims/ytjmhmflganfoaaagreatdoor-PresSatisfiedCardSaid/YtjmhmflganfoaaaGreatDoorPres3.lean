/- Presentations: rows of exponents, in the reference. -/
import Derived.Test.YtjmhmflganfoaaaGreatDoorPres2
namespace Go.Proofs.YtjmhmflganfoaaaGreatDoor
open Go.Loom
set_option maxRecDepth 100000
def bump (row : List Int) (x : Int) : List Int :=
  if 0 < x then row.set (x - 1).toNat (IntKind.i64.wrap (row.getD (x - 1).toNat 0 + 1)) else row.set (0 - x - 1).toNat (IntKind.i64.wrap (row.getD (0 - x - 1).toNat 0 - 1))
noncomputable def gRE : Gam := [(18, cRCheck)]
theorem gRE_ok : GamOk Tryz.prog gRE := gamOk_cons cRCheck_ok gamOk_nil
abbrev liveRE : List (List Nat × List Nat) := [([0, 1, 0, 1, 1, 1], [1, 6, 7]), ([0, 1, 0, 1, 0, 0, 1, 0, 0, 1, 0, 1, 1, 1], [1, 6, 7, 8, 9])]
noncomputable def sRE : Site := mkSiteF Tryz.prog gRE Tryz.f20 0 liveRE [] [some dL, none]
theorem bump_length (row : List Int) (x : Int) : (bump row x).length = row.length := by unfold bump; split <;> simp
/-- A presentation without faults. -/
structure Good (g : Int) (r : List (List Int)) : Prop where
  g1 : 1 ≤ g
  g16 : g ≤ 16
  len : r.length ≤ 100
  let_ : ∀ w ∈ r, w.length ≤ 4000 ∧ ∀ x ∈ w, x ≠ 0 ∧ -g ≤ x ∧ x ≤ g
theorem chkGo_good {g : Int} (h1 : 1 ≤ g) (h2 : g ≤ 16) : ∀ (r : List (List Int)) (left i : Int), left ≤ 4000 → (chkGo g r left i).1 = 0 → ∀ w ∈ r, w.length ≤ 4000 ∧ ∀ x ∈ w, x ≠ 0 ∧ -g ≤ x ∧ x ≤ g
  | [], _, _, _, _ => by intro w hw; cases hw
  | w :: r, left, i, h0, h => by
    rw [chkGo] at h
    by_cases g1 : left < w.length
    · rw [if_pos g1] at h; exact absurd h (by simp)
    · rw [if_neg g1] at h
      by_cases g2 : w.any (badL g) = true
      · rw [if_pos g2] at h; exact absurd h (by simp)
      · rw [if_neg g2] at h
        have := chkGo_good h1 h2 r _ _ (by omega) h
        intro x hx
        rcases List.mem_cons.1 hx with rfl | hx
        · refine ⟨by omega, fun y hy => ?_⟩
          have g3 : badL g y = false := by
            rw [Bool.not_eq_true, List.any_eq_false] at g2
            simpa using g2 y hy
          unfold badL at g3
          rw [wrap64 (n := 0 - g) (by omega) (by omega)] at g3
          simp only [Bool.or_eq_false_iff, decide_eq_false_iff_not] at g3
          omega
        · exact this x hx
theorem Good.of {g : Int} {r : List (List Int)} (h : (chk g r).1 = 0) : Good g r := by
  unfold chk at h
  by_cases g1 : g < 1 ∨ 16 < g
  · rw [if_pos g1] at h; exact absurd h (by simp)
  · rw [if_neg g1] at h
    by_cases g2 : 100 < r.length
    · rw [if_pos g2] at h; exact absurd h (by simp)
    · rw [if_neg g2] at h
      exact ⟨by omega, by omega, by omega, chkGo_good (by omega) (by omega) r _ _ (by omega) h⟩
def expRow (g : Int) (w : List Int) : List Int := w.foldl bump (List.replicate g.toNat 0)
/-- The rows of exponents, and the error. -/
def expR (g : Int) (r : List (List Int)) : List (List Int) × Int := if (chk g r).1 = 0 then (r.map (expRow g), 0) else ([], (chk g r).1)
abbrev exA (x : List (List Int) × Int) : A := .tup [.c (.rd (.sl (.int .i64)) x.1), .c (.int .i64 x.2)]
abbrev obRE (l : List (List Int)) : Ob := ⟨24, [.a 0 (.sl (.int .i64)) l]⟩
theorem re_inner (g : Int) (r : List (List Int)) (hg : Good g r) (r0 : A) (i : Nat) (hi : i < r.length) (l : List (List Int)) (hl : l.length ≤ 100)
    (hout : AtLoop sRE (Says1 r0 []) [0, 1, 0, 1, 1, 1] (fr [(1, pt 0), (6, slI 1 (l.length + 1)), (7, nI ((i : Int) + 1))]) (.ofList [obP g r, obRE (l ++ [expRow g (r.getD i [])])])) : ∀ (n j : Nat) (row : List Int), n = (r.getD i []).length - j → j ≤ (r.getD i []).length → row.length = g.toNat → ((r.getD i []).drop j).foldl bump row = expRow g (r.getD i []) →
    AtLoop sRE (Says1 r0 []) [0, 1, 0, 1, 0, 0, 1, 0, 0, 1, 0, 1, 1, 1] (fr [(1, pt 0), (6, slI 1 l.length), (7, nI i), (8, slI 2 g.toNat), (9, nI j)]) (.ofList [obP g r, obRE l, obI row])
  | n, j, row, hn, hj, hr, he => by
    refine atLoop_at gRE_ok (by kernel_rfl) 100 ?_
    refine of_eq (q :=
        ((0 : Int) ≤ (↑i : Int) ∧ (↑i : Int) < (↑r.length : Int)) ∧ i < r.length ∧ (decide ((↑j : Int) < (↑(r.getD i []).length : Int)) = true → ((0 : Int) ≤ (↑i : Int) ∧ (↑i : Int) < (↑r.length : Int)) ∧ i < r.length ∧ ((0 : Int) ≤ (↑j : Int) ∧ (↑j : Int) < (↑(r.getD i []).length : Int)) ∧ j < (r.getD i []).length ∧ (decide ((0 : Int) < (r.getD i []).getD j (0 : Int)) = true → ((0 : Int) ≤
        IntKind.i64.wrap ((r.getD i []).getD j (0 : Int) - (1 : Int)) ∧ IntKind.i64.wrap ((r.getD i []).getD j (0 : Int) - (1 : Int)) < (↑g.toNat : Int)) ∧ (0 : Nat) + (IntKind.i64.wrap ((r.getD i []).getD j (0 : Int) - (1 : Int))).toNat < row.length ∧ ((0 : Int) ≤ IntKind.i64.wrap ((r.getD i []).getD j (0 : Int) - (1 : Int)) ∧ IntKind.i64.wrap ((r.getD i []).getD j (0 : Int) - (1 : Int)) < (↑g.toNat :
        Int)) ∧ (0 : Nat) + (IntKind.i64.wrap ((r.getD i []).getD j (0 : Int) - (1 : Int))).toNat < row.length ∧ AtLoop sRE (Says1 r0 []) [(0 : Nat), (1 : Nat), (0 : Nat), (1 : Nat), (0 : Nat), (0 : Nat), (1 : Nat), (0 : Nat), (0 : Nat), (1 : Nat), (0 : Nat), (1 : Nat), (1 : Nat), (1 : Nat)] (fr [((1 : Nat), A.p (V.c (W.ptr (0 : Nat) (0 : Nat)))), ((6 : Nat), A.p (V.c (W.sl (1 : Nat) (0 : Nat) l.length (1
        : Nat)))), ((7 : Nat), A.p (V.c (W.int IntKind.i64 (↑i : Int)))), ((8 : Nat), A.p (V.c (W.sl (2 : Nat) (0 : Nat) g.toNat (1 : Nat)))), ((9 : Nat), A.p (V.c (W.int IntKind.i64 (IntKind.i64.wrap ((↑j : Int) + (1 : Int))))))]) (Sto.ofList [Ob.mk (27 : Nat) [Fd.c (W.int IntKind.i64 g), Fd.c (W.rd (D.int IntKind.i64).sl r)], Ob.mk (24 : Nat) [Fd.a (0 : Nat) (D.int IntKind.i64).sl l], Ob.mk (3 : Nat)
        [Fd.a (0 : Nat) (D.int IntKind.i64) (row.set ((0 : Nat) + (IntKind.i64.wrap ((r.getD i []).getD j (0 : Int) - (1 : Int))).toNat) (IntKind.i64.wrap (row.getD ((0 : Nat) + (IntKind.i64.wrap ((r.getD i []).getD j (0 : Int) - (1 : Int))).toNat) (0 : Int) + (1 : Int))))]])) ∧ (decide ((0 : Int) < (r.getD i []).getD j (0 : Int)) = false → ((0 : Int) ≤ IntKind.i64.wrap (IntKind.i64.wrap ((0 : Int) -
        (r.getD i []).getD j (0 : Int)) - (1 : Int)) ∧ IntKind.i64.wrap (IntKind.i64.wrap ((0 : Int) - (r.getD i []).getD j (0 : Int)) - (1 : Int)) < (↑g.toNat : Int)) ∧ (0 : Nat) + (IntKind.i64.wrap (IntKind.i64.wrap ((0 : Int) - (r.getD i []).getD j (0 : Int)) - (1 : Int))).toNat < row.length ∧ ((0 : Int) ≤ IntKind.i64.wrap (IntKind.i64.wrap ((0 : Int) - (r.getD i []).getD j (0 : Int)) - (1 : Int)) ∧
        IntKind.i64.wrap (IntKind.i64.wrap ((0 : Int) - (r.getD i []).getD j (0 : Int)) - (1 : Int)) < (↑g.toNat : Int)) ∧ (0 : Nat) + (IntKind.i64.wrap (IntKind.i64.wrap ((0 : Int) - (r.getD i []).getD j (0 : Int)) - (1 : Int))).toNat < row.length ∧ AtLoop sRE (Says1 r0 []) [(0 : Nat), (1 : Nat), (0 : Nat), (1 : Nat), (0 : Nat), (0 : Nat), (1 : Nat), (0 : Nat), (0 : Nat), (1 : Nat), (0 : Nat), (1 : Nat),
        (1 : Nat), (1 : Nat)] (fr [((1 : Nat), A.p (V.c (W.ptr (0 : Nat) (0 : Nat)))), ((6 : Nat), A.p (V.c (W.sl (1 : Nat) (0 : Nat) l.length (1 : Nat)))), ((7 : Nat), A.p (V.c (W.int IntKind.i64 (↑i : Int)))), ((8 : Nat), A.p (V.c (W.sl (2 : Nat) (0 : Nat) g.toNat (1 : Nat)))), ((9 : Nat), A.p (V.c (W.int IntKind.i64 (IntKind.i64.wrap ((↑j : Int) + (1 : Int))))))]) (Sto.ofList [Ob.mk (27 : Nat) [Fd.c
        (W.int IntKind.i64 g), Fd.c (W.rd (D.int IntKind.i64).sl r)], Ob.mk (24 : Nat) [Fd.a (0 : Nat) (D.int IntKind.i64).sl l], Ob.mk (3 : Nat) [Fd.a (0 : Nat) (D.int IntKind.i64) (row.set ((0 : Nat) + (IntKind.i64.wrap (IntKind.i64.wrap ((0 : Int) - (r.getD i []).getD j (0 : Int)) - (1 : Int))).toNat) (IntKind.i64.wrap (row.getD ((0 : Nat) + (IntKind.i64.wrap (IntKind.i64.wrap ((0 : Int) - (r.getD i
        []).getD j (0 : Int)) - (1 : Int))).toNat) (0 : Int) - (1 : Int))))]]))) ∧ (decide ((↑j : Int) < (↑(r.getD i []).length : Int)) = false → (0 : Nat) + g.toNat ≤ row.length ∧ (0 : Nat) + (1 : Nat) ≤ (1 : Nat) ∧ ((0 : Nat) + l.length ≤ l.length ∧ (l.length + (1 : Nat)) * (24 : Nat) ≤ (140737488355328 : Nat)) ∧ AtLoop sRE (Says1 r0 []) [(0 : Nat), (1 : Nat), (0 : Nat), (1 : Nat), (1 : Nat), (1 : Nat)]
        (fr [((1 : Nat), A.p (V.c (W.ptr (0 : Nat) (0 : Nat)))), ((6 : Nat), A.p (V.c (W.sl (1 : Nat) (0 : Nat) (l.length + (1 : Nat)) (1 : Nat)))), ((7 : Nat), A.p (V.c (W.int IntKind.i64 (IntKind.i64.wrap ((↑i : Int) + (1 : Int))))))]) (Sto.ofList [Ob.mk (27 : Nat) [Fd.c (W.int IntKind.i64 g), Fd.c (W.rd (D.int IntKind.i64).sl r)], Ob.mk (24 : Nat) [Fd.a (0 : Nat) (D.int IntKind.i64).sl (List.take
        l.length (List.drop (0 : Nat) l) ++ List.take (1 : Nat) (List.drop (0 : Nat) [List.take g.toNat (List.drop (0 : Nat) row)]))]]))) (by kernel_rfl) ?_
    try simp only [true_and, Nat.zero_add, decide_eq_true_eq, decide_eq_false_iff_not, Int.not_lt, List.drop_zero, List.take_length, List.take_succ_cons, List.take_zero, Nat.le_refl]
    have hm := hg.let_ (r.getD i []) (by rw [List.getD_eq_getElem?_getD, List.getElem?_eq_getElem hi]; exact List.getElem_mem hi)
    have b1 := hg.g1
    have b2 := hg.g16
    have b3 := hg.len
    have b4 := hm.1
    rw [wrap64 (n := (i : Int) + 1) (by omega) (by omega), wrap64 (n := (j : Int) + 1) (by omega) (by omega)]
    refine ⟨by omega, hi, fun h => ?_, fun h => ⟨by omega, by omega, ?_⟩⟩
    · have hj' : j < (r.getD i []).length := by omega
      have hx := hm.2 ((r.getD i []).getD j 0) (by rw [List.getD_eq_getElem?_getD (l := r.getD i []), List.getElem?_eq_getElem hj']; exact List.getElem_mem hj')
      rw [getD_lt hj', List.foldl_cons] at he
      cases n with
      | zero => omega
      | succ n =>
        have := re_inner g r hg r0 i hi l hl hout n (j + 1) (bump row ((r.getD i []).getD j 0)) (by omega) (by omega) (by rw [bump_length, hr]) he
        unfold bump at this
        generalize (r.getD i []).getD j 0 = x at hx this ⊢
        rw [wrap64 (n := x - 1) (by omega) (by omega), wrap64 (n := 0 - x) (by omega) (by omega), wrap64 (n := 0 - x - 1) (by omega) (by omega)]
        refine ⟨by omega, hi, by omega, by omega, fun g1 => ?_, fun g1 => ?_⟩
        · rw [if_pos g1] at this
          exact ⟨by omega, by omega, by omega, by omega, this⟩
        · rw [if_neg (by omega)] at this
          exact ⟨by omega, by omega, by omega, by omega, this⟩
    · rw [List.drop_eq_nil_of_le (by omega), List.foldl_nil] at he
      rw [List.take_of_length_le (by omega), he]
      exact hout
theorem re_outer (g : Int) (r : List (List Int)) (hg : Good g r) : ∀ (n i : Nat) (l : List (List Int)), n = r.length - i → i ≤ r.length → l.length = i → l ++ (r.drop i).map (expRow g) = r.map (expRow g) →
    AtLoop sRE (Says1 (exA (r.map (expRow g), 0)) []) [0, 1, 0, 1, 1, 1] (fr [(1, pt 0), (6, slI 1 l.length), (7, nI i)]) (.ofList [obP g r, obRE l])
  | n, i, l, hn, hi, hl, he => by
    refine atLoop_at gRE_ok (by kernel_rfl) 100 ?_
    refine of_eq (q :=
        (decide ((↑i : Int) < (↑r.length : Int)) = true → ((0 : Int) ≤ g ∧ g ≤ g ∧ (↑(8 : Nat) : Int) * g ≤ (140737488355328 : Int)) ∧ AtLoop sRE (Says1 (exA (List.map (expRow g) r, (0 : Int))) []) [(0 : Nat), (1 : Nat), (0 : Nat), (1 : Nat), (0 : Nat), (0 : Nat), (1 : Nat), (0 : Nat), (0 : Nat), (1 : Nat), (0 : Nat), (1 : Nat), (1 : Nat), (1 : Nat)] (fr [((1 : Nat), A.p (V.c (W.ptr (0 : Nat) (0 :
        Nat)))), ((6 : Nat), A.p (V.c (W.sl (1 : Nat) (0 : Nat) l.length (1 : Nat)))), ((7 : Nat), A.p (V.c (W.int IntKind.i64 (↑i : Int)))), ((8 : Nat), A.p (V.c (W.sl (2 : Nat) (0 : Nat) g.toNat (1 : Nat)))), ((9 : Nat), A.p (V.c (W.int IntKind.i64 (0 : Int))))]) (Sto.ofList [Ob.mk (27 : Nat) [Fd.c (W.int IntKind.i64 g), Fd.c (W.rd (D.int IntKind.i64).sl r)], Ob.mk (24 : Nat) [Fd.a (0 : Nat) (D.int
        IntKind.i64).sl l], Ob.mk (3 : Nat) [Fd.a (0 : Nat) (D.int IntKind.i64) (List.replicate g.toNat (0 : Int))]])) ∧ (decide ((↑i : Int) < (↑r.length : Int)) = false → (0 : Nat) + l.length ≤ l.length ∧ packV [V.c (W.rd (D.int IntKind.i64).sl (List.take l.length (List.drop (0 : Nat) l))), V.c (W.int IntKind.i64 (0 : Int))] = exA (List.map (expRow g) r, (0 : Int)) ∧ ([] : List Ob) = [])) (by kernel_rfl) ?_
    try simp only [true_and, and_true, Nat.zero_add, decide_eq_true_eq, decide_eq_false_iff_not, Int.not_lt, List.drop_zero, List.take_length, Nat.le_refl, Int.le_refl]
    have b1 := hg.g1
    have b2 := hg.g16
    have b3 := hg.len
    refine ⟨fun h => ⟨by omega, ?_⟩, fun h => ?_⟩
    · cases n with
      | zero => omega
      | succ n =>
        rw [getL_lt (by omega), List.map_cons] at he
        refine re_inner g r hg _ i (by omega) l (by omega) ?_ (r.getD i []).length 0 (List.replicate g.toNat 0) (by omega) (by omega) (by simp) rfl
        have := re_outer g r hg n (i + 1) (l ++ [expRow g (r.getD i [])]) (by omega) (by omega) (by simp; omega) (by simpa using he)
        rw [List.length_append] at this
        exact this
    · rw [List.drop_eq_nil_of_le (by omega), List.map_nil, List.append_nil] at he
      rw [he]; rfl
theorem rexp_sem (g : Int) (r : List (List Int)) (hs : Sh r) : FnSem Tryz.prog 20 [prA g r] [] (exA (expR g r)) [] := by
  refine fnSemF_at (live := liveRE) (fzl := []) (fz := [some dL, none]) gRE_ok Tryz.func20 (by kernel_rfl) (keep := 0) rfl (by kernel_rfl) 100 ?_
  refine of_eq (q :=
      Sh r ∧ ((!decide ((chk g r).fst = (0 : Int))) = true → (0 : Nat) ≤ (0 : Nat) ∧ packV [V.c (W.rd (D.int IntKind.i64).sl (List.take (0 : Nat) (List.drop (0 : Nat) []))), V.c (W.int IntKind.i64 (chk g r).fst)] = exA (expR g r) ∧ ([] : List Ob) = []) ∧ ((!decide ((chk g r).fst = (0 : Int))) = false → AtLoop (mkSiteF Tryz.prog gRE Tryz.f20 (0 : Nat) liveRE [] [some dL, none]) (Says1 (exA (expR g r))
      []) [(0 : Nat), (1 : Nat), (0 : Nat), (1 : Nat), (1 : Nat), (1 : Nat)] (fr [((1 : Nat), A.p (V.c (W.ptr (0 : Nat) (0 : Nat)))), ((6 : Nat), A.p (V.c (W.sl (1 : Nat) (0 : Nat) (0 : Nat) (1 : Nat)))), ((7 : Nat), A.p (V.c (W.int IntKind.i64 (0 : Int))))]) (Sto.ofList [Ob.mk (27 : Nat) [Fd.c (W.int IntKind.i64 g), Fd.c (W.rd (D.int IntKind.i64).sl r)], Ob.mk (24 : Nat) [Fd.a (0 : Nat) (D.int
      IntKind.i64).sl []]]))) (by kernel_rfl) ?_
  try simp only [true_and, and_true, Bool.not_eq_true', Bool.not_eq_false', decide_eq_true_eq, decide_eq_false_iff_not, List.drop_zero, List.take_zero, Nat.le_refl]
  refine ⟨hs, fun h => ?_, fun h => ?_⟩
  · rw [expR, if_neg h]; rfl
  · rw [expR, if_pos h]
    exact re_outer g r (.of h) r.length 0 [] rfl (by omega) rfl rfl
def cRExp : Con := conP fun g r => (.p (Sh r), exA (expR g r), [])
theorem cRExp_ok : ConOk Tryz.prog 20 cRExp := conP_ok (by kernel_rfl) fun g r h => rexp_sem g r h
end Go.Proofs.YtjmhmflganfoaaaGreatDoor
