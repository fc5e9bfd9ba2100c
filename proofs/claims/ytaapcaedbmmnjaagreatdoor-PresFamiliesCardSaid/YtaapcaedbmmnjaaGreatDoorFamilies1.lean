/- The law PresFamilies as a call. -/
import Derived.Test.YtaapcaedbmmnjaaGreatDoorCoxeter2
import Derived.Test.YtaapcaedbmmnjaaGreatDoorAwake1
import Derived.Test.YtaapcaedbmmnjaaGreatDoorLoom4
namespace Go.Proofs.YtaapcaedbmmnjaaGreatDoor
open Go.Loom
set_option maxRecDepth 100000
theorem awake_sem : FnSem Tryz.prog 12 [] [] (bB true) [] := fnSem_below (d := .bool) (y := true) fun η Z w vs hvs => by
  cases vs with
  | cons _ _ => exact hvs.elim
  | nil => exact (awake_true w).mono fun e w' ⟨he, hB⟩ => ⟨_, he, fun _ => rfl, hB⟩
def cAwake : Con := con0 (.t, bB true, [])
theorem cAwake_ok : ConOk Tryz.prog 12 cAwake := con0_ok (by kernel_rfl) fun _ => awake_sem
theorem chkGo_sh (g : Int) : ∀ (r : List (List Int)) (left i : Int), 0 ≤ left → left ≤ 1000000 → (chkGo g r left i).1 = 0 → Sh r
  | [], _, _, _, _, _ => by intro w hw; cases hw
  | w :: r, left, i, h0, h1, h => by
    rw [chkGo] at h
    by_cases g1 : left < w.length
    · rw [if_pos g1] at h; exact absurd h (by simp)
    · rw [if_neg g1] at h
      by_cases g2 : w.any (badL g) = true
      · rw [if_pos g2] at h; exact absurd h (by simp)
      · rw [if_neg g2] at h
        have := chkGo_sh g r _ _ (by omega) (by omega) h
        intro x hx
        rcases List.mem_cons.1 hx with rfl | hx
        · omega
        · exact this x hx
theorem chk_sh {g : Int} {r : List (List Int)} (h : (chk g r).1 = 0) : r.length ≤ 1000000 ∧ Sh r := by
  unfold chk at h
  by_cases g1 : g < 1 ∨ 16 < g
  · rw [if_pos g1] at h; exact absurd h (by simp)
  · rw [if_neg g1] at h
    by_cases g2 : 100 < r.length
    · rw [if_pos g2] at h; exact absurd h (by simp)
    · rw [if_neg g2] at h
      exact ⟨by omega, chkGo_sh g r _ _ (by omega) (by omega) h⟩
theorem Sh.nil : Sh [] := by intro w hw; cases hw
theorem fin1_sh (g : Int) (r : List (List Int)) : (fin1 g r).1.2.length ≤ 1000000 ∧ Sh (fin1 g r).1.2 := by
  unfold fin1
  split
  · rename_i h; exact chk_sh h
  · exact ⟨by simp, .nil⟩
theorem coxR_sh (m : List (List Int)) : (coxR m).1.2.length ≤ 1000000 ∧ Sh (coxR m).1.2 := by
  unfold coxR
  split
  · exact ⟨by simp, .nil⟩
  split
  · exact ⟨by simp, .nil⟩
  split
  · exact ⟨by simp, .nil⟩
  split
  · exact ⟨by simp, .nil⟩
  exact fin1_sh _ _
theorem triR_sh (l m n : Int) : (triR l m n).1.2.length ≤ 1000000 ∧ Sh (triR l m n).1.2 := by
  unfold triR
  split
  · exact ⟨by simp, .nil⟩
  · rename_i h
    refine ⟨by simp, ?_⟩
    intro w hw
    simp only [List.mem_cons, List.not_mem_nil, or_false] at hw
    rcases hw with rfl | rfl | rfl <;> (rw [pw_length]; simp only [List.length_cons, List.length_nil]; omega)
noncomputable def gFam : Gam := [(12, cAwake), (13, cCox), (14, cRCox), (15, cTri), (16, cRTri), (17, cSameP)]
theorem gFam_ok : GamOk Tryz.prog gFam := gamOk_cons cAwake_ok (gamOk_cons cCox_ok (gamOk_cons cRCox_ok (gamOk_cons cTri_ok (gamOk_cons cRTri_ok (gamOk_cons cSameP_ok gamOk_nil)))))
abbrev liveFam : List (List Nat × List Nat) := [([0, 1, 0, 1, 1], [0, 1, 2, 3, 9])]
noncomputable def sFam : Site := mkSite Tryz.prog gFam Tryz.f3 0 liveFam
theorem fam_loop (m : List (List Int)) (a b c : Int) (hl : m.length ≤ 20) : ∀ (n i : Nat), n = m.length - i → i ≤ m.length →
    AtLoop sFam (Says1 (bB true) []) [0, 1, 0, 1, 1] (fr [(0, llI m), (1, nI a), (2, nI b), (3, nI c), (9, nI i)]) (.ofList [])
  | n, i, hn, hi => by
    refine atLoop_at gFam_ok (by kernel_rfl) 100 ?_
    refine of_eq (q :=
        (decide ((↑i : Int) < (↑m.length : Int)) = true → ((0 : Int) ≤ (↑i : Int) ∧ (↑i : Int) < (↑m.length : Int)) ∧ i < m.length ∧ (decide ((20 : Int) < (↑(m.getD i []).length : Int)) = true → packV [V.c (W.bool true)] = bB true ∧ ([] : List Ob) = []) ∧ (decide ((20 : Int) < (↑(m.getD i []).length : Int)) = false → AtLoop sFam (Says1 (bB true) []) [(0 : Nat), (1 : Nat), (0 : Nat), (1 : Nat), (1 : Nat)]
        (fr [((0 : Nat), A.p (V.c (W.rd (D.int IntKind.i64).sl m))), ((1 : Nat), A.p (V.c (W.int IntKind.i64 a))), ((2 : Nat), A.p (V.c (W.int IntKind.i64 b))), ((3 : Nat), A.p (V.c (W.int IntKind.i64 c))), ((9 : Nat), A.p (V.c (W.int IntKind.i64 (IntKind.i64.wrap ((↑i : Int) + (1 : Int))))))]) (Sto.ofList []))) ∧ (decide ((↑i : Int) < (↑m.length : Int)) = false → m.length ≤ (1000000 : Nat) ∧ (decide
        ((coxR m).snd = (coxR m).snd) = true → decide ((coxR m).snd = (coxR m).snd) = true) ∧ (decide ((coxR m).snd = (coxR m).snd) = true → decide ((coxR m).snd = (coxR m).snd) = true) ∧ (decide ((coxR m).snd = (coxR m).snd) = true → ((coxR m).fst.fst = (coxR m).fst.fst ∧ (coxR m).fst.snd = (coxR m).fst.snd) ∧ (coxR m).fst.snd.length ≤ (1000000 : Nat) ∧ Sh (coxR m).fst.snd) ∧ (decide ((coxR m).snd =
        (coxR m).snd) = true → decide ((coxR m).snd = (coxR m).snd) = true) ∧ ((bif decide ((coxR m).snd = (coxR m).snd) then true else false) = true → (bif decide ((coxR m).snd = (coxR m).snd) then true else false) = true) ∧ ((bif decide ((coxR m).snd = (coxR m).snd) then true else false) = true → (bif decide ((coxR m).snd = (coxR m).snd) then true else false) = true) ∧ ((bif decide ((coxR m).snd = (coxR
        m).snd) then true else false) = true → (bif decide ((coxR m).snd = (coxR m).snd) then true else false) = true) ∧ ((bif bif decide ((coxR m).snd = (coxR m).snd) then true else false then decide ((triR a b c).snd = (triR a b c).snd) else false) = true → (bif bif decide ((coxR m).snd = (coxR m).snd) then true else false then decide ((triR a b c).snd = (triR a b c).snd) else false) = true) ∧ ((bif bif
        decide ((coxR m).snd = (coxR m).snd) then true else false then decide ((triR a b c).snd = (triR a b c).snd) else false) = true → (bif bif decide ((coxR m).snd = (coxR m).snd) then true else false then decide ((triR a b c).snd = (triR a b c).snd) else false) = true) ∧ ((bif bif decide ((coxR m).snd = (coxR m).snd) then true else false then decide ((triR a b c).snd = (triR a b c).snd) else false) =
        true → ((triR a b c).fst.fst = (triR a b c).fst.fst ∧ (triR a b c).fst.snd = (triR a b c).fst.snd) ∧ (triR a b c).fst.snd.length ≤ (1000000 : Nat) ∧ Sh (triR a b c).fst.snd) ∧ ((bif bif decide ((coxR m).snd = (coxR m).snd) then true else false then decide ((triR a b c).snd = (triR a b c).snd) else false) = true → (bif bif decide ((coxR m).snd = (coxR m).snd) then true else false then decide ((triR
        a b c).snd = (triR a b c).snd) else false) = true) ∧ ((bif bif bif decide ((coxR m).snd = (coxR m).snd) then true else false then decide ((triR a b c).snd = (triR a b c).snd) else false then true else false) = true → (bif bif bif decide ((coxR m).snd = (coxR m).snd) then true else false then decide ((triR a b c).snd = (triR a b c).snd) else false then true else false) = true) ∧ packV [V.c (W.bool
        (bif bif bif bif decide ((coxR m).snd = (coxR m).snd) then true else false then decide ((triR a b c).snd = (triR a b c).snd) else false then true else false then true else false))] = bB true ∧ ([] : List Ob) = [])) (by kernel_rfl) ?_
    try simp only [imp_self, true_and, and_true, Bool.cond_false_right, Bool.and_eq_true, decide_eq_true_eq, decide_eq_false_iff_not, Int.not_lt]
    rw [wrap64 (n := (i : Int) + 1) (by omega) (by omega)]
    refine ⟨fun h => ⟨by omega, by omega, fun _ => rfl, fun g => ?_⟩, fun h => ⟨by omega, fun _ => coxR_sh m, fun _ => triR_sh a b c, ?_⟩⟩
    · cases n with
      | zero => omega
      | succ n => exact fam_loop m a b c hl n (i + 1) (by omega) (by omega)
    · rw [decide_eq_true trivial]; rfl
theorem fam_sem (m : List (List Int)) (a b c : Int) : FnSem Tryz.prog 3 [llI m, nI a, nI b, nI c] [] (bB true) [] := by
  refine fnSem_at (live := liveFam) gFam_ok Tryz.func3 (by kernel_rfl) (keep := 0) rfl (by kernel_rfl) 100 ?_
  refine of_eq (q :=
      (decide ((20 : Int) < (↑m.length : Int)) = true → packV [V.c (W.bool true)] = bB true ∧ ([] : List Ob) = []) ∧ (decide ((20 : Int) < (↑m.length : Int)) = false → AtLoop (mkSite Tryz.prog gFam Tryz.f3 (0 : Nat) liveFam) (Says1 (bB true) []) [(0 : Nat), (1 : Nat), (0 : Nat), (1 : Nat), (1 : Nat)] (fr [((0 : Nat), A.p (V.c (W.rd (D.int IntKind.i64).sl m))), ((1 : Nat), A.p (V.c (W.int IntKind.i64
      a))), ((2 : Nat), A.p (V.c (W.int IntKind.i64 b))), ((3 : Nat), A.p (V.c (W.int IntKind.i64 c))), ((9 : Nat), A.p (V.c (W.int IntKind.i64 (0 : Int))))]) (Sto.ofList []))) (by kernel_rfl) ?_
  try simp only [and_true, decide_eq_true_eq, decide_eq_false_iff_not, Int.not_lt]
  exact ⟨fun _ => rfl, fun h => fam_loop m a b c (by omega) m.length 0 rfl (by omega)⟩
theorem families_all : ForArgs (fun args => FnSem Tryz.prog 3 args [] (dat .bool true) []) [.sl (.sl (.int .i64)), .int .i64, .int .i64, .int .i64] [] :=
  fun m _ a _ b _ c _ => fam_sem m a b c
end Go.Proofs.YtaapcaedbmmnjaaGreatDoor
