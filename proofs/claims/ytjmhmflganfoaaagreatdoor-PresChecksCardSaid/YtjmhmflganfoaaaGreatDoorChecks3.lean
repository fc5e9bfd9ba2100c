/- The law PresChecks as a call. -/
import Derived.Test.YtjmhmflganfoaaaGreatDoorChecks2
namespace Go.Proofs.YtjmhmflganfoaaaGreatDoor
open Go.Loom
set_option maxRecDepth 100000
noncomputable def gPX : Gam := [(9, cAwake), (15, cVast), (16, cOwn), (17, cCheck), (18, cRCheck), (19, cExp), (20, cRExp), (21, cLEq), (22, cPSame), (14, cRSame)]
theorem gPX_ok : GamOk Tryz.prog gPX := gamOk_cons cAwake_ok (gamOk_cons cVast_ok (gamOk_cons cOwn_ok (gamOk_cons cCheck_ok (gamOk_cons cRCheck_ok (gamOk_cons cExp_ok (gamOk_cons cRExp_ok (gamOk_cons cLEq_ok (gamOk_cons cPSame_ok (gamOk_cons cRSame_ok gamOk_nil)))))))))
abbrev livePX : List (List Nat × List Nat) := [([0, 1, 0, 1, 1, 1, 1, 1, 1, 1, 1], [2, 3, 5, 6, 7, 8, 9, 10, 12, 14])]
noncomputable def sPX : Site := mkSite Tryz.prog gPX Tryz.f4 0 livePX
theorem px_loop (g : Int) (r : List (List Int)) (g2 : Int) (r2 : List (List Int)) (hs : Sm r) (e k : Int) (x : List (List Int)) (hx : x.length ≤ 1000000) (hx2 : ∀ w ∈ x, w.length ≤ 1000000) : ∀ (n i : Nat), n = x.length - i → i ≤ x.length →
    AtLoop sPX (Says1 (bB true) []) [0, 1, 0, 1, 1, 1, 1, 1, 1, 1, 1] (fr [(2, pt 0), (3, pt 1), (5, pt 2), (6, nI e), (7, nI k), (8, nI e), (9, nI k), (10, llI x), (12, llI x), (14, nI i)]) (.ofList [obP g r, obP g2 r2, obP g r])
  | n, i, hn, hi => by
    refine atLoop_at gPX_ok (by kernel_rfl) 100 ?_
    refine of_eq (q :=
        (decide ((↑i : Int) < (↑x.length : Int)) = true → ((0 : Int) ≤ (↑i : Int) ∧ (↑i : Int) < (↑x.length : Int)) ∧ i < x.length ∧ ((0 : Int) ≤ (↑i : Int) ∧ (↑i : Int) < (↑x.length : Int)) ∧ i < x.length ∧ (x.getD i [] = x.getD i [] ∧ (x.getD i []).length ≤ (1000000 : Nat)) ∧ ((!true) = true → packV [V.c (W.bool false)] = bB true ∧ ([] : List Ob) = []) ∧ ((!true) = false → AtLoop sPX (Says1 (bB true)
        []) [(0 : Nat), (1 : Nat), (0 : Nat), (1 : Nat), (1 : Nat), (1 : Nat), (1 : Nat), (1 : Nat), (1 : Nat), (1 : Nat), (1 : Nat)] (fr [((2 : Nat), A.p (V.c (W.ptr (0 : Nat) (0 : Nat)))), ((3 : Nat), A.p (V.c (W.ptr (1 : Nat) (0 : Nat)))), ((5 : Nat), A.p (V.c (W.ptr (2 : Nat) (0 : Nat)))), ((6 : Nat), A.p (V.c (W.int IntKind.i64 e))), ((7 : Nat), A.p (V.c (W.int IntKind.i64 k))), ((8 : Nat), A.p (V.c
        (W.int IntKind.i64 e))), ((9 : Nat), A.p (V.c (W.int IntKind.i64 k))), ((10 : Nat), A.p (V.c (W.rd (D.int IntKind.i64).sl x))), ((12 : Nat), A.p (V.c (W.rd (D.int IntKind.i64).sl x))), ((14 : Nat), A.p (V.c (W.int IntKind.i64 (IntKind.i64.wrap ((↑i : Int) + (1 : Int))))))]) (Sto.ofList [Ob.mk (27 : Nat) [Fd.c (W.int IntKind.i64 g), Fd.c (W.rd (D.int IntKind.i64).sl r)], Ob.mk (27 : Nat) [Fd.c
        (W.int IntKind.i64 g2), Fd.c (W.rd (D.int IntKind.i64).sl r2)], Ob.mk (27 : Nat) [Fd.c (W.int IntKind.i64 g), Fd.c (W.rd (D.int IntKind.i64).sl r)]]))) ∧ (decide ((↑i : Int) < (↑x.length : Int)) = false → (decide (e = e) = true → decide (e = e) = true) ∧ (decide (e = e) = true → decide (e = e) = true) ∧ (decide (e = e) = true → decide (e = e) = true) ∧ ((bif decide (e = e) then decide (k = k) else
        false) = true → (bif decide (e = e) then decide (k = k) else false) = true) ∧ ((bif decide (e = e) then decide (k = k) else false) = true → (bif decide (e = e) then decide (k = k) else false) = true) ∧ ((bif decide (e = e) then decide (k = k) else false) = true → r.length ≤ (1000000 : Nat) ∧ Sh r) ∧ ((bif decide (e = e) then decide (k = k) else false) = true → (bif decide (e = e) then decide (k =
        k) else false) = true) ∧ ((bif decide (e = e) then decide (k = k) else false) = true → (bif decide (e = e) then decide (k = k) else false) = true) ∧ ((bif decide (e = e) then decide (k = k) else false) = true → r.length ≤ (1000000 : Nat) ∧ Sh r) ∧ ((bif decide (e = e) then decide (k = k) else false) = true → (bif decide (e = e) then decide (k = k) else false) = true) ∧ ((bif decide (e = e) then
        decide (k = k) else false) = true → (bif decide (e = e) then decide (k = k) else false) = true) ∧ ((bif decide (e = e) then decide (k = k) else false) = true → (bif decide (e = e) then decide (k = k) else false) = true) ∧ ((bif bif decide (e = e) then decide (k = k) else false then decide (g = g2 ∧ r = r2) == decide (g = g2 ∧ r = r2) else false) = true → (bif bif decide (e = e) then decide (k = k)
        else false then decide (g = g2 ∧ r = r2) == decide (g = g2 ∧ r = r2) else false) = true) ∧ ((bif bif decide (e = e) then decide (k = k) else false then decide (g = g2 ∧ r = r2) == decide (g = g2 ∧ r = r2) else false) = true → (bif bif decide (e = e) then decide (k = k) else false then decide (g = g2 ∧ r = r2) == decide (g = g2 ∧ r = r2) else false) = true) ∧ ((bif bif decide (e = e) then decide (k
        = k) else false then decide (g = g2 ∧ r = r2) == decide (g = g2 ∧ r = r2) else false) = true → r.length ≤ (1000000 : Nat) ∧ Sh r) ∧ ((bif bif decide (e = e) then decide (k = k) else false then decide (g = g2 ∧ r = r2) == decide (g = g2 ∧ r = r2) else false) = true → (bif bif decide (e = e) then decide (k = k) else false then decide (g = g2 ∧ r = r2) == decide (g = g2 ∧ r = r2) else false) = true)
        ∧ ((bif bif bif decide (e = e) then decide (k = k) else false then decide (g = g2 ∧ r = r2) == decide (g = g2 ∧ r = r2) else false then decide (g = g ∧ r = r) else false) = true → (bif bif bif decide (e = e) then decide (k = k) else false then decide (g = g2 ∧ r = r2) == decide (g = g2 ∧ r = r2) else false then decide (g = g ∧ r = r) else false) = true) ∧ ((bif bif bif decide (e = e) then decide
        (k = k) else false then decide (g = g2 ∧ r = r2) == decide (g = g2 ∧ r = r2) else false then decide (g = g ∧ r = r) else false) = true → (bif bif bif decide (e = e) then decide (k = k) else false then decide (g = g2 ∧ r = r2) == decide (g = g2 ∧ r = r2) else false then decide (g = g ∧ r = r) else false) = true) ∧ ((bif bif bif decide (e = e) then decide (k = k) else false then decide (g = g2 ∧ r =
        r2) == decide (g = g2 ∧ r = r2) else false then decide (g = g ∧ r = r) else false) = true → r.length ≤ (1000000 : Nat) ∧ Sh r) ∧ ((bif bif bif decide (e = e) then decide (k = k) else false then decide (g = g2 ∧ r = r2) == decide (g = g2 ∧ r = r2) else false then decide (g = g ∧ r = r) else false) = true → (bif bif bif decide (e = e) then decide (k = k) else false then decide (g = g2 ∧ r = r2) ==
        decide (g = g2 ∧ r = r2) else false then decide (g = g ∧ r = r) else false) = true) ∧ ((bif bif bif bif decide (e = e) then decide (k = k) else false then decide (g = g2 ∧ r = r2) == decide (g = g2 ∧ r = r2) else false then decide (g = g ∧ r = r) else false then decide (g = g ∧ r = r) else false) = true → (bif bif bif bif decide (e = e) then decide (k = k) else false then decide (g = g2 ∧ r = r2)
        == decide (g = g2 ∧ r = r2) else false then decide (g = g ∧ r = r) else false then decide (g = g ∧ r = r) else false) = true) ∧ A.cond ((bif decide (e = e) then decide (k = k) else false) = true) (V.agg (List.take (2 : Nat) (List.drop (0 : Nat) (obP g r).cells))) = A.cond ((bif decide (e = e) then decide (k = k) else false) = true) (V.agg (List.take (2 : Nat) (List.drop (0 : Nat) (obP g
        r).cells))) ∧ A.cond ((bif decide (e = e) then decide (k = k) else false) = true) (V.agg (List.take (2 : Nat) (List.drop (0 : Nat) (obP g r).cells))) = A.cond ((bif decide (e = e) then decide (k = k) else false) = true) (V.agg (List.take (2 : Nat) (List.drop (0 : Nat) (obP g r).cells))) ∧ A.cond ((bif decide (e = e) then decide (k = k) else false) = true) (V.agg (List.take (2 : Nat) (List.drop (0
        : Nat) (obP g2 r2).cells))) = A.cond ((bif decide (e = e) then decide (k = k) else false) = true) (V.agg (List.take (2 : Nat) (List.drop (0 : Nat) (obP g2 r2).cells))) ∧ A.cond ((bif decide (e = e) then decide (k = k) else false) = true) (V.agg (List.take (2 : Nat) (List.drop (0 : Nat) (obP g2 r2).cells))) = A.cond ((bif decide (e = e) then decide (k = k) else false) = true) (V.agg (List.take (2 :
        Nat) (List.drop (0 : Nat) (obP g2 r2).cells))) ∧ packV [V.c (W.bool (bif bif bif bif bif decide (e = e) then decide (k = k) else false then decide (g = g2 ∧ r = r2) == decide (g = g2 ∧ r = r2) else false then decide (g = g ∧ r = r) else false then decide (g = g ∧ r = r) else false then true else false))] = bB true ∧ ([] : List Ob) = [])) (by kernel_rfl) ?_
    try simp only [imp_self, true_and, and_true, Bool.cond_false_right, Bool.and_eq_true, Bool.not_eq_true', Bool.not_eq_false', decide_eq_true_eq, decide_eq_false_iff_not, Int.not_lt, List.drop_zero]
    have hr : r.length ≤ 1000000 ∧ Sh r := ⟨by have := hs.1; omega, hs.sh⟩
    rw [wrap64 (n := (i : Int) + 1) (by omega) (by omega)]
    refine ⟨fun h => ⟨by omega, by omega, by omega, by omega, ?_, fun h => (by cases h), fun _ => ?_⟩, fun h => ⟨fun _ => hr, fun _ => hr, fun _ => hr, fun _ => hr, ?_⟩⟩
    · have hi' : i < x.length := by omega
      exact hx2 _ (by rw [List.getD_eq_getElem?_getD, List.getElem?_eq_getElem hi']; exact List.getElem_mem hi')
    · cases n with
      | zero => omega
      | succ n => exact px_loop g r g2 r2 hs e k x hx hx2 n (i + 1) (by omega) (by omega)
    · rw [decide_eq_true trivial, beq_self_eq_true]; rfl
theorem px_sem (g : Int) (r : List (List Int)) (g2 : Int) (r2 : List (List Int)) : FnSem Tryz.prog 4 [prA g r, prA g2 r2] [] (bB true) [] := by
  refine fnSem_at (live := livePX) gPX_ok Tryz.func4 (by kernel_rfl) (keep := 0) rfl (by kernel_rfl) 100 ?_
  refine of_eq (q :=
      (vastB r = false → vastB r = false) ∧ (vastB r = false → vastB r = false) ∧ ((bif vastB r then true else vastB r2) = true → packV [V.c (W.bool true)] = bB true ∧ ([] : List Ob) = []) ∧ ((bif vastB r then true else vastB r2) = false → Sm r ∧ Sh r ∧ Sh r ∧ Sh r ∧ Sh r ∧ ((!decide ((expR g r).snd = (expR g r).snd)) = false → (!decide ((expR g r).snd = (expR g r).snd)) = false) ∧ ((!decide ((expR g
      r).snd = (expR g r).snd)) = false → (!decide ((expR g r).snd = (expR g r).snd)) = false) ∧ ((!decide ((expR g r).snd = (expR g r).snd)) = false → (!decide ((expR g r).snd = (expR g r).snd)) = false) ∧ ((!decide ((expR g r).snd = (expR g r).snd)) = false → (!decide ((expR g r).snd = (expR g r).snd)) = false) ∧ ((!decide ((expR g r).snd = (expR g r).snd)) = false → (!decide ((expR g r).snd = (expR g
      r).snd)) = false) ∧ ((bif !decide ((expR g r).snd = (expR g r).snd) then true else !decide ((↑(expR g r).fst.length : Int) = (↑(expR g r).fst.length : Int))) = true → packV [V.c (W.bool false)] = bB true ∧ ([] : List Ob) = []) ∧ ((bif !decide ((expR g r).snd = (expR g r).snd) then true else !decide ((↑(expR g r).fst.length : Int) = (↑(expR g r).fst.length : Int))) = false → AtLoop (mkSite
      Tryz.prog gPX Tryz.f4 (0 : Nat) livePX) (Says1 (bB true) []) [(0 : Nat), (1 : Nat), (0 : Nat), (1 : Nat), (1 : Nat), (1 : Nat), (1 : Nat), (1 : Nat), (1 : Nat), (1 : Nat), (1 : Nat)] (fr [((2 : Nat), A.p (V.c (W.ptr (0 : Nat) (0 : Nat)))), ((3 : Nat), A.p (V.c (W.ptr (1 : Nat) (0 : Nat)))), ((5 : Nat), A.p (V.c (W.ptr (2 : Nat) (0 : Nat)))), ((6 : Nat), A.p (V.c (W.int IntKind.i64 (chk g
      r).fst))), ((7 : Nat), A.p (V.c (W.int IntKind.i64 (chk g r).snd))), ((8 : Nat), A.p (V.c (W.int IntKind.i64 (chk g r).fst))), ((9 : Nat), A.p (V.c (W.int IntKind.i64 (chk g r).snd))), ((10 : Nat), A.p (V.c (W.rd (D.int IntKind.i64).sl (expR g r).fst))), ((12 : Nat), A.p (V.c (W.rd (D.int IntKind.i64).sl (expR g r).fst))), ((14 : Nat), A.p (V.c (W.int IntKind.i64 (0 : Int))))]) (Sto.ofList [Ob.mk
      (27 : Nat) [Fd.c (W.int IntKind.i64 g), Fd.c (W.rd (D.int IntKind.i64).sl r)], Ob.mk (27 : Nat) [Fd.c (W.int IntKind.i64 g2), Fd.c (W.rd (D.int IntKind.i64).sl r2)], Ob.mk (27 : Nat) [Fd.c (W.int IntKind.i64 g), Fd.c (W.rd (D.int IntKind.i64).sl r)]])))) (by kernel_rfl) ?_
  try simp only [imp_self, true_and, and_true, Bool.cond_true_left, Bool.or_eq_true, Bool.or_eq_false_iff, Bool.not_eq_true', Bool.not_eq_false', decide_eq_true_eq, decide_eq_false_iff_not]
  refine ⟨fun _ => rfl, fun h => ?_⟩
  have hs := Sm.of h.1
  refine ⟨hs, hs.sh, hs.sh, hs.sh, hs.sh, fun h => by simp at h, fun _ => ?_⟩
  have hx : (expR g r).1.length ≤ 1000000 ∧ ∀ w ∈ (expR g r).1, w.length ≤ 1000000 := by
    unfold expR
    split
    · rename_i h1
      have hg := Good.of h1
      have b1 := hg.g16
      have b2 := hg.len
      refine ⟨by simp; omega, fun w hw => ?_⟩
      obtain ⟨y, _, rfl⟩ := List.mem_map.1 hw
      rw [expRow_length]; omega
    · exact ⟨by simp, by simp⟩
  exact px_loop g r g2 r2 hs _ _ _ hx.1 hx.2 _ 0 rfl (by omega)
theorem checks_all : ForArgsK (fun args => FnSem Tryz.prog 4 args [] (dat .bool true) []) [.st [.int .i64, .sl (.sl (.int .i64))], .st [.int .i64, .sl (.sl (.int .i64))]] [] :=
  fun g _ r _ g2 _ r2 _ => px_sem g r g2 r2
end Go.Proofs.YtjmhmflganfoaaaGreatDoor
