/- pres.Clean of a presentation whose relators are the caller's own. -/
import Derived.Test.YtjmhmflganfoaabGreatDoorLeast4
namespace Go.Proofs.YtjmhmflganfoaabGreatDoor
open Go.Loom Go.Words
set_option maxRecDepth 100000
abbrev prS (g : Int) (k n : Nat) : A := .p (.agg [.int .i64 g, .sl k 0 n 1])
abbrev obQ (g : Int) (k n : Nat) : Ob := ⟨30, [.c (.int .i64 g), .c (.sl k 0 n 1)]⟩
noncomputable def sCn : Site := mkSiteF Tryz.prog gCl Tryz.f10 1 liveCl [] [some dL, none]
theorem cn_loop (g : Int) (r : List (List Int)) (hr : r.length ≤ 12) (hs : Sh r) : ∀ (n i : Nat) (l : List (List Int)), n = r.length - i → i ≤ r.length → l.length ≤ i → Sh l →
    AtLoop sCn (Says1 (prR ((g, tidyW (lwG (r.drop i) l)), 0)) [obLL r]) [0, 1, 0, 1, 1, 1] (fr [(1, pt 1), (2, pt 2), (6, slI 3 l.length), (20, slI 0 r.length), (21, nI r.length), (22, nI i)]) (.ofList [obLL r, obQ g 0 r.length, ob0, obLL l])
  | n, i, l, hn, hi, hl, hsl => by
    refine atLoop_at gCl_ok (by kernel_rfl) 100 ?_
    refine of_eq (q :=
        (decide ((↑i : Int) < (↑r.length : Int)) = true → ((0 : Int) ≤ (↑i : Int) ∧ (↑i : Int) < (↑r.length : Int)) ∧ (0 : Nat) + i < r.length ∧ (r.getD ((0 : Nat) + i) []).length ≤ (1000000 : Nat) ∧ (decide ((0 : Int) < (↑(leastW (r.getD ((0 : Nat) + i) [])).length : Int)) = true → (0 : Nat) + (1 : Nat) ≤ (1 : Nat) ∧ ((0 : Nat) + l.length ≤ l.length ∧ (l.length + (1 : Nat)) * (24 : Nat) ≤
        (140737488355328 : Nat)) ∧ AtLoop sCn (Says1 (prR ((g, tidyW (lwG (List.drop i r) l)), (0 : Int))) [obLL r]) [(0 : Nat), (1 : Nat), (0 : Nat), (1 : Nat), (1 : Nat), (1 : Nat)] (fr [((1 : Nat), A.p (V.c (W.ptr (1 : Nat) (0 : Nat)))), ((2 : Nat), A.p (V.c (W.ptr (2 : Nat) (0 : Nat)))), ((6 : Nat), A.p (V.c (W.sl (3 : Nat) (0 : Nat) (l.length + (1 : Nat)) (1 : Nat)))), ((20 : Nat), A.p (V.c (W.sl (0
        : Nat) (0 : Nat) r.length (1 : Nat)))), ((21 : Nat), A.p (V.c (W.int IntKind.i64 (↑r.length : Int)))), ((22 : Nat), A.p (V.c (W.int IntKind.i64 (IntKind.i64.wrap ((↑i : Int) + (1 : Int))))))]) (Sto.ofList [Ob.mk (32 : Nat) [Fd.a (0 : Nat) (D.int IntKind.i64).sl r], Ob.mk (30 : Nat) [Fd.c (W.int IntKind.i64 g), Fd.c (W.sl (0 : Nat) (0 : Nat) r.length (1 : Nat))], Ob.mk (30 : Nat) [Fd.c (W.int
        IntKind.i64 (0 : Int)), Fd.c W.nil], Ob.mk (32 : Nat) [Fd.a (0 : Nat) (D.int IntKind.i64).sl (List.take l.length (List.drop (0 : Nat) l) ++ List.take (1 : Nat) (List.drop (0 : Nat) [leastW (r.getD ((0 : Nat) + i) [])]))]])) ∧ (decide ((0 : Int) < (↑(leastW (r.getD ((0 : Nat) + i) [])).length : Int)) = false → AtLoop sCn (Says1 (prR ((g, tidyW (lwG (List.drop i r) l)), (0 : Int))) [obLL r]) [(0 :
        Nat), (1 : Nat), (0 : Nat), (1 : Nat), (1 : Nat), (1 : Nat)] (fr [((1 : Nat), A.p (V.c (W.ptr (1 : Nat) (0 : Nat)))), ((2 : Nat), A.p (V.c (W.ptr (2 : Nat) (0 : Nat)))), ((6 : Nat), A.p (V.c (W.sl (3 : Nat) (0 : Nat) l.length (1 : Nat)))), ((20 : Nat), A.p (V.c (W.sl (0 : Nat) (0 : Nat) r.length (1 : Nat)))), ((21 : Nat), A.p (V.c (W.int IntKind.i64 (↑r.length : Int)))), ((22 : Nat), A.p (V.c
        (W.int IntKind.i64 (IntKind.i64.wrap ((↑i : Int) + (1 : Int))))))]) (Sto.ofList [Ob.mk (32 : Nat) [Fd.a (0 : Nat) (D.int IntKind.i64).sl r], Ob.mk (30 : Nat) [Fd.c (W.int IntKind.i64 g), Fd.c (W.sl (0 : Nat) (0 : Nat) r.length (1 : Nat))], Ob.mk (30 : Nat) [Fd.c (W.int IntKind.i64 (0 : Int)), Fd.c W.nil], Ob.mk (32 : Nat) [Fd.a (0 : Nat) (D.int IntKind.i64).sl l]]))) ∧ (decide ((↑i : Int) <
        (↑r.length : Int)) = false → (l.length = l.length ∧ l.length ≤ (12 : Nat) ∧ Sh l) ∧ (R1.pure (Cd.t.and Cd.t) (A.p (V.c (W.int IntKind.i64 g)))).v = (R1.pure (Cd.t.and Cd.t) (A.p (V.c (W.int IntKind.i64 g)))).v ∧ (R1.pure (Cd.t.and Cd.t) (A.p (V.c (W.int IntKind.i64 g)))).v = (R1.pure (Cd.t.and Cd.t) (A.p (V.c (W.int IntKind.i64 g)))).v ∧ (0 : Nat) + (tidyW l).length ≤ (tidyW l ++ List.replicate
        (l.length - (tidyW l).length) []).length ∧ packV [V.agg [W.int IntKind.i64 g, W.rd (D.int IntKind.i64).sl (List.take (tidyW l).length (List.drop (0 : Nat) (tidyW l ++ List.replicate (l.length - (tidyW l).length) [])))], V.c (W.int IntKind.i64 (0 : Int))] = prR ((g, tidyW (lwG (List.drop i r) l)), (0 : Int)) ∧ [Ob.mk (32 : TypeId) [Fd.a (0 : Nat) (D.int IntKind.i64).sl r]] = [obLL r])) (by kernel_rfl) ?_
    try simp only [true_and, and_true, Nat.zero_add, decide_eq_true_eq, decide_eq_false_iff_not, Int.not_lt, List.drop_zero, List.take_length, List.take_succ_cons, List.take_zero, Nat.le_refl]
    rw [wrap64 (n := (i : Int) + 1) (by omega) (by omega)]
    refine ⟨fun h => ?_, fun h => ?_⟩
    · have hi' : i < r.length := by omega
      have hw := leastW_len (r.getD i [])
      rw [getL_lt hi', lwG]
      refine ⟨by omega, hi', hs.get i, fun h2 => ⟨by omega, ?_⟩, fun h2 => ?_⟩
      · rw [if_pos (by omega)]
        cases n with
        | zero => omega
        | succ n =>
          have := cn_loop g r hr hs n (i + 1) (l ++ [leastW (r.getD i [])]) (by omega) (by omega) (by simp; omega) (by
            intro w hw2
            rcases List.mem_append.1 hw2 with hw2 | hw2
            · exact hsl w hw2
            · rw [List.mem_singleton] at hw2; subst hw2; omega)
          rw [List.length_append] at this
          exact this
      · rw [if_neg (by omega)]
        cases n with
        | zero => omega
        | succ n => exact cn_loop g r hr hs n (i + 1) l (by omega) (by omega) (by omega) hsl
    · rw [List.drop_eq_nil_of_le (by omega), lwG, List.take_left']
      · exact ⟨⟨by omega, hsl⟩, by simp, rfl⟩
      · rfl
theorem cleanK_sem (g : Int) (r : List (List Int)) (hr : r.length ≤ 12) (hs : Sh r) : FnSem Tryz.prog 10 [prS g 0 r.length] [obLL r] (prR (cleanR g r)) [obLL r] := by
  refine fnSemF_at (live := liveCl) (fzl := []) (fz := [some dL, none]) gCl_ok Tryz.func10 (by kernel_rfl) (keep := 1) rfl (by kernel_rfl) 100 ?_
  refine of_eq (q :=
      (0 : Nat) + r.length ≤ r.length ∧ Sh (List.take r.length (List.drop (0 : Nat) r)) ∧ ((!decide ((chk g (List.take r.length (List.drop (0 : Nat) r))).fst = (0 : Int))) = true → packV [V.agg [W.int IntKind.i64 (0 : Int), W.rd (D.int IntKind.i64).sl []], V.c (W.int IntKind.i64 (chk g (List.take r.length (List.drop (0 : Nat) r))).fst)] = prR (cleanR g r) ∧ [Ob.mk (32 : TypeId) [Fd.a (0 : Nat) (D.int
      IntKind.i64).sl r]] = [obLL r]) ∧ ((!decide ((chk g (List.take r.length (List.drop (0 : Nat) r))).fst = (0 : Int))) = false → AtLoop (mkSiteF Tryz.prog gCl Tryz.f10 (1 : Nat) liveCl [] [some dL, none]) (Says1 (prR (cleanR g r)) [obLL r]) [(0 : Nat), (1 : Nat), (0 : Nat), (1 : Nat), (1 : Nat), (1 : Nat)] (fr [((1 : Nat), A.p (V.c (W.ptr (1 : Nat) (0 : Nat)))), ((2 : Nat), A.p (V.c (W.ptr (2 : Nat)
      (0 : Nat)))), ((6 : Nat), A.p (V.c (W.sl (3 : Nat) (0 : Nat) (0 : Nat) (1 : Nat)))), ((20 : Nat), A.p (V.c (W.sl (0 : Nat) (0 : Nat) r.length (1 : Nat)))), ((21 : Nat), A.p (V.c (W.int IntKind.i64 (↑r.length : Int)))), ((22 : Nat), A.p (V.c (W.int IntKind.i64 (0 : Int))))]) (Sto.ofList [Ob.mk (32 : Nat) [Fd.a (0 : Nat) (D.int IntKind.i64).sl r], Ob.mk (30 : Nat) [Fd.c (W.int IntKind.i64 g), Fd.c
      (W.sl (0 : Nat) (0 : Nat) r.length (1 : Nat))], Ob.mk (30 : Nat) [Fd.c (W.int IntKind.i64 (0 : Int)), Fd.c W.nil], Ob.mk (32 : Nat) [Fd.a (0 : Nat) (D.int IntKind.i64).sl []]]))) (by kernel_rfl) ?_
  try simp only [true_and, and_true, Nat.zero_add, Bool.not_eq_true', Bool.not_eq_false', decide_eq_true_eq, decide_eq_false_iff_not, List.drop_zero, List.take_length, Nat.le_refl]
  refine ⟨hs, fun h => ?_, fun h => ?_⟩
  · rw [cleanR, if_neg h]; rfl
  · rw [cleanR, if_pos h]
    exact cn_loop g r hr hs r.length 0 [] rfl (by omega) (by simp) (by intro w hw; simp at hw)
/-- A presentation whose relators may be none at all. -/
def asP2 : A → Option (Int × List (List Int))
  | .p (.agg [.int .i64 g, x]) => (match D.of dL x with | some r => some (g, r) | none => none)
  | _ => none
theorem asP2_rel {η : Eta} {Z : Zeta} {x : A} {g : Int} {r : List (List Int)} (e : asP2 x = some (g, r)) {v : Value} (h : ARel η Z x v) : ARel η Z (prA g r) v := by
  unfold asP2 at e
  split at e
  · rename_i g' y
    split at e
    · rename_i r2 hr2
      cases e
      obtain ⟨vs, rfl, hd, hl⟩ := h
      refine ⟨vs, rfl, by simp, ?_⟩
      match vs, hl with
      | [a, b], ⟨h1, h2, _⟩ =>
        refine ⟨h1, ?_, trivial⟩
        have := D.of_rel hr2 (WRel.frel (D.of_clean hr2) h2)
        exact (D.w_wrel dL).2 this
    · cases e
  · cases e
def cClean2 : Con := { refs := [true], f := fun args objs => match args, objs with
  | [x], [] => (match asP2 x with | some (g, r) => some (.p (r.length ≤ 12 ∧ Sh r), prR (cleanR g r), []) | none => none)
  | [.p (.agg [.int .i64 g, .sl 0 0 n 1])], [⟨t, [.a 0 (.sl (.int .i64)) r]⟩] => (bif Nat.beq t 32 then some (.p (n = List.length (α := List Int) r ∧ List.length (α := List Int) r ≤ 12 ∧ Sh r), prR (cleanR g r), [obLL r]) else none)
  | _, _ => none }
theorem cClean2_ok : ConOk Tryz.prog 10 cClean2 := by
  refine ⟨by kernel_rfl, fun args objs cd r objs' e hc => ?_⟩
  simp only [cClean2] at e
  split at e
  · rename_i x
    split at e
    · rename_i g r hx
      cases e
      exact (clean_sem g r hc.1 hc.2).args fun η Z vs hv => by
        match vs, hv with
        | [a], ⟨h1, h2⟩ => exact ⟨asP2_rel hx h1, h2⟩
    · cases e
  · rename_i g n t r
    cases ht : Nat.beq t 32 with
    | true =>
      rw [ht] at e
      cases e
      have := Nat.eq_of_beq_eq_true ht; subst this
      obtain ⟨h1, h2, h3⟩ := hc
      rw [h1]
      exact cleanK_sem g r h2 h3
    | false => rw [ht] at e; cases e
  · cases e
def conPL2 (b : Int → List (List Int) → List (List Int) → Cd × A) : Con := { refs := [], f := fun args objs => match args, objs with | [x, y], [] => (match asP2 x, asD dL y with | some (g, r), some l => some ((b g r l).1, (b g r l).2, []) | _, _ => none) | _, _ => none }
theorem conPL2_ok {f : FuncId} {b : Int → List (List Int) → List (List Int) → Cd × A} (he : enters Tryz.prog f = true) (h : ∀ g r l, (b g r l).1 → FnSem Tryz.prog f [prA g r, llI l] [] (b g r l).2 []) : ConOk Tryz.prog f (conPL2 b) := by
  refine ⟨he, fun args objs cd r objs' e hc => ?_⟩
  simp only [conPL2] at e
  split at e
  · rename_i x y
    split at e
    · rename_i g r l hx hy
      cases e
      exact (h g r l hc).args fun η Z vs hv => by
        match vs, hv with
        | [a, b], ⟨h1, h2, h3⟩ => exact ⟨asP2_rel hx h1, asD_rel hy h2, h3⟩
    · cases e
  · cases e
def cSat2 : Con := conPL2 fun g r l => (.p (Sh r), saA (satR g r l).1 (satR g r l).2)
theorem cSat2_ok : ConOk Tryz.prog 11 cSat2 := conPL2_ok (by kernel_rfl) fun g r l h => sa_sem g r l h
end Go.Proofs.YtjmhmflganfoaabGreatDoor

namespace Go.Proofs.YtjmhmflganfoaabGreatDoor
open Go.Loom Go.Words
set_option maxRecDepth 100000
noncomputable def gPs : Gam := [(6, cKnown), (7, cTurn), (8, cPz), (9, cW8), (10, cClean2), (11, cSat2)]
theorem gPs_ok : GamOk Tryz.prog gPs := gamOk_cons cKnown_ok (gamOk_cons cTurn_ok (gamOk_cons cPz_ok (gamOk_cons cW8_ok (gamOk_cons cClean2_ok (gamOk_cons cSat2_ok gamOk_nil)))))
abbrev livePs : List (List Nat × List Nat) := [([0, 1, 0, 1, 1, 1, 1, 1, 1], [9, 10, 11, 12, 13])]
noncomputable def sPs : Site := mkSite Tryz.prog gPs Tryz.f3 0 livePs
abbrev obIm (im : List (List Int)) : Ob := ⟨25, [.a 0 (.sl (.int .i64)) im]⟩
/-! ### The words -/
theorem ltrI_L2 (c : Int) (h : 0 ≤ c ∧ c < 4) : ltrI c ≠ 0 ∧ -2 ≤ ltrI c ∧ ltrI c ≤ 2 := by
  have e : c = 0 ∨ c = 1 ∨ c = 2 ∨ c = 3 := by omega
  rcases e with rfl | rfl | rfl | rfl <;> decide
theorem wordO_L2 {l : List Int} (h : l.length ≤ 12) : L2 (wordO 2 l) := by
  refine ⟨fun x hx => ?_, by simp only [wordO, List.length_map]; exact h⟩
  simp only [wordO, List.mem_map] at hx
  obtain ⟨y, _, rfl⟩ := hx
  exact ltrI_L2 _ (turn_range y (2 * 2) (by omega))
theorem wordsG_L2 : ∀ (n : Nat) (l : List Int) (acc : List (List Int)), AllP L2 acc → AllP L2 (wordsG 2 12 n l acc)
  | 0, _, _, h => h
  | n + 1, [], _, h => h
  | n + 1, x :: l, acc, h => by
    rw [wordsG]
    have t := turn_range x (12 + 1) (by omega)
    refine wordsG_L2 n _ _ (fun w hw => ?_)
    rcases List.mem_append.1 hw with hw | hw
    · exact h w hw
    · rw [List.mem_singleton] at hw; subst hw
      refine wordO_L2 ?_
      rw [List.length_take]; omega
theorem words8_L2 (l : List Int) : AllP L2 (words8 2 l) ∧ (words8 2 l).length ≤ 8 := by
  refine ⟨fun w hw => wordsG_L2 _ _ _ (fun v hv => by simp at hv) w (List.mem_of_mem_take hw), ?_⟩
  rw [words8, List.length_take]; omega
theorem AllP.sh {r : List (List Int)} (h : AllP L2 r) : Sh r := fun w hw => Nat.le_trans (h w hw).2 (by decide)
theorem ps_facts {im : List (List Int)} {d : Int} (h : Two im d) {P : List (List Int)} (hl : P.length ≤ 8) (hp : AllP L2 P) :
    cleanR 2 P = ((2, tidyW (lwG P [])), 0) ∧ satR 2 P im = (satB im d.toNat P, 0) ∧ satR 2 (tidyW (lwG P [])) im = (satB im d.toNat (tidyW (lwG P [])), 0) ∧ Sh P ∧ Sh (tidyW (lwG P [])) := by
  obtain ⟨h1, h2⟩ := clean_L2 hl hp
  exact ⟨by rw [cleanR, if_pos (chk_L2 hl hp)], h.satR hl hp, h.satR h2 h1, hp.sh, h1.sh⟩
theorem ps_one {im : List (List Int)} {d : Int} (h : Two im d) {w : List Int} (hw : L2 w) : satB im d.toNat (tidyW (lwG [w] [])) = satB im d.toNat [w] := by
  have h1 := h.d1
  have hp : AllP L2 [w] := fun v hv => by rw [List.mem_singleton] at hv; subst hv; exact hw
  rw [Bool.eq_iff_iff, satB_iff (by omega), satB_iff (by omega)]
  refine ⟨fun hh v hv => ?_, fun hh => clean_tr h hp hh⟩
  rw [List.mem_singleton] at hv; subst hv
  exact clean_one h hw hh
theorem ps_loop (im wl : List (List Int)) (d : Int) (h : Two im d) (hW : wl.length ≤ 8) (hA : AllP L2 wl) : ∀ (n i : Nat) (P : List (List Int)), n = wl.length - i → i ≤ wl.length → P.length ≤ i → AllP L2 P → (∀ w ∈ P, Tr im d w) →
    AtLoop sPs (Says1 (bB true) []) [0, 1, 0, 1, 1, 1, 1, 1, 1] (fr [(9, bB true), (10, slI 0 2), (11, pt 1), (12, nI i), (13, llI wl)]) (.ofList [obIm im, obQ 2 2 P.length, obLL P])
  | n, i, P, hn, hi, hP, hPA, hPT => by
    refine atLoop_at gPs_ok (by kernel_rfl) 100 ?_
    refine of_eq (q :=
        (decide ((↑i : Int) < (↑wl.length : Int)) = true → ((0 : Int) ≤ (↑i : Int) ∧ (↑i : Int) < (↑wl.length : Int)) ∧ i < wl.length ∧ ((1 : Nat) = (1 : Nat) ∧ (1 : Nat) ≤ (12 : Nat) ∧ Sh [wl.getD i []]) ∧ (0 : Nat) + (1 : Nat) ≤ (1 : Nat) ∧ (0 : Nat) + (2 : Nat) ≤ im.length ∧ Sh (List.take (1 : Nat) (List.drop (0 : Nat) [wl.getD i []])) ∧ (0 : Nat) + (2 : Nat) ≤ im.length ∧ Sh (cleanR (2 : Int) [wl.getD
        i []]).fst.snd ∧ ((!decide ((cleanR (2 : Int) [wl.getD i []]).snd = (0 : Int))) = false → (!decide ((cleanR (2 : Int) [wl.getD i []]).snd = (0 : Int))) = false) ∧ ((!decide ((cleanR (2 : Int) [wl.getD i []]).snd = (0 : Int))) = false → (!decide ((cleanR (2 : Int) [wl.getD i []]).snd = (0 : Int))) = false) ∧ ((bif !decide ((cleanR (2 : Int) [wl.getD i []]).snd = (0 : Int)) then true else !decide
        ((satR (2 : Int) (List.take (1 : Nat) (List.drop (0 : Nat) [wl.getD i []])) (List.take (2 : Nat) (List.drop (0 : Nat) im))).snd = (0 : Int))) = false → (bif !decide ((cleanR (2 : Int) [wl.getD i []]).snd = (0 : Int)) then true else !decide ((satR (2 : Int) (List.take (1 : Nat) (List.drop (0 : Nat) [wl.getD i []])) (List.take (2 : Nat) (List.drop (0 : Nat) im))).snd = (0 : Int))) = false) ∧ ((bif
        !decide ((cleanR (2 : Int) [wl.getD i []]).snd = (0 : Int)) then true else !decide ((satR (2 : Int) (List.take (1 : Nat) (List.drop (0 : Nat) [wl.getD i []])) (List.take (2 : Nat) (List.drop (0 : Nat) im))).snd = (0 : Int))) = false → (bif !decide ((cleanR (2 : Int) [wl.getD i []]).snd = (0 : Int)) then true else !decide ((satR (2 : Int) (List.take (1 : Nat) (List.drop (0 : Nat) [wl.getD i []]))
        (List.take (2 : Nat) (List.drop (0 : Nat) im))).snd = (0 : Int))) = false) ∧ ((bif bif !decide ((cleanR (2 : Int) [wl.getD i []]).snd = (0 : Int)) then true else !decide ((satR (2 : Int) (List.take (1 : Nat) (List.drop (0 : Nat) [wl.getD i []])) (List.take (2 : Nat) (List.drop (0 : Nat) im))).snd = (0 : Int)) then true else !decide ((satR (cleanR (2 : Int) [wl.getD i []]).fst.fst (cleanR (2 : Int)
        [wl.getD i []]).fst.snd (List.take (2 : Nat) (List.drop (0 : Nat) im))).snd = (0 : Int))) = false → (bif bif !decide ((cleanR (2 : Int) [wl.getD i []]).snd = (0 : Int)) then true else !decide ((satR (2 : Int) (List.take (1 : Nat) (List.drop (0 : Nat) [wl.getD i []])) (List.take (2 : Nat) (List.drop (0 : Nat) im))).snd = (0 : Int)) then true else !decide ((satR (cleanR (2 : Int) [wl.getD i
        []]).fst.fst (cleanR (2 : Int) [wl.getD i []]).fst.snd (List.take (2 : Nat) (List.drop (0 : Nat) im))).snd = (0 : Int))) = false) ∧ ((bif bif !decide ((cleanR (2 : Int) [wl.getD i []]).snd = (0 : Int)) then true else !decide ((satR (2 : Int) (List.take (1 : Nat) (List.drop (0 : Nat) [wl.getD i []])) (List.take (2 : Nat) (List.drop (0 : Nat) im))).snd = (0 : Int)) then true else !decide ((satR
        (cleanR (2 : Int) [wl.getD i []]).fst.fst (cleanR (2 : Int) [wl.getD i []]).fst.snd (List.take (2 : Nat) (List.drop (0 : Nat) im))).snd = (0 : Int))) = false → (bif bif !decide ((cleanR (2 : Int) [wl.getD i []]).snd = (0 : Int)) then true else !decide ((satR (2 : Int) (List.take (1 : Nat) (List.drop (0 : Nat) [wl.getD i []])) (List.take (2 : Nat) (List.drop (0 : Nat) im))).snd = (0 : Int)) then
        true else !decide ((satR (cleanR (2 : Int) [wl.getD i []]).fst.fst (cleanR (2 : Int) [wl.getD i []]).fst.snd (List.take (2 : Nat) (List.drop (0 : Nat) im))).snd = (0 : Int))) = false) ∧ ((bif bif !decide ((cleanR (2 : Int) [wl.getD i []]).snd = (0 : Int)) then true else !decide ((satR (2 : Int) (List.take (1 : Nat) (List.drop (0 : Nat) [wl.getD i []])) (List.take (2 : Nat) (List.drop (0 : Nat)
        im))).snd = (0 : Int)) then true else !decide ((satR (cleanR (2 : Int) [wl.getD i []]).fst.fst (cleanR (2 : Int) [wl.getD i []]).fst.snd (List.take (2 : Nat) (List.drop (0 : Nat) im))).snd = (0 : Int))) = false → (bif bif !decide ((cleanR (2 : Int) [wl.getD i []]).snd = (0 : Int)) then true else !decide ((satR (2 : Int) (List.take (1 : Nat) (List.drop (0 : Nat) [wl.getD i []])) (List.take (2 :
        Nat) (List.drop (0 : Nat) im))).snd = (0 : Int)) then true else !decide ((satR (cleanR (2 : Int) [wl.getD i []]).fst.fst (cleanR (2 : Int) [wl.getD i []]).fst.snd (List.take (2 : Nat) (List.drop (0 : Nat) im))).snd = (0 : Int))) = false) ∧ ((bif bif bif !decide ((cleanR (2 : Int) [wl.getD i []]).snd = (0 : Int)) then true else !decide ((satR (2 : Int) (List.take (1 : Nat) (List.drop (0 : Nat)
        [wl.getD i []])) (List.take (2 : Nat) (List.drop (0 : Nat) im))).snd = (0 : Int)) then true else !decide ((satR (cleanR (2 : Int) [wl.getD i []]).fst.fst (cleanR (2 : Int) [wl.getD i []]).fst.snd (List.take (2 : Nat) (List.drop (0 : Nat) im))).snd = (0 : Int)) then true else !(satR (2 : Int) (List.take (1 : Nat) (List.drop (0 : Nat) [wl.getD i []])) (List.take (2 : Nat) (List.drop (0 : Nat)
        im))).fst == (satR (cleanR (2 : Int) [wl.getD i []]).fst.fst (cleanR (2 : Int) [wl.getD i []]).fst.snd (List.take (2 : Nat) (List.drop (0 : Nat) im))).fst) = true → packV [V.c (W.bool false)] = bB true ∧ ([] : List Ob) = []) ∧ ((bif bif bif !decide ((cleanR (2 : Int) [wl.getD i []]).snd = (0 : Int)) then true else !decide ((satR (2 : Int) (List.take (1 : Nat) (List.drop (0 : Nat) [wl.getD i []]))
        (List.take (2 : Nat) (List.drop (0 : Nat) im))).snd = (0 : Int)) then true else !decide ((satR (cleanR (2 : Int) [wl.getD i []]).fst.fst (cleanR (2 : Int) [wl.getD i []]).fst.snd (List.take (2 : Nat) (List.drop (0 : Nat) im))).snd = (0 : Int)) then true else !(satR (2 : Int) (List.take (1 : Nat) (List.drop (0 : Nat) [wl.getD i []])) (List.take (2 : Nat) (List.drop (0 : Nat) im))).fst == (satR
        (cleanR (2 : Int) [wl.getD i []]).fst.fst (cleanR (2 : Int) [wl.getD i []]).fst.snd (List.take (2 : Nat) (List.drop (0 : Nat) im))).fst) = false → ((satR (2 : Int) (List.take (1 : Nat) (List.drop (0 : Nat) [wl.getD i []])) (List.take (2 : Nat) (List.drop (0 : Nat) im))).fst = true → ((0 : Int) ≤ (↑i : Int) ∧ (↑i : Int) < (↑wl.length : Int)) ∧ i < wl.length ∧ (0 : Nat) + (1 : Nat) ≤ (1 : Nat) ∧ ((0
        : Nat) + P.length ≤ P.length ∧ (P.length + (1 : Nat)) * (24 : Nat) ≤ (140737488355328 : Nat)) ∧ (R1.pure (Cd.t.and Cd.t) (A.p (V.c (W.sl (2 : Nat) (0 : Nat) P.length (1 : Nat))))).v = (R1.pure (Cd.t.and Cd.t) (A.p (V.c (W.sl (2 : Nat) (0 : Nat) P.length (1 : Nat))))).v ∧ (R1.pure (Cd.t.and Cd.t) (A.p (V.c (W.sl (2 : Nat) (0 : Nat) P.length (1 : Nat))))).v = (R1.pure (Cd.t.and Cd.t) (A.p (V.c (W.sl
        (2 : Nat) (0 : Nat) P.length (1 : Nat))))).v ∧ AtLoop sPs (Says1 (bB true) []) [(0 : Nat), (1 : Nat), (0 : Nat), (1 : Nat), (1 : Nat), (1 : Nat), (1 : Nat), (1 : Nat), (1 : Nat)] (fr [((9 : Nat), A.p (V.c (W.bool true))), ((10 : Nat), A.p (V.c (W.sl (0 : Nat) (0 : Nat) (2 : Nat) (1 : Nat)))), ((11 : Nat), A.p (V.c (W.ptr (1 : Nat) (0 : Nat)))), ((12 : Nat), A.p (V.c (W.int IntKind.i64
        (IntKind.i64.wrap ((↑i : Int) + (1 : Int)))))), ((13 : Nat), A.p (V.c (W.rd (D.int IntKind.i64).sl wl)))]) (Sto.ofList [Ob.mk (25 : Nat) [Fd.a (0 : Nat) (D.int IntKind.i64).sl im], Ob.mk (30 : Nat) [Fd.c (W.int IntKind.i64 (2 : Int)), Fd.c (W.sl (2 : Nat) (0 : Nat) (P.length + (1 : Nat)) (1 : Nat))], Ob.mk (32 : Nat) [Fd.a (0 : Nat) (D.int IntKind.i64).sl (List.take P.length (List.drop (0 : Nat)
        P) ++ List.take (1 : Nat) (List.drop (0 : Nat) [wl.getD i []]))]])) ∧ ((satR (2 : Int) (List.take (1 : Nat) (List.drop (0 : Nat) [wl.getD i []])) (List.take (2 : Nat) (List.drop (0 : Nat) im))).fst = false → AtLoop sPs (Says1 (bB true) []) [(0 : Nat), (1 : Nat), (0 : Nat), (1 : Nat), (1 : Nat), (1 : Nat), (1 : Nat), (1 : Nat), (1 : Nat)] (fr [((9 : Nat), A.p (V.c (W.bool true))), ((10 : Nat), A.p
        (V.c (W.sl (0 : Nat) (0 : Nat) (2 : Nat) (1 : Nat)))), ((11 : Nat), A.p (V.c (W.ptr (1 : Nat) (0 : Nat)))), ((12 : Nat), A.p (V.c (W.int IntKind.i64 (IntKind.i64.wrap ((↑i : Int) + (1 : Int)))))), ((13 : Nat), A.p (V.c (W.rd (D.int IntKind.i64).sl wl)))]) (Sto.ofList [Ob.mk (25 : Nat) [Fd.a (0 : Nat) (D.int IntKind.i64).sl im], Ob.mk (30 : Nat) [Fd.c (W.int IntKind.i64 (2 : Int)), Fd.c (W.sl (2 :
        Nat) (0 : Nat) P.length (1 : Nat))], Ob.mk (32 : Nat) [Fd.a (0 : Nat) (D.int IntKind.i64).sl P]])))) ∧ (decide ((↑i : Int) < (↑wl.length : Int)) = false → (P.length = P.length ∧ P.length ≤ (12 : Nat) ∧ Sh P) ∧ (0 : Nat) + P.length ≤ P.length ∧ (0 : Nat) + (2 : Nat) ≤ im.length ∧ Sh (List.take P.length (List.drop (0 : Nat) P)) ∧ (0 : Nat) + (2 : Nat) ≤ im.length ∧ Sh (cleanR (2 : Int) P).fst.snd ∧
        (true = true → true = true) ∧ (true = true → true = true) ∧ ((bif true then decide ((cleanR (2 : Int) P).snd = (0 : Int)) else false) = true → (bif true then decide ((cleanR (2 : Int) P).snd = (0 : Int)) else false) = true) ∧ ((bif true then decide ((cleanR (2 : Int) P).snd = (0 : Int)) else false) = true → (bif true then decide ((cleanR (2 : Int) P).snd = (0 : Int)) else false) = true) ∧ ((bif
        bif true then decide ((cleanR (2 : Int) P).snd = (0 : Int)) else false then decide ((satR (2 : Int) (List.take P.length (List.drop (0 : Nat) P)) (List.take (2 : Nat) (List.drop (0 : Nat) im))).snd = (0 : Int)) else false) = true → (bif bif true then decide ((cleanR (2 : Int) P).snd = (0 : Int)) else false then decide ((satR (2 : Int) (List.take P.length (List.drop (0 : Nat) P)) (List.take (2 :
        Nat) (List.drop (0 : Nat) im))).snd = (0 : Int)) else false) = true) ∧ ((bif bif true then decide ((cleanR (2 : Int) P).snd = (0 : Int)) else false then decide ((satR (2 : Int) (List.take P.length (List.drop (0 : Nat) P)) (List.take (2 : Nat) (List.drop (0 : Nat) im))).snd = (0 : Int)) else false) = true → (bif bif true then decide ((cleanR (2 : Int) P).snd = (0 : Int)) else false then decide
        ((satR (2 : Int) (List.take P.length (List.drop (0 : Nat) P)) (List.take (2 : Nat) (List.drop (0 : Nat) im))).snd = (0 : Int)) else false) = true) ∧ ((bif bif bif true then decide ((cleanR (2 : Int) P).snd = (0 : Int)) else false then decide ((satR (2 : Int) (List.take P.length (List.drop (0 : Nat) P)) (List.take (2 : Nat) (List.drop (0 : Nat) im))).snd = (0 : Int)) else false then decide ((satR
        (cleanR (2 : Int) P).fst.fst (cleanR (2 : Int) P).fst.snd (List.take (2 : Nat) (List.drop (0 : Nat) im))).snd = (0 : Int)) else false) = true → (bif bif bif true then decide ((cleanR (2 : Int) P).snd = (0 : Int)) else false then decide ((satR (2 : Int) (List.take P.length (List.drop (0 : Nat) P)) (List.take (2 : Nat) (List.drop (0 : Nat) im))).snd = (0 : Int)) else false then decide ((satR (cleanR
        (2 : Int) P).fst.fst (cleanR (2 : Int) P).fst.snd (List.take (2 : Nat) (List.drop (0 : Nat) im))).snd = (0 : Int)) else false) = true) ∧ ((bif bif bif bif true then decide ((cleanR (2 : Int) P).snd = (0 : Int)) else false then decide ((satR (2 : Int) (List.take P.length (List.drop (0 : Nat) P)) (List.take (2 : Nat) (List.drop (0 : Nat) im))).snd = (0 : Int)) else false then decide ((satR (cleanR
        (2 : Int) P).fst.fst (cleanR (2 : Int) P).fst.snd (List.take (2 : Nat) (List.drop (0 : Nat) im))).snd = (0 : Int)) else false then (satR (2 : Int) (List.take P.length (List.drop (0 : Nat) P)) (List.take (2 : Nat) (List.drop (0 : Nat) im))).fst else false) = true → (bif bif bif bif true then decide ((cleanR (2 : Int) P).snd = (0 : Int)) else false then decide ((satR (2 : Int) (List.take P.length
        (List.drop (0 : Nat) P)) (List.take (2 : Nat) (List.drop (0 : Nat) im))).snd = (0 : Int)) else false then decide ((satR (cleanR (2 : Int) P).fst.fst (cleanR (2 : Int) P).fst.snd (List.take (2 : Nat) (List.drop (0 : Nat) im))).snd = (0 : Int)) else false then (satR (2 : Int) (List.take P.length (List.drop (0 : Nat) P)) (List.take (2 : Nat) (List.drop (0 : Nat) im))).fst else false) = true) ∧ packV
        [V.c (W.bool (bif bif bif bif bif true then decide ((cleanR (2 : Int) P).snd = (0 : Int)) else false then decide ((satR (2 : Int) (List.take P.length (List.drop (0 : Nat) P)) (List.take (2 : Nat) (List.drop (0 : Nat) im))).snd = (0 : Int)) else false then decide ((satR (cleanR (2 : Int) P).fst.fst (cleanR (2 : Int) P).fst.snd (List.take (2 : Nat) (List.drop (0 : Nat) im))).snd = (0 : Int)) else
        false then (satR (2 : Int) (List.take P.length (List.drop (0 : Nat) P)) (List.take (2 : Nat) (List.drop (0 : Nat) im))).fst else false then (satR (cleanR (2 : Int) P).fst.fst (cleanR (2 : Int) P).fst.snd (List.take (2 : Nat) (List.drop (0 : Nat) im))).fst else false))] = bB true ∧ ([] : List Ob) = [])) (by kernel_rfl) ?_
    try simp only [imp_self, true_and, and_true, Nat.zero_add, Bool.cond_true_left, Bool.cond_false_right, Bool.or_eq_true, Bool.or_eq_false_iff, Bool.and_eq_true, Bool.not_eq_true', Bool.not_eq_false', decide_eq_true_eq, decide_eq_false_iff_not, Int.not_lt, List.drop_zero, List.take_length, List.take_succ_cons, List.take_zero, Nat.le_refl]
    have h1 := h.d1
    have hlen := h.len
    have hwA : L2 (wl.getD i []) := hA.getD .nil i
    have hp : AllP L2 [wl.getD i []] := fun v hv => by rw [List.mem_singleton] at hv; subst hv; exact hwA
    obtain ⟨a1, a2, a3, a4, a5⟩ := ps_facts h (P := [wl.getD i []]) (by simp) hp
    obtain ⟨b1, b2, b3, b4, b5⟩ := ps_facts h (P := P) (by omega) hPA
    have e1 := ps_one h hwA
    have e2 : satB im d.toNat P = true := (satB_iff (by omega)).2 hPT
    have e3 : satB im d.toNat (tidyW (lwG P [])) = true := (satB_iff (by omega)).2 (clean_tr h hPA hPT)
    rw [List.take_of_length_le (show im.length ≤ 2 by omega)]
    simp only [a1, a2, a3, b1, b2, b3, e1, e2, e3]
    rw [wrap64 (n := (i : Int) + 1) (by omega) (by omega)]
    refine ⟨fun hi2 => ⟨by omega, by omega, ⟨by omega, a4⟩, by omega, a4, by omega, a5, fun hh => ?_, fun _ => ⟨fun hs => ⟨by omega, by omega, by omega, ?_⟩, fun hs => ?_⟩⟩, fun _ => ⟨⟨by omega, b4⟩, by omega, b4, by omega, b5, rfl⟩⟩
    · rcases hh with ((hh | hh) | hh) | hh
      · exact absurd trivial hh
      · exact absurd trivial hh
      · exact absurd trivial hh
      · rw [beq_self_eq_true] at hh; cases hh
    · cases n with
      | zero => omega
      | succ n =>
        have := ps_loop im wl d h hW hA n (i + 1) (P ++ [wl.getD i []]) (by omega) (by omega) (by simp; omega) (fun v hv => by
          rcases List.mem_append.1 hv with hv | hv
          · exact hPA v hv
          · exact hp v hv) (fun v hv => by
          rcases List.mem_append.1 hv with hv | hv
          · exact hPT v hv
          · exact (satB_iff (by omega)).1 hs v hv)
        rw [List.length_append] at this
        exact this
    · cases n with
      | zero => omega
      | succ n => exact ps_loop im wl d h hW hA n (i + 1) P (by omega) (by omega) (by omega) hPA hPT
theorem ps_loop0 (im wl : List (List Int)) (d : Int) (h : Two im d) (hW : wl.length ≤ 8) (hA : AllP L2 wl) : ∀ (n i : Nat), n = wl.length - i → i ≤ wl.length →
    AtLoop sPs (Says1 (bB true) []) [0, 1, 0, 1, 1, 1, 1, 1, 1] (fr [(9, bB true), (10, slI 0 2), (11, pt 1), (12, nI i), (13, llI wl)]) (.ofList [obIm im, ⟨30, [.c (.int .i64 2), .c .nil]⟩])
  | n, i, hn, hi => by
    refine atLoop_at gPs_ok (by kernel_rfl) 100 ?_
    refine of_eq (q :=
        (decide ((↑i : Int) < (↑wl.length : Int)) = true → ((0 : Int) ≤ (↑i : Int) ∧ (↑i : Int) < (↑wl.length : Int)) ∧ i < wl.length ∧ ((1 : Nat) = (1 : Nat) ∧ (1 : Nat) ≤ (12 : Nat) ∧ Sh [wl.getD i []]) ∧ (0 : Nat) + (1 : Nat) ≤ (1 : Nat) ∧ (0 : Nat) + (2 : Nat) ≤ im.length ∧ Sh (List.take (1 : Nat) (List.drop (0 : Nat) [wl.getD i []])) ∧ (0 : Nat) + (2 : Nat) ≤ im.length ∧ Sh (cleanR (2 : Int) [wl.getD
        i []]).fst.snd ∧ ((!decide ((cleanR (2 : Int) [wl.getD i []]).snd = (0 : Int))) = false → (!decide ((cleanR (2 : Int) [wl.getD i []]).snd = (0 : Int))) = false) ∧ ((!decide ((cleanR (2 : Int) [wl.getD i []]).snd = (0 : Int))) = false → (!decide ((cleanR (2 : Int) [wl.getD i []]).snd = (0 : Int))) = false) ∧ ((bif !decide ((cleanR (2 : Int) [wl.getD i []]).snd = (0 : Int)) then true else !decide
        ((satR (2 : Int) (List.take (1 : Nat) (List.drop (0 : Nat) [wl.getD i []])) (List.take (2 : Nat) (List.drop (0 : Nat) im))).snd = (0 : Int))) = false → (bif !decide ((cleanR (2 : Int) [wl.getD i []]).snd = (0 : Int)) then true else !decide ((satR (2 : Int) (List.take (1 : Nat) (List.drop (0 : Nat) [wl.getD i []])) (List.take (2 : Nat) (List.drop (0 : Nat) im))).snd = (0 : Int))) = false) ∧ ((bif
        !decide ((cleanR (2 : Int) [wl.getD i []]).snd = (0 : Int)) then true else !decide ((satR (2 : Int) (List.take (1 : Nat) (List.drop (0 : Nat) [wl.getD i []])) (List.take (2 : Nat) (List.drop (0 : Nat) im))).snd = (0 : Int))) = false → (bif !decide ((cleanR (2 : Int) [wl.getD i []]).snd = (0 : Int)) then true else !decide ((satR (2 : Int) (List.take (1 : Nat) (List.drop (0 : Nat) [wl.getD i []]))
        (List.take (2 : Nat) (List.drop (0 : Nat) im))).snd = (0 : Int))) = false) ∧ ((bif bif !decide ((cleanR (2 : Int) [wl.getD i []]).snd = (0 : Int)) then true else !decide ((satR (2 : Int) (List.take (1 : Nat) (List.drop (0 : Nat) [wl.getD i []])) (List.take (2 : Nat) (List.drop (0 : Nat) im))).snd = (0 : Int)) then true else !decide ((satR (cleanR (2 : Int) [wl.getD i []]).fst.fst (cleanR (2 : Int)
        [wl.getD i []]).fst.snd (List.take (2 : Nat) (List.drop (0 : Nat) im))).snd = (0 : Int))) = false → (bif bif !decide ((cleanR (2 : Int) [wl.getD i []]).snd = (0 : Int)) then true else !decide ((satR (2 : Int) (List.take (1 : Nat) (List.drop (0 : Nat) [wl.getD i []])) (List.take (2 : Nat) (List.drop (0 : Nat) im))).snd = (0 : Int)) then true else !decide ((satR (cleanR (2 : Int) [wl.getD i
        []]).fst.fst (cleanR (2 : Int) [wl.getD i []]).fst.snd (List.take (2 : Nat) (List.drop (0 : Nat) im))).snd = (0 : Int))) = false) ∧ ((bif bif !decide ((cleanR (2 : Int) [wl.getD i []]).snd = (0 : Int)) then true else !decide ((satR (2 : Int) (List.take (1 : Nat) (List.drop (0 : Nat) [wl.getD i []])) (List.take (2 : Nat) (List.drop (0 : Nat) im))).snd = (0 : Int)) then true else !decide ((satR
        (cleanR (2 : Int) [wl.getD i []]).fst.fst (cleanR (2 : Int) [wl.getD i []]).fst.snd (List.take (2 : Nat) (List.drop (0 : Nat) im))).snd = (0 : Int))) = false → (bif bif !decide ((cleanR (2 : Int) [wl.getD i []]).snd = (0 : Int)) then true else !decide ((satR (2 : Int) (List.take (1 : Nat) (List.drop (0 : Nat) [wl.getD i []])) (List.take (2 : Nat) (List.drop (0 : Nat) im))).snd = (0 : Int)) then
        true else !decide ((satR (cleanR (2 : Int) [wl.getD i []]).fst.fst (cleanR (2 : Int) [wl.getD i []]).fst.snd (List.take (2 : Nat) (List.drop (0 : Nat) im))).snd = (0 : Int))) = false) ∧ ((bif bif !decide ((cleanR (2 : Int) [wl.getD i []]).snd = (0 : Int)) then true else !decide ((satR (2 : Int) (List.take (1 : Nat) (List.drop (0 : Nat) [wl.getD i []])) (List.take (2 : Nat) (List.drop (0 : Nat)
        im))).snd = (0 : Int)) then true else !decide ((satR (cleanR (2 : Int) [wl.getD i []]).fst.fst (cleanR (2 : Int) [wl.getD i []]).fst.snd (List.take (2 : Nat) (List.drop (0 : Nat) im))).snd = (0 : Int))) = false → (bif bif !decide ((cleanR (2 : Int) [wl.getD i []]).snd = (0 : Int)) then true else !decide ((satR (2 : Int) (List.take (1 : Nat) (List.drop (0 : Nat) [wl.getD i []])) (List.take (2 :
        Nat) (List.drop (0 : Nat) im))).snd = (0 : Int)) then true else !decide ((satR (cleanR (2 : Int) [wl.getD i []]).fst.fst (cleanR (2 : Int) [wl.getD i []]).fst.snd (List.take (2 : Nat) (List.drop (0 : Nat) im))).snd = (0 : Int))) = false) ∧ ((bif bif bif !decide ((cleanR (2 : Int) [wl.getD i []]).snd = (0 : Int)) then true else !decide ((satR (2 : Int) (List.take (1 : Nat) (List.drop (0 : Nat)
        [wl.getD i []])) (List.take (2 : Nat) (List.drop (0 : Nat) im))).snd = (0 : Int)) then true else !decide ((satR (cleanR (2 : Int) [wl.getD i []]).fst.fst (cleanR (2 : Int) [wl.getD i []]).fst.snd (List.take (2 : Nat) (List.drop (0 : Nat) im))).snd = (0 : Int)) then true else !(satR (2 : Int) (List.take (1 : Nat) (List.drop (0 : Nat) [wl.getD i []])) (List.take (2 : Nat) (List.drop (0 : Nat)
        im))).fst == (satR (cleanR (2 : Int) [wl.getD i []]).fst.fst (cleanR (2 : Int) [wl.getD i []]).fst.snd (List.take (2 : Nat) (List.drop (0 : Nat) im))).fst) = true → packV [V.c (W.bool false)] = bB true ∧ ([] : List Ob) = []) ∧ ((bif bif bif !decide ((cleanR (2 : Int) [wl.getD i []]).snd = (0 : Int)) then true else !decide ((satR (2 : Int) (List.take (1 : Nat) (List.drop (0 : Nat) [wl.getD i []]))
        (List.take (2 : Nat) (List.drop (0 : Nat) im))).snd = (0 : Int)) then true else !decide ((satR (cleanR (2 : Int) [wl.getD i []]).fst.fst (cleanR (2 : Int) [wl.getD i []]).fst.snd (List.take (2 : Nat) (List.drop (0 : Nat) im))).snd = (0 : Int)) then true else !(satR (2 : Int) (List.take (1 : Nat) (List.drop (0 : Nat) [wl.getD i []])) (List.take (2 : Nat) (List.drop (0 : Nat) im))).fst == (satR
        (cleanR (2 : Int) [wl.getD i []]).fst.fst (cleanR (2 : Int) [wl.getD i []]).fst.snd (List.take (2 : Nat) (List.drop (0 : Nat) im))).fst) = false → ((satR (2 : Int) (List.take (1 : Nat) (List.drop (0 : Nat) [wl.getD i []])) (List.take (2 : Nat) (List.drop (0 : Nat) im))).fst = true → ((0 : Int) ≤ (↑i : Int) ∧ (↑i : Int) < (↑wl.length : Int)) ∧ i < wl.length ∧ (0 : Nat) + (1 : Nat) ≤ (1 : Nat) ∧ (1
        : Nat) * (24 : Nat) ≤ (140737488355328 : Nat) ∧ (R1.pure (Cd.t.and Cd.t) (A.p (V.c W.nil))).v = (R1.pure (Cd.t.and Cd.t) (A.p (V.c W.nil))).v ∧ (R1.pure (Cd.t.and Cd.t) (A.p (V.c W.nil))).v = (R1.pure (Cd.t.and Cd.t) (A.p (V.c W.nil))).v ∧ AtLoop sPs (Says1 (bB true) []) [(0 : Nat), (1 : Nat), (0 : Nat), (1 : Nat), (1 : Nat), (1 : Nat), (1 : Nat), (1 : Nat), (1 : Nat)] (fr [((9 : Nat), A.p (V.c
        (W.bool true))), ((10 : Nat), A.p (V.c (W.sl (0 : Nat) (0 : Nat) (2 : Nat) (1 : Nat)))), ((11 : Nat), A.p (V.c (W.ptr (1 : Nat) (0 : Nat)))), ((12 : Nat), A.p (V.c (W.int IntKind.i64 (IntKind.i64.wrap ((↑i : Int) + (1 : Int)))))), ((13 : Nat), A.p (V.c (W.rd (D.int IntKind.i64).sl wl)))]) (Sto.ofList [Ob.mk (25 : Nat) [Fd.a (0 : Nat) (D.int IntKind.i64).sl im], Ob.mk (30 : Nat) [Fd.c (W.int
        IntKind.i64 (2 : Int)), Fd.c (W.sl (2 : Nat) (0 : Nat) (1 : Nat) (1 : Nat))], Ob.mk (32 : Nat) [Fd.a (0 : Nat) (D.int IntKind.i64).sl (List.take (1 : Nat) (List.drop (0 : Nat) [wl.getD i []]))]])) ∧ ((satR (2 : Int) (List.take (1 : Nat) (List.drop (0 : Nat) [wl.getD i []])) (List.take (2 : Nat) (List.drop (0 : Nat) im))).fst = false → AtLoop sPs (Says1 (bB true) []) [(0 : Nat), (1 : Nat), (0 :
        Nat), (1 : Nat), (1 : Nat), (1 : Nat), (1 : Nat), (1 : Nat), (1 : Nat)] (fr [((9 : Nat), A.p (V.c (W.bool true))), ((10 : Nat), A.p (V.c (W.sl (0 : Nat) (0 : Nat) (2 : Nat) (1 : Nat)))), ((11 : Nat), A.p (V.c (W.ptr (1 : Nat) (0 : Nat)))), ((12 : Nat), A.p (V.c (W.int IntKind.i64 (IntKind.i64.wrap ((↑i : Int) + (1 : Int)))))), ((13 : Nat), A.p (V.c (W.rd (D.int IntKind.i64).sl wl)))]) (Sto.ofList
        [Ob.mk (25 : Nat) [Fd.a (0 : Nat) (D.int IntKind.i64).sl im], Ob.mk (30 : Nat) [Fd.c (W.int IntKind.i64 (2 : Int)), Fd.c W.nil]])))) ∧ (decide ((↑i : Int) < (↑wl.length : Int)) = false → ((0 : Nat) ≤ (12 : Nat) ∧ Sh []) ∧ (0 : Nat) + (2 : Nat) ≤ im.length ∧ Sh [] ∧ (0 : Nat) + (2 : Nat) ≤ im.length ∧ Sh (cleanR (2 : Int) []).fst.snd ∧ (true = true → true = true) ∧ (true = true → true = true) ∧
        ((bif true then decide ((cleanR (2 : Int) []).snd = (0 : Int)) else false) = true → (bif true then decide ((cleanR (2 : Int) []).snd = (0 : Int)) else false) = true) ∧ ((bif true then decide ((cleanR (2 : Int) []).snd = (0 : Int)) else false) = true → (bif true then decide ((cleanR (2 : Int) []).snd = (0 : Int)) else false) = true) ∧ ((bif bif true then decide ((cleanR (2 : Int) []).snd = (0 :
        Int)) else false then decide ((satR (2 : Int) [] (List.take (2 : Nat) (List.drop (0 : Nat) im))).snd = (0 : Int)) else false) = true → (bif bif true then decide ((cleanR (2 : Int) []).snd = (0 : Int)) else false then decide ((satR (2 : Int) [] (List.take (2 : Nat) (List.drop (0 : Nat) im))).snd = (0 : Int)) else false) = true) ∧ ((bif bif true then decide ((cleanR (2 : Int) []).snd = (0 : Int))
        else false then decide ((satR (2 : Int) [] (List.take (2 : Nat) (List.drop (0 : Nat) im))).snd = (0 : Int)) else false) = true → (bif bif true then decide ((cleanR (2 : Int) []).snd = (0 : Int)) else false then decide ((satR (2 : Int) [] (List.take (2 : Nat) (List.drop (0 : Nat) im))).snd = (0 : Int)) else false) = true) ∧ ((bif bif bif true then decide ((cleanR (2 : Int) []).snd = (0 : Int)) else
        false then decide ((satR (2 : Int) [] (List.take (2 : Nat) (List.drop (0 : Nat) im))).snd = (0 : Int)) else false then decide ((satR (cleanR (2 : Int) []).fst.fst (cleanR (2 : Int) []).fst.snd (List.take (2 : Nat) (List.drop (0 : Nat) im))).snd = (0 : Int)) else false) = true → (bif bif bif true then decide ((cleanR (2 : Int) []).snd = (0 : Int)) else false then decide ((satR (2 : Int) []
        (List.take (2 : Nat) (List.drop (0 : Nat) im))).snd = (0 : Int)) else false then decide ((satR (cleanR (2 : Int) []).fst.fst (cleanR (2 : Int) []).fst.snd (List.take (2 : Nat) (List.drop (0 : Nat) im))).snd = (0 : Int)) else false) = true) ∧ ((bif bif bif bif true then decide ((cleanR (2 : Int) []).snd = (0 : Int)) else false then decide ((satR (2 : Int) [] (List.take (2 : Nat) (List.drop (0 :
        Nat) im))).snd = (0 : Int)) else false then decide ((satR (cleanR (2 : Int) []).fst.fst (cleanR (2 : Int) []).fst.snd (List.take (2 : Nat) (List.drop (0 : Nat) im))).snd = (0 : Int)) else false then (satR (2 : Int) [] (List.take (2 : Nat) (List.drop (0 : Nat) im))).fst else false) = true → (bif bif bif bif true then decide ((cleanR (2 : Int) []).snd = (0 : Int)) else false then decide ((satR (2 :
        Int) [] (List.take (2 : Nat) (List.drop (0 : Nat) im))).snd = (0 : Int)) else false then decide ((satR (cleanR (2 : Int) []).fst.fst (cleanR (2 : Int) []).fst.snd (List.take (2 : Nat) (List.drop (0 : Nat) im))).snd = (0 : Int)) else false then (satR (2 : Int) [] (List.take (2 : Nat) (List.drop (0 : Nat) im))).fst else false) = true) ∧ packV [V.c (W.bool (bif bif bif bif bif true then decide
        ((cleanR (2 : Int) []).snd = (0 : Int)) else false then decide ((satR (2 : Int) [] (List.take (2 : Nat) (List.drop (0 : Nat) im))).snd = (0 : Int)) else false then decide ((satR (cleanR (2 : Int) []).fst.fst (cleanR (2 : Int) []).fst.snd (List.take (2 : Nat) (List.drop (0 : Nat) im))).snd = (0 : Int)) else false then (satR (2 : Int) [] (List.take (2 : Nat) (List.drop (0 : Nat) im))).fst else false
        then (satR (cleanR (2 : Int) []).fst.fst (cleanR (2 : Int) []).fst.snd (List.take (2 : Nat) (List.drop (0 : Nat) im))).fst else false))] = bB true ∧ ([] : List Ob) = [])) (by kernel_rfl) ?_
    try simp only [imp_self, true_and, and_true, Nat.zero_add, Bool.cond_true_left, Bool.cond_false_right, Bool.or_eq_true, Bool.or_eq_false_iff, Bool.and_eq_true, Bool.not_eq_true', Bool.not_eq_false', decide_eq_true_eq, decide_eq_false_iff_not, Int.not_lt, List.drop_zero, List.take_succ_cons, List.take_zero, Nat.le_refl]
    have h1 := h.d1
    have hlen := h.len
    have hwA : L2 (wl.getD i []) := hA.getD .nil i
    have hp : AllP L2 [wl.getD i []] := fun v hv => by rw [List.mem_singleton] at hv; subst hv; exact hwA
    have hn0 : AllP L2 [] := fun v hv => by simp at hv
    have hnT : ∀ w ∈ ([] : List (List Int)), Tr im d w := fun v hv => by simp at hv
    obtain ⟨a1, a2, a3, a4, a5⟩ := ps_facts h (P := [wl.getD i []]) (by simp) hp
    obtain ⟨b1, b2, b3, b4, b5⟩ := ps_facts h (P := []) (by simp) hn0
    have e1 := ps_one h hwA
    have e2 : satB im d.toNat [] = true := (satB_iff (by omega)).2 hnT
    have e3 : satB im d.toNat (tidyW (lwG [] [])) = true := (satB_iff (by omega)).2 (clean_tr h hn0 hnT)
    rw [List.take_of_length_le (show im.length ≤ 2 by omega)]
    simp only [a1, a2, a3, b1, b2, b3, e1, e2, e3]
    rw [wrap64 (n := (i : Int) + 1) (by omega) (by omega)]
    refine ⟨fun hi2 => ⟨by omega, by omega, ⟨by omega, a4⟩, by omega, a4, by omega, a5, fun hh => ?_, fun _ => ⟨fun hs => ⟨by omega, by omega, by omega, ?_⟩, fun hs => ?_⟩⟩, fun _ => ⟨⟨by omega, b4⟩, by omega, b4, by omega, b5, rfl⟩⟩
    · rcases hh with ((hh | hh) | hh) | hh
      · exact absurd trivial hh
      · exact absurd trivial hh
      · exact absurd trivial hh
      · rw [beq_self_eq_true] at hh; cases hh
    · exact ps_loop im wl d h hW hA (wl.length - (i + 1)) (i + 1) [wl.getD i []] rfl (by omega) (by simp) hp (fun v hv => (satB_iff (by omega)).1 hs v hv)
    · cases n with
      | zero => omega
      | succ n => exact ps_loop0 im wl d h hW hA n (i + 1) (by omega) (by omega)
theorem ps_sem (x : Int) (a b l : List Int) : FnSem Tryz.prog 3 [nI x, lsI a, lsI b, lsI l] [] (bB true) [] := by
  refine fnSem_at (live := livePs) gPs_ok Tryz.func3 (by kernel_rfl) (keep := 0) rfl (by kernel_rfl) 100 ?_
  refine of_eq (q :=
      (decide ((5 : Int) < (↑a.length : Int)) = false → decide ((5 : Int) < (↑a.length : Int)) = false) ∧ (decide ((5 : Int) < (↑a.length : Int)) = false → decide ((5 : Int) < (↑a.length : Int)) = false) ∧ (decide ((5 : Int) < (↑a.length : Int)) = false → decide ((5 : Int) < (↑a.length : Int)) = false) ∧ ((bif decide ((5 : Int) < (↑a.length : Int)) then true else decide ((5 : Int) < (↑b.length : Int)))
      = false → (bif decide ((5 : Int) < (↑a.length : Int)) then true else decide ((5 : Int) < (↑b.length : Int))) = false) ∧ ((bif decide ((5 : Int) < (↑a.length : Int)) then true else decide ((5 : Int) < (↑b.length : Int))) = false → (bif decide ((5 : Int) < (↑a.length : Int)) then true else decide ((5 : Int) < (↑b.length : Int))) = false) ∧ ((bif decide ((5 : Int) < (↑a.length : Int)) then true else
      decide ((5 : Int) < (↑b.length : Int))) = false → (bif decide ((5 : Int) < (↑a.length : Int)) then true else decide ((5 : Int) < (↑b.length : Int))) = false) ∧ ((bif bif decide ((5 : Int) < (↑a.length : Int)) then true else decide ((5 : Int) < (↑b.length : Int)) then true else decide ((60 : Int) < (↑l.length : Int))) = true → packV [V.c (W.bool true)] = bB true ∧ ([] : List Ob) = []) ∧ ((bif bif
      decide ((5 : Int) < (↑a.length : Int)) then true else decide ((5 : Int) < (↑b.length : Int)) then true else decide ((60 : Int) < (↑l.length : Int))) = false → ((1 : Int) ≤ (5 : Int) ∧ (5 : Int) ≤ (1000 : Int)) ∧ (((0 : Int) ≤ IntKind.i64.wrap ((1 : Int) + turnI x (5 : Int)) ∧ IntKind.i64.wrap ((1 : Int) + turnI x (5 : Int)) ≤ (1000 : Int)) ∧ a.length ≤ (1000 : Nat)) ∧ (((0 : Int) ≤
      IntKind.i64.wrap ((1 : Int) + turnI x (5 : Int)) ∧ IntKind.i64.wrap ((1 : Int) + turnI x (5 : Int)) ≤ (1000 : Int)) ∧ b.length ≤ (1000 : Nat)) ∧ (((1 : Int) ≤ (2 : Int) ∧ (2 : Int) ≤ (16 : Int)) ∧ l.length ≤ (1000 : Nat)) ∧ AtLoop (mkSite Tryz.prog gPs Tryz.f3 (0 : Nat) livePs) (Says1 (bB true) []) [(0 : Nat), (1 : Nat), (0 : Nat), (1 : Nat), (1 : Nat), (1 : Nat), (1 : Nat), (1 : Nat), (1 : Nat)]
      (fr [((9 : Nat), A.p (V.c (W.bool true))), ((10 : Nat), A.p (V.c (W.sl (0 : Nat) (0 : Nat) (2 : Nat) (1 : Nat)))), ((11 : Nat), A.p (V.c (W.ptr (1 : Nat) (0 : Nat)))), ((12 : Nat), A.p (V.c (W.int IntKind.i64 (0 : Int)))), ((13 : Nat), A.p (V.c (W.rd (D.int IntKind.i64).sl (words8 (2 : Int) l))))]) (Sto.ofList [Ob.mk (25 : Nat) [Fd.a (0 : Nat) (D.int IntKind.i64).sl [permW a (IntKind.i64.wrap ((1
      : Int) + turnI x (5 : Int))).toNat, permW b (IntKind.i64.wrap ((1 : Int) + turnI x (5 : Int))).toNat]], Ob.mk (30 : Nat) [Fd.c (W.int IntKind.i64 (2 : Int)), Fd.c W.nil]]))) (by kernel_rfl) ?_
  try simp only [imp_self, true_and, and_true, Bool.cond_true_left, Bool.or_eq_true, Bool.or_eq_false_iff, decide_eq_true_eq, decide_eq_false_iff_not, Int.not_lt]
  have t := turn_range x 5 (by omega)
  rw [wrap64 (n := 1 + turnI x 5) (by omega) (by omega)]
  refine ⟨fun _ => rfl, fun h => ⟨by omega, by omega, by omega, by omega, ?_⟩⟩
  obtain ⟨h1, h2⟩ := words8_L2 l
  obtain ⟨k, hk⟩ : ∃ k : Nat, 1 + turnI x 5 = k := ⟨(1 + turnI x 5).toNat, by omega⟩
  rw [hk, Int.toNat_natCast]
  refine ps_loop0 _ _ (k : Int) ⟨rfl, by omega, by omega, fun p hp => ?_⟩ h2 h1 _ 0 rfl (by omega)
  rcases List.mem_cons.1 hp with rfl | hp
  · exact permW_ok a k
  · rw [List.mem_singleton] at hp; subst hp; exact permW_ok b k
theorem satisfies_all : ForArgs (fun args => FnSem Tryz.prog 3 args [] (dat .bool true) []) [.int .i64, .sl (.int .i64), .sl (.int .i64), .sl (.int .i64)] [] :=
  fun x _ a _ b _ l _ => ps_sem x a b l
end Go.Proofs.YtjmhmflganfoaabGreatDoor
