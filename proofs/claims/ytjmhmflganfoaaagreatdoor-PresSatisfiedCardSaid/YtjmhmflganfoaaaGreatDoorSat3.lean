/- Presentations: which lists satisfy them, by the reference. -/
import Derived.Test.YtjmhmflganfoaaaGreatDoorSat2
namespace Go.Proofs.YtjmhmflganfoaaaGreatDoor
open Go.Loom
set_option maxRecDepth 100000
abbrev obBk (l : List (List Int)) : Ob := ⟨42, [.a 0 (.sl (.int .i64)) l]⟩
noncomputable def gSr : Gam := [(18, cRCheck), (48, cPm)]
theorem gSr_ok : GamOk Tryz.prog gSr := gamOk_cons cRCheck_ok (gamOk_cons cPm_ok gamOk_nil)
abbrev liveSr : List (List Nat × List Nat) := [([0, 1, 0, 1, 1, 1, 1, 1], [1, 2, 8, 9]), ([0, 1, 0, 1, 1, 1, 1, 1, 1, 1], [1, 2, 8, 10, 11]), ([0, 1, 0, 1, 0, 0, 1, 0, 0, 1, 0, 1, 1, 1, 1, 1, 1, 1], [1, 2, 8, 10, 11, 12, 13]),
  ([0, 1, 0, 1, 1, 1, 1, 1, 1, 1, 1], [1, 2, 8, 10, 14]), ([0, 1, 0, 0, 1, 0, 0, 1, 0, 1, 1, 1, 1, 1, 1, 1, 1], [1, 2, 8, 10, 14, 15]), ([0, 1, 0, 1, 0, 0, 1, 0, 0, 1, 0, 0, 1, 0, 0, 1, 0, 1, 1, 1, 1, 1, 1, 1, 1], [1, 2, 8, 10, 14, 15, 16, 17])]
noncomputable def sSr : Site := mkSite Tryz.prog gSr Tryz.f24 0 liveSr
/-- All that a walk over the relators needs. -/
structure RSatOk (g : Int) (r im : List (List Int)) (d : Int) : Prop where
  good : Good g r
  len : (im.length : Int) = g
  d1 : 1 ≤ d
  d64 : d ≤ 64
  perm : ∀ l ∈ im, IsPerm l d
noncomputable abbrev frR (im : List (List Int)) (d : Int) (l : List (Nat × A)) : Fr := fr ((1, llI im) :: (2, pt 0) :: (8, nI d) :: (10, slI 1 im.length) :: l)
theorem map_getD {l : List (List Int)} {j : Nat} (h : j < l.length) : (l.map invD).getD j [] = invD (l.getD j []) := by
  rw [List.getD_eq_getElem?_getD, List.getD_eq_getElem?_getD, List.getElem?_map, List.getElem?_eq_getElem h]; rfl
theorem sr_six (g : Int) (r im : List (List Int)) (d : Int) (h : RSatOk g r im d) (r0 : A) (i : Nat) (hi : i < r.length) (x : Nat) (hx : (x : Int) < d) (z : Int) (b : Bool) (hb : decide (z = x) = b)
    (hout : b = true → AtLoop sSr (Says1 r0 []) [0, 1, 0, 0, 1, 0, 0, 1, 0, 1, 1, 1, 1, 1, 1, 1, 1] (frR im d [(14, nI i), (15, nI ((x : Int) + 1))]) (.ofList [obP g r, obBk (im.map invD)]))
    (hno : b = false → r0 = saA false 0) : ∀ (n k : Nat) (y : Int), n = (r.getD i []).length - k → k ≤ (r.getD i []).length → 0 ≤ y ∧ y < d → actW im ((r.getD i []).drop k) y = z →
    AtLoop sSr (Says1 r0 []) [0, 1, 0, 1, 0, 0, 1, 0, 0, 1, 0, 0, 1, 0, 0, 1, 0, 1, 1, 1, 1, 1, 1, 1, 1] (frR im d [(14, nI i), (15, nI x), (16, nI y), (17, nI k)]) (.ofList [obP g r, obBk (im.map invD)])
  | n, k, y, hn, hk, hy, he => by
    refine atLoop_at gSr_ok (by kernel_rfl) 100 ?_
    refine of_eq (q :=
        ((0 : Int) ≤ (↑i : Int) ∧ (↑i : Int) < (↑r.length : Int)) ∧ i < r.length ∧ (decide ((↑k : Int) < (↑(r.getD i []).length : Int)) = true → ((0 : Int) ≤ (↑i : Int) ∧ (↑i : Int) < (↑r.length : Int)) ∧ i < r.length ∧ ((0 : Int) ≤ (↑k : Int) ∧ (↑k : Int) < (↑(r.getD i []).length : Int)) ∧ k < (r.getD i []).length ∧ (decide ((0 : Int) < (r.getD i []).getD k (0 : Int)) = true → ((0 : Int) ≤
        IntKind.i64.wrap ((r.getD i []).getD k (0 : Int) - (1 : Int)) ∧ IntKind.i64.wrap ((r.getD i []).getD k (0 : Int) - (1 : Int)) < (↑im.length : Int)) ∧ (IntKind.i64.wrap ((r.getD i []).getD k (0 : Int) - (1 : Int))).toNat < im.length ∧ ((0 : Int) ≤ y ∧ y < (↑(im.getD (IntKind.i64.wrap ((r.getD i []).getD k (0 : Int) - (1 : Int))).toNat []).length : Int)) ∧ y.toNat < (im.getD (IntKind.i64.wrap
        ((r.getD i []).getD k (0 : Int) - (1 : Int))).toNat []).length ∧ AtLoop sSr (Says1 r0 []) [(0 : Nat), (1 : Nat), (0 : Nat), (1 : Nat), (0 : Nat), (0 : Nat), (1 : Nat), (0 : Nat), (0 : Nat), (1 : Nat), (0 : Nat), (0 : Nat), (1 : Nat), (0 : Nat), (0 : Nat), (1 : Nat), (0 : Nat), (1 : Nat), (1 : Nat), (1 : Nat), (1 : Nat), (1 : Nat), (1 : Nat), (1 : Nat), (1 : Nat)] (fr [((1 : Nat), A.p (V.c (W.rd
        (D.int IntKind.i64).sl im))), ((2 : Nat), A.p (V.c (W.ptr (0 : Nat) (0 : Nat)))), ((8 : Nat), A.p (V.c (W.int IntKind.i64 d))), ((10 : Nat), A.p (V.c (W.sl (1 : Nat) (0 : Nat) im.length (1 : Nat)))), ((14 : Nat), A.p (V.c (W.int IntKind.i64 (↑i : Int)))), ((15 : Nat), A.p (V.c (W.int IntKind.i64 (↑x : Int)))), ((16 : Nat), A.p (V.c (W.int IntKind.i64 ((im.getD (IntKind.i64.wrap ((r.getD i []).getD
        k (0 : Int) - (1 : Int))).toNat []).getD y.toNat (0 : Int))))), ((17 : Nat), A.p (V.c (W.int IntKind.i64 (IntKind.i64.wrap ((↑k : Int) + (1 : Int))))))]) (Sto.ofList [Ob.mk (27 : Nat) [Fd.c (W.int IntKind.i64 g), Fd.c (W.rd (D.int IntKind.i64).sl r)], Ob.mk (42 : Nat) [Fd.a (0 : Nat) (D.int IntKind.i64).sl (List.map invD im)]])) ∧ (decide ((0 : Int) < (r.getD i []).getD k (0 : Int)) = false → ((0
        : Int) ≤ IntKind.i64.wrap (IntKind.i64.wrap ((0 : Int) - (r.getD i []).getD k (0 : Int)) - (1 : Int)) ∧ IntKind.i64.wrap (IntKind.i64.wrap ((0 : Int) - (r.getD i []).getD k (0 : Int)) - (1 : Int)) < (↑im.length : Int)) ∧ (0 : Nat) + (IntKind.i64.wrap (IntKind.i64.wrap ((0 : Int) - (r.getD i []).getD k (0 : Int)) - (1 : Int))).toNat < (List.map invD im).length ∧ ((0 : Int) ≤ y ∧ y < (↑((List.map
        invD im).getD ((0 : Nat) + (IntKind.i64.wrap (IntKind.i64.wrap ((0 : Int) - (r.getD i []).getD k (0 : Int)) - (1 : Int))).toNat) []).length : Int)) ∧ y.toNat < ((List.map invD im).getD ((0 : Nat) + (IntKind.i64.wrap (IntKind.i64.wrap ((0 : Int) - (r.getD i []).getD k (0 : Int)) - (1 : Int))).toNat) []).length ∧ AtLoop sSr (Says1 r0 []) [(0 : Nat), (1 : Nat), (0 : Nat), (1 : Nat), (0 : Nat), (0 :
        Nat), (1 : Nat), (0 : Nat), (0 : Nat), (1 : Nat), (0 : Nat), (0 : Nat), (1 : Nat), (0 : Nat), (0 : Nat), (1 : Nat), (0 : Nat), (1 : Nat), (1 : Nat), (1 : Nat), (1 : Nat), (1 : Nat), (1 : Nat), (1 : Nat), (1 : Nat)] (fr [((1 : Nat), A.p (V.c (W.rd (D.int IntKind.i64).sl im))), ((2 : Nat), A.p (V.c (W.ptr (0 : Nat) (0 : Nat)))), ((8 : Nat), A.p (V.c (W.int IntKind.i64 d))), ((10 : Nat), A.p (V.c
        (W.sl (1 : Nat) (0 : Nat) im.length (1 : Nat)))), ((14 : Nat), A.p (V.c (W.int IntKind.i64 (↑i : Int)))), ((15 : Nat), A.p (V.c (W.int IntKind.i64 (↑x : Int)))), ((16 : Nat), A.p (V.c (W.int IntKind.i64 (((List.map invD im).getD ((0 : Nat) + (IntKind.i64.wrap (IntKind.i64.wrap ((0 : Int) - (r.getD i []).getD k (0 : Int)) - (1 : Int))).toNat) []).getD y.toNat (0 : Int))))), ((17 : Nat), A.p (V.c
        (W.int IntKind.i64 (IntKind.i64.wrap ((↑k : Int) + (1 : Int))))))]) (Sto.ofList [Ob.mk (27 : Nat) [Fd.c (W.int IntKind.i64 g), Fd.c (W.rd (D.int IntKind.i64).sl r)], Ob.mk (42 : Nat) [Fd.a (0 : Nat) (D.int IntKind.i64).sl (List.map invD im)]]))) ∧ (decide ((↑k : Int) < (↑(r.getD i []).length : Int)) = false → ((!decide (y = (↑x : Int))) = true → packV [V.c (W.bool false), V.c (W.int IntKind.i64 (0
        : Int))] = r0 ∧ ([] : List Ob) = []) ∧ ((!decide (y = (↑x : Int))) = false → AtLoop sSr (Says1 r0 []) [(0 : Nat), (1 : Nat), (0 : Nat), (0 : Nat), (1 : Nat), (0 : Nat), (0 : Nat), (1 : Nat), (0 : Nat), (1 : Nat), (1 : Nat), (1 : Nat), (1 : Nat), (1 : Nat), (1 : Nat), (1 : Nat), (1 : Nat)] (fr [((1 : Nat), A.p (V.c (W.rd (D.int IntKind.i64).sl im))), ((2 : Nat), A.p (V.c (W.ptr (0 : Nat) (0 :
        Nat)))), ((8 : Nat), A.p (V.c (W.int IntKind.i64 d))), ((10 : Nat), A.p (V.c (W.sl (1 : Nat) (0 : Nat) im.length (1 : Nat)))), ((14 : Nat), A.p (V.c (W.int IntKind.i64 (↑i : Int)))), ((15 : Nat), A.p (V.c (W.int IntKind.i64 (IntKind.i64.wrap ((↑x : Int) + (1 : Int))))))]) (Sto.ofList [Ob.mk (27 : Nat) [Fd.c (W.int IntKind.i64 g), Fd.c (W.rd (D.int IntKind.i64).sl r)], Ob.mk (42 : Nat) [Fd.a (0 :
        Nat) (D.int IntKind.i64).sl (List.map invD im)]])))) (by kernel_rfl) ?_
    try simp only [and_true, Nat.zero_add, Bool.not_eq_true', Bool.not_eq_false', decide_eq_true_eq, decide_eq_false_iff_not, Int.not_lt]
    have b1 := h.good.g1
    have b2 := h.good.g16
    have b3 := h.good.len
    have hm := h.good.let_ (r.getD i []) (getL_mem hi)
    have b4 := hm.1
    have b5 := h.d64
    have hlen := h.len
    rw [wrap64 (n := (k : Int) + 1) (by omega) (by omega), wrap64 (n := (x : Int) + 1) (by omega) (by omega)]
    refine ⟨by omega, hi, fun hk => ?_, fun hk => ?_⟩
    · have hk' : k < (r.getD i []).length := by omega
      obtain ⟨h1, h2, h3⟩ := hm.2 _ (getD_mem hk')
      have h6 := actI_mem h.perm (g := (r.getD i []).getD k 0) h1 (by omega) (by omega) hy
      rw [getD_lt hk'] at he
      have next : AtLoop sSr (Says1 r0 []) [0, 1, 0, 1, 0, 0, 1, 0, 0, 1, 0, 0, 1, 0, 0, 1, 0, 1, 1, 1, 1, 1, 1, 1, 1] (frR im d [(14, nI i), (15, nI x), (16, nI (actI im ((r.getD i []).getD k 0) y)), (17, nI ((k : Int) + 1))]) (.ofList [obP g r, obBk (im.map invD)]) := by
        cases n with
        | zero => omega
        | succ n => exact sr_six g r im d h r0 i hi x hx z b hb hout hno n (k + 1) _ (by omega) (by omega) h6 he
      generalize (r.getD i []).getD k 0 = q at h1 h2 h3 h6 next ⊢
      unfold actI at next
      rw [wrap64 (n := q - 1) (by omega) (by omega), wrap64 (n := 0 - q) (by omega) (by omega), wrap64 (n := 0 - q - 1) (by omega) (by omega)]
      refine ⟨by omega, by omega, by omega, by omega, fun h7 => ?_, fun h7 => ?_⟩
      · have hj : (q - 1).toNat < im.length := by omega
        have hp := (h.perm _ (getL_mem hj)).len
        rw [if_pos h7] at next
        exact ⟨by omega, hj, by omega, by omega, next⟩
      · have hj : (0 - q - 1).toNat < im.length := by omega
        have hp := (h.perm _ (getL_mem hj)).ilen
        rw [if_neg (by omega)] at next
        rw [map_getD hj, List.length_map]
        exact ⟨by omega, hj, by omega, by omega, next⟩
    · rw [List.drop_eq_nil_of_le (by omega)] at he
      have he' : y = z := he
      subst he'
      refine ⟨fun h1 => ?_, fun h1 => ?_⟩
      · rw [decide_eq_false h1] at hb
        rw [hno hb.symm]; rfl
      · rw [decide_eq_true h1] at hb
        exact hout hb.symm
theorem sr_five (g : Int) (r im : List (List Int)) (d : Int) (h : RSatOk g r im d) (r0 : A) (i : Nat) (hi : i < r.length) (b : Bool)
    (hout : b = true → AtLoop sSr (Says1 r0 []) [0, 1, 0, 1, 1, 1, 1, 1, 1, 1, 1] (frR im d [(14, nI ((i : Int) + 1))]) (.ofList [obP g r, obBk (im.map invD)]))
    (hno : b = false → r0 = saA false 0) : ∀ (n x : Nat), n = d.toNat - x → x ≤ d.toNat → fixes im (r.getD i []) d.toNat x n = b →
    AtLoop sSr (Says1 r0 []) [0, 1, 0, 0, 1, 0, 0, 1, 0, 1, 1, 1, 1, 1, 1, 1, 1] (frR im d [(14, nI i), (15, nI x)]) (.ofList [obP g r, obBk (im.map invD)])
  | n, x, hn, hx, he => by
    refine atLoop_at gSr_ok (by kernel_rfl) 100 ?_
    refine of_eq (q :=
        (decide ((↑x : Int) < d) = true → AtLoop sSr (Says1 r0 []) [(0 : Nat), (1 : Nat), (0 : Nat), (1 : Nat), (0 : Nat), (0 : Nat), (1 : Nat), (0 : Nat), (0 : Nat), (1 : Nat), (0 : Nat), (0 : Nat), (1 : Nat), (0 : Nat), (0 : Nat), (1 : Nat), (0 : Nat), (1 : Nat), (1 : Nat), (1 : Nat), (1 : Nat), (1 : Nat), (1 : Nat), (1 : Nat), (1 : Nat)] (fr [((1 : Nat), A.p (V.c (W.rd (D.int IntKind.i64).sl im))), ((2
        : Nat), A.p (V.c (W.ptr (0 : Nat) (0 : Nat)))), ((8 : Nat), A.p (V.c (W.int IntKind.i64 d))), ((10 : Nat), A.p (V.c (W.sl (1 : Nat) (0 : Nat) im.length (1 : Nat)))), ((14 : Nat), A.p (V.c (W.int IntKind.i64 (↑i : Int)))), ((15 : Nat), A.p (V.c (W.int IntKind.i64 (↑x : Int)))), ((16 : Nat), A.p (V.c (W.int IntKind.i64 (↑x : Int)))), ((17 : Nat), A.p (V.c (W.int IntKind.i64 (0 : Int))))])
        (Sto.ofList [Ob.mk (27 : Nat) [Fd.c (W.int IntKind.i64 g), Fd.c (W.rd (D.int IntKind.i64).sl r)], Ob.mk (42 : Nat) [Fd.a (0 : Nat) (D.int IntKind.i64).sl (List.map invD im)]])) ∧ (decide ((↑x : Int) < d) = false → AtLoop sSr (Says1 r0 []) [(0 : Nat), (1 : Nat), (0 : Nat), (1 : Nat), (1 : Nat), (1 : Nat), (1 : Nat), (1 : Nat), (1 : Nat), (1 : Nat), (1 : Nat)] (fr [((1 : Nat), A.p (V.c (W.rd (D.int
        IntKind.i64).sl im))), ((2 : Nat), A.p (V.c (W.ptr (0 : Nat) (0 : Nat)))), ((8 : Nat), A.p (V.c (W.int IntKind.i64 d))), ((10 : Nat), A.p (V.c (W.sl (1 : Nat) (0 : Nat) im.length (1 : Nat)))), ((14 : Nat), A.p (V.c (W.int IntKind.i64 (IntKind.i64.wrap ((↑i : Int) + (1 : Int))))))]) (Sto.ofList [Ob.mk (27 : Nat) [Fd.c (W.int IntKind.i64 g), Fd.c (W.rd (D.int IntKind.i64).sl r)], Ob.mk (42 : Nat)
        [Fd.a (0 : Nat) (D.int IntKind.i64).sl (List.map invD im)]]))) (by kernel_rfl) ?_
    try simp only [decide_eq_true_eq, decide_eq_false_iff_not, Int.not_lt]
    have b3 := h.good.len
    have b4 := h.d1
    have b5 := h.d64
    rw [wrap64 (n := (i : Int) + 1) (by omega) (by omega)]
    refine ⟨fun h1 => ?_, fun h1 => ?_⟩
    · cases n with
      | zero => omega
      | succ n =>
        rw [fixes] at he
        refine sr_six g r im d h r0 i hi x h1 (actW im (r.getD i []) x) (decide (actW im (r.getD i []) x = x)) rfl (fun hb => ?_) (fun hb => hno ?_) (r.getD i []).length 0 x rfl (by omega) ⟨by omega, h1⟩ rfl
        · rw [hb, Bool.true_and] at he
          exact sr_five g r im d h r0 i hi b hout hno n (x + 1) (by omega) (by omega) he
        · rw [hb, Bool.false_and] at he
          exact he.symm
    · have hn0 : n = 0 := by omega
      subst hn0
      exact hout he.symm
theorem sr_four (g : Int) (r im : List (List Int)) (d : Int) (h : RSatOk g r im d) : ∀ (n i : Nat), n = r.length - i → i ≤ r.length →
    AtLoop sSr (Says1 (saA (satB im d.toNat (r.drop i)) 0) []) [0, 1, 0, 1, 1, 1, 1, 1, 1, 1, 1] (frR im d [(14, nI i)]) (.ofList [obP g r, obBk (im.map invD)])
  | n, i, hn, hi => by
    refine atLoop_at gSr_ok (by kernel_rfl) 100 ?_
    refine of_eq (q :=
        (decide ((↑i : Int) < (↑r.length : Int)) = true → AtLoop sSr (Says1 (saA (satB im d.toNat (List.drop i r)) (0 : Int)) []) [(0 : Nat), (1 : Nat), (0 : Nat), (0 : Nat), (1 : Nat), (0 : Nat), (0 : Nat), (1 : Nat), (0 : Nat), (1 : Nat), (1 : Nat), (1 : Nat), (1 : Nat), (1 : Nat), (1 : Nat), (1 : Nat), (1 : Nat)] (fr [((1 : Nat), A.p (V.c (W.rd (D.int IntKind.i64).sl im))), ((2 : Nat), A.p (V.c (W.ptr
        (0 : Nat) (0 : Nat)))), ((8 : Nat), A.p (V.c (W.int IntKind.i64 d))), ((10 : Nat), A.p (V.c (W.sl (1 : Nat) (0 : Nat) im.length (1 : Nat)))), ((14 : Nat), A.p (V.c (W.int IntKind.i64 (↑i : Int)))), ((15 : Nat), A.p (V.c (W.int IntKind.i64 (0 : Int))))]) (Sto.ofList [Ob.mk (27 : Nat) [Fd.c (W.int IntKind.i64 g), Fd.c (W.rd (D.int IntKind.i64).sl r)], Ob.mk (42 : Nat) [Fd.a (0 : Nat) (D.int
        IntKind.i64).sl (List.map invD im)]])) ∧ (decide ((↑i : Int) < (↑r.length : Int)) = false → packV [V.c (W.bool true), V.c (W.int IntKind.i64 (0 : Int))] = saA (satB im d.toNat (List.drop i r)) (0 : Int) ∧ ([] : List Ob) = [])) (by kernel_rfl) ?_
    try simp only [and_true, decide_eq_true_eq, decide_eq_false_iff_not, Int.not_lt]
    have b3 := h.good.len
    refine ⟨fun h1 => ?_, fun h1 => ?_⟩
    · have hi' : i < r.length := by omega
      have e : satB im d.toNat (r.drop i) = (fixes im (r.getD i []) d.toNat 0 d.toNat && satB im d.toNat (r.drop (i + 1))) := by rw [getL_lt hi', satB, List.all_cons]; rfl
      rw [e]
      refine sr_five g r im d h _ i hi' (fixes im (r.getD i []) d.toNat 0 d.toNat) (fun hb => ?_) (fun hb => ?_) d.toNat 0 rfl (by omega) rfl
      · rw [hb, Bool.true_and]
        cases n with
        | zero => omega
        | succ n => exact sr_four g r im d h n (i + 1) (by omega) (by omega)
      · rw [hb, Bool.false_and]
    · rw [List.drop_eq_nil_of_le (by omega)]; rfl
theorem sr_three (g : Int) (r im : List (List Int)) (d : Int) (h : RSatOk g r im d) (r0 : A) (i : Nat) (hi : i < im.length) (bk : List (List Int)) (hbk : bk.length = i)
    (hout : AtLoop sSr (Says1 r0 []) [0, 1, 0, 1, 1, 1, 1, 1, 1, 1] (fr [(1, llI im), (2, pt 0), (8, nI d), (10, slI 1 (bk.length + 1)), (11, nI ((i : Int) + 1))]) (.ofList [obP g r, obBk (bk ++ [invD (im.getD i [])])])) : ∀ (n x : Nat) (out : List Int), n = d.toNat - x → x ≤ d.toNat → out.length = d.toNat → setGo ((im.getD i []).drop x) x out = invD (im.getD i []) →
    AtLoop sSr (Says1 r0 []) [0, 1, 0, 1, 0, 0, 1, 0, 0, 1, 0, 1, 1, 1, 1, 1, 1, 1] (fr [(1, llI im), (2, pt 0), (8, nI d), (10, slI 1 bk.length), (11, nI i), (12, slI 2 d.toNat), (13, nI x)]) (.ofList [obP g r, obBk bk, obI out])
  | n, x, out, hn, hx, ho, he => by
    refine atLoop_at gSr_ok (by kernel_rfl) 100 ?_
    refine of_eq (q :=
        (decide ((↑x : Int) < d) = true → ((0 : Int) ≤ (↑i : Int) ∧ (↑i : Int) < (↑im.length : Int)) ∧ i < im.length ∧ ((0 : Int) ≤ (↑x : Int) ∧ (↑x : Int) < (↑(im.getD i []).length : Int)) ∧ x < (im.getD i []).length ∧ ((0 : Int) ≤ (im.getD i []).getD x (0 : Int) ∧ (im.getD i []).getD x (0 : Int) < (↑d.toNat : Int)) ∧ (0 : Nat) + ((im.getD i []).getD x (0 : Int)).toNat < out.length ∧ AtLoop sSr (Says1 r0
        []) [(0 : Nat), (1 : Nat), (0 : Nat), (1 : Nat), (0 : Nat), (0 : Nat), (1 : Nat), (0 : Nat), (0 : Nat), (1 : Nat), (0 : Nat), (1 : Nat), (1 : Nat), (1 : Nat), (1 : Nat), (1 : Nat), (1 : Nat), (1 : Nat)] (fr [((1 : Nat), A.p (V.c (W.rd (D.int IntKind.i64).sl im))), ((2 : Nat), A.p (V.c (W.ptr (0 : Nat) (0 : Nat)))), ((8 : Nat), A.p (V.c (W.int IntKind.i64 d))), ((10 : Nat), A.p (V.c (W.sl (1 : Nat)
        (0 : Nat) bk.length (1 : Nat)))), ((11 : Nat), A.p (V.c (W.int IntKind.i64 (↑i : Int)))), ((12 : Nat), A.p (V.c (W.sl (2 : Nat) (0 : Nat) d.toNat (1 : Nat)))), ((13 : Nat), A.p (V.c (W.int IntKind.i64 (IntKind.i64.wrap ((↑x : Int) + (1 : Int))))))]) (Sto.ofList [Ob.mk (27 : Nat) [Fd.c (W.int IntKind.i64 g), Fd.c (W.rd (D.int IntKind.i64).sl r)], Ob.mk (42 : Nat) [Fd.a (0 : Nat) (D.int
        IntKind.i64).sl bk], Ob.mk (3 : Nat) [Fd.a (0 : Nat) (D.int IntKind.i64) (out.set ((0 : Nat) + ((im.getD i []).getD x (0 : Int)).toNat) (↑x : Int))]])) ∧ (decide ((↑x : Int) < d) = false → (0 : Nat) + d.toNat ≤ out.length ∧ (0 : Nat) + (1 : Nat) ≤ (1 : Nat) ∧ ((0 : Nat) + bk.length ≤ bk.length ∧ (bk.length + (1 : Nat)) * (24 : Nat) ≤ (140737488355328 : Nat)) ∧ AtLoop sSr (Says1 r0 []) [(0 : Nat),
        (1 : Nat), (0 : Nat), (1 : Nat), (1 : Nat), (1 : Nat), (1 : Nat), (1 : Nat), (1 : Nat), (1 : Nat)] (fr [((1 : Nat), A.p (V.c (W.rd (D.int IntKind.i64).sl im))), ((2 : Nat), A.p (V.c (W.ptr (0 : Nat) (0 : Nat)))), ((8 : Nat), A.p (V.c (W.int IntKind.i64 d))), ((10 : Nat), A.p (V.c (W.sl (1 : Nat) (0 : Nat) (bk.length + (1 : Nat)) (1 : Nat)))), ((11 : Nat), A.p (V.c (W.int IntKind.i64
        (IntKind.i64.wrap ((↑i : Int) + (1 : Int))))))]) (Sto.ofList [Ob.mk (27 : Nat) [Fd.c (W.int IntKind.i64 g), Fd.c (W.rd (D.int IntKind.i64).sl r)], Ob.mk (42 : Nat) [Fd.a (0 : Nat) (D.int IntKind.i64).sl (List.take bk.length (List.drop (0 : Nat) bk) ++ List.take (1 : Nat) (List.drop (0 : Nat) [List.take d.toNat (List.drop (0 : Nat) out)]))]]))) (by kernel_rfl) ?_
    try simp only [true_and, Nat.zero_add, decide_eq_true_eq, decide_eq_false_iff_not, Int.not_lt, List.drop_zero, List.take_length, List.take_succ_cons, List.take_zero, Nat.le_refl]
    have b2 := h.good.g16
    have b5 := h.d64
    have hlen := h.len
    have hp := h.perm _ (getL_mem hi)
    have hpl := hp.len
    rw [wrap64 (n := (i : Int) + 1) (by omega) (by omega), wrap64 (n := (x : Int) + 1) (by omega) (by omega)]
    refine ⟨fun h1 => ?_, fun h1 => ⟨by omega, by omega, ?_⟩⟩
    · have hx' : x < (im.getD i []).length := by omega
      have hv := hp.mem _ (getD_mem hx')
      rw [getD_lt hx', setGo] at he
      refine ⟨by omega, hi, by omega, hx', by omega, by omega, ?_⟩
      cases n with
      | zero => omega
      | succ n => exact sr_three g r im d h r0 i hi bk hbk hout n (x + 1) _ (by omega) (by omega) (by simp [ho]) he
    · rw [List.drop_eq_nil_of_le (by omega), setGo] at he
      rw [List.take_of_length_le (by omega), he]
      exact hout
theorem sr_two (g : Int) (r im : List (List Int)) (d : Int) (h : RSatOk g r im d) : ∀ (n i : Nat) (bk : List (List Int)), n = im.length - i → i ≤ im.length → bk.length = i → bk ++ (im.drop i).map invD = im.map invD →
    AtLoop sSr (Says1 (saA (satB im d.toNat r) 0) []) [0, 1, 0, 1, 1, 1, 1, 1, 1, 1] (fr [(1, llI im), (2, pt 0), (8, nI d), (10, slI 1 bk.length), (11, nI i)]) (.ofList [obP g r, obBk bk])
  | n, i, bk, hn, hi, hbk, he => by
    refine atLoop_at gSr_ok (by kernel_rfl) 100 ?_
    refine of_eq (q :=
        (decide ((↑i : Int) < (↑im.length : Int)) = true → ((0 : Int) ≤ d ∧ d ≤ d ∧ (↑(8 : Nat) : Int) * d ≤ (140737488355328 : Int)) ∧ AtLoop sSr (Says1 (saA (satB im d.toNat r) (0 : Int)) []) [(0 : Nat), (1 : Nat), (0 : Nat), (1 : Nat), (0 : Nat), (0 : Nat), (1 : Nat), (0 : Nat), (0 : Nat), (1 : Nat), (0 : Nat), (1 : Nat), (1 : Nat), (1 : Nat), (1 : Nat), (1 : Nat), (1 : Nat), (1 : Nat)] (fr [((1 :
        Nat), A.p (V.c (W.rd (D.int IntKind.i64).sl im))), ((2 : Nat), A.p (V.c (W.ptr (0 : Nat) (0 : Nat)))), ((8 : Nat), A.p (V.c (W.int IntKind.i64 d))), ((10 : Nat), A.p (V.c (W.sl (1 : Nat) (0 : Nat) bk.length (1 : Nat)))), ((11 : Nat), A.p (V.c (W.int IntKind.i64 (↑i : Int)))), ((12 : Nat), A.p (V.c (W.sl (2 : Nat) (0 : Nat) d.toNat (1 : Nat)))), ((13 : Nat), A.p (V.c (W.int IntKind.i64 (0 :
        Int))))]) (Sto.ofList [Ob.mk (27 : Nat) [Fd.c (W.int IntKind.i64 g), Fd.c (W.rd (D.int IntKind.i64).sl r)], Ob.mk (42 : Nat) [Fd.a (0 : Nat) (D.int IntKind.i64).sl bk], Ob.mk (3 : Nat) [Fd.a (0 : Nat) (D.int IntKind.i64) (List.replicate d.toNat (0 : Int))]])) ∧ (decide ((↑i : Int) < (↑im.length : Int)) = false → AtLoop sSr (Says1 (saA (satB im d.toNat r) (0 : Int)) []) [(0 : Nat), (1 : Nat), (0 :
        Nat), (1 : Nat), (1 : Nat), (1 : Nat), (1 : Nat), (1 : Nat), (1 : Nat), (1 : Nat), (1 : Nat)] (fr [((1 : Nat), A.p (V.c (W.rd (D.int IntKind.i64).sl im))), ((2 : Nat), A.p (V.c (W.ptr (0 : Nat) (0 : Nat)))), ((8 : Nat), A.p (V.c (W.int IntKind.i64 d))), ((10 : Nat), A.p (V.c (W.sl (1 : Nat) (0 : Nat) bk.length (1 : Nat)))), ((14 : Nat), A.p (V.c (W.int IntKind.i64 (0 : Int))))]) (Sto.ofList [Ob.mk
        (27 : Nat) [Fd.c (W.int IntKind.i64 g), Fd.c (W.rd (D.int IntKind.i64).sl r)], Ob.mk (42 : Nat) [Fd.a (0 : Nat) (D.int IntKind.i64).sl bk]]))) (by kernel_rfl) ?_
    try simp only [true_and, decide_eq_true_eq, decide_eq_false_iff_not, Int.not_lt, Int.le_refl]
    have b2 := h.good.g16
    have b4 := h.d1
    have b5 := h.d64
    have hlen := h.len
    refine ⟨fun h1 => ⟨by omega, ?_⟩, fun h1 => ?_⟩
    · have hi' : i < im.length := by omega
      refine sr_three g r im d h _ i hi' bk hbk ?_ d.toNat 0 _ rfl (by omega) (by simp) (h.perm _ (getL_mem hi')).set
      cases n with
      | zero => omega
      | succ n =>
        have := sr_two g r im d h n (i + 1) (bk ++ [invD (im.getD i [])]) (by omega) (by omega) (by simp [hbk]) (by rw [getL_lt hi', List.map_cons] at he; simpa using he)
        rw [List.length_append] at this
        exact this
    · have hi' : bk.length = im.length := by omega
      rw [List.drop_eq_nil_of_le (by omega), List.map_nil, List.append_nil] at he
      subst he
      rw [hi']
      exact sr_four g r im d h r.length 0 rfl (by omega)
theorem sr_one (g : Int) (r im : List (List Int)) (hg : Good g r) (hl : (im.length : Int) = g) (d : Int) (h1 : 1 ≤ d) (h64 : d ≤ 64) : ∀ (n i : Nat), n = im.length - i → i ≤ im.length → (∀ j, j < i → IsPerm (im.getD j []) d) →
    AtLoop sSr (Says1 (saA (resB im d r).1 (resB im d r).2) []) [0, 1, 0, 1, 1, 1, 1, 1] (fr [(1, llI im), (2, pt 0), (8, nI d), (9, nI i)]) (.ofList [obP g r])
  | n, i, hn, hi, hp => by
    refine atLoop_at gSr_ok (by kernel_rfl) 100 ?_
    refine of_eq (q :=
        (decide ((↑i : Int) < (↑im.length : Int)) = true → ((0 : Int) ≤ (↑i : Int) ∧ (↑i : Int) < (↑im.length : Int)) ∧ i < im.length ∧ ((0 : Int) ≤ d ∧ d ≤ (1000 : Int)) ∧ ((!(invL (im.getD i []) d).isSome) = true → packV [V.c (W.bool false), V.c (W.int IntKind.i64 (3 : Int))] = saA (resB im d r).fst (resB im d r).snd ∧ ([] : List Ob) = []) ∧ ((!(invL (im.getD i []) d).isSome) = false → AtLoop sSr (Says1
        (saA (resB im d r).fst (resB im d r).snd) []) [(0 : Nat), (1 : Nat), (0 : Nat), (1 : Nat), (1 : Nat), (1 : Nat), (1 : Nat), (1 : Nat)] (fr [((1 : Nat), A.p (V.c (W.rd (D.int IntKind.i64).sl im))), ((2 : Nat), A.p (V.c (W.ptr (0 : Nat) (0 : Nat)))), ((8 : Nat), A.p (V.c (W.int IntKind.i64 d))), ((9 : Nat), A.p (V.c (W.int IntKind.i64 (IntKind.i64.wrap ((↑i : Int) + (1 : Int))))))]) (Sto.ofList
        [Ob.mk (27 : Nat) [Fd.c (W.int IntKind.i64 g), Fd.c (W.rd (D.int IntKind.i64).sl r)]]))) ∧ (decide ((↑i : Int) < (↑im.length : Int)) = false → AtLoop sSr (Says1 (saA (resB im d r).fst (resB im d r).snd) []) [(0 : Nat), (1 : Nat), (0 : Nat), (1 : Nat), (1 : Nat), (1 : Nat), (1 : Nat), (1 : Nat), (1 : Nat), (1 : Nat)] (fr [((1 : Nat), A.p (V.c (W.rd (D.int IntKind.i64).sl im))), ((2 : Nat), A.p (V.c
        (W.ptr (0 : Nat) (0 : Nat)))), ((8 : Nat), A.p (V.c (W.int IntKind.i64 d))), ((10 : Nat), A.p (V.c (W.sl (1 : Nat) (0 : Nat) (0 : Nat) (1 : Nat)))), ((11 : Nat), A.p (V.c (W.int IntKind.i64 (0 : Int))))]) (Sto.ofList [Ob.mk (27 : Nat) [Fd.c (W.int IntKind.i64 g), Fd.c (W.rd (D.int IntKind.i64).sl r)], Ob.mk (42 : Nat) [Fd.a (0 : Nat) (D.int IntKind.i64).sl []]]))) (by kernel_rfl) ?_
    try simp only [and_true, Bool.not_eq_true', Bool.not_eq_false', decide_eq_true_eq, decide_eq_false_iff_not, Int.not_lt]
    have b1 := hg.g1
    have b2 := hg.g16
    rw [wrap64 (n := (i : Int) + 1) (by omega) (by omega)]
    refine ⟨fun h => ⟨by omega, by omega, by omega, fun h2 => ?_, fun h2 => ?_⟩, fun h => ?_⟩
    · rw [resB_no (by omega) h2]; rfl
    · have hpi : IsPerm (im.getD i []) d := .of h2
      cases n with
      | zero => omega
      | succ n =>
        refine sr_one g r im hg hl d h1 h64 n (i + 1) (by omega) (by omega) (fun j hj => ?_)
        by_cases hji : j = i
        · subst hji; exact hpi
        · exact hp j (by omega)
    · have hi' : i = im.length := by omega
      subst hi'
      have hall := allPerm hp
      rw [resB_all hall]
      exact sr_two g r im d ⟨hg, hl, h1, h64, hall⟩ im.length 0 [] rfl (by omega) rfl rfl
theorem sr_sem (g : Int) (r im : List (List Int)) (hs : Sh r) : FnSem Tryz.prog 24 [prA g r, llI im] [] (saA (satR g r im).1 (satR g r im).2) [] := by
  refine fnSem_at (live := liveSr) gSr_ok Tryz.func24 (by kernel_rfl) (keep := 0) rfl (by kernel_rfl) 100 ?_
  refine of_eq (q :=
      Sh r ∧ ((!decide ((chk g r).fst = (0 : Int))) = true → packV [V.c (W.bool false), V.c (W.int IntKind.i64 (chk g r).fst)] = saA (satR g r im).fst (satR g r im).snd ∧ ([] : List Ob) = []) ∧ ((!decide ((chk g r).fst = (0 : Int))) = false → ((!decide ((↑im.length : Int) = g)) = true → packV [V.c (W.bool false), V.c (W.int IntKind.i64 (2 : Int))] = saA (satR g r im).fst (satR g r im).snd ∧ ([] : List
      Ob) = []) ∧ ((!decide ((↑im.length : Int) = g)) = false → ((0 : Int) ≤ (0 : Int) ∧ (0 : Int) < (↑im.length : Int)) ∧ (0 : Nat) < im.length ∧ (decide ((↑(im.getD (0 : Nat) []).length : Int) < (1 : Int)) = false → decide ((↑(im.getD (0 : Nat) []).length : Int) < (1 : Int)) = false) ∧ (decide ((↑(im.getD (0 : Nat) []).length : Int) < (1 : Int)) = false → decide ((↑(im.getD (0 : Nat) []).length : Int)
      < (1 : Int)) = false) ∧ ((bif decide ((↑(im.getD (0 : Nat) []).length : Int) < (1 : Int)) then true else decide ((64 : Int) < (↑(im.getD (0 : Nat) []).length : Int))) = true → packV [V.c (W.bool false), V.c (W.int IntKind.i64 (3 : Int))] = saA (satR g r im).fst (satR g r im).snd ∧ ([] : List Ob) = []) ∧ ((bif decide ((↑(im.getD (0 : Nat) []).length : Int) < (1 : Int)) then true else decide ((64 :
      Int) < (↑(im.getD (0 : Nat) []).length : Int))) = false → AtLoop (mkSite Tryz.prog gSr Tryz.f24 (0 : Nat) liveSr) (Says1 (saA (satR g r im).fst (satR g r im).snd) []) [(0 : Nat), (1 : Nat), (0 : Nat), (1 : Nat), (1 : Nat), (1 : Nat), (1 : Nat), (1 : Nat)] (fr [((1 : Nat), A.p (V.c (W.rd (D.int IntKind.i64).sl im))), ((2 : Nat), A.p (V.c (W.ptr (0 : Nat) (0 : Nat)))), ((8 : Nat), A.p (V.c (W.int
      IntKind.i64 (↑(im.getD (0 : Nat) []).length : Int)))), ((9 : Nat), A.p (V.c (W.int IntKind.i64 (0 : Int))))]) (Sto.ofList [Ob.mk (27 : Nat) [Fd.c (W.int IntKind.i64 g), Fd.c (W.rd (D.int IntKind.i64).sl r)]]))))) (by kernel_rfl) ?_
  try simp only [imp_self, true_and, and_true, Bool.cond_true_left, Bool.or_eq_true, Bool.or_eq_false_iff, Bool.not_eq_true', Bool.not_eq_false', decide_eq_true_eq, decide_eq_false_iff_not, Int.not_lt, Int.le_refl]
  refine ⟨hs, fun h => ?_, fun h => ⟨fun h1 => ?_, fun h1 => ?_⟩⟩
  · rw [satR, if_neg h]; rfl
  · rw [satR, if_pos h, if_neg h1]; rfl
  · have hg : Good g r := .of h
    have b1 := hg.g1
    refine ⟨by omega, by omega, fun h2 => ?_, fun h2 => ?_⟩
    · rw [satR, if_pos h, if_pos h1, if_pos h2]; rfl
    · rw [satR, if_pos h, if_pos h1, if_neg (by omega)]
      exact sr_one g r im hg h1 _ (by omega) (by omega) im.length 0 rfl (by omega) (fun j hj => by omega)
end Go.Proofs.YtjmhmflganfoaaaGreatDoor

namespace Go.Proofs.YtjmhmflganfoaaaGreatDoor
open Go.Loom
set_option maxRecDepth 100000
/-- A presentation and lists as arguments. -/
def conPL (b : Int → List (List Int) → List (List Int) → Cd × A) : Con := { refs := [], f := fun args objs => match args, objs with | [x, y], [] => (match asP x, asD dL y with | some (g, r), some l => some ((b g r l).1, (b g r l).2, []) | _, _ => none) | _, _ => none }
theorem conPL_ok {f : FuncId} {b : Int → List (List Int) → List (List Int) → Cd × A} (he : enters Tryz.prog f = true) (h : ∀ g r l, (b g r l).1 → FnSem Tryz.prog f [prA g r, llI l] [] (b g r l).2 []) : ConOk Tryz.prog f (conPL b) := by
  refine ⟨he, fun args objs cd r objs' e hc => ?_⟩
  simp only [conPL] at e
  split at e
  · rename_i x y
    split at e
    · rename_i g r l hx hy
      cases e
      exact (h g r l hc).args fun η Z vs hv => by
        match vs, hv with
        | [a, b], ⟨h1, h2, h3⟩ => exact ⟨asP_rel hx h1, asD_rel hy h2, h3⟩
    · cases e
  · cases e
def cSat : Con := conPL fun g r l => (.p (Sh r), saA (satR g r l).1 (satR g r l).2)
theorem cSat_ok : ConOk Tryz.prog 23 cSat := conPL_ok (by kernel_rfl) fun g r l h => sa_sem g r l h
def cRSat : Con := conPL fun g r l => (.p (Sh r), saA (satR g r l).1 (satR g r l).2)
theorem cRSat_ok : ConOk Tryz.prog 24 cRSat := conPL_ok (by kernel_rfl) fun g r l h => sr_sem g r l h
noncomputable def gPt : Gam := [(9, cAwake), (15, cVast), (23, cSat), (24, cRSat)]
theorem gPt_ok : GamOk Tryz.prog gPt := gamOk_cons cAwake_ok (gamOk_cons cVast_ok (gamOk_cons cSat_ok (gamOk_cons cRSat_ok gamOk_nil)))
noncomputable def sPt : Site := mkSite Tryz.prog gPt Tryz.f5 0 [([0, 1, 0, 1, 1], [1, 2, 5])]
theorem pt_loop (g : Int) (r im : List (List Int)) (hs : Sh r) (hl : im.length ≤ 1000) : ∀ (n i : Nat), n = im.length - i → i ≤ im.length →
    AtLoop sPt (Says1 (bB true) []) [0, 1, 0, 1, 1] (fr [(1, llI im), (2, pt 0), (5, nI i)]) (.ofList [obP g r])
  | n, i, hn, hi => by
    refine atLoop_at gPt_ok (by kernel_rfl) 100 ?_
    refine of_eq (q :=
        (decide ((↑i : Int) < (↑im.length : Int)) = true → ((0 : Int) ≤ (↑i : Int) ∧ (↑i : Int) < (↑im.length : Int)) ∧ i < im.length ∧ (decide ((70 : Int) < (↑(im.getD i []).length : Int)) = true → packV [V.c (W.bool true)] = bB true ∧ ([] : List Ob) = []) ∧ (decide ((70 : Int) < (↑(im.getD i []).length : Int)) = false → AtLoop sPt (Says1 (bB true) []) [(0 : Nat), (1 : Nat), (0 : Nat), (1 : Nat), (1 :
        Nat)] (fr [((1 : Nat), A.p (V.c (W.rd (D.int IntKind.i64).sl im))), ((2 : Nat), A.p (V.c (W.ptr (0 : Nat) (0 : Nat)))), ((5 : Nat), A.p (V.c (W.int IntKind.i64 (IntKind.i64.wrap ((↑i : Int) + (1 : Int))))))]) (Sto.ofList [Ob.mk (27 : Nat) [Fd.c (W.int IntKind.i64 g), Fd.c (W.rd (D.int IntKind.i64).sl r)]]))) ∧ (decide ((↑i : Int) < (↑im.length : Int)) = false → Sh r ∧ Sh r ∧ (((satR g r im).fst ==
        (satR g r im).fst) = true → ((satR g r im).fst == (satR g r im).fst) = true) ∧ (((satR g r im).fst == (satR g r im).fst) = true → ((satR g r im).fst == (satR g r im).fst) = true) ∧ (((satR g r im).fst == (satR g r im).fst) = true → ((satR g r im).fst == (satR g r im).fst) = true) ∧ ((bif (satR g r im).fst == (satR g r im).fst then decide ((satR g r im).snd = (satR g r im).snd) else false) = true →
        (bif (satR g r im).fst == (satR g r im).fst then decide ((satR g r im).snd = (satR g r im).snd) else false) = true) ∧ packV [V.c (W.bool (bif bif (satR g r im).fst == (satR g r im).fst then decide ((satR g r im).snd = (satR g r im).snd) else false then true else false))] = bB true ∧ ([] : List Ob) = [])) (by kernel_rfl) ?_
    try simp only [imp_self, true_and, and_true, Bool.cond_false_right, Bool.and_eq_true, decide_eq_true_eq, decide_eq_false_iff_not, Int.not_lt]
    rw [wrap64 (n := (i : Int) + 1) (by omega) (by omega)]
    refine ⟨fun h => ⟨by omega, by omega, fun _ => rfl, fun _ => ?_⟩, fun h => ⟨hs, hs, ?_⟩⟩
    · cases n with
      | zero => omega
      | succ n => exact pt_loop g r im hs hl n (i + 1) (by omega) (by omega)
    · rw [beq_self_eq_true, decide_eq_true trivial]; rfl
theorem pt_sem (g : Int) (r im : List (List Int)) : FnSem Tryz.prog 5 [prA g r, llI im] [] (bB true) [] := by
  refine fnSem_at (live := [([0, 1, 0, 1, 1], [1, 2, 5])]) gPt_ok Tryz.func5 (by kernel_rfl) (keep := 0) rfl (by kernel_rfl) 100 ?_
  refine of_eq (q :=
      (vastB r = false → vastB r = false) ∧ (vastB r = false → vastB r = false) ∧ (vastB r = false → vastB r = false) ∧ ((bif vastB r then true else decide ((20 : Int) < (↑im.length : Int))) = true → packV [V.c (W.bool true)] = bB true ∧ ([] : List Ob) = []) ∧ ((bif vastB r then true else decide ((20 : Int) < (↑im.length : Int))) = false → AtLoop (mkSite Tryz.prog gPt Tryz.f5 (0 : Nat) [([(0 : Nat), (1
      : Nat), (0 : Nat), (1 : Nat), (1 : Nat)], [(1 : Nat), (2 : Nat), (5 : Nat)])]) (Says1 (bB true) []) [(0 : Nat), (1 : Nat), (0 : Nat), (1 : Nat), (1 : Nat)] (fr [((1 : Nat), A.p (V.c (W.rd (D.int IntKind.i64).sl im))), ((2 : Nat), A.p (V.c (W.ptr (0 : Nat) (0 : Nat)))), ((5 : Nat), A.p (V.c (W.int IntKind.i64 (0 : Int))))]) (Sto.ofList [Ob.mk (27 : Nat) [Fd.c (W.int IntKind.i64 g), Fd.c (W.rd
      (D.int IntKind.i64).sl r)]]))) (by kernel_rfl) ?_
  try simp only [imp_self, true_and, and_true, Bool.cond_true_left, Bool.or_eq_true, Bool.or_eq_false_iff, decide_eq_true_eq, decide_eq_false_iff_not, Int.not_lt]
  exact ⟨fun _ => rfl, fun h => pt_loop g r im (Sm.of h.1).sh (by omega) im.length 0 rfl (by omega)⟩
theorem satisfied_all : ForArgsK (fun args => FnSem Tryz.prog 5 args [] (dat .bool true) []) [.st [.int .i64, .sl (.sl (.int .i64))], .d (.sl (.sl (.int .i64)))] [] :=
  fun g _ r _ l _ => pt_sem g r l
end Go.Proofs.YtjmhmflganfoaaaGreatDoor
