/- Presentations: which lists satisfy them, by the program: the walk. -/
import Derived.Test.YtjmhmflganfoaabGreatDoorSat1
namespace Go.Proofs.YtjmhmflganfoaabGreatDoor
open Go.Loom
set_option maxRecDepth 100000
abbrev obMp (m : List (Int × List Int)) : Ob := ⟨60, [.m (.int .i64) (.sl (.int .i64)) m]⟩
abbrev mgetA (m : List (Int × List Int)) (k : Int) : List Int := mget (.int .i64) (.sl (.int .i64)) m k
noncomputable def gSd : Gam := [(17, cCheck), (28, cInv)]
theorem gSd_ok : GamOk Tryz.prog gSd := gamOk_cons cCheck_ok (gamOk_cons cInv_ok gamOk_nil)
abbrev liveSd : List (List Nat × List Nat) := [([0, 1, 0, 1, 1, 1, 1, 1, 1], [2, 8, 9, 44, 45, 46]), ([0, 1, 0, 1, 1, 1, 1, 1, 1, 1], [8, 9, 70, 71, 72]), ([0, 1, 1, 0, 0, 1, 1, 0, 0, 1, 0, 1, 1, 1, 1, 1, 1, 1], [8, 9, 15, 70, 71, 72, 76, 77]),
  ([0, 1, 0, 1, 1, 0, 0, 1, 1, 0, 0, 1, 1, 0, 0, 1, 1, 0, 0, 1, 0, 1, 1, 1, 1, 1, 1, 1], [8, 9, 15, 16, 17, 70, 71, 72, 76, 77, 81, 82, 83])]
noncomputable def sSd : Site := mkSite Tryz.prog gSd Tryz.f11 0 liveSd
abbrev saA (b : Bool) (e : Int) : A := .tup [.c (.bool b), .c (.int .i64 e)]
/-- What the map holds. -/
structure MapOk (im : List (List Int)) (m : List (Int × List Int)) (n : Nat) : Prop where
  pos : ∀ j, j < n → mgetA m ((j : Int) + 1) = im.getD j []
  neg : ∀ j, j < n → mgetA m (0 - (j : Int) - 1) = invD (im.getD j [])
/-- All that a walk over the relators needs. -/
structure SatOk (g : Int) (r im : List (List Int)) (d : Int) (m : List (Int × List Int)) : Prop where
  good : Good g r
  len : (im.length : Int) = g
  d1 : 1 ≤ d
  d64 : d ≤ 64
  perm : ∀ l ∈ im, IsPerm l d
  map : MapOk im m im.length
theorem SatOk.get {g : Int} {r im : List (List Int)} {d : Int} {m : List (Int × List Int)} (h : SatOk g r im d m) {x : Int} (h0 : x ≠ 0) (h1 : -g ≤ x) (h2 : x ≤ g) :
    ((mgetA m x).length : Int) = d ∧ ∀ y : Int, (mgetA m x).getD y.toNat 0 = actI im x y := by
  have hl := h.len
  by_cases hx : 0 < x
  · have hj : (x - 1).toNat < im.length := by omega
    have := h.map.pos (x - 1).toNat hj
    rw [show (((x - 1).toNat : Nat) : Int) + 1 = x by omega] at this
    rw [this]
    exact ⟨(h.perm _ (getL_mem hj)).len, fun y => by rw [actI, if_pos hx]⟩
  · have hj : (0 - x - 1).toNat < im.length := by omega
    have := h.map.neg (0 - x - 1).toNat hj
    rw [show (0 : Int) - (((0 - x - 1).toNat : Nat) : Int) - 1 = x by omega] at this
    rw [this]
    exact ⟨(h.perm _ (getL_mem hj)).ilen, fun y => by rw [actI, if_neg hx]⟩
theorem sa_four (g : Int) (r im : List (List Int)) (d : Int) (m : List (Int × List Int)) (h : SatOk g r im d m) (r0 : A) (i : Nat) (hi : i < r.length) (x : Nat) (hx : (x : Int) < d) (z : Int) (b : Bool) (hb : decide (z = x) = b)
    (hout : b = true → AtLoop sSd (Says1 r0 []) [0, 1, 1, 0, 0, 1, 1, 0, 0, 1, 0, 1, 1, 1, 1, 1, 1, 1] (fr [(8, nI d), (9, .p (.c (.mp 0))), (15, lsI (r.getD i [])), (70, llI r), (71, nI r.length), (72, nI i), (76, nI d), (77, nI ((x : Int) + 1))]) (.ofList [obMp m]))
    (hno : b = false → r0 = saA false 0) : ∀ (n k : Nat) (y : Int), n = (r.getD i []).length - k → k ≤ (r.getD i []).length → 0 ≤ y ∧ y < d → actW im ((r.getD i []).drop k) y = z →
    AtLoop sSd (Says1 r0 []) [0, 1, 0, 1, 1, 0, 0, 1, 1, 0, 0, 1, 1, 0, 0, 1, 1, 0, 0, 1, 0, 1, 1, 1, 1, 1, 1, 1] (fr [(8, nI d), (9, .p (.c (.mp 0))), (15, lsI (r.getD i [])), (16, nI x), (17, nI y), (70, llI r), (71, nI r.length), (72, nI i), (76, nI d), (77, nI x), (81, lsI (r.getD i [])), (82, nI (r.getD i []).length), (83, nI k)]) (.ofList [obMp m])
  | n, k, y, hn, hk, hy, he => by
    refine atLoop_at gSd_ok (by kernel_rfl) 100 ?_
    refine of_eq (q :=
        (decide ((↑k : Int) < (↑(r.getD i []).length : Int)) = true → ((0 : Int) ≤ (↑k : Int) ∧ (↑k : Int) < (↑(r.getD i []).length : Int)) ∧ k < (r.getD i []).length ∧ ((0 : Int) ≤ y ∧ y < (↑(List.length (mget (D.int IntKind.i64) (D.int IntKind.i64).sl m ((r.getD i []).getD k (0 : Int)))) : Int)) ∧ y.toNat < List.length (mget (D.int IntKind.i64) (D.int IntKind.i64).sl m ((r.getD i []).getD k (0 : Int)))
        ∧ AtLoop sSd (Says1 r0 []) [(0 : Nat), (1 : Nat), (0 : Nat), (1 : Nat), (1 : Nat), (0 : Nat), (0 : Nat), (1 : Nat), (1 : Nat), (0 : Nat), (0 : Nat), (1 : Nat), (1 : Nat), (0 : Nat), (0 : Nat), (1 : Nat), (1 : Nat), (0 : Nat), (0 : Nat), (1 : Nat), (0 : Nat), (1 : Nat), (1 : Nat), (1 : Nat), (1 : Nat), (1 : Nat), (1 : Nat), (1 : Nat)] (fr [((8 : Nat), A.p (V.c (W.int IntKind.i64 d))), ((9 : Nat),
        A.p (V.c (W.mp (0 : Nat)))), ((15 : Nat), A.p (V.c (W.rd (D.int IntKind.i64) (r.getD i [])))), ((16 : Nat), A.p (V.c (W.int IntKind.i64 (↑x : Int)))), ((17 : Nat), A.p (V.c (W.int IntKind.i64 (List.getD (mget (D.int IntKind.i64) (D.int IntKind.i64).sl m ((r.getD i []).getD k (0 : Int))) y.toNat (0 : Int))))), ((70 : Nat), A.p (V.c (W.rd (D.int IntKind.i64).sl r))), ((71 : Nat), A.p (V.c (W.int
        IntKind.i64 (↑r.length : Int)))), ((72 : Nat), A.p (V.c (W.int IntKind.i64 (↑i : Int)))), ((76 : Nat), A.p (V.c (W.int IntKind.i64 d))), ((77 : Nat), A.p (V.c (W.int IntKind.i64 (↑x : Int)))), ((81 : Nat), A.p (V.c (W.rd (D.int IntKind.i64) (r.getD i [])))), ((82 : Nat), A.p (V.c (W.int IntKind.i64 (↑(r.getD i []).length : Int)))), ((83 : Nat), A.p (V.c (W.int IntKind.i64 (IntKind.i64.wrap ((↑k :
        Int) + (1 : Int))))))]) (Sto.ofList [Ob.mk (60 : Nat) [Fd.m (D.int IntKind.i64) (D.int IntKind.i64).sl m]])) ∧ (decide ((↑k : Int) < (↑(r.getD i []).length : Int)) = false → ((!decide (y = (↑x : Int))) = true → packV [V.c (W.bool false), V.c (W.int IntKind.i64 (0 : Int))] = r0 ∧ ([] : List Ob) = []) ∧ ((!decide (y = (↑x : Int))) = false → AtLoop sSd (Says1 r0 []) [(0 : Nat), (1 : Nat), (1 : Nat),
        (0 : Nat), (0 : Nat), (1 : Nat), (1 : Nat), (0 : Nat), (0 : Nat), (1 : Nat), (0 : Nat), (1 : Nat), (1 : Nat), (1 : Nat), (1 : Nat), (1 : Nat), (1 : Nat), (1 : Nat)] (fr [((8 : Nat), A.p (V.c (W.int IntKind.i64 d))), ((9 : Nat), A.p (V.c (W.mp (0 : Nat)))), ((15 : Nat), A.p (V.c (W.rd (D.int IntKind.i64) (r.getD i [])))), ((70 : Nat), A.p (V.c (W.rd (D.int IntKind.i64).sl r))), ((71 : Nat), A.p
        (V.c (W.int IntKind.i64 (↑r.length : Int)))), ((72 : Nat), A.p (V.c (W.int IntKind.i64 (↑i : Int)))), ((76 : Nat), A.p (V.c (W.int IntKind.i64 d))), ((77 : Nat), A.p (V.c (W.int IntKind.i64 (IntKind.i64.wrap ((↑x : Int) + (1 : Int))))))]) (Sto.ofList [Ob.mk (60 : Nat) [Fd.m (D.int IntKind.i64) (D.int IntKind.i64).sl m]])))) (by kernel_rfl) ?_
    try simp only [and_true, Bool.not_eq_true', Bool.not_eq_false', decide_eq_true_eq, decide_eq_false_iff_not, Int.not_lt]
    have b1 := h.good.g1
    have b2 := h.good.g16
    have b3 := h.good.len
    have hm := h.good.let_ (r.getD i []) (getL_mem hi)
    have b4 := hm.1
    have b5 := h.d64
    rw [wrap64 (n := (k : Int) + 1) (by omega) (by omega), wrap64 (n := (x : Int) + 1) (by omega) (by omega)]
    refine ⟨fun hk => ?_, fun hk => ?_⟩
    · have hk' : k < (r.getD i []).length := by omega
      obtain ⟨h1, h2, h3⟩ := hm.2 _ (getD_mem hk')
      obtain ⟨h4, h5⟩ := h.get h1 h2 h3
      have hlen := h.len
      have h6 := actI_mem h.perm (g := (r.getD i []).getD k 0) h1 (by omega) (by omega) hy
      rw [getD_lt hk'] at he
      rw [h5]
      refine ⟨by omega, by omega, ⟨by omega, Int.lt_of_lt_of_le hy.2 (Int.le_of_eq h4.symm)⟩, (show y.toNat < (mgetA m _).length by omega), ?_⟩
      cases n with
      | zero => omega
      | succ n => exact sa_four g r im d m h r0 i hi x hx z b hb hout hno n (k + 1) _ (by omega) (by omega) h6 he
    · rw [List.drop_eq_nil_of_le (by omega)] at he
      have he' : y = z := he
      subst he'
      refine ⟨fun h1 => ?_, fun h1 => ?_⟩
      · rw [decide_eq_false h1] at hb
        rw [hno hb.symm]; rfl
      · rw [decide_eq_true h1] at hb
        exact hout hb.symm
theorem sa_three (g : Int) (r im : List (List Int)) (d : Int) (m : List (Int × List Int)) (h : SatOk g r im d m) (r0 : A) (i : Nat) (hi : i < r.length) (b : Bool)
    (hout : b = true → AtLoop sSd (Says1 r0 []) [0, 1, 0, 1, 1, 1, 1, 1, 1, 1] (fr [(8, nI d), (9, .p (.c (.mp 0))), (70, llI r), (71, nI r.length), (72, nI ((i : Int) + 1))]) (.ofList [obMp m]))
    (hno : b = false → r0 = saA false 0) : ∀ (n x : Nat), n = d.toNat - x → x ≤ d.toNat → fixes im (r.getD i []) d.toNat x n = b →
    AtLoop sSd (Says1 r0 []) [0, 1, 1, 0, 0, 1, 1, 0, 0, 1, 0, 1, 1, 1, 1, 1, 1, 1] (fr [(8, nI d), (9, .p (.c (.mp 0))), (15, lsI (r.getD i [])), (70, llI r), (71, nI r.length), (72, nI i), (76, nI d), (77, nI x)]) (.ofList [obMp m])
  | n, x, hn, hx, he => by
    refine atLoop_at gSd_ok (by kernel_rfl) 100 ?_
    refine of_eq (q :=
        (decide ((↑x : Int) < d) = true → AtLoop sSd (Says1 r0 []) [(0 : Nat), (1 : Nat), (0 : Nat), (1 : Nat), (1 : Nat), (0 : Nat), (0 : Nat), (1 : Nat), (1 : Nat), (0 : Nat), (0 : Nat), (1 : Nat), (1 : Nat), (0 : Nat), (0 : Nat), (1 : Nat), (1 : Nat), (0 : Nat), (0 : Nat), (1 : Nat), (0 : Nat), (1 : Nat), (1 : Nat), (1 : Nat), (1 : Nat), (1 : Nat), (1 : Nat), (1 : Nat)] (fr [((8 : Nat), A.p (V.c (W.int
        IntKind.i64 d))), ((9 : Nat), A.p (V.c (W.mp (0 : Nat)))), ((15 : Nat), A.p (V.c (W.rd (D.int IntKind.i64) (r.getD i [])))), ((16 : Nat), A.p (V.c (W.int IntKind.i64 (↑x : Int)))), ((17 : Nat), A.p (V.c (W.int IntKind.i64 (↑x : Int)))), ((70 : Nat), A.p (V.c (W.rd (D.int IntKind.i64).sl r))), ((71 : Nat), A.p (V.c (W.int IntKind.i64 (↑r.length : Int)))), ((72 : Nat), A.p (V.c (W.int IntKind.i64
        (↑i : Int)))), ((76 : Nat), A.p (V.c (W.int IntKind.i64 d))), ((77 : Nat), A.p (V.c (W.int IntKind.i64 (↑x : Int)))), ((81 : Nat), A.p (V.c (W.rd (D.int IntKind.i64) (r.getD i [])))), ((82 : Nat), A.p (V.c (W.int IntKind.i64 (↑(r.getD i []).length : Int)))), ((83 : Nat), A.p (V.c (W.int IntKind.i64 (0 : Int))))]) (Sto.ofList [Ob.mk (60 : Nat) [Fd.m (D.int IntKind.i64) (D.int IntKind.i64).sl m]]))
        ∧ (decide ((↑x : Int) < d) = false → AtLoop sSd (Says1 r0 []) [(0 : Nat), (1 : Nat), (0 : Nat), (1 : Nat), (1 : Nat), (1 : Nat), (1 : Nat), (1 : Nat), (1 : Nat), (1 : Nat)] (fr [((8 : Nat), A.p (V.c (W.int IntKind.i64 d))), ((9 : Nat), A.p (V.c (W.mp (0 : Nat)))), ((70 : Nat), A.p (V.c (W.rd (D.int IntKind.i64).sl r))), ((71 : Nat), A.p (V.c (W.int IntKind.i64 (↑r.length : Int)))), ((72 : Nat),
        A.p (V.c (W.int IntKind.i64 (IntKind.i64.wrap ((↑i : Int) + (1 : Int))))))]) (Sto.ofList [Ob.mk (60 : Nat) [Fd.m (D.int IntKind.i64) (D.int IntKind.i64).sl m]]))) (by kernel_rfl) ?_
    try simp only [decide_eq_true_eq, decide_eq_false_iff_not, Int.not_lt]
    have b3 := h.good.len
    have b4 := h.d1
    have b5 := h.d64
    rw [wrap64 (n := (i : Int) + 1) (by omega) (by omega)]
    refine ⟨fun h1 => ?_, fun h1 => ?_⟩
    · cases n with
      | zero => omega
      | succ n =>
        rw [fixes] at he
        refine sa_four g r im d m h r0 i hi x h1 (actW im (r.getD i []) x) (decide (actW im (r.getD i []) x = x)) rfl (fun hb => ?_) (fun hb => hno ?_) (r.getD i []).length 0 x rfl (by omega) ⟨by omega, h1⟩ rfl
        · rw [hb, Bool.true_and] at he
          exact sa_three g r im d m h r0 i hi b hout hno n (x + 1) (by omega) (by omega) he
        · rw [hb, Bool.false_and] at he
          exact he.symm
    · have hn0 : n = 0 := by omega
      subst hn0
      exact hout he.symm
theorem sa_two (g : Int) (r im : List (List Int)) (d : Int) (m : List (Int × List Int)) (h : SatOk g r im d m) : ∀ (n i : Nat), n = r.length - i → i ≤ r.length →
    AtLoop sSd (Says1 (saA (satB im d.toNat (r.drop i)) 0) []) [0, 1, 0, 1, 1, 1, 1, 1, 1, 1] (fr [(8, nI d), (9, .p (.c (.mp 0))), (70, llI r), (71, nI r.length), (72, nI i)]) (.ofList [obMp m])
  | n, i, hn, hi => by
    refine atLoop_at gSd_ok (by kernel_rfl) 100 ?_
    refine of_eq (q :=
        (decide ((↑i : Int) < (↑r.length : Int)) = true → ((0 : Int) ≤ (↑i : Int) ∧ (↑i : Int) < (↑r.length : Int)) ∧ i < r.length ∧ AtLoop sSd (Says1 (saA (satB im d.toNat (List.drop i r)) (0 : Int)) []) [(0 : Nat), (1 : Nat), (1 : Nat), (0 : Nat), (0 : Nat), (1 : Nat), (1 : Nat), (0 : Nat), (0 : Nat), (1 : Nat), (0 : Nat), (1 : Nat), (1 : Nat), (1 : Nat), (1 : Nat), (1 : Nat), (1 : Nat), (1 : Nat)] (fr
        [((8 : Nat), A.p (V.c (W.int IntKind.i64 d))), ((9 : Nat), A.p (V.c (W.mp (0 : Nat)))), ((15 : Nat), A.p (V.c (W.rd (D.int IntKind.i64) (r.getD i [])))), ((70 : Nat), A.p (V.c (W.rd (D.int IntKind.i64).sl r))), ((71 : Nat), A.p (V.c (W.int IntKind.i64 (↑r.length : Int)))), ((72 : Nat), A.p (V.c (W.int IntKind.i64 (↑i : Int)))), ((76 : Nat), A.p (V.c (W.int IntKind.i64 d))), ((77 : Nat), A.p (V.c
        (W.int IntKind.i64 (0 : Int))))]) (Sto.ofList [Ob.mk (60 : Nat) [Fd.m (D.int IntKind.i64) (D.int IntKind.i64).sl m]])) ∧ (decide ((↑i : Int) < (↑r.length : Int)) = false → packV [V.c (W.bool true), V.c (W.int IntKind.i64 (0 : Int))] = saA (satB im d.toNat (List.drop i r)) (0 : Int) ∧ ([] : List Ob) = [])) (by kernel_rfl) ?_
    try simp only [and_true, decide_eq_true_eq, decide_eq_false_iff_not, Int.not_lt]
    have b3 := h.good.len
    refine ⟨fun h1 => ⟨by omega, by omega, ?_⟩, fun h1 => ?_⟩
    · have hi' : i < r.length := by omega
      have e : satB im d.toNat (r.drop i) = (fixes im (r.getD i []) d.toNat 0 d.toNat && satB im d.toNat (r.drop (i + 1))) := by rw [getL_lt hi', satB, List.all_cons]; rfl
      rw [e]
      refine sa_three g r im d m h _ i hi' (fixes im (r.getD i []) d.toNat 0 d.toNat) (fun hb => ?_) (fun hb => ?_) d.toNat 0 rfl (by omega) rfl
      · rw [hb, Bool.true_and]
        cases n with
        | zero => omega
        | succ n => exact sa_two g r im d m h n (i + 1) (by omega) (by omega)
      · rw [hb, Bool.false_and]
    · rw [List.drop_eq_nil_of_le (by omega)]; rfl
theorem mgetA_put (k : Int) (v : List Int) (m : List (Int × List Int)) (x : Int) : mgetA (mput (.int .i64) (.sl (.int .i64)) k v m) x = if x = k then v else mgetA m x := by
  obtain ⟨h1, h2⟩ := mgetO_put (kd := .int .i64) (vd := .sl (.int .i64)) rfl k v x m
  unfold mgetA mget
  by_cases h : x = k
  · rw [h1 h, if_pos h]
  · rw [h2 h, if_neg h]
theorem sa_one (g : Int) (r im : List (List Int)) (hg : Good g r) (hl : (im.length : Int) = g) (d : Int) (h1 : 1 ≤ d) (h64 : d ≤ 64) : ∀ (n i : Nat) (m : List (Int × List Int)), n = im.length - i → i ≤ im.length → MapOk im m i → (∀ j, j < i → IsPerm (im.getD j []) d) →
    AtLoop sSd (Says1 (saA (resB im d r).1 (resB im d r).2) []) [0, 1, 0, 1, 1, 1, 1, 1, 1] (fr [(2, pt 0), (8, nI d), (9, .p (.c (.mp 1))), (44, llI im), (45, nI im.length), (46, nI i)]) (.ofList [obP g r, obMp m])
  | n, i, m, hn, hi, hm, hp => by
    refine atLoop_at gSd_ok (by kernel_rfl) 100 ?_
    refine of_eq (q :=
        (decide ((↑i : Int) < (↑im.length : Int)) = true → ((0 : Int) ≤ (↑i : Int) ∧ (↑i : Int) < (↑im.length : Int)) ∧ i < im.length ∧ ((0 : Int) ≤ d ∧ d ≤ (1000 : Int)) ∧ ((!(invL (im.getD i []) d).isSome) = true → packV [V.c (W.bool false), V.c (W.int IntKind.i64 (3 : Int))] = saA (resB im d r).fst (resB im d r).snd ∧ ([] : List Ob) = []) ∧ ((!(invL (im.getD i []) d).isSome) = false → AtLoop sSd (Says1
        (saA (resB im d r).fst (resB im d r).snd) []) [(0 : Nat), (1 : Nat), (0 : Nat), (1 : Nat), (1 : Nat), (1 : Nat), (1 : Nat), (1 : Nat), (1 : Nat)] (fr [((2 : Nat), A.p (V.c (W.ptr (0 : Nat) (0 : Nat)))), ((8 : Nat), A.p (V.c (W.int IntKind.i64 d))), ((9 : Nat), A.p (V.c (W.mp (1 : Nat)))), ((44 : Nat), A.p (V.c (W.rd (D.int IntKind.i64).sl im))), ((45 : Nat), A.p (V.c (W.int IntKind.i64 (↑im.length
        : Int)))), ((46 : Nat), A.p (V.c (W.int IntKind.i64 (IntKind.i64.wrap ((↑i : Int) + (1 : Int))))))]) (Sto.ofList [Ob.mk (30 : Nat) [Fd.c (W.int IntKind.i64 g), Fd.c (W.rd (D.int IntKind.i64).sl r)], Ob.mk (60 : Nat) [Fd.m (D.int IntKind.i64) (D.int IntKind.i64).sl (mput (D.int IntKind.i64) (D.int IntKind.i64).sl (IntKind.i64.wrap (IntKind.i64.wrap ((0 : Int) - (↑i : Int)) - (1 : Int))) ((invL
        (im.getD i []) d).getD []) (mput (D.int IntKind.i64) (D.int IntKind.i64).sl (IntKind.i64.wrap ((↑i : Int) + (1 : Int))) (im.getD i []) m))]]))) ∧ (decide ((↑i : Int) < (↑im.length : Int)) = false → AtLoop sSd (Says1 (saA (resB im d r).fst (resB im d r).snd) []) [(0 : Nat), (1 : Nat), (0 : Nat), (1 : Nat), (1 : Nat), (1 : Nat), (1 : Nat), (1 : Nat), (1 : Nat), (1 : Nat)] (fr [((8 : Nat), A.p (V.c
        (W.int IntKind.i64 d))), ((9 : Nat), A.p (V.c (W.mp (0 : Nat)))), ((70 : Nat), A.p (V.c (W.rd (D.int IntKind.i64).sl r))), ((71 : Nat), A.p (V.c (W.int IntKind.i64 (↑r.length : Int)))), ((72 : Nat), A.p (V.c (W.int IntKind.i64 (0 : Int))))]) (Sto.ofList [Ob.mk (60 : Nat) [Fd.m (D.int IntKind.i64) (D.int IntKind.i64).sl m]]))) (by kernel_rfl) ?_
    try simp only [and_true, Bool.not_eq_true', Bool.not_eq_false', decide_eq_true_eq, decide_eq_false_iff_not, Int.not_lt]
    have b1 := hg.g1
    have b2 := hg.g16
    rw [wrap64 (n := (i : Int) + 1) (by omega) (by omega), wrap64 (n := 0 - (i : Int)) (by omega) (by omega), wrap64 (n := 0 - (i : Int) - 1) (by omega) (by omega)]
    refine ⟨fun h => ⟨by omega, by omega, by omega, fun h2 => ?_, fun h2 => ?_⟩, fun h => ?_⟩
    · rw [resB_no (by omega) h2]; rfl
    · have hpi : IsPerm (im.getD i []) d := .of h2
      have he : (invL (im.getD i []) d).getD [] = invD (im.getD i []) := by rw [hpi.inv]; rfl
      rw [he]
      cases n with
      | zero => omega
      | succ n =>
        refine sa_one g r im hg hl d h1 h64 n (i + 1) _ (by omega) (by omega) ⟨fun j hj => ?_, fun j hj => ?_⟩ (fun j hj => ?_)
        · rw [mgetA_put, if_neg (by omega), mgetA_put]
          by_cases hji : j = i
          · subst hji; rw [if_pos rfl]
          · rw [if_neg (by omega)]; exact hm.pos j (by omega)
        · rw [mgetA_put]
          by_cases hji : j = i
          · subst hji; rw [if_pos rfl]
          · rw [if_neg (by omega), mgetA_put, if_neg (by omega)]; exact hm.neg j (by omega)
        · by_cases hji : j = i
          · subst hji; exact hpi
          · exact hp j (by omega)
    · have hi' : i = im.length := by omega
      subst hi'
      have hall := allPerm hp
      rw [resB_all hall]
      exact sa_two g r im d m ⟨hg, hl, h1, h64, hall, hm⟩ r.length 0 rfl (by omega)
theorem sa_sem (g : Int) (r im : List (List Int)) (hs : Sh r) : FnSem Tryz.prog 11 [prA g r, llI im] [] (saA (satR g r im).1 (satR g r im).2) [] := by
  refine fnSem_at (live := liveSd) gSd_ok Tryz.func11 (by kernel_rfl) (keep := 0) rfl (by kernel_rfl) 100 ?_
  refine of_eq (q :=
      Sh r ∧ ((!decide ((chk g r).fst = (0 : Int))) = true → packV [V.c (W.bool false), V.c (W.int IntKind.i64 (chk g r).fst)] = saA (satR g r im).fst (satR g r im).snd ∧ ([] : List Ob) = []) ∧ ((!decide ((chk g r).fst = (0 : Int))) = false → ((!decide ((↑im.length : Int) = g)) = true → packV [V.c (W.bool false), V.c (W.int IntKind.i64 (2 : Int))] = saA (satR g r im).fst (satR g r im).snd ∧ ([] : List
      Ob) = []) ∧ ((!decide ((↑im.length : Int) = g)) = false → ((0 : Int) ≤ (0 : Int) ∧ (0 : Int) < (↑im.length : Int)) ∧ (0 : Nat) < im.length ∧ (decide ((↑(im.getD (0 : Nat) []).length : Int) < (1 : Int)) = false → decide ((↑(im.getD (0 : Nat) []).length : Int) < (1 : Int)) = false) ∧ (decide ((↑(im.getD (0 : Nat) []).length : Int) < (1 : Int)) = false → decide ((↑(im.getD (0 : Nat) []).length : Int)
      < (1 : Int)) = false) ∧ ((bif decide ((↑(im.getD (0 : Nat) []).length : Int) < (1 : Int)) then true else decide ((64 : Int) < (↑(im.getD (0 : Nat) []).length : Int))) = true → packV [V.c (W.bool false), V.c (W.int IntKind.i64 (3 : Int))] = saA (satR g r im).fst (satR g r im).snd ∧ ([] : List Ob) = []) ∧ ((bif decide ((↑(im.getD (0 : Nat) []).length : Int) < (1 : Int)) then true else decide ((64 :
      Int) < (↑(im.getD (0 : Nat) []).length : Int))) = false → AtLoop (mkSite Tryz.prog gSd Tryz.f11 (0 : Nat) liveSd) (Says1 (saA (satR g r im).fst (satR g r im).snd) []) [(0 : Nat), (1 : Nat), (0 : Nat), (1 : Nat), (1 : Nat), (1 : Nat), (1 : Nat), (1 : Nat), (1 : Nat)] (fr [((2 : Nat), A.p (V.c (W.ptr (0 : Nat) (0 : Nat)))), ((8 : Nat), A.p (V.c (W.int IntKind.i64 (↑(im.getD (0 : Nat) []).length :
      Int)))), ((9 : Nat), A.p (V.c (W.mp (1 : Nat)))), ((44 : Nat), A.p (V.c (W.rd (D.int IntKind.i64).sl im))), ((45 : Nat), A.p (V.c (W.int IntKind.i64 (↑im.length : Int)))), ((46 : Nat), A.p (V.c (W.int IntKind.i64 (0 : Int))))]) (Sto.ofList [Ob.mk (30 : Nat) [Fd.c (W.int IntKind.i64 g), Fd.c (W.rd (D.int IntKind.i64).sl r)], Ob.mk (60 : Nat) [Fd.m (D.int IntKind.i64) (D.int IntKind.i64).sl []]]))))) (by kernel_rfl) ?_
  try simp only [imp_self, true_and, and_true, Bool.cond_true_left, Bool.or_eq_true, Bool.or_eq_false_iff, Bool.not_eq_true', Bool.not_eq_false', decide_eq_true_eq, decide_eq_false_iff_not, Int.not_lt, Int.le_refl]
  refine ⟨hs, fun h => ?_, fun h => ⟨fun h1 => ?_, fun h1 => ?_⟩⟩
  · rw [satR, if_neg h]; rfl
  · rw [satR, if_pos h, if_neg h1]; rfl
  · have hg : Good g r := .of h
    have b1 := hg.g1
    refine ⟨by omega, by omega, fun h2 => ?_, fun h2 => ?_⟩
    · rw [satR, if_pos h, if_pos h1, if_pos h2]; rfl
    · rw [satR, if_pos h, if_pos h1, if_neg (by omega)]
      exact sa_one g r im hg h1 _ (by omega) (by omega) im.length 0 [] rfl (by omega) ⟨fun j hj => by omega, fun j hj => by omega⟩ (fun j hj => by omega)
end Go.Proofs.YtjmhmflganfoaabGreatDoor
