/- The law PresBack, as a call. -/
import Derived.Test.YtlcpgjjfjgbocaaGreatDoorBack1
import Derived.Test.YtlcpgjjfjgbocaaGreatDoorBack3
import Derived.Test.YtlcpgjjfjgbocaaGreatDoorKnown3
namespace Go.Proofs.YtlcpgjjfjgbocaaGreatDoor
open Go.Loom Go.Words
set_option maxRecDepth 100000
def cKnown : Con := con0 (.t, bB true, [])
theorem cKnown_ok : ConOk Tryz.prog 4 cKnown := con0_ok (by kernel_rfl) fun _ => known_sem
def cPParse : Con := con1 .str fun s => (.p (s.size ≤ 20000 ∧ (prP (bytesI s)).isSome = true), okP ((prP (bytesI s)).getD (0, [])).1 ((prP (bytesI s)).getD (0, [])).2, [])
theorem cPParse_ok : ConOk Tryz.prog 8 cPParse := con1_ok (by kernel_rfl) fun s h => by
 obtain ⟨h1, h2⟩ := h
 obtain ⟨⟨g, rs⟩, e⟩ := Option.isSome_iff_exists.1 h2
 rw [e]
 exact pparse_sem s g rs h1 e
noncomputable def gBa : Gam := [(4, cKnown), (5, cTurn), (6, cWs), (7, cPText), (8, cPParse), (9, cRSame)]
theorem gBa_ok : GamOk Tryz.prog gBa := gamOk_cons cKnown_ok (gamOk_cons cTurn_ok (gamOk_cons cWs_ok (gamOk_cons cPText_ok (gamOk_cons cPParse_ok (gamOk_cons cRSame_ok gamOk_nil)))))
abbrev pBa : List Nat := [0, 1, 0, 1, 1, 1, 1, 1, 1, 1, 1, 1, 1]
abbrev liveBa : List (List Nat × List Nat) := [(pBa, [5, 6, 7, 9, 10, 11, 12])]
noncomputable def sBa : Site := mkSite Tryz.prog gBa Tryz.f3 0 liveBa
/-! ### Further blanks -/
def wideC (c : Int) : List Int := if c = 44 ∨ c = 124 ∨ c = 62 then [32, 32, c] else [c]
def wideL : List Int → List Int
 | [] => []
 | c :: l => wideC c ++ wideL l
theorem wide_app (a b : List Int) : wideL (a ++ b) = wideL a ++ wideL b := by
 induction a with
 | nil => rfl
 | cons c a ih => rw [List.cons_append, wideL, wideL, ih, List.append_assoc]
theorem wide_one {c : Int} (h : c ≠ 44 ∧ c ≠ 124 ∧ c ≠ 62) (l : List Int) : wideL (c :: l) = c :: wideL l := by
 rw [wideL, wideC, if_neg (by omega)]; rfl
theorem wide_plain : ∀ {T : List Int}, Plain T → wideL T = T
 | [], _ => rfl
 | c :: T, h => by
   obtain ⟨h1, h2, h3, h4, h5, h6, h7⟩ := h c (by simp)
   rw [wide_one ⟨h2, h7, h4⟩, wide_plain fun x hx => h x (by simp [hx])]
theorem wide_letT : ∀ (n g : Nat), g + n ≤ 16 → wideL (letT 0 g n) = letT 2 g n
 | 0, _, _ => rfl
 | 1, g, h => by rw [letT, wide_one (by omega)]; rfl
 | n + 2, g, h => by
   have ih := wide_letT (n + 1) (g + 1) (by omega)
   show wideL ((97 + (g : Int)) :: 44 :: 32 :: letT 0 (g + 1) (n + 1)) = _
   rw [wide_one (by omega), wideL, wide_one (by omega), ih]
   rfl
theorem wide_relsT : ∀ ps : List (List Int), (∀ p ∈ ps, Plain p) → wideL (relsT 0 ps) = relsT 2 ps
 | [], _ => rfl
 | [p], h => wide_plain (h p (by simp))
 | p :: q :: r, h => by
   have ih := wide_relsT (q :: r) fun x hx => h x (by simp [hx])
   show wideL (p ++ (44 :: 32 :: relsT 0 (q :: r))) = _
   rw [wide_app, wide_plain (h p (by simp)), wideL, wide_one (by omega), ih]
   rfl
theorem wide_prT (g : Nat) (hg : g ≤ 16) (ws : List (List Int)) (hw : ∀ w ∈ ws, GoodW 16 w ∧ w.length < 100) : wideL (prT 0 g ws) = prT 2 g ws := by
 have h1 := wide_letT g 0 (by omega)
 have h2 := wide_relsT (ws.map textL) fun p hp => by
  obtain ⟨w, hw', rfl⟩ := List.mem_map.1 hp
  exact plain_text (hw w hw').1 (hw w hw').2
 show wideL (60 :: (letT 0 0 g ++ (32 :: 124 :: 32 :: (relsT 0 (ws.map textL) ++ [62])))) = _
 rw [wide_one (by omega), wide_app, h1, wide_one (by omega), wideL, wide_one (by omega), wide_app, h2]
 rfl
/-! ### The presentation that is made -/
theorem chkGo_good (g : Int) (hg : 1 ≤ g ∧ g ≤ 16) : ∀ (ws : List (List Int)) (left i : Int), (∀ w ∈ ws, GoodW g w) → (ws.flatten.length : Int) ≤ left → chkGo g ws left i = (0, -1)
 | [], _, _, _, _ => rfl
 | w :: ws, left, i, hw, hl => by
   rw [List.flatten_cons, List.length_append] at hl
   have hb : w.any (badL g) = false := by
    rw [List.any_eq_false]
    intro x hx
    have := hw w (by simp) x hx
    simp only [badL, Bool.or_eq_true, decide_eq_true_eq]
    rw [wrap64 (n := 0 - g) (by omega) (by omega)]
    omega
   rw [chkGo, if_neg (by omega), hb, if_neg (by simp)]
   exact chkGo_good g hg ws _ _ (fun v hv => hw v (by simp [hv])) (by omega)
theorem ltr_good {g c : Int} (h : 0 ≤ c ∧ c < 2 * g) : ltrI c ≠ 0 ∧ ((ltrI c).natAbs : Int) ≤ g := by
 unfold ltrI
 rw [Int.tdiv_eq_ediv_of_nonneg h.1]
 split <;> omega
theorem wordO_good {g : Int} (hg : 1 ≤ g) (l : List Int) : GoodW g (wordO g l) := by
 intro x hx
 obtain ⟨y, _, rfl⟩ := List.mem_map.1 hx
 exact ltr_good (turn_range y (2 * g) (by omega))
theorem wordsG_good {g : Int} (hg : 1 ≤ g) (most : Int) (hm : 0 ≤ most ∧ most ≤ 50) : ∀ (n : Nat) (l : List Int) (acc : List (List Int)), (∀ w ∈ acc, GoodW g w ∧ w.length < 100) → (∀ w ∈ wordsG g most n l acc, GoodW g w ∧ w.length < 100) ∧ (wordsG g most n l acc).flatten.length ≤ acc.flatten.length + l.length
 | 0, l, acc, h => ⟨h, by rw [wordsG]; omega⟩
 | n + 1, [], acc, h => ⟨by rw [wordsG_nil]; exact h, by rw [wordsG_nil]; simp⟩
 | n + 1, x :: l, acc, h => by
   have t := turn_range x (most + 1) (by omega)
   rw [wordsG]
   have hlen : (min (turnI x (most + 1)) (l.length : Int)).toNat ≤ l.length := by omega
   have hlen2 : (min (turnI x (most + 1)) (l.length : Int)).toNat ≤ 50 := by omega
   generalize (min (turnI x (most + 1)) (l.length : Int)).toNat = m at hlen hlen2
   have hwl : (wordO g (l.take m)).length = m := by unfold wordO; rw [List.length_map, List.length_take]; omega
   obtain ⟨h1, h2⟩ := wordsG_good hg most hm n (l.drop m) (acc ++ [wordO g (l.take m)]) (fun w hw => by
    rcases List.mem_append.1 hw with hw | hw
    · exact h w hw
    · simp only [List.mem_singleton] at hw
      subst hw
      exact ⟨wordO_good hg _, by omega⟩)
   refine ⟨h1, ?_⟩
   rw [List.flatten_append, List.length_append, List.flatten_cons, List.flatten_nil, List.append_nil, hwl, List.length_drop] at h2
   rw [List.length_cons]
   omega
theorem take_flat (ws : List (List Int)) (k : Nat) : (ws.take k).flatten.length ≤ ws.flatten.length := by
 conv => rhs; rw [← List.take_append_drop k ws, List.flatten_append, List.length_append]
 omega
theorem ba_main (g : Nat) (hg : 1 ≤ g ∧ g ≤ 16) (R : List (List Int)) (hR : ∀ w ∈ R, GoodW g w ∧ w.length < 100) (hn : R.length ≤ 100) (hf : R.flatten.length ≤ 200) :
 ((1 ≤ (g : Int) ∧ (g : Int) ≤ 16) ∧ (∀ w ∈ R, GoodW 16 w ∧ w.length < 100) ∧ R.length ≤ 100 ∧ (presS g R).size ≤ 20000 ∧ chk g R = (0, -1)) ∧ (presS g R).size ≤ 5000 ∧ prP (bytesI (presS g R)) = some (g, R) ∧ prP (bl 2 ++ (wideL (bytesI (presS g R)) ++ bl 1)) = some (g, R) ∧ Sh R := by
 have h16 : ∀ w ∈ R, GoodW 16 w ∧ w.length < 100 := fun w hw => ⟨fun x hx => ⟨((hR w hw).1 x hx).1, by have := ((hR w hw).1 x hx).2; omega⟩, (hR w hw).2⟩
 have hb := presS_bytes g hg R h16
 have hl := prT_len 0 (by omega) g hg.2 R h16
 have hz : (presS g R).size ≤ 1900 := by rw [← bytesI_length, hb]; omega
 have r0 := pr_read 0 0 0 g hg R hR hn (by omega)
 have r2 := pr_read 2 2 1 g hg R hR hn (by omega)
 refine ⟨⟨⟨by omega, by omega⟩, h16, hn, by omega, ?_⟩, by omega, ?_, ?_, fun w hw => by have := (hR w hw).2; omega⟩
 · unfold chk
   rw [if_neg (by omega), if_neg (by omega)]
   exact chkGo_good g (by omega) R 4000 0 (fun w hw => (hR w hw).1) (by omega)
 · rw [hb]
   simpa [bl] using r0
 · rw [hb, wide_prT g hg.2 R h16]
   exact r2
/-! ### The law -/
theorem ba_loop (g : Nat) (R : List (List Int)) (S : ByteArray) (hS : S.size ≤ 5000) (hn : R.length ≤ 100) (hsh : Sh R) (hP : prP (bl 2 ++ (wideL (bytesI S) ++ bl 1)) = some (g, R)) : ∀ (k i : Nat) (V : ByteArray), k + i = S.size → bytesI V = bl 2 ++ wideL ((bytesI S).take i) → V.size ≤ 2 + 3 * i →
 AtLoop sBa (Says1 (bB true) []) pBa (fr [(5, bB true), (6, .p (.c (.ptr 0 0))), (7, stT S), (9, .p (.c (.ptr 1 0))), (10, .p (.c (.ptr 2 0))), (11, stT V), (12, nI i)]) (.ofList [obP g R, obP g R, obF])
 | k, i, V, hk, hV, hVs => by
   refine atLoop_at gBa_ok (by kernel_rfl) 100 ?_
   refine of_eq (q := let q0 := IntKind.i64.wrap; let q1 := decide ((0:Int) = (0:Int)); let q2 := decide (bAt S i = (44:Int)); let q3 := decide ((g:Int) = (g:Int) ∧ R = R); let q4 := decide (bAt S i = (124:Int)); let q5 := (Sto.ofList [Ob.mk 28 [Fd.c (W.int .i64 (g:Int)), Fd.c (W.rd (D.int .i64).sl R)], Ob.mk 28 [Fd.c (W.int .i64 (g:Int)), Fd.c (W.rd (D.int .i64).sl R)], Ob.mk 33 [Fd.c (W.int .i64 (0)), Fd.c (W.int .i64 (0))]]); let q6 := (q1 && true); let q8 := (V ++ ByteArray.mk #[(32 : UInt8)]); let q9 := (i:Int); let q10 := (9223372036854775807:Nat); let q11 := (S.size:Int); let q7 := (q0 (q9 + (1:Int))); (decide (q9 < q11) = true → ((0:Int) ≤ q9 ∧ q9 < q11) ∧ (q2 = false → q2 = false) ∧ (q2 = false → q2 = false) ∧ (q2 = false → (0:Int) ≤ q9 ∧ q9 < q11) ∧ (q2 = false → q2 = false) ∧ (q2 = false → q2 = false) ∧ ((bif q2 then true else q4) = false → (bif q2 then true else q4) = false) ∧ ((bif q2 then true else q4) = false → (bif q2 then true else q4) = false) ∧ ((bif q2 then true else q4) = false → (0:Int) ≤ q9 ∧ q9 < q11) ∧ ((bif q2 then true else q4) = false → (bif q2 then true else q4) = false) ∧ ((bif q2 then true else q4) = false → (bif q2 then true else q4) = false) ∧ ((bif bif q2 then true else q4 then true else decide (bAt S i = (62:Int))) = true → V.size + (2:Nat) ≤ q10 ∧ ((0:Int) ≤ q9 ∧ q9 ≤ q0 (q9 + (1:Int)) ∧ q0 (q9 + (1:Int)) ≤ q11) ∧ (V ++ ByteArray.mk #[(32 : UInt8), (32 : UInt8)]).size + (S.extract i q7.toNat).size ≤ q10 ∧ AtLoop sBa (Says1 (bB true) []) [0, 1, 0, 1, 1, 1, 1, 1, 1, 1, 1, 1, 1] (fr [(5, A.p (Loom.V.c (W.bool true))), (6, A.p (Loom.V.c (W.ptr 0 0))), (7, A.p (Loom.V.c (W.str S))), (9, A.p (Loom.V.c (W.ptr 1 0))), (10, A.p (Loom.V.c (W.ptr 2 0))), (11, A.p (Loom.V.c (W.str (V ++ ByteArray.mk #[(32 : UInt8), (32 : UInt8)] ++ S.extract i q7.toNat)))), (12, A.p (Loom.V.c (W.int .i64 q7)))]) q5) ∧ ((bif bif q2 then true else q4 then true else decide (bAt S i = (62:Int))) = false → ((0:Int) ≤ q9 ∧ q9 ≤ q0 (q9 + (1:Int)) ∧ q0 (q9 + (1:Int)) ≤ q11) ∧ V.size + (S.extract i q7.toNat).size ≤ q10 ∧ AtLoop sBa (Says1 (bB true) []) [0, 1, 0, 1, 1, 1, 1, 1, 1, 1, 1, 1, 1] (fr [(5, A.p (Loom.V.c (W.bool true))), (6, A.p (Loom.V.c (W.ptr 0 0))), (7, A.p (Loom.V.c (W.str S))), (9, A.p (Loom.V.c (W.ptr 1 0))), (10, A.p (Loom.V.c (W.ptr 2 0))), (11, A.p (Loom.V.c (W.str (V ++ S.extract i q7.toNat)))), (12, A.p (Loom.V.c (W.int .i64 q7)))]) q5)) ∧ (decide (q9 < q11) = false → V.size + (1:Nat) ≤ q10 ∧ (q8.size ≤ (20000:Nat) ∧ (prP (bytesI q8)).isSome = true) ∧ (true = true → true = true) ∧ (true = true → true = true) ∧ (true = true → true = true) ∧ ((bif true then q1 && q6 else false) = true → (bif true then q1 && q6 else false) = true) ∧ ((bif true then q1 && q6 else false) = true → (bif true then q1 && q6 else false) = true) ∧ ((bif true then q1 && q6 else false) = true → R.length ≤ (1000000:Nat) ∧ Sh R) ∧ ((bif true then q1 && q6 else false) = true → (bif true then q1 && q6 else false) = true) ∧ ((bif bif true then q1 && q6 else false then q3 else false) = true → (bif bif true then q1 && q6 else false then q3 else false) = true) ∧ ((bif bif true then q1 && q6 else false then q3 else false) = true → (bif bif true then q1 && q6 else false then q3 else false) = true) ∧ ((bif bif true then q1 && q6 else false then q3 else false) = true → (bif bif true then q1 && q6 else false then q3 else false) = true) ∧ ((bif bif bif true then q1 && q6 else false then q3 else false then q1 && q6 else false) = true → (bif bif bif true then q1 && q6 else false then q3 else false then q1 && q6 else false) = true) ∧ ((bif bif bif true then q1 && q6 else false then q3 else false then q1 && q6 else false) = true → (bif bif bif true then q1 && q6 else false then q3 else false then q1 && q6 else false) = true) ∧ ((bif bif bif true then q1 && q6 else false then q3 else false then q1 && q6 else false) = true → R.length ≤ (1000000:Nat) ∧ Sh R) ∧ ((bif bif bif true then q1 && q6 else false then q3 else false then q1 && q6 else false) = true → (bif bif bif true then q1 && q6 else false then q3 else false then q1 && q6 else false) = true) ∧ packV [Loom.V.c (W.bool (bif bif bif bif true then q1 && q6 else false then q3 else false then q1 && q6 else false then decide ((g:Int) = (↑((prP (bytesI q8)).getD (0, [])).fst : Int) ∧ R = ((prP (bytesI q8)).getD (0, [])).snd) else false))] = bB true ∧ ([] : List Ob) = [])) (by kernel_rfl) ?_
   try simp only [imp_self, true_and, and_true, Bool.cond_true_left, Bool.cond_false_right, Bool.or_eq_true, Bool.or_eq_false_iff, Bool.and_eq_true, decide_eq_true_eq, decide_eq_false_iff_not, Int.not_lt]
   have hlen := bytesI_length S
   have hz1 : i < S.size → (S.extract i (i + 1)).size = 1 := fun h => by rw [size_ext S (by omega)]; omega
   have hb1 : i < S.size → bytesI (S.extract i (i + 1)) = [(bytesI S).getD i 0] := fun h => by
    rw [bytesI_extract, show i + 1 - i = 1 by omega, getD_lt (by omega)]; rfl
   have hsn : i < S.size → wideL ((bytesI S).take (i + 1)) = wideL ((bytesI S).take i) ++ wideC ((bytesI S).getD i 0) := fun h => by
    rw [take_snoc (by omega), wide_app, wideL, wideL, List.append_nil]
   have go : ∀ V' : ByteArray, i < S.size → bytesI V' = bl 2 ++ wideL ((bytesI S).take (i + 1)) → V'.size ≤ 2 + 3 * (i + 1) → AtLoop sBa (Says1 (bB true) []) pBa (fr [(5, bB true), (6, .p (.c (.ptr 0 0))), (7, stT S), (9, .p (.c (.ptr 1 0))), (10, .p (.c (.ptr 2 0))), (11, stT V'), (12, nI (i + 1 : Nat))]) (.ofList [obP g R, obP g R, obF]) := by
    intro V' hi h1 h2
    cases k with
    | zero => omega
    | succ k => exact ba_loop g R S hS hn hsh hP k (i + 1) V' (by omega) h1 h2
   have hi1 : IntKind.i64.wrap ((i : Int) + 1) = ((i + 1 : Nat) : Int) := by rw [wrap64 (by omega) (by omega)]; omega
   have h2b : bytesI (⟨#[32, 32]⟩ : ByteArray) = [32, 32] := rfl
   have h2z : (V ++ ⟨#[32, 32]⟩ : ByteArray).size = V.size + 2 := by rw [ByteArray.size_append]; rfl
   rw [hi1, Int.toNat_natCast, h2z]
   refine ⟨fun h => ⟨by omega, fun _ => by omega, fun _ => by omega, fun hc => ?_, fun hc => ?_⟩, fun h => ?_⟩
   · rw [bAt_get] at hc
     have z := hz1 (by omega)
     refine ⟨by omega, by omega, by omega, go _ (by omega) ?_ ?_⟩
     · rw [bytesI_app, bytesI_app, hV, h2b, hb1 (by omega), hsn (by omega), wideC, if_pos (by omega)]
       simp
     · rw [ByteArray.size_append, h2z, z]; omega
   · rw [bAt_get] at hc
     have z := hz1 (by omega)
     refine ⟨by omega, by omega, go _ (by omega) ?_ ?_⟩
     · rw [bytesI_app, hV, hb1 (by omega), hsn (by omega), wideC, if_neg (by omega)]
       simp
     · rw [ByteArray.size_append, z]; omega
   · have hi : i = S.size := by omega
     subst hi
     have e : prP (bytesI (V ++ ⟨#[32]⟩)) = some (g, R) := by
      rw [bytesI_app, hV, List.take_of_length_le (by omega), show bytesI ⟨#[32]⟩ = bl 1 from rfl, List.append_assoc]
      exact hP
     have hz : (V ++ ⟨#[32]⟩ : ByteArray).size = V.size + 1 := by rw [ByteArray.size_append]; rfl
     rw [e, hz]
     refine ⟨by omega, ⟨by omega, rfl⟩, fun _ => ⟨by omega, hsh⟩, fun _ => ⟨by omega, hsh⟩, ?_⟩
     simp [packV]
theorem back_sem (gens : Int) (l : List Int) : FnSem Tryz.prog 3 [nI gens, lsI l] [] (bB true) [] := by
 refine fnSem_at (live := liveBa) gBa_ok Tryz.func3 (by kernel_rfl) (keep := 0) rfl (by kernel_rfl) 100 ?_
 refine of_eq (q := let q0 := IntKind.i64.wrap; let q4 := decide ((0:Int) = (0:Int)); let q5 := ((1:Int) + turnI gens (16:Int)); let q8 := (W.int .i64 (0)); let q9 := (V.c (W.str (ByteArray.mk #[(32 : UInt8), (32 : UInt8)]))); let q1 := (q0 q5); let q2 := (wordsG q1 (30:Int) l.length l []); let q3 := (List.drop (0:Nat) (List.take (100:Nat) q2)); let q6 := (presS q1.toNat q3); let q7 := (presS q1.toNat q2); (decide ((200:Int) < (l.length:Int)) = true → packV [V.c (W.bool true)] = bB true ∧ ([] : List Ob) = []) ∧ (decide ((200:Int) < (l.length:Int)) = false → ((1:Int) ≤ (16:Int) ∧ (16:Int) ≤ (1000:Int)) ∧ (((1:Int) ≤ q0 q5 ∧ q0 q5 ≤ (16:Int)) ∧ ((0:Int) ≤ (30:Int) ∧ (30:Int) ≤ (100:Int)) ∧ l.length ≤ (1000:Nat)) ∧ (decide ((100:Int) < (↑q2.length : Int)) = true → ((0:Int) ≤ (0:Int) ∧ (0:Int) ≤ (100:Int) ∧ (100:Int) ≤ (↑q2.length : Int)) ∧ (((1:Int) ≤ q0 q5 ∧ q0 q5 ≤ (16:Int)) ∧ (∀ (w : List Int), w ∈ List.drop (0:Nat) (List.take (100:Nat) q2) → GoodW (16:Int) w ∧ w.length < (100:Nat)) ∧ q3.length ≤ (100:Nat) ∧ q6.size ≤ (20000:Nat) ∧ chk q1 q3 = ((0:Int), (-1 : Int))) ∧ ((!q4) = false → (!q4) = false) ∧ ((!q4) = false → (!q4) = false) ∧ ((!q4) = false → (!q4) = false) ∧ ((bif !q4 then true else decide ((5000:Int) < (↑q6.size : Int))) = true → packV [V.c (W.bool false)] = bB true ∧ ([] : List Ob) = []) ∧ ((bif !q4 then true else decide ((5000:Int) < (↑q6.size : Int))) = false → (q6.size ≤ (20000:Nat) ∧ (prP (bytesI q6)).isSome = true) ∧ AtLoop (mkSite Tryz.prog gBa Tryz.f3 (0:Nat) liveBa) (Says1 (bB true) []) [0, 1, 0, 1, 1, 1, 1, 1, 1, 1, 1, 1, 1] (fr [(5, bB true), (6, A.p (V.c (W.ptr 0 0))), (7, A.p (V.c (W.str q6))), (9, A.p (V.c (W.ptr 1 0))), (10, A.p (V.c (W.ptr 2 0))), (11, A.p q9), (12, nI (0))]) (Sto.ofList [Ob.mk 28 [Fd.c (W.int .i64 q1), Fd.c (W.rd (D.int .i64).sl q3)], Ob.mk 28 [Fd.c (W.int .i64 (↑((prP (bytesI q6)).getD (0, [])).fst : Int)), Fd.c (W.rd (D.int .i64).sl ((prP (bytesI q6)).getD (0, [])).snd)], Ob.mk 33 [Fd.c q8, Fd.c q8]]))) ∧ (decide ((100:Int) < (↑q2.length : Int)) = false → (((1:Int) ≤ q0 q5 ∧ q0 q5 ≤ (16:Int)) ∧ (∀ (w : List Int), w ∈ wordsG q1 (30:Int) l.length l [] → GoodW (16:Int) w ∧ w.length < (100:Nat)) ∧ q2.length ≤ (100:Nat) ∧ q7.size ≤ (20000:Nat) ∧ chk q1 q2 = ((0:Int), (-1 : Int))) ∧ ((!q4) = false → (!q4) = false) ∧ ((!q4) = false → (!q4) = false) ∧ ((!q4) = false → (!q4) = false) ∧ ((bif !q4 then true else decide ((5000:Int) < (↑q7.size : Int))) = true → packV [V.c (W.bool false)] = bB true ∧ ([] : List Ob) = []) ∧ ((bif !q4 then true else decide ((5000:Int) < (↑q7.size : Int))) = false → (q7.size ≤ (20000:Nat) ∧ (prP (bytesI q7)).isSome = true) ∧ AtLoop (mkSite Tryz.prog gBa Tryz.f3 (0:Nat) liveBa) (Says1 (bB true) []) [0, 1, 0, 1, 1, 1, 1, 1, 1, 1, 1, 1, 1] (fr [(5, bB true), (6, A.p (V.c (W.ptr 0 0))), (7, A.p (V.c (W.str q7))), (9, A.p (V.c (W.ptr 1 0))), (10, A.p (V.c (W.ptr 2 0))), (11, A.p q9), (12, nI (0))]) (Sto.ofList [Ob.mk 28 [Fd.c (W.int .i64 q1), Fd.c (W.rd (D.int .i64).sl q2)], Ob.mk 28 [Fd.c (W.int .i64 (↑((prP (bytesI q7)).getD (0, [])).fst : Int)), Fd.c (W.rd (D.int .i64).sl ((prP (bytesI q7)).getD (0, [])).snd)], Ob.mk 33 [Fd.c q8, Fd.c q8]]))))) (by kernel_rfl) ?_
 try simp only [imp_self, true_and, and_true, Bool.cond_true_left, Bool.or_eq_true, Bool.or_eq_false_iff, Bool.not_eq_true', Bool.not_eq_false', decide_eq_true_eq, decide_eq_false_iff_not, Int.not_lt, List.drop_zero, Int.le_refl]
 refine ⟨fun _ => rfl, fun hl => ?_⟩
 have t := turn_range gens 16 (by omega)
 obtain ⟨g, hg⟩ : ∃ g : Nat, 1 + turnI gens 16 = (g : Int) := ⟨(1 + turnI gens 16).toNat, by omega⟩
 rw [hg, wrap64 (n := (g : Int)) (by omega) (by omega), Int.toNat_natCast]
 obtain ⟨w1, w2⟩ := wordsG_good (g := (g : Int)) (by omega) 30 (by omega) l.length l [] (fun w hw => by cases hw)
 simp only [List.flatten_nil, List.length_nil] at w2
 have hgr : 1 ≤ g ∧ g ≤ 16 := by omega
 refine ⟨by omega, ⟨by omega, by omega, by omega⟩, fun h => ⟨by omega, ?_⟩, fun h => ?_⟩
 · have hf := take_flat (wordsG (g : Int) 30 l.length l []) 100
   obtain ⟨m1, m2, m3, m4, m5⟩ := ba_main g hgr (List.take 100 (wordsG (g : Int) 30 l.length l [])) (fun w hw => w1 w (List.mem_of_mem_take hw)) (by rw [List.length_take]; omega) (by omega)
   have hn : (List.take 100 (wordsG (g : Int) 30 l.length l [])).length ≤ 100 := by rw [List.length_take]; omega
   generalize List.take 100 (wordsG (g : Int) 30 l.length l []) = R at *
   rw [m3]
   refine ⟨m1, fun h => h.elim (fun h => absurd trivial h) (fun h => by omega), fun _ => ⟨⟨by omega, rfl⟩, ?_⟩⟩
   exact ba_loop g R (presS g R) m2 hn m5 m4 (presS g R).size 0 _ (by omega) rfl (by decide)
 · obtain ⟨m1, m2, m3, m4, m5⟩ := ba_main g hgr (wordsG (g : Int) 30 l.length l []) w1 (by omega) (by omega)
   have hn : (wordsG (g : Int) 30 l.length l []).length ≤ 100 := by omega
   generalize wordsG (g : Int) 30 l.length l [] = R at *
   rw [m3]
   refine ⟨m1, fun h => h.elim (fun h => absurd trivial h) (fun h => by omega), fun _ => ⟨⟨by omega, rfl⟩, ?_⟩⟩
   exact ba_loop g R (presS g R) m2 hn m5 m4 (presS g R).size 0 _ (by omega) rfl (by decide)
theorem back_all : ForArgs (fun args => FnSem Tryz.prog 3 args [] (dat .bool true) []) [.int .i64, .sl (.int .i64)] [] :=
 fun gens _ l _ => back_sem gens l
end Go.Proofs.YtlcpgjjfjgbocaaGreatDoor
