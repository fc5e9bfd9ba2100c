/- Texts of permutations, by the reference. -/
import Derived.Test.YtbgfpacjoneaeaaDoorText2
import Derived.Test.YtbgfpacjoneaeaaDoorLoom4
namespace Go.Proofs.YtbgfpacjoneaeaaDoor
open Go.Loom
set_option maxRecDepth 100000
theorem packI_bytes (s : ByteArray) : packI (bytesI s) = s := by
 have : s.data.toList.map ((fun n : Int => UInt8.ofNat n.toNat) ∘ fun b : UInt8 => (b.toNat : Int)) = s.data.toList := by
  conv => rhs; rw [← List.map_id s.data.toList]
  refine List.map_congr_left fun b _ => ?_
  simp
 unfold packI bytesI
 rw [List.map_map, this]
theorem cat_b (o : List Int) (s : ByteArray) : packI o ++ s = packI (o ++ bytesI s) := by rw [packI_app, packI_bytes]
theorem dec_lo (n : Nat) (h : n < 10) : packI [48 + (n : Int)] = decT n := by
 revert n
 decide +kernel
theorem dec_hi (n : Nat) (h : n < 100) : 10 ≤ n → decT (n / 10) ++ packI [48 + ((n % 10 : Nat) : Int)] = decT n := by
 revert n
 decide +kernel
theorem dec1_sem (n : Int) (h : 0 ≤ n ∧ n < 10) : FnSem Tryd.prog 24 [nI n] [] (sT (decT n.toNat)) [] := by
 refine fnSem_at (live := []) gamOk_nil Tryd.func24 (by kernel_rfl) (keep := 0) rfl (by kernel_rfl) 100 ?_
 refine of_eq (q := (decide (n < (10:Int)) = true → packV [V.c (W.str (Utf8.encode (IntKind.i32.wrap (IntKind.i64.wrap ((48:Int) + n)))))] = sT (decT n.toNat) ∧ ([] : List Ob) = []) ∧ (decide (n < (10:Int)) = false → (10:Int) ≠ (0:Int) ∧ False)) (by kernel_rfl) ?_
 try simp only [true_and, and_true, decide_eq_true_eq, decide_eq_false_iff_not, Int.not_lt, ne_eq, Int.reduceEq, not_false_eq_true]
 refine ⟨fun _ => ?_, fun h2 => by omega⟩
 have := dec_lo n.toNat (by omega)
 rw [show ((n.toNat : Nat) : Int) = n by omega] at this
 rw [wrap64 (by omega) (by omega), wrap32 (by omega) (by omega), enc1 (by omega), this]; rfl
def cDec1 : Con := con1 (.int .i64) fun n => (.p (0 ≤ (show Int from n) ∧ (show Int from n) < 10), sT (decT (show Int from n).toNat), [])
theorem cDec1_ok : ConOk Tryd.prog 24 cDec1 := con1_ok (by kernel_rfl) fun n h => dec1_sem n h
noncomputable def gDe : Gam := [(24, cDec1)]
theorem gDe_ok : GamOk Tryd.prog gDe := gamOk_cons cDec1_ok gamOk_nil
theorem dec_sem (n : Int) (h : 0 ≤ n ∧ n < 100) : FnSem Tryd.prog 24 [nI n] [] (sT (decT n.toNat)) [] := by
 refine fnSem_at (live := []) gDe_ok Tryd.func24 (by kernel_rfl) (keep := 0) rfl (by kernel_rfl) 100 ?_
 refine of_eq (q := let q0 := IntKind.i64.wrap; let q1 := (IntKind.i32.wrap (q0 ((48:Int) + n.tmod (10:Int)))); (decide (n < (10:Int)) = true → packV [V.c (W.str (Utf8.encode (IntKind.i32.wrap (q0 ((48:Int) + n)))))] = sT (decT n.toNat) ∧ ([] : List Ob) = []) ∧ (decide (n < (10:Int)) = false → (10:Int) ≠ (0:Int) ∧ ((0:Int) ≤ q0 (n.tdiv (10:Int)) ∧ q0 (n.tdiv (10:Int)) < (10:Int)) ∧ (10:Int) ≠ (0:Int) ∧ (decT (q0 (n.tdiv (10:Int))).toNat).size + (Utf8.encode q1).size ≤ (9223372036854775807:Nat) ∧ packV [V.c (W.str (decT (q0 (n.tdiv (10:Int))).toNat ++ Utf8.encode q1))] = sT (decT n.toNat) ∧ ([] : List Ob) = [])) (by kernel_rfl) ?_
 try simp only [true_and, and_true, decide_eq_true_eq, decide_eq_false_iff_not, Int.not_lt, ne_eq, Int.reduceEq, not_false_eq_true]
 refine ⟨fun _ => ?_, fun h2 => ?_⟩
 · have := dec_lo n.toNat (by omega)
   rw [show ((n.toNat : Nat) : Int) = n by omega] at this
   rw [wrap64 (by omega) (by omega), wrap32 (by omega) (by omega), enc1 (by omega), this]; rfl
 · have := dec_hi n.toNat (by omega) (by omega)
   rw [Int.tdiv_eq_ediv_of_nonneg (by omega), Int.tmod_eq_emod_of_nonneg (by omega), wrap64 (n := n / 10) (by omega) (by omega), wrap64 (n := 48 + n % 10) (by omega) (by omega), wrap32 (by omega) (by omega), enc1 (by omega), show (n / 10).toNat = n.toNat / 10 by omega, show n % 10 = ((n.toNat % 10 : Nat) : Int) by omega]
   have hs := congrArg ByteArray.size this
   rw [ByteArray.size_append] at hs
   have h3 := decT_size n.toNat (by omega)
   refine ⟨by omega, by omega, ?_⟩
   rw [this]; rfl
def cDec : Con := con1 (.int .i64) fun n => (.p (0 ≤ (show Int from n) ∧ (show Int from n) < 100), sT (decT (show Int from n).toNat), [])
theorem cDec_ok : ConOk Tryd.prog 24 cDec := con1_ok (by kernel_rfl) fun n h => dec_sem n h
/-! ### The text -/
def rX : Bool → List Int → List Int
 | _, [] => [41]
 | b, x :: c => (if b then [32] else []) ++ (bytesI (decT x.toNat) ++ rX true c)
def rA : List (List Int) → List Int
 | [] => []
 | c :: l => 40 :: (rX false c ++ rA l)
theorem rX_le : ∀ (c : List Int) (b : Bool), (∀ x ∈ c, 0 ≤ x ∧ x < 100) → (rX b c).length ≤ 3 * c.length + 1
 | [], b, _ => by simp [rX]
 | x :: c, b, h => by
   have h1 := h x (by simp)
   have h2 := rX_le c true fun y hy => h y (by simp [hy])
   have h3 := decT_size x.toNat (by omega)
   have h4 : (if b then [(32 : Int)] else []).length ≤ 1 := by cases b <;> simp
   rw [rX, List.length_append, List.length_append, bytesI_length, List.length_cons]
   omega
theorem rA_le : ∀ (l : List (List Int)), (∀ c ∈ l, ∀ x ∈ c, 0 ≤ x ∧ x < 100) → (rA l).length ≤ 3 * tot l + 2 * l.length
 | [], _ => by simp [rA]
 | c :: l, h => by
   have h1 := rA_le l fun d hd => h d (by simp [hd])
   have h2 := rX_le c false (h c (by simp))
   rw [rA, tot, List.length_cons, List.length_cons, List.length_append]
   omega
theorem tot_bigs : ∀ (l : List (List Int)), tot (bigs l) ≤ tot l
 | [] => Nat.le_refl _
 | c :: l => by
   have := tot_bigs l
   by_cases h : 1 < c.length
   · rw [bigs_yes _ h, tot, tot]; omega
   · rw [bigs_no _ h, tot]; omega
theorem bigs_in {l : List (List Int)} {c : List Int} (h : c ∈ bigs l) : c ∈ l := (List.mem_filter.1 h).1
theorem wP_rX : ∀ (c : List Int), wP spS c = rX true c
 | [] => by rw [wP, rX]; decide
 | x :: c => by
   rw [wP, rX, wP_rX c, if_pos rfl]
   simp [bytesI, spS]
theorem wA_rA : ∀ (l : List (List Int)), (∀ c ∈ l, 1 ≤ c.length) → wA l = rA (bigs l)
 | [], _ => rfl
 | c :: l, h => by
   have h1 := h c (by simp)
   rw [wA, wA_rA l fun d hd => h d (by simp [hd])]
   by_cases h2 : c.length = 1
   · rw [if_pos h2, bigs_no _ (by omega)]
   · rw [if_neg h2, bigs_yes _ (by omega), rA]
     cases c with
     | nil => simp at h1
     | cons x c =>
       rw [wP, rX, wP_rX c]
       simp [bytesI, opS]
theorem ptxt_sem (a : List Int) : FnSem Tryd.prog 22 [lsI a] [] (txt (if checkE a = 0 then txR (rA (cycN a)) else ⟨#[]⟩) (checkE a)) [] := by
 have := ptx_sem a
 by_cases h : checkE a = 0
 · rw [if_pos h] at this ⊢
   rwa [cycN, h, orNilL_ok, ← wA_rA _ (fits h).pos, ← h]
 · rw [if_neg h] at this ⊢
   exact this
end Go.Proofs.YtbgfpacjoneaeaaDoor

namespace Go.Proofs.YtbgfpacjoneaeaaDoor
open Go.Loom
set_option maxRecDepth 100000
theorem exA_sem : FnSem Tryd.prog 55 [] [] (slI 0 5) [obI [1, 2, 0, 4, 3]] := by
 refine fnSem_at (live := []) gamOk_nil Tryd.func55 (by kernel_rfl) (keep := 0) rfl (by kernel_rfl) 100 ?_
 refine of_eq (q := packV [V.c (W.sl 0 0 5 1)] = slI (0:Nat) (5:Nat) ∧ [obI [(1:Int), (2:Int), (0:Int), (4:Int), (3:Int)]] = [obI [(1:Int), (2:Int), (0:Int), (4:Int), (3:Int)]]) (by kernel_rfl) ?_
 try simp only [and_true]
 rfl
def cExA : Con := con0 (.t, slI 0 5, [obI [1, 2, 0, 4, 3]])
theorem cExA_ok : ConOk Tryd.prog 55 cExA := con0_ok (by kernel_rfl) fun _ => exA_sem
theorem exB_sem : FnSem Tryd.prog 54 [] [] (slI 0 5) [obI [0, 1, 2, 4, 3]] := by
 refine fnSem_at (live := []) gamOk_nil Tryd.func54 (by kernel_rfl) (keep := 0) rfl (by kernel_rfl) 100 ?_
 refine of_eq (q := packV [V.c (W.sl 0 0 5 1)] = slI (0:Nat) (5:Nat) ∧ [obI [(0:Int), (1:Int), (2:Int), (4:Int), (3:Int)]] = [obI [(0:Int), (1:Int), (2:Int), (4:Int), (3:Int)]]) (by kernel_rfl) ?_
 try simp only [and_true]
 rfl
def cExB : Con := con0 (.t, slI 0 5, [obI [0, 1, 2, 4, 3]])
theorem cExB_ok : ConOk Tryd.prog 54 cExB := con0_ok (by kernel_rfl) fun _ => exB_sem
noncomputable def gIs : Gam := [(16, cSame)]
theorem gIs_ok : GamOk Tryd.prog gIs := gamOk_cons cSame_ok gamOk_nil
theorem is_sem (p : List Int) (e : Int) (w : List Int) (h : p.length ≤ 1000000) : FnSem Tryd.prog 56 [lsI p, nI e, lsI w] [] (bB (decide (e = 0) && decide (p = w))) [] := by
 refine fnSem_at (live := []) gIs_ok Tryd.func56 (by kernel_rfl) (keep := 0) rfl (by kernel_rfl) 100 ?_
 refine of_eq (q := let q1 := decide (e = (0:Int)); (q1 = true → q1 = true) ∧ (q1 = true → q1 = true) ∧ (q1 = true → p.length ≤ (1000000000:Nat)) ∧ (q1 = true → q1 = true) ∧ packV [V.c (W.bool (bif q1 then decide (p = w) else false))] = bB (q1 && decide (p = w)) ∧ ([] : List Ob) = []) (by kernel_rfl) ?_
 try simp only [imp_self, true_and, and_true, Bool.cond_false_right, decide_eq_true_eq]
 exact ⟨fun _ => by omega, rfl⟩
def cIs : Con := con3 dI (.int .i64) dI fun p e w => (.p (List.length (α := Int) p ≤ 1000000), bB (decide ((show Int from e) = 0) && decide ((show List Int from p) = w)), [])
theorem cIs_ok : ConOk Tryd.prog 56 cIs := con3_ok (by kernel_rfl) fun p e w h => is_sem p e w h
def cMulC : Con := con2 dI dI fun a b => (.t, prE (mulR a b) (firstE [a, b]), [obI (mulR a b)])
theorem cMulC_ok : ConOk Tryd.prog 14 cMulC := con2_ok (by kernel_rfl) fun a b _ => Mul_sem a b
def txtV (a : List Int) : A := txt (if checkE a = 0 then txR (rA (cycN a)) else ⟨#[]⟩) (checkE a)
def cTx : Con := con1 dI fun a => (.t, txtV a, [])
theorem cTx_ok : ConOk Tryd.prog 22 cTx := con1_ok (by kernel_rfl) fun a _ => ptxt_sem a
noncomputable def gLv : Gam := [(55, cExA), (54, cExB), (56, cIs), (14, cMulC), (45, cOrd), (22, cTx)]
theorem gLv_ok : GamOk Tryd.prog gLv := gamOk_cons cExA_ok (gamOk_cons cExB_ok (gamOk_cons cIs_ok (gamOk_cons cMulC_ok (gamOk_cons cOrd_ok (gamOk_cons cTx_ok gamOk_nil)))))
theorem lives_sem : FnSem Tryd.prog 11 [] [] (bB true) [] := by
 refine fnSem_at (live := []) gLv_ok Tryd.func11 (by kernel_rfl) (keep := 0) rfl (by kernel_rfl) 100 ?_
 refine of_eq (q := let q2 := (List.drop (0:Nat) [(1:Int), (2:Int), (0:Int), (4:Int), (3:Int)]); let q7 := (5:Nat); let q1 := decide (List.take q7 (List.drop (0:Nat) (mulR (List.take q7 q2) (List.take q7 (List.drop (0:Nat) [(0:Int), (1:Int), (2:Int), (4:Int), (3:Int)])))) = List.take q7 (List.drop (0:Nat) [(1:Int), (2:Int), (0:Int), (3:Int), (4:Int)])); let q3 := decide (firstE [List.take q7 q2, List.take q7 (List.drop (0:Nat) [(0:Int), (1:Int), (2:Int), (4:Int), (3:Int)])] = (0:Int)); let q4 := decide ((if checkE (List.take q7 q2) = (0:Int) then (↑(6:Nat) : Int) else (0:Int)) = (6:Int)); let q5 := decide ((if checkE (List.take q7 q2) = (0:Int) then txR (rA (cycN (List.take q7 q2))) else ByteArray.mk #[]) = ByteArray.mk #[(40 : UInt8), (48 : UInt8), (32 : UInt8), (49 : UInt8), (32 : UInt8), (50 : UInt8), (41 : UInt8), (40 : UInt8), (51 : UInt8), (32 : UInt8), (52 : UInt8), (41 : UInt8)]); let q6 := decide (checkE (List.take q7 q2) = (0:Int)); (0:Nat) + q7 ≤ q7 ∧ (0:Nat) + q7 ≤ q7 ∧ (0:Nat) + q7 ≤ q7 ∧ (0:Nat) + q7 ≤ q7 ∧ (0:Nat) + q7 ≤ q7 ∧ (0:Nat) + q7 ≤ q7 ∧ q7 ≤ (1000000:Nat) ∧ ((q3 && q1) = true → (q3 && q1) = true) ∧ ((q3 && q1) = true → (q3 && q1) = true) ∧ ((bif q3 && q1 then q4 else false) = true → (bif q3 && q1 then q4 else false) = true) ∧ ((bif q3 && q1 then q4 else false) = true → (bif q3 && q1 then q4 else false) = true) ∧ ((bif bif q3 && q1 then q4 else false then q6 else false) = true → (bif bif q3 && q1 then q4 else false then q6 else false) = true) ∧ ((bif bif q3 && q1 then q4 else false then q6 else false) = true → (bif bif q3 && q1 then q4 else false then q6 else false) = true) ∧ ((bif bif bif q3 && q1 then q4 else false then q6 else false then q5 else false) = true → (bif bif bif q3 && q1 then q4 else false then q6 else false then q5 else false) = true) ∧ ((bif bif bif q3 && q1 then q4 else false then q6 else false then q5 else false) = true → (bif bif bif q3 && q1 then q4 else false then q6 else false then q5 else false) = true) ∧ packV [V.c (W.bool (bif bif bif bif q3 && q1 then q4 else false then q6 else false then q5 else false then q6 else false))] = bB true ∧ ([] : List Ob) = []) (by kernel_rfl) ?_
 try simp only [imp_self, true_and, and_true, Nat.zero_add, Bool.cond_false_right, Bool.and_eq_true, decide_eq_true_eq, List.drop_zero, List.take_succ_cons, List.take_zero, Nat.le_refl]
 exact ⟨by omega, by kernel_rfl⟩
def cLives : Con := con0 (.t, bB true, [])
theorem cLives_ok : ConOk Tryd.prog 11 cLives := con0_ok (by kernel_rfl) fun _ => lives_sem
end Go.Proofs.YtbgfpacjoneaeaaDoor
