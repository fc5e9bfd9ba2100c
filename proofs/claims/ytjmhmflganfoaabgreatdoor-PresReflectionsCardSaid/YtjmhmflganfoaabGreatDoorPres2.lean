/- Presentations: powers as the library makes them; triangle groups. -/
import Derived.Test.YtjmhmflganfoaabGreatDoorPres1
namespace Go.Proofs.YtjmhmflganfoaabGreatDoor
open Go.Loom
set_option maxRecDepth 100000
theorem wrapU64 {n : Int} (h1 : 0 ≤ n) (h2 : n < 18446744073709551616) : IntKind.u64.wrap n = n := by
  simp only [IntKind.wrap, IntKind.bits, IntKind.signed]; simp; omega
theorem msk32 {n : Int} (h1 : 0 ≤ n) (h2 : n < 4294967296) : ((BitVec.ofInt 64 n &&& BitVec.ofInt 64 4294967295).toNat : Int) = n := by
  obtain ⟨m, rfl⟩ : ∃ m : Nat, n = m := ⟨n.toNat, by omega⟩
  have e : (BitVec.ofInt 64 (m : Int) &&& BitVec.ofInt 64 4294967295).toNat = m &&& (2 ^ 32 - 1) := by
    rw [BitVec.toNat_and]
    simp only [BitVec.toNat_ofInt]
    congr 1
    omega
  rw [e, Nat.and_two_pow_sub_one_eq_mod]
  omega
theorem mul64_sem (x y : Int) (h : (0 ≤ x ∧ x < 1073741824) ∧ 0 ≤ y ∧ y < 1073741824) : FnSem Tryz.prog 90 [uI x, uI y] [] (.tup [.c (.int .u64 0), .c (.int .u64 (x * y))]) [] := by
  refine fnSem_at (live := []) gamOk_nil Tryz.func90 (by kernel_rfl) (keep := 0) rfl (by kernel_rfl) 100 ?_
  refine of_eq (q :=
      (0 : Int) ≤ (32 : Int) ∧ (0 : Int) ≤ (32 : Int) ∧ (0 : Int) ≤ (32 : Int) ∧ (0 : Int) ≤ (32 : Int) ∧ (0 : Int) ≤ (32 : Int) ∧ packV [V.c (W.int IntKind.u64 (IntKind.u64.wrap (IntKind.u64.wrap (IntKind.u64.wrap (x.fdiv ((2 : Int) ^ (32 : Nat)) * y.fdiv ((2 : Int) ^ (32 : Nat))) + (IntKind.u64.wrap (IntKind.u64.wrap (x.fdiv ((2 : Int) ^ (32 : Nat)) * IntKind.u64.wrap (↑(BitVec.ofInt (64 : Nat) y &&&
      BitVec.ofInt (64 : Nat) (4294967295 : Int)).toNat : Int)) + (IntKind.u64.wrap (IntKind.u64.wrap (↑(BitVec.ofInt (64 : Nat) x &&& BitVec.ofInt (64 : Nat) (4294967295 : Int)).toNat : Int) * IntKind.u64.wrap (↑(BitVec.ofInt (64 : Nat) y &&& BitVec.ofInt (64 : Nat) (4294967295 : Int)).toNat : Int))).fdiv ((2 : Int) ^ (32 : Nat)))).fdiv ((2 : Int) ^ (32 : Nat))) + (IntKind.u64.wrap (IntKind.u64.wrap
      (↑(BitVec.ofInt (64 : Nat) (IntKind.u64.wrap (IntKind.u64.wrap (x.fdiv ((2 : Int) ^ (32 : Nat)) * IntKind.u64.wrap (↑(BitVec.ofInt (64 : Nat) y &&& BitVec.ofInt (64 : Nat) (4294967295 : Int)).toNat : Int)) + (IntKind.u64.wrap (IntKind.u64.wrap (↑(BitVec.ofInt (64 : Nat) x &&& BitVec.ofInt (64 : Nat) (4294967295 : Int)).toNat : Int) * IntKind.u64.wrap (↑(BitVec.ofInt (64 : Nat) y &&& BitVec.ofInt
      (64 : Nat) (4294967295 : Int)).toNat : Int))).fdiv ((2 : Int) ^ (32 : Nat)))) &&& BitVec.ofInt (64 : Nat) (4294967295 : Int)).toNat : Int) + IntKind.u64.wrap (IntKind.u64.wrap (↑(BitVec.ofInt (64 : Nat) x &&& BitVec.ofInt (64 : Nat) (4294967295 : Int)).toNat : Int) * y.fdiv ((2 : Int) ^ (32 : Nat))))).fdiv ((2 : Int) ^ (32 : Nat))))), V.c (W.int IntKind.u64 (IntKind.u64.wrap (x * y)))] = A.tup
      [V.c (W.int IntKind.u64 (0 : Int)), V.c (W.int IntKind.u64 (x * y))] ∧ ([] : List Ob) = []) (by kernel_rfl) ?_
  try simp only [and_true]
  obtain ⟨⟨h1, h2⟩, h3, h4⟩ := h
  have hp0 : 0 ≤ x * y := Int.mul_nonneg h1 h3
  have hp1 : x * y ≤ 1073741824 * 1073741824 := Int.mul_le_mul (by omega) (by omega) h3 (by omega)
  have dx : x.fdiv (2 ^ 32) = 0 := by rw [Int.fdiv_eq_ediv_of_nonneg _ (by omega)]; omega
  have dy : y.fdiv (2 ^ 32) = 0 := by rw [Int.fdiv_eq_ediv_of_nonneg _ (by omega)]; omega
  have w0 : IntKind.u64.wrap 0 = 0 := wrapU64 (by omega) (by omega)
  have wx : IntKind.u64.wrap x = x := wrapU64 (by omega) (by omega)
  have wy : IntKind.u64.wrap y = y := wrapU64 (by omega) (by omega)
  have wp : IntKind.u64.wrap (x * y) = x * y := wrapU64 hp0 (by omega)
  have dp : 0 ≤ (x * y).fdiv (2 ^ 32) ∧ (x * y).fdiv (2 ^ 32) < 4294967296 := by rw [Int.fdiv_eq_ediv_of_nonneg _ (by omega)]; omega
  have wd : IntKind.u64.wrap ((x * y).fdiv (2 ^ 32)) = (x * y).fdiv (2 ^ 32) := wrapU64 dp.1 (by omega)
  have dd : ((x * y).fdiv (2 ^ 32)).fdiv (2 ^ 32) = 0 := by rw [Int.fdiv_eq_ediv_of_nonneg (a := (x * y).fdiv (2 ^ 32)) (by omega)]; omega
  simp only [msk32 (n := x) h1 (by omega), msk32 (n := y) h3 (by omega), dx, dy, wx, wy, wp, Int.zero_mul, Int.mul_zero, w0, Int.zero_add, Int.add_zero, wd, dd, msk32 dp.1 dp.2]
  refine ⟨by omega, by omega, by omega, by omega, by omega, rfl⟩
def cMul64 : Con := con2 (.int .u64) (.int .u64) fun x y => (.p ((0 ≤ (show Int from x) ∧ (show Int from x) < 1073741824) ∧ 0 ≤ (show Int from y) ∧ (show Int from y) < 1073741824), .tup [.c (.int .u64 0), .c (.int .u64 ((show Int from x) * (show Int from y)))], [])
theorem cMul64_ok : ConOk Tryz.prog 90 cMul64 := con2_ok (by kernel_rfl) fun x y h => mul64_sem x y h
noncomputable def gBm : Gam := [(90, cMul64)]
theorem gBm_ok : GamOk Tryz.prog gBm := gamOk_cons cMul64_ok gamOk_nil
theorem bmul_sem (x y : Int) (h : (0 ≤ x ∧ x < 1073741824) ∧ 0 ≤ y ∧ y < 1073741824) : FnSem Tryz.prog 68 [uI x, uI y] [] (.tup [.c (.int .u64 0), .c (.int .u64 (x * y))]) [] := by
  refine fnSem_at (live := []) gBm_ok Tryz.func68 (by kernel_rfl) (keep := 0) rfl (by kernel_rfl) 100 ?_
  refine of_eq (q :=
      (((0 : Int) ≤ x ∧ x < (1073741824 : Int)) ∧ (0 : Int) ≤ y ∧ y < (1073741824 : Int)) ∧ packV [V.c (W.int IntKind.u64 (0 : Int)), V.c (W.int IntKind.u64 (x * y))] = A.tup [V.c (W.int IntKind.u64 (0 : Int)), V.c (W.int IntKind.u64 (x * y))] ∧ ([] : List Ob) = []) (by kernel_rfl) ?_
  try simp only [and_true]
  exact ⟨h, rfl⟩
def cBm : Con := con2 (.int .u64) (.int .u64) fun x y => (.p ((0 ≤ (show Int from x) ∧ (show Int from x) < 1073741824) ∧ 0 ≤ (show Int from y) ∧ (show Int from y) < 1073741824), .tup [.c (.int .u64 0), .c (.int .u64 ((show Int from x) * (show Int from y)))], [])
theorem cBm_ok : ConOk Tryz.prog 68 cBm := con2_ok (by kernel_rfl) fun x y h => bmul_sem x y h
noncomputable def gRep : Gam := [(68, cBm)]
theorem gRep_ok : GamOk Tryz.prog gRep := gamOk_cons cBm_ok gamOk_nil
abbrev pcR : List Nat := [0, 1, 1, 1, 1, 1, 1]
noncomputable def sRep : Site := mkSiteF Tryz.prog gRep Tryz.f41 0 [([0, 0, 1, 1, 1, 1, 1, 1], [7, 8])] [] [some dI]
theorem pw_take (x : List Int) {m k : Nat} (h : k ≤ m) : (pw x m).take (k * x.length) = pw x k := by
  obtain ⟨j, rfl⟩ : ∃ j, m = k + j := ⟨m - k, by omega⟩
  rw [pw_add, ← pw_length x k, List.take_left]
theorem rep_loop (x : List Int) (c : Nat) (hL : c * x.length ≤ 1000000) : ∀ (k m : Nat) (l : List Int), k = c - m → (0 < m ∨ c = 0) → m ≤ c → l.length = c * x.length → l.take (m * x.length) = pw x m →
    AtLoop sRep (Says1 (lsI (pw x c)) []) [0, 0, 1, 1, 1, 1, 1, 1] (fr [(7, slI 0 (c * x.length)), (8, nI ((m * x.length : Nat) : Int))]) (.ofList [obI l])
  | k, m, l, hk, hm, hmc, hl, hr => by
    refine atLoop_at gRep_ok (by kernel_rfl) 100 ?_
    refine of_eq (q :=
        (decide ((↑(m * x.length) : Int) < (↑(c * x.length) : Int)) = true → ((0 : Int) ≤ (↑(m * x.length) : Int) ∧ (↑(m * x.length) : Int) ≤ (↑(c * x.length) : Int) ∧ (↑(c * x.length) : Int) ≤ (↑(c * x.length) : Int)) ∧ ((0 : Int) ≤ (0 : Int) ∧ (0 : Int) ≤ (↑(m * x.length) : Int) ∧ (↑(m * x.length) : Int) ≤ (↑(c * x.length) : Int)) ∧ (0 : Nat) + (0 : Nat) * (1 : Nat) + ((↑(m * x.length) : Int) - (0 :
        Int)).toNat ≤ l.length ∧ (0 : Nat) + m * x.length * (1 : Nat) + ((↑(c * x.length) : Int) - (↑(m * x.length) : Int)).toNat ≤ l.length ∧ AtLoop sRep (Says1 (lsI (pw x c)) []) [(0 : Nat), (0 : Nat), (1 : Nat), (1 : Nat), (1 : Nat), (1 : Nat), (1 : Nat), (1 : Nat)] (fr [((7 : Nat), A.p (V.c (W.sl (0 : Nat) (0 : Nat) (c * x.length) (1 : Nat)))), ((8 : Nat), A.p (V.c (W.int IntKind.i64 (IntKind.i64.wrap
        ((↑(m * x.length) : Int) + (↑((List.take ((↑(m * x.length) : Int) - (0 : Int)).toNat (List.drop ((0 : Nat) + (0 : Nat) * (1 : Nat)) l)).length.min ((↑(c * x.length) : Int) - (↑(m * x.length) : Int)).toNat) : Int))))))]) (Sto.ofList [Ob.mk (3 : Nat) [Fd.a (0 : Nat) (D.int IntKind.i64) (spl l ((0 : Nat) + m * x.length * (1 : Nat)) (List.take ((↑(c * x.length) : Int) - (↑(m * x.length) : Int)).toNat
        (List.take ((↑(m * x.length) : Int) - (0 : Int)).toNat (List.drop ((0 : Nat) + (0 : Nat) * (1 : Nat)) l))))]])) ∧ (decide ((↑(m * x.length) : Int) < (↑(c * x.length) : Int)) = false → (0 : Nat) + c * x.length ≤ l.length ∧ packV [V.c (W.rd (D.int IntKind.i64) (List.take (c * x.length) (List.drop (0 : Nat) l)))] = lsI (pw x c) ∧ ([] : List Ob) = [])) (by kernel_rfl) ?_
    try simp only [true_and, and_true, Nat.zero_add, Nat.mul_one, decide_eq_true_eq, decide_eq_false_iff_not, Int.not_lt, List.drop_zero, Int.le_refl]
    have hnL : m * x.length ≤ c * x.length := Nat.mul_le_mul_right _ hmc
    have hpl : (pw x m).length = m * x.length := pw_length x m
    generalize hn : m * x.length = n at *
    generalize hLL : c * x.length = L at *
    rw [show ((n : Int) - 0).toNat = n by omega, show ((L : Int) - n).toNat = L - n by omega, hr, hpl]
    refine ⟨fun h => ⟨by omega, by omega, by omega, by omega, ?_⟩, fun h => ⟨by omega, ?_⟩⟩
    · have hne : m < c := by
        rcases Nat.lt_or_ge m c with h1 | h1
        · exact h1
        · have : m = c := by omega
          subst this; omega
      rw [wrap64 (n := (n : Int) + ((n.min (L - n) : Nat) : Int)) (by omega) (by have := Nat.min_le_right n (L - n); simp only [Nat.min_def] at *; split <;> omega)]
      have hsl : ∀ q : List Int, q.length ≤ L - n → (spl l n q).length = L ∧ (spl l n q).take (n + q.length) = pw x m ++ q := by
        intro q hq
        have e : spl l n q = (pw x m ++ q) ++ l.drop (n + q.length) := by rw [spl, hr]
        refine ⟨by rw [e]; simp [hpl]; omega, ?_⟩
        rw [e, show n + q.length = (pw x m ++ q).length by simp [hpl], List.take_left]
      cases k with
      | zero => omega
      | succ k =>
        rcases Nat.lt_or_ge c (2 * m) with h2 | h2
        · have h3 : L - n = (c - m) * x.length := by rw [Nat.sub_mul, hn, hLL]
          have h4 : L - n ≤ n := by rw [h3, ← hn]; exact Nat.mul_le_mul_right _ (by omega)
          have e1 : n.min (L - n) = L - n := Nat.min_eq_right h4
          have e2 : List.take (L - n) (pw x m) = pw x (c - m) := by rw [h3]; exact pw_take x (by omega)
          have e3 : (pw x (c - m)).length = L - n := by rw [pw_length, h3]
          obtain ⟨g1, g2⟩ := hsl (pw x (c - m)) (by omega)
          have := rep_loop x c (by omega) 0 c (spl l n (pw x (c - m))) (by omega) (by omega) (by omega) (by omega) (by
            rw [hLL, show L = n + (pw x (c - m)).length by omega, g2, ← pw_add]; congr 1; omega)
          rw [e1, e2, show ((n : Int) + ((L - n : Nat) : Int)) = ((L : Nat) : Int) by omega]
          rw [hLL] at this
          exact this
        · have h3 : 2 * m * x.length ≤ L := by rw [← hLL]; exact Nat.mul_le_mul_right _ h2
          have h4 : 2 * m * x.length = n + n := by rw [Nat.mul_assoc, hn]; omega
          have e1 : n.min (L - n) = n := Nat.min_eq_left (by omega)
          have e2 : List.take (L - n) (pw x m) = pw x m := List.take_of_length_le (by omega)
          obtain ⟨g1, g2⟩ := hsl (pw x m) (by omega)
          have := rep_loop x c (by omega) (c - 2 * m) (2 * m) (spl l n (pw x m)) (by omega) (by omega) (by omega) (by omega) (by
            rw [h4, show n + n = n + (pw x m).length by omega, g2, ← pw_add]; congr 1; omega)
          rw [e1, e2, show ((n : Int) + ((n : Nat) : Int)) = ((n + n : Nat) : Int) by omega]
          rw [hLL, h4] at this
          exact this
    · have hmc' : n = L := by omega
      have : m = c ∨ x.length = 0 := by
        rcases Nat.lt_or_ge m c with h1 | h1
        · right
          have := Nat.mul_le_mul_right x.length (show m + 1 ≤ c by omega)
          rw [Nat.succ_mul] at this; omega
        · left; omega
      rw [show List.take L l = pw x c from ?_]; rfl
      rcases this with rfl | h0
      · rw [← hmc']; exact hr
      · have : (pw x c).length = 0 := by rw [pw_length, h0]; simp
        rw [List.eq_nil_of_length_eq_zero this]
        rw [h0, Nat.mul_zero] at hLL
        rw [← hLL]; rfl
  termination_by k => k
theorem repeat_sem (x : List Int) (n : Int) (h : 0 ≤ n ∧ n ≤ 100000 ∧ x.length ≤ 100000 ∧ n.toNat * x.length ≤ 1000000) : FnSem Tryz.prog 41 [lsI x, nI n] [] (lsI (pw x n.toNat)) [] := by
  refine fnSemF_at (live := [([0, 0, 1, 1, 1, 1, 1, 1], [7, 8])]) (fzl := []) (fz := [some dI]) gRep_ok Tryz.func41 (by kernel_rfl) (keep := 0) rfl (by kernel_rfl) 100 ?_
  refine of_eq (q :=
      (decide (n < (0 : Int)) = true → False) ∧ (decide (n < (0 : Int)) = false → (((0 : Int) ≤ IntKind.u64.wrap (↑x.length : Int) ∧ IntKind.u64.wrap (↑x.length : Int) < (1073741824 : Int)) ∧ (0 : Int) ≤ IntKind.u64.wrap n ∧ IntKind.u64.wrap n < (1073741824 : Int)) ∧ (decide ((0 : Int) < (0 : Int)) = false → decide ((0 : Int) < (0 : Int)) = false) ∧ (decide ((0 : Int) < (0 : Int)) = false → decide ((0 :
      Int) < (0 : Int)) = false) ∧ ((bif decide ((0 : Int) < (0 : Int)) then true else decide ((9223372036854775807 : Int) < IntKind.u64.wrap (↑x.length : Int) * IntKind.u64.wrap n)) = true → False) ∧ ((bif decide ((0 : Int) < (0 : Int)) then true else decide ((9223372036854775807 : Int) < IntKind.u64.wrap (↑x.length : Int) * IntKind.u64.wrap n)) = false → ((0 : Int) ≤ IntKind.i64.wrap (IntKind.u64.wrap
      (↑x.length : Int) * IntKind.u64.wrap n) ∧ IntKind.i64.wrap (IntKind.u64.wrap (↑x.length : Int) * IntKind.u64.wrap n) ≤ IntKind.i64.wrap (IntKind.u64.wrap (↑x.length : Int) * IntKind.u64.wrap n) ∧ (↑(8 : Nat) : Int) * IntKind.i64.wrap (IntKind.u64.wrap (↑x.length : Int) * IntKind.u64.wrap n) ≤ (140737488355328 : Int)) ∧ (0 : Nat) + (IntKind.i64.wrap (IntKind.u64.wrap (↑x.length : Int) *
      IntKind.u64.wrap n)).toNat ≤ (List.replicate (IntKind.i64.wrap (IntKind.u64.wrap (↑x.length : Int) * IntKind.u64.wrap n)).toNat (0 : Int)).length ∧ AtLoop (mkSiteF Tryz.prog gRep Tryz.f41 (0 : Nat) [([(0 : Nat), (0 : Nat), (1 : Nat), (1 : Nat), (1 : Nat), (1 : Nat), (1 : Nat), (1 : Nat)], [(7 : Nat), (8 : Nat)])] [] [some dI]) (Says1 (lsI (pw x n.toNat)) []) [(0 : Nat), (0 : Nat), (1 : Nat), (1 :
      Nat), (1 : Nat), (1 : Nat), (1 : Nat), (1 : Nat)] (fr [((7 : Nat), A.p (V.c (W.sl (0 : Nat) (0 : Nat) (IntKind.i64.wrap (IntKind.u64.wrap (↑x.length : Int) * IntKind.u64.wrap n)).toNat (1 : Nat)))), ((8 : Nat), A.p (V.c (W.int IntKind.i64 (↑(x.length.min (IntKind.i64.wrap (IntKind.u64.wrap (↑x.length : Int) * IntKind.u64.wrap n)).toNat) : Int))))]) (Sto.ofList [Ob.mk (3 : Nat) [Fd.a (0 : Nat)
      (D.int IntKind.i64) (spl (List.replicate (IntKind.i64.wrap (IntKind.u64.wrap (↑x.length : Int) * IntKind.u64.wrap n)).toNat (0 : Int)) (0 : Nat) (List.take (IntKind.i64.wrap (IntKind.u64.wrap (↑x.length : Int) * IntKind.u64.wrap n)).toNat x))]])))) (by kernel_rfl) ?_
  try simp only [imp_self, true_and, Nat.zero_add, Bool.cond_true_left, Bool.or_eq_true, Bool.or_eq_false_iff, decide_eq_true_eq, decide_eq_false_iff_not, Int.not_lt, Int.le_refl]
  obtain ⟨c, rfl⟩ : ∃ c : Nat, n = c := ⟨n.toNat, by omega⟩
  obtain ⟨h1, h2, h3, h4⟩ := h
  rw [Int.toNat_natCast] at h4
  have e1 : IntKind.u64.wrap (x.length : Int) = x.length := wrapU64 (by omega) (by omega)
  have e2 : IntKind.u64.wrap (c : Int) = c := wrapU64 (by omega) (by omega)
  have e3 : (x.length : Int) * (c : Int) = ((c * x.length : Nat) : Int) := by rw [Nat.mul_comm, Int.natCast_mul]
  rw [e1, e2, e3]
  have e4 : IntKind.i64.wrap ((c * x.length : Nat) : Int) = ((c * x.length : Nat) : Int) := wrap64 (by omega) (by omega)
  rw [e4, Int.toNat_natCast]
  refine ⟨fun g => by omega, fun _ => ⟨⟨by omega, by omega⟩, fun g => by omega, fun _ => ⟨by omega, by simp, ?_⟩⟩⟩
  cases c with
  | zero =>
    have := rep_loop x 0 (by omega) 0 0 (spl (List.replicate (0 * x.length) 0) 0 (List.take (0 * x.length) x)) rfl (.inr rfl) (by omega) (by simp [spl]) (by simp [pw])
    rw [show x.length.min (0 * x.length) = 0 * x.length by simp]
    exact this
  | succ c =>
    have hl : x.length ≤ (c + 1) * x.length := by rw [Nat.succ_mul]; omega
    have e5 : List.take ((c + 1) * x.length) x = x := List.take_of_length_le hl
    have e6 : x.length.min ((c + 1) * x.length) = x.length := Nat.min_eq_left hl
    rw [e5, e6]
    have := rep_loop x (c + 1) (by omega) (c + 1 - 1) 1 (spl (List.replicate ((c + 1) * x.length) 0) 0 x) rfl (by omega) (by omega) (by simp [spl]; omega) (by
      rw [Nat.one_mul, spl]; simp [pw])
    rw [Nat.one_mul] at this
    exact this
def cRep : Con := con2 dI (.int .i64) fun x n => (.p (0 ≤ (show Int from n) ∧ (show Int from n) ≤ 100000 ∧ List.length (α := Int) x ≤ 100000 ∧ (show Int from n).toNat * List.length (α := Int) x ≤ 1000000), lsI (pw x (show Int from n).toNat), [])
theorem cRep_ok : ConOk Tryz.prog 41 cRep := con2_ok (by kernel_rfl) fun x n h => repeat_sem x n h
noncomputable def gTr : Gam := [(41, cRep)]
theorem gTr_ok : GamOk Tryz.prog gTr := gamOk_cons cRep_ok gamOk_nil
/-- The triangle group's presentation, and the error. -/
def triR (l m n : Int) : (Int × List (List Int)) × Int := if min (min l m) n < 1 ∨ 1000 < max (max l m) n then ((0, []), 2) else ((2, [pw [1] l.toNat, pw [2] m.toNat, pw [1, 2] n.toNat]), 0)
abbrev prR (x : (Int × List (List Int)) × Int) : A := .tup [prV x.1.1 x.1.2, .c (.int .i64 x.2)]
theorem tri_sem (l m n : Int) : FnSem Tryz.prog 21 [nI l, nI m, nI n] [] (prR (triR l m n)) [] := by
  refine fnSemF_at (live := []) (fzl := []) (fz := [some dL, none]) gTr_ok Tryz.func21 (by kernel_rfl) (keep := 0) rfl (by kernel_rfl) 100 ?_
  refine of_eq (q :=
      (decide (min (min l m) n < (1 : Int)) = false → decide (min (min l m) n < (1 : Int)) = false) ∧ (decide (min (min l m) n < (1 : Int)) = false → decide (min (min l m) n < (1 : Int)) = false) ∧ (decide (min (min l m) n < (1 : Int)) = false → decide (min (min l m) n < (1 : Int)) = false) ∧ (decide (min (min l m) n < (1 : Int)) = false → decide (min (min l m) n < (1 : Int)) = false) ∧ (decide (min
      (min l m) n < (1 : Int)) = false → decide (min (min l m) n < (1 : Int)) = false) ∧ ((bif decide (min (min l m) n < (1 : Int)) then true else decide ((1000 : Int) < max (max l m) n)) = true → packV [V.agg [W.int IntKind.i64 (0 : Int), W.rd (D.int IntKind.i64).sl []], V.c (W.int IntKind.i64 (2 : Int))] = prR (triR l m n) ∧ ([] : List Ob) = []) ∧ ((bif decide (min (min l m) n < (1 : Int)) then true
      else decide ((1000 : Int) < max (max l m) n)) = false → (0 : Nat) + (1 : Nat) ≤ (1 : Nat) ∧ ((0 : Int) ≤ l ∧ l ≤ (100000 : Int) ∧ (1 : Nat) ≤ (100000 : Nat) ∧ l.toNat * (1 : Nat) ≤ (1000000 : Nat)) ∧ (0 : Nat) + (1 : Nat) ≤ (1 : Nat) ∧ ((0 : Int) ≤ m ∧ m ≤ (100000 : Int) ∧ (1 : Nat) ≤ (100000 : Nat) ∧ m.toNat * (1 : Nat) ≤ (1000000 : Nat)) ∧ (0 : Nat) + (2 : Nat) ≤ (2 : Nat) ∧ ((0 : Int) ≤ n ∧ n ≤
      (100000 : Int) ∧ (2 : Nat) ≤ (100000 : Nat) ∧ n.toNat * (2 : Nat) ≤ (1000000 : Nat)) ∧ (0 : Nat) + (3 : Nat) ≤ (3 : Nat) ∧ packV [V.agg [W.int IntKind.i64 (2 : Int), W.rd (D.int IntKind.i64).sl (List.take (3 : Nat) (List.drop (0 : Nat) [pw (List.take (1 : Nat) (List.drop (0 : Nat) [(1 : Int)])) l.toNat, pw (List.take (1 : Nat) (List.drop (0 : Nat) [(2 : Int)])) m.toNat, pw (List.take (2 : Nat)
      (List.drop (0 : Nat) [(1 : Int), (2 : Int)])) n.toNat]))], V.c (W.int IntKind.i64 (0 : Int))] = prR (triR l m n) ∧ ([] : List Ob) = [])) (by kernel_rfl) ?_
  try simp only [imp_self, true_and, and_true, Nat.zero_add, Nat.mul_one, Bool.cond_true_left, Bool.or_eq_true, Bool.or_eq_false_iff, decide_eq_true_eq, decide_eq_false_iff_not, Int.not_lt, List.drop_zero, List.take_succ_cons, List.take_zero, Nat.le_refl]
  refine ⟨fun h => ?_, fun h => ⟨by omega, by omega, by omega, ?_⟩⟩
  · rw [triR, if_pos h]; rfl
  · rw [triR, if_neg (by omega)]; rfl
def cTri : Con := con3 (.int .i64) (.int .i64) (.int .i64) fun l m n => (.t, prR (triR l m n), [])
theorem cTri_ok : ConOk Tryz.prog 21 cTri := con3_ok (by kernel_rfl) fun l m n _ => tri_sem l m n
def cRTri : Con := con3 (.int .i64) (.int .i64) (.int .i64) fun l m n => (.t, prR (triR l m n), [])
end Go.Proofs.YtjmhmflganfoaabGreatDoor

namespace Go.Proofs.YtjmhmflganfoaabGreatDoor
open Go.Loom
set_option maxRecDepth 100000
abbrev dQ : D := .sl (.int .i64)
abbrev obM (m : List (List Int)) : Ob := ⟨48, [.c (.rd (.sl (.int .i64)) m)]⟩
abbrev fnM : A := .p (.c (.func 40 [(0, 0)]))
def badR (k : Nat) (x : List Int) : Bool := !decide ((x.length : Int) = (k : Int))
theorem closM_sem (x : List Int) (m : List (List Int)) : FnSem Tryz.prog 40 [lsI x, .p (.c (.ptr 0 0))] [obM m] (bB (badR m.length x)) [obM m] := by
  refine fnSem_at (live := []) gamOk_nil Tryz.func40 (by kernel_rfl) (keep := 1) rfl (by kernel_rfl) 100 ?_
  refine of_eq (q :=
      packV [V.c (W.bool !decide ((↑x.length : Int) = (↑m.length : Int)))] = bB (badR m.length x) ∧ [Ob.mk (48 : TypeId) [Fd.c (W.rd (D.int IntKind.i64).sl m)]] = [obM m]) (by kernel_rfl) ?_
  try simp only [and_true]
  rfl
def cClosM : Con := { refs := [false, true], f := fun args objs => match args, objs with | [x, .p (.c (.ptr 0 0))], [⟨t, [.c (.rd (.sl (.int .i64)) m)]⟩] => (bif Nat.beq t 48 then (match asD dQ x with | some w => some (.t, bB (badR (List.length m) w), [obM m]) | none => none) else none) | _, _ => none }
theorem cClosM_ok : ConOk Tryz.prog 40 cClosM := by
  refine ⟨by kernel_rfl, fun args objs c r objs' e hc => ?_⟩
  simp only [cClosM] at e
  split at e
  · rename_i x t m
    obtain ⟨ht, e⟩ := Mill.bif_some e
    have ht := Nat.eq_of_beq_eq_true ht
    subst ht
    split at e
    · rename_i w hw
      cases e
      exact (closM_sem w m).args fun η Z vs h => by
        cases vs with
        | nil => exact h.elim
        | cons v vs => exact ⟨asD_rel hw h.1, h.2⟩
    · cases e
  · cases e
noncomputable def gIM : Gam := [(40, cClosM)]
theorem gIM_ok : GamOk Tryz.prog gIM := gamOk_cons cClosM_ok gamOk_nil
noncomputable def sIM : Site := mkSite Tryz.prog gIM Tryz.f67 1 [([0, 1, 0, 1], [0, 1, 7, 8])]
def ixR (k : Nat) : List (List Int) → Nat → Int
  | [], _ => -1
  | x :: w, i => if badR k x then i else ixR k w (i + 1)
theorem ixR_any (k : Nat) : ∀ (w : List (List Int)) (i : Nat), decide (0 ≤ ixR k w i) = w.any (badR k)
  | [], i => rfl
  | x :: w, i => by
    rw [ixR, List.any_cons]
    cases h : badR k x with
    | true => simp
    | false => simpa using ixR_any k w (i + 1)
theorem ixM_loop (w m : List (List Int)) (hl : w.length ≤ 1000000) : ∀ (k i : Nat), k = w.length - i → i ≤ w.length →
    AtLoop sIM (Says1 (nI (ixR m.length (w.drop i) i)) [obM m]) [0, 1, 0, 1] (fr [(0, llI w), (1, fnM), (7, nI w.length), (8, nI i)]) (.ofList [obM m])
  | k, i, hk, hi => by
    refine atLoop_at gIM_ok (by kernel_rfl) 100 ?_
    refine of_eq (q :=
        (decide ((↑i : Int) < (↑w.length : Int)) = true → ((0 : Int) ≤ (↑i : Int) ∧ (↑i : Int) < (↑w.length : Int)) ∧ i < w.length ∧ (badR m.length (w.getD i []) = true → packV [V.c (W.int IntKind.i64 (↑i : Int))] = nI (ixR m.length (List.drop i w) i) ∧ [Ob.mk (48 : TypeId) [Fd.c (W.rd (D.int IntKind.i64).sl m)]] = [obM m]) ∧ (badR m.length (w.getD i []) = false → AtLoop sIM (Says1 (nI (ixR m.length
        (List.drop i w) i)) [obM m]) [(0 : Nat), (1 : Nat), (0 : Nat), (1 : Nat)] (fr [((0 : Nat), A.p (V.c (W.rd (D.int IntKind.i64).sl w))), ((1 : Nat), A.p (V.c (W.func (40 : Nat) [((0 : Nat), (0 : Nat))]))), ((7 : Nat), A.p (V.c (W.int IntKind.i64 (↑w.length : Int)))), ((8 : Nat), A.p (V.c (W.int IntKind.i64 (IntKind.i64.wrap ((↑i : Int) + (1 : Int))))))]) (Sto.ofList [Ob.mk (48 : Nat) [Fd.c (W.rd
        (D.int IntKind.i64).sl m)]]))) ∧ (decide ((↑i : Int) < (↑w.length : Int)) = false → packV [V.c (W.int IntKind.i64 (-1 : Int))] = nI (ixR m.length (List.drop i w) i) ∧ [Ob.mk (48 : TypeId) [Fd.c (W.rd (D.int IntKind.i64).sl m)]] = [obM m])) (by kernel_rfl) ?_
    try simp only [and_true, decide_eq_true_eq, decide_eq_false_iff_not, Int.not_lt]
    rw [wrap64 (n := (i : Int) + 1) (by omega) (by omega)]
    refine ⟨fun h => ⟨by omega, by omega, fun g => ?_, fun g => ?_⟩, fun h => ?_⟩
    · rw [getL_lt (by omega), ixR, if_pos g]; rfl
    · rw [getL_lt (by omega), ixR, g, if_neg (by simp)]
      cases k with
      | zero => omega
      | succ k => exact ixM_loop w m hl k (i + 1) (by omega) (by omega)
    · rw [List.drop_eq_nil_of_le (by omega)]; rfl
theorem ixM_sem (w m : List (List Int)) (hl : w.length ≤ 1000000) : FnSem Tryz.prog 67 [llI w, fnM] [obM m] (nI (ixR m.length w 0)) [obM m] := by
  refine fnSem_at (live := [([0, 1, 0, 1], [0, 1, 7, 8])]) gIM_ok Tryz.func67 (by kernel_rfl) (keep := 1) rfl (by kernel_rfl) 100 ?_
  refine of_eq (q :=
      AtLoop (mkSite Tryz.prog gIM Tryz.f67 (1 : Nat) [([(0 : Nat), (1 : Nat), (0 : Nat), (1 : Nat)], [(0 : Nat), (1 : Nat), (7 : Nat), (8 : Nat)])]) (Says1 (nI (ixR m.length w (0 : Nat))) [obM m]) [(0 : Nat), (1 : Nat), (0 : Nat), (1 : Nat)] (fr [((0 : Nat), A.p (V.c (W.rd (D.int IntKind.i64).sl w))), ((1 : Nat), A.p (V.c (W.func (40 : Nat) [((0 : Nat), (0 : Nat))]))), ((7 : Nat), A.p (V.c (W.int
      IntKind.i64 (↑w.length : Int)))), ((8 : Nat), A.p (V.c (W.int IntKind.i64 (0 : Int))))]) (Sto.ofList [Ob.mk (48 : Nat) [Fd.c (W.rd (D.int IntKind.i64).sl m)]])) (by kernel_rfl) ?_
  try simp only [imp_self, true_and, and_true, Nat.zero_add, Nat.mul_one, Bool.cond_true_left, Bool.cond_false_right, Bool.or_eq_true, Bool.or_eq_false_iff, Bool.and_eq_true, Bool.and_eq_false_imp, Bool.not_eq_true', Bool.not_eq_false', decide_eq_true_eq, decide_eq_false_iff_not, Int.not_lt, Int.not_le, List.drop_zero, List.take_length, List.take_succ_cons, List.take_zero, List.length_cons, List.length_nil, Nat.le_refl, Int.le_refl, ne_eq, Int.reduceEq, Int.reduceNe, not_false_eq_true, Nat.reduceAdd, List.length_reverse]
  exact ixM_loop w m hl w.length 0 (by omega) (by omega)
def cIM : Con := { refs := [false, true], f := fun args objs => match args, objs with | [x, .p (.c (.func f [(0, 0)]))], [⟨t, [.c (.rd (.sl (.int .i64)) m)]⟩] => (bif Nat.beq f 40 && Nat.beq t 48 then (match asD (.sl dQ) x with | some w => some (.p (List.length w ≤ 1000000), nI (ixR (List.length m) w 0), [obM m]) | none => none) else none) | _, _ => none }
theorem cIM_ok : ConOk Tryz.prog 67 cIM := by
  refine ⟨by kernel_rfl, fun args objs c r objs' e hc => ?_⟩
  simp only [cIM] at e
  split at e
  · rename_i x f t m
    obtain ⟨ht, e⟩ := Mill.bif_some e
    simp only [Bool.and_eq_true] at ht
    have h1 := Nat.eq_of_beq_eq_true ht.1
    have h2 := Nat.eq_of_beq_eq_true ht.2
    subst h1 h2
    split at e
    · rename_i w hw
      cases e
      exact (ixM_sem w m hc).args fun η Z vs h => by
        cases vs with
        | nil => exact h.elim
        | cons v vs => exact ⟨asD_rel hw h.1, h.2⟩
    · cases e
  · cases e
noncomputable def gCoM : Gam := [(67, cIM)]
theorem gCoM_ok : GamOk Tryz.prog gCoM := gamOk_cons cIM_ok gamOk_nil
theorem coM_sem (w m : List (List Int)) (hl : w.length ≤ 1000000) : FnSem Tryz.prog 39 [llI w, fnM] [obM m] (bB (w.any (badR m.length))) [obM m] := by
  refine fnSem_at (live := []) gCoM_ok Tryz.func39 (by kernel_rfl) (keep := 1) rfl (by kernel_rfl) 100 ?_
  refine of_eq (q :=
      w.length ≤ (1000000 : Nat) ∧ packV [V.c (W.bool (decide ((0 : Int) ≤ ixR m.length w (0 : Nat))))] = bB (w.any (badR m.length)) ∧ [Ob.mk (48 : TypeId) [Fd.c (W.rd (D.int IntKind.i64).sl m)]] = [obM m]) (by kernel_rfl) ?_
  try simp only [and_true]
  refine ⟨hl, ?_⟩
  rw [ixR_any]; rfl
def cCoM : Con := { refs := [false, true], f := fun args objs => match args, objs with | [x, .p (.c (.func f [(0, 0)]))], [⟨t, [.c (.rd (.sl (.int .i64)) m)]⟩] => (bif Nat.beq f 40 && Nat.beq t 48 then (match asD (.sl dQ) x with | some w => some (.p (List.length w ≤ 1000000), bB (List.any w (badR (List.length m))), [obM m]) | none => none) else none) | _, _ => none }
theorem cCoM_ok : ConOk Tryz.prog 39 cCoM := by
  refine ⟨by kernel_rfl, fun args objs c r objs' e hc => ?_⟩
  simp only [cCoM] at e
  split at e
  · rename_i x f t m
    obtain ⟨ht, e⟩ := Mill.bif_some e
    simp only [Bool.and_eq_true] at ht
    have h1 := Nat.eq_of_beq_eq_true ht.1
    have h2 := Nat.eq_of_beq_eq_true ht.2
    subst h1 h2
    split at e
    · rename_i w hw
      cases e
      exact (coM_sem w m hc).args fun η Z vs h => by
        cases vs with
        | nil => exact h.elim
        | cons v vs => exact ⟨asD_rel hw h.1, h.2⟩
    · cases e
  · cases e
end Go.Proofs.YtjmhmflganfoaabGreatDoor
