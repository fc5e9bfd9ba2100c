/- Words: powers. -/
import Derived.Test.YtlcpgjjfjgbocaaGreatDoorWord2
namespace Go.Proofs.YtlcpgjjfjgbocaaGreatDoor
open Go.Loom Go.Words
set_option maxRecDepth 100000
theorem wrapU64 {n : Int} (h1 : 0 ≤ n) (h2 : n < 18446744073709551616) : IntKind.u64.wrap n = n := by
 simp only [IntKind.wrap, IntKind.bits, IntKind.signed]; simp; omega
theorem msk32 {n : Int} (h1 : 0 ≤ n) (h2 : n < 4294967296) : ((BitVec.ofInt 64 n &&& BitVec.ofInt 64 4294967295).toNat : Int) = n := by
 obtain ⟨m, rfl⟩ : ∃ m : Nat, n = m := ⟨n.toNat, by omega⟩
 have e : (BitVec.ofInt 64 (m : Int) &&& BitVec.ofInt 64 4294967295).toNat = m &&& (2 ^ 32 - 1) := by
  rw [BitVec.toNat_and]
  simp only [BitVec.toNat_ofInt]
  congr 1
  omega
 rw [e, Nat.and_two_pow_sub_one_eq_mod]
 omega
theorem mul64_sem (x y : Int) (h : (0 ≤ x ∧ x < 1073741824) ∧ 0 ≤ y ∧ y < 1073741824) : FnSem Tryz.prog 87 [uI x, uI y] [] (.tup [.c (.int .u64 0), .c (.int .u64 (x * y))]) [] := by
 refine fnSem_at (live := []) gamOk_nil Tryz.func87 (by kernel_rfl) (keep := 0) rfl (by kernel_rfl) 100 ?_
 refine of_eq (q := let q2 := ((2:Int) ^ (32:Nat)); let q1 := (IntKind.u64.wrap (IntKind.u64.wrap (x.fdiv q2 * IntKind.u64.wrap (↑(BitVec.ofInt (64:Nat) y &&& BitVec.ofInt (64:Nat) (4294967295:Int)).toNat : Int)) + (IntKind.u64.wrap (IntKind.u64.wrap (↑(BitVec.ofInt (64:Nat) x &&& BitVec.ofInt (64:Nat) (4294967295:Int)).toNat : Int) * IntKind.u64.wrap (↑(BitVec.ofInt (64:Nat) y &&& BitVec.ofInt (64:Nat) (4294967295:Int)).toNat : Int))).fdiv q2)); (0:Int) ≤ (32:Int) ∧ (0:Int) ≤ (32:Int) ∧ (0:Int) ≤ (32:Int) ∧ (0:Int) ≤ (32:Int) ∧ (0:Int) ≤ (32:Int) ∧ packV [V.c (W.int .u64 (IntKind.u64.wrap (IntKind.u64.wrap (IntKind.u64.wrap (x.fdiv q2 * y.fdiv q2) + q1.fdiv q2) + (IntKind.u64.wrap (IntKind.u64.wrap (↑(BitVec.ofInt (64:Nat) q1 &&& BitVec.ofInt (64:Nat) (4294967295:Int)).toNat : Int) + IntKind.u64.wrap (IntKind.u64.wrap (↑(BitVec.ofInt (64:Nat) x &&& BitVec.ofInt (64:Nat) (4294967295:Int)).toNat : Int) * y.fdiv q2))).fdiv q2))), V.c (W.int .u64 (IntKind.u64.wrap (x * y)))] = A.tup [V.c (W.int .u64 (0:Int)), V.c (W.int .u64 (x * y))] ∧ ([] : List Ob) = []) (by kernel_rfl) ?_
 try simp only [and_true]
 obtain ⟨⟨h1, h2⟩, h3, h4⟩ := h
 have hp0 : 0 ≤ x * y := Int.mul_nonneg h1 h3
 have hp1 : x * y ≤ 1073741824 * 1073741824 := Int.mul_le_mul (by omega) (by omega) h3 (by omega)
 have dx : x.fdiv (2 ^ 32) = 0 := by rw [Int.fdiv_eq_ediv_of_nonneg _ (by omega)]; omega
 have dy : y.fdiv (2 ^ 32) = 0 := by rw [Int.fdiv_eq_ediv_of_nonneg _ (by omega)]; omega
 have w0 : IntKind.u64.wrap 0 = 0 := wrapU64 (by omega) (by omega)
 have wx : IntKind.u64.wrap x = x := wrapU64 (by omega) (by omega)
 have wy : IntKind.u64.wrap y = y := wrapU64 (by omega) (by omega)
 have wp : IntKind.u64.wrap (x * y) = x * y := wrapU64 hp0 (by omega)
 have dp : 0 ≤ (x * y).fdiv (2 ^ 32) ∧ (x * y).fdiv (2 ^ 32) < 4294967296 := by rw [Int.fdiv_eq_ediv_of_nonneg _ (by omega)]; omega
 have wd : IntKind.u64.wrap ((x * y).fdiv (2 ^ 32)) = (x * y).fdiv (2 ^ 32) := wrapU64 dp.1 (by omega)
 have dd : ((x * y).fdiv (2 ^ 32)).fdiv (2 ^ 32) = 0 := by rw [Int.fdiv_eq_ediv_of_nonneg (a := (x * y).fdiv (2 ^ 32)) (by omega)]; omega
 simp only [msk32 (n := x) h1 (by omega), msk32 (n := y) h3 (by omega), dx, dy, wx, wy, wp, Int.zero_mul, Int.mul_zero, w0, Int.zero_add, Int.add_zero, wd, dd, msk32 dp.1 dp.2]
 refine ⟨by omega, by omega, by omega, by omega, by omega, rfl⟩
def cMul64 : Con := con2 (.int .u64) (.int .u64) fun x y => (.p ((0 ≤ (show Int from x) ∧ (show Int from x) < 1073741824) ∧ 0 ≤ (show Int from y) ∧ (show Int from y) < 1073741824), .tup [.c (.int .u64 0), .c (.int .u64 ((show Int from x) * (show Int from y)))], [])
theorem cMul64_ok : ConOk Tryz.prog 87 cMul64 := con2_ok (by kernel_rfl) fun x y h => mul64_sem x y h
noncomputable def gBm : Gam := [(87, cMul64)]
theorem gBm_ok : GamOk Tryz.prog gBm := gamOk_cons cMul64_ok gamOk_nil
theorem bmul_sem (x y : Int) (h : (0 ≤ x ∧ x < 1073741824) ∧ 0 ≤ y ∧ y < 1073741824) : FnSem Tryz.prog 70 [uI x, uI y] [] (.tup [.c (.int .u64 0), .c (.int .u64 (x * y))]) [] := by
 refine fnSem_at (live := []) gBm_ok Tryz.func70 (by kernel_rfl) (keep := 0) rfl (by kernel_rfl) 100 ?_
 refine of_eq (q := (((0:Int) ≤ x ∧ x < (1073741824:Int)) ∧ (0:Int) ≤ y ∧ y < (1073741824:Int)) ∧ packV [V.c (W.int .u64 (0:Int)), V.c (W.int .u64 (x * y))] = A.tup [V.c (W.int .u64 (0:Int)), V.c (W.int .u64 (x * y))] ∧ ([] : List Ob) = []) (by kernel_rfl) ?_
 try simp only [and_true]
 exact ⟨h, rfl⟩
def cBm : Con := con2 (.int .u64) (.int .u64) fun x y => (.p ((0 ≤ (show Int from x) ∧ (show Int from x) < 1073741824) ∧ 0 ≤ (show Int from y) ∧ (show Int from y) < 1073741824), .tup [.c (.int .u64 0), .c (.int .u64 ((show Int from x) * (show Int from y)))], [])
theorem cBm_ok : ConOk Tryz.prog 70 cBm := con2_ok (by kernel_rfl) fun x y h => bmul_sem x y h
noncomputable def gRep : Gam := [(70, cBm)]
theorem gRep_ok : GamOk Tryz.prog gRep := gamOk_cons cBm_ok gamOk_nil
noncomputable def sRep : Site := mkSiteF Tryz.prog gRep Tryz.f45 0 [([0, 0, 1, 1, 1, 1, 1, 1], [7, 8])] [] [some dI]
theorem pw_take (x : List Int) {m k : Nat} (h : k ≤ m) : (pw x m).take (k * x.length) = pw x k := by
 obtain ⟨j, rfl⟩ : ∃ j, m = k + j := ⟨m - k, by omega⟩
 rw [pw_add, ← pw_length x k, List.take_left]
theorem rep_loop (x : List Int) (c : Nat) (hL : c * x.length ≤ 1000000) : ∀ (k m : Nat) (l : List Int), k = c - m → (0 < m ∨ c = 0) → m ≤ c → l.length = c * x.length → l.take (m * x.length) = pw x m →
 AtLoop sRep (Says1 (lsI (pw x c)) []) [0, 0, 1, 1, 1, 1, 1, 1] (fr [(7, slI 0 (c * x.length)), (8, nI ((m * x.length : Nat) : Int))]) (.ofList [obI l])
 | k, m, l, hk, hm, hmc, hl, hr => by
   refine atLoop_at gRep_ok (by kernel_rfl) 100 ?_
   refine of_eq (q := let q1 := (↑(m * x.length) : Int); let q2 := (↑(c * x.length) : Int); let q3 := (List.take (q1 - (0:Int)).toNat (List.drop ((0:Nat) + (0:Nat) * (1:Nat)) l)); (decide (q1 < q2) = true → ((0:Int) ≤ q1 ∧ q1 ≤ q2 ∧ q2 ≤ q2) ∧ ((0:Int) ≤ (0:Int) ∧ (0:Int) ≤ q1 ∧ q1 ≤ q2) ∧ (0:Nat) + (0:Nat) * (1:Nat) + (q1 - (0:Int)).toNat ≤ l.length ∧ (0:Nat) + m * x.length * (1:Nat) + (q2 - q1).toNat ≤ l.length ∧ AtLoop sRep (Says1 (lsI (pw x c)) []) [0, 0, 1, 1, 1, 1, 1, 1] (fr [(7, A.p (V.c (W.sl 0 0 (c * x.length) 1))), (8, nI (IntKind.i64.wrap (q1 + (↑(q3.length.min (q2 - q1).toNat) : Int))))]) (Sto.ofList [Ob.mk 3 [Fd.a 0 (D.int .i64) (spl l ((0:Nat) + m * x.length * (1:Nat)) (List.take (q2 - q1).toNat q3))]])) ∧ (decide (q1 < q2) = false → (0:Nat) + c * x.length ≤ l.length ∧ packV [V.c (W.rd (D.int .i64) (List.take (c * x.length) (List.drop (0:Nat) l)))] = lsI (pw x c) ∧ ([] : List Ob) = [])) (by kernel_rfl) ?_
   try simp only [true_and, and_true, Nat.zero_add, Nat.mul_one, decide_eq_true_eq, decide_eq_false_iff_not, Int.not_lt, List.drop_zero, Int.le_refl]
   have hnL : m * x.length ≤ c * x.length := Nat.mul_le_mul_right _ hmc
   have hpl : (pw x m).length = m * x.length := pw_length x m
   generalize hn : m * x.length = n at *
   generalize hLL : c * x.length = L at *
   rw [show ((n : Int) - 0).toNat = n by omega, show ((L : Int) - n).toNat = L - n by omega, hr, hpl]
   refine ⟨fun h => ⟨by omega, by omega, by omega, by omega, ?_⟩, fun h => ⟨by omega, ?_⟩⟩
   · have hne : m < c := by
      rcases Nat.lt_or_ge m c with h1 | h1
      · exact h1
      · have : m = c := by omega
        subst this; omega
     rw [wrap64 (n := (n : Int) + ((n.min (L - n) : Nat) : Int)) (by omega) (by have := Nat.min_le_right n (L - n); simp only [Nat.min_def] at *; split <;> omega)]
     have hsl : ∀ q : List Int, q.length ≤ L - n → (spl l n q).length = L ∧ (spl l n q).take (n + q.length) = pw x m ++ q := by
      intro q hq
      have e : spl l n q = (pw x m ++ q) ++ l.drop (n + q.length) := by rw [spl, hr]
      refine ⟨by rw [e]; simp [hpl]; omega, ?_⟩
      rw [e, show n + q.length = (pw x m ++ q).length by simp [hpl], List.take_left]
     cases k with
     | zero => omega
     | succ k =>
       rcases Nat.lt_or_ge c (2 * m) with h2 | h2
       · have h3 : L - n = (c - m) * x.length := by rw [Nat.sub_mul, hn, hLL]
         have h4 : L - n ≤ n := by rw [h3, ← hn]; exact Nat.mul_le_mul_right _ (by omega)
         have e1 : n.min (L - n) = L - n := Nat.min_eq_right h4
         have e2 : List.take (L - n) (pw x m) = pw x (c - m) := by rw [h3]; exact pw_take x (by omega)
         have e3 : (pw x (c - m)).length = L - n := by rw [pw_length, h3]
         obtain ⟨g1, g2⟩ := hsl (pw x (c - m)) (by omega)
         have := rep_loop x c (by omega) 0 c (spl l n (pw x (c - m))) (by omega) (by omega) (by omega) (by omega) (by
          rw [hLL, show L = n + (pw x (c - m)).length by omega, g2, ← pw_add]; congr 1; omega)
         rw [e1, e2, show ((n : Int) + ((L - n : Nat) : Int)) = ((L : Nat) : Int) by omega]
         rw [hLL] at this
         exact this
       · have h3 : 2 * m * x.length ≤ L := by rw [← hLL]; exact Nat.mul_le_mul_right _ h2
         have h4 : 2 * m * x.length = n + n := by rw [Nat.mul_assoc, hn]; omega
         have e1 : n.min (L - n) = n := Nat.min_eq_left (by omega)
         have e2 : List.take (L - n) (pw x m) = pw x m := List.take_of_length_le (by omega)
         obtain ⟨g1, g2⟩ := hsl (pw x m) (by omega)
         have := rep_loop x c (by omega) (c - 2 * m) (2 * m) (spl l n (pw x m)) (by omega) (by omega) (by omega) (by omega) (by
          rw [h4, show n + n = n + (pw x m).length by omega, g2, ← pw_add]; congr 1; omega)
         rw [e1, e2, show ((n : Int) + ((n : Nat) : Int)) = ((n + n : Nat) : Int) by omega]
         rw [hLL, h4] at this
         exact this
   · have hmc' : n = L := by omega
     have : m = c ∨ x.length = 0 := by
      rcases Nat.lt_or_ge m c with h1 | h1
      · right
        have := Nat.mul_le_mul_right x.length (show m + 1 ≤ c by omega)
        rw [Nat.succ_mul] at this; omega
      · left; omega
     rw [show List.take L l = pw x c from ?_]; rfl
     rcases this with rfl | h0
     · rw [← hmc']; exact hr
     · have : (pw x c).length = 0 := by rw [pw_length, h0]; simp
       rw [List.eq_nil_of_length_eq_zero this]
       rw [h0, Nat.mul_zero] at hLL
       rw [← hLL]; rfl
 termination_by k => k
theorem repeat_sem (x : List Int) (n : Int) (h : 0 ≤ n ∧ n ≤ 100000 ∧ x.length ≤ 100000 ∧ n.toNat * x.length ≤ 1000000) : FnSem Tryz.prog 45 [lsI x, nI n] [] (lsI (pw x n.toNat)) [] := by
 refine fnSemF_at (live := [([0, 0, 1, 1, 1, 1, 1, 1], [7, 8])]) (fzl := []) (fz := [some dI]) gRep_ok Tryz.func45 (by kernel_rfl) (keep := 0) rfl (by kernel_rfl) 100 ?_
 refine of_eq (q := let q0 := IntKind.i64.wrap; let q1 := (IntKind.u64.wrap (x.length:Int) * IntKind.u64.wrap n); let q2 := decide ((0:Int) < (0:Int)); let q3 := decide ((9223372036854775807:Int) < IntKind.u64.wrap (x.length:Int) * IntKind.u64.wrap n); let q4 := (q0 q1); (decide (n < (0:Int)) = true → False) ∧ (decide (n < (0:Int)) = false → (((0:Int) ≤ IntKind.u64.wrap (x.length:Int) ∧ IntKind.u64.wrap (x.length:Int) < (1073741824:Int)) ∧ (0:Int) ≤ IntKind.u64.wrap n ∧ IntKind.u64.wrap n < (1073741824:Int)) ∧ (q2 = false → q2 = false) ∧ (q2 = false → q2 = false) ∧ ((bif q2 then true else q3) = true → False) ∧ ((bif q2 then true else q3) = false → ((0:Int) ≤ q0 q1 ∧ q0 q1 ≤ q0 q1 ∧ (↑(8:Nat) : Int) * q0 q1 ≤ (140737488355328:Int)) ∧ (0:Nat) + q4.toNat ≤ (List.replicate q4.toNat (0:Int)).length ∧ AtLoop (mkSiteF Tryz.prog gRep Tryz.f45 (0:Nat) [([0, 0, 1, 1, 1, 1, 1, 1], [7, 8])] [] [some dI]) (Says1 (lsI (pw x n.toNat)) []) [0, 0, 1, 1, 1, 1, 1, 1] (fr [(7, A.p (V.c (W.sl 0 0 q4.toNat (1:Nat)))), (8, nI (↑(x.length.min q4.toNat) : Int))]) (Sto.ofList [Ob.mk 3 [Fd.a 0 (D.int .i64) (spl (List.replicate q4.toNat (0:Int)) (0:Nat) (List.take q4.toNat x))]])))) (by kernel_rfl) ?_
 try simp only [imp_self, true_and, Nat.zero_add, Bool.cond_true_left, Bool.or_eq_true, Bool.or_eq_false_iff, decide_eq_true_eq, decide_eq_false_iff_not, Int.not_lt, Int.le_refl]
 obtain ⟨c, rfl⟩ : ∃ c : Nat, n = c := ⟨n.toNat, by omega⟩
 obtain ⟨h1, h2, h3, h4⟩ := h
 rw [Int.toNat_natCast] at h4
 have e1 : IntKind.u64.wrap (x.length : Int) = x.length := wrapU64 (by omega) (by omega)
 have e2 : IntKind.u64.wrap (c : Int) = c := wrapU64 (by omega) (by omega)
 have e3 : (x.length : Int) * (c : Int) = ((c * x.length : Nat) : Int) := by rw [Nat.mul_comm, Int.natCast_mul]
 rw [e1, e2, e3]
 have e4 : IntKind.i64.wrap ((c * x.length : Nat) : Int) = ((c * x.length : Nat) : Int) := wrap64 (by omega) (by omega)
 rw [e4, Int.toNat_natCast]
 refine ⟨fun g => by omega, fun _ => ⟨⟨by omega, by omega⟩, fun g => by omega, fun _ => ⟨by omega, by simp, ?_⟩⟩⟩
 cases c with
 | zero =>
   have := rep_loop x 0 (by omega) 0 0 (spl (List.replicate (0 * x.length) 0) 0 (List.take (0 * x.length) x)) rfl (.inr rfl) (by omega) (by simp [spl]) (by simp [pw])
   rw [show x.length.min (0 * x.length) = 0 * x.length by simp]
   exact this
 | succ c =>
   have hl : x.length ≤ (c + 1) * x.length := by rw [Nat.succ_mul]; omega
   have e5 : List.take ((c + 1) * x.length) x = x := List.take_of_length_le hl
   have e6 : x.length.min ((c + 1) * x.length) = x.length := Nat.min_eq_left hl
   rw [e5, e6]
   have := rep_loop x (c + 1) (by omega) (c + 1 - 1) 1 (spl (List.replicate ((c + 1) * x.length) 0) 0 x) rfl (by omega) (by omega) (by simp [spl]; omega) (by
    rw [Nat.one_mul, spl]; simp [pw])
   rw [Nat.one_mul] at this
   exact this
def cRep : Con := con2 dI (.int .i64) fun x n => (.p (0 ≤ (show Int from n) ∧ (show Int from n) ≤ 100000 ∧ List.length (α := Int) x ≤ 100000 ∧ (show Int from n).toNat * List.length (α := Int) x ≤ 1000000), lsI (pw x (show Int from n).toNat), [])
theorem cRep_ok : ConOk Tryz.prog 45 cRep := con2_ok (by kernel_rfl) fun x n h => repeat_sem x n h
end Go.Proofs.YtlcpgjjfjgbocaaGreatDoor

namespace Go.Proofs.YtlcpgjjfjgbocaaGreatDoor
open Go.Loom Go.Words
set_option maxRecDepth 100000
theorem sz_abs {n : Int} (h : R64 n) : sz n = n.natAbs := by
 obtain ⟨h1, h2⟩ := h
 unfold sz
 split
 · have : IntKind.u64.wrap n = n + 18446744073709551616 := by simp only [IntKind.wrap, IntKind.bits, IntKind.signed]; simp; omega
   rw [this]
   have : IntKind.u64.wrap (0 - (n + 18446744073709551616)) = -n := by simp only [IntKind.wrap, IntKind.bits, IntKind.signed]; simp; omega
   rw [this]; omega
 · rw [wrapU64 (by omega) (by omega)]; omega
/-! ### Checks -/
def badLw (g x : Int) : Bool := decide (x = 0) || decide (g < x) || decide (x < -g)
def checkW (w : List Int) (g : Int) : Int := if g < 1 ∨ 16 < g then 2 else if 4000 < w.length then 4 else if w.any (badLw g) then 2 else 0
noncomputable def sCheck : Site := mkSite Tryz.prog [] Tryz.f33 0 [([0, 1, 0, 1, 1, 1], [1, 16, 17, 18])]
theorem check_loopw (w : List Int) (g : Int) (hg : 1 ≤ g ∧ g ≤ 16) (hl : w.length ≤ 4000) : ∀ (k i : Nat), k = w.length - i → i ≤ w.length →
 AtLoop sCheck (Says1 (nI (if (w.drop i).any (badLw g) then 2 else 0)) []) [0, 1, 0, 1, 1, 1] (fr [(1, nI g), (16, lsI w), (17, nI w.length), (18, nI i)]) (.ofList [])
 | k, i, hk, hi => by
   refine atLoop_at gamOk_nil (by kernel_rfl) 100 ?_
   refine of_eq (q := let q1 := decide (w.getD i (0:Int) = (0:Int)); let q2 := decide (g < w.getD i (0:Int)); let q3 := decide (w.getD i (0:Int) < IntKind.i64.wrap ((0:Int) - g)); (decide ((i:Int) < (w.length:Int)) = true → ((0:Int) ≤ (i:Int) ∧ (i:Int) < (w.length:Int)) ∧ i < w.length ∧ (q1 = false → q1 = false) ∧ (q1 = false → q1 = false) ∧ (q1 = false → q1 = false) ∧ ((bif q1 then true else q2) = false → (bif q1 then true else q2) = false) ∧ ((bif q1 then true else q2) = false → (bif q1 then true else q2) = false) ∧ ((bif q1 then true else q2) = false → (bif q1 then true else q2) = false) ∧ ((bif q1 then true else q2) = false → (bif q1 then true else q2) = false) ∧ ((bif bif q1 then true else q2 then true else q3) = true → packV [V.c (W.int .i64 (2))] = nI (if (List.drop i w).any (badLw g) = true then (2:Int) else (0:Int)) ∧ ([] : List Ob) = []) ∧ ((bif bif q1 then true else q2 then true else q3) = false → AtLoop sCheck (Says1 (nI (if (List.drop i w).any (badLw g) = true then (2:Int) else (0:Int))) []) [0, 1, 0, 1, 1, 1] (fr [(1, nI g), (16, lsI w), (17, nI (w.length:Int)), (18, nI (IntKind.i64.wrap ((i:Int) + (1:Int))))]) (Sto.ofList []))) ∧ (decide ((i:Int) < (w.length:Int)) = false → packV [V.c (W.int .i64 (0))] = nI (if (List.drop i w).any (badLw g) = true then (2:Int) else (0:Int)) ∧ ([] : List Ob) = [])) (by kernel_rfl) ?_
   try simp only [imp_self, true_and, and_true, Bool.cond_true_left, Bool.or_eq_true, Bool.or_eq_false_iff, decide_eq_true_eq, decide_eq_false_iff_not, Int.not_lt]
   rw [wrap64 (n := 0 - g) (by omega) (by omega), wrap64 (n := (i : Int) + 1) (by omega) (by omega)]
   refine ⟨fun h => ⟨by omega, by omega, fun h2 => ?_, fun h2 => ?_⟩, fun h => ?_⟩
   · rw [getD_lt (by omega), List.any_cons, show badLw g (w.getD i 0) = true by simp only [badLw, Bool.or_eq_true, decide_eq_true_eq]; omega]; rfl
   · have e : (w.drop i).any (badLw g) = (w.drop (i + 1)).any (badLw g) := by
      rw [getD_lt (by omega), List.any_cons, show badLw g (w.getD i 0) = false by simp only [badLw, Bool.or_eq_false_iff, decide_eq_false_iff_not]; omega]; rfl
     rw [e]
     cases k with
     | zero => omega
     | succ k => exact check_loopw w g hg hl k (i + 1) (by omega) (by omega)
   · rw [List.drop_eq_nil_of_le (by omega)]; rfl
theorem check_semw (w : List Int) (g : Int) (hw : w.length ≤ 1000000) : FnSem Tryz.prog 33 [lsI w, nI g] [] (nI (checkW w g)) [] := by
 refine fnSem_at (live := [([0, 1, 0, 1, 1, 1], [1, 16, 17, 18])]) gamOk_nil Tryz.func33 (by kernel_rfl) (keep := 0) rfl (by kernel_rfl) 100 ?_
 refine of_eq (q := let q1 := decide (g < (1:Int)); (q1 = false → q1 = false) ∧ (q1 = false → q1 = false) ∧ ((bif q1 then true else decide ((16:Int) < g)) = true → packV [V.c (W.int .i64 (2))] = nI (checkW w g) ∧ ([] : List Ob) = []) ∧ ((bif q1 then true else decide ((16:Int) < g)) = false → (decide ((4000:Int) < (w.length:Int)) = true → packV [V.c (W.int .i64 (4))] = nI (checkW w g) ∧ ([] : List Ob) = []) ∧ (decide ((4000:Int) < (w.length:Int)) = false → AtLoop (mkSite Tryz.prog [] Tryz.f33 (0:Nat) [([0, 1, 0, 1, 1, 1], [1, 16, 17, 18])]) (Says1 (nI (checkW w g)) []) [0, 1, 0, 1, 1, 1] (fr [(1, nI g), (16, lsI w), (17, nI (w.length:Int)), (18, nI (0))]) (Sto.ofList [])))) (by kernel_rfl) ?_
 try simp only [imp_self, true_and, and_true, Bool.cond_true_left, Bool.or_eq_true, Bool.or_eq_false_iff, decide_eq_true_eq, decide_eq_false_iff_not, Int.not_lt]
 refine ⟨fun h => ?_, fun h => ⟨fun h2 => ?_, fun h2 => ?_⟩⟩
 · rw [checkW, if_pos h]; rfl
 · rw [checkW, if_neg (by omega), if_pos (by omega)]; rfl
 · rw [checkW, if_neg (by omega), if_neg (by omega)]
   exact check_loopw w g h (by omega) w.length 0 (by omega) (by omega)
def cCheckw : Con := con2 dI (.int .i64) fun w g => (.p (List.length (α := Int) w ≤ 1000000), nI (checkW w g), [])
theorem cCheck_okw : ConOk Tryz.prog 33 cCheckw := con2_ok (by kernel_rfl) fun w g h => check_semw w g h
/-! ### Sums -/
end Go.Proofs.YtlcpgjjfjgbocaaGreatDoor
