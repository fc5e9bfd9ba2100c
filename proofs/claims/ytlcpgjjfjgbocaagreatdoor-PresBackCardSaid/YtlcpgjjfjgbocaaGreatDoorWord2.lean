/- Words: inverses, products. -/
import Derived.Test.YtlcpgjjfjgbocaaGreatDoorWord1
import Derived.Test.YtlcpgjjfjgbocaaGreatDoorWord0
namespace Go.Proofs.YtlcpgjjfjgbocaaGreatDoor
open Go.Loom Go.Words
set_option maxRecDepth 100000
noncomputable def sTu : Site := mkSiteF Tryz.prog [] Tryz.f65 0 [([0, 1, 0, 1, 1], [0, 3, 9, 10, 11])] [] [some dI]
def turnW (w : List Int) : List Int := (w.map fun x => IntKind.i64.wrap (0 - x)).reverse
theorem turnW_snoc (u : List Int) (x : Int) : turnW (u ++ [x]) = IntKind.i64.wrap (0 - x) :: turnW u := by simp [turnW]
theorem turned_loop (w : List Int) (hl : w.length ≤ 1000000) : ∀ (k i : Nat) (l : List Int), k = w.length - i → i ≤ w.length → l.length = w.length → l.drop (w.length - i) = turnW (w.take i) →
 AtLoop sTu (Says1 (lsI (turnW w)) []) [0, 1, 0, 1, 1] (fr [(0, lsI w), (3, slI 0 w.length), (9, lsI w), (10, nI w.length), (11, nI i)]) (.ofList [obI l])
 | k, i, l, hk, hi, hll, hr => by
   refine atLoop_at gamOk_nil (by kernel_rfl) 100 ?_
   refine of_eq (q := let q0 := IntKind.i64.wrap; let q1 := (q0 ((w.length:Int) - (1:Int)) - (i:Int)); (decide ((i:Int) < (w.length:Int)) = true → ((0:Int) ≤ (i:Int) ∧ (i:Int) < (w.length:Int)) ∧ i < w.length ∧ ((0:Int) ≤ q0 q1 ∧ q0 q1 < (w.length:Int)) ∧ (0:Nat) + (q0 q1).toNat < l.length ∧ AtLoop sTu (Says1 (lsI (turnW w)) []) [0, 1, 0, 1, 1] (fr [(0, lsI w), (3, A.p (V.c (W.sl 0 0 w.length 1))), (9, lsI w), (10, nI (w.length:Int)), (11, nI (q0 ((i:Int) + (1:Int))))]) (Sto.ofList [Ob.mk 3 [Fd.a 0 (D.int .i64) (l.set ((0:Nat) + (q0 q1).toNat) (q0 ((0:Int) - w.getD i (0:Int))))]])) ∧ (decide ((i:Int) < (w.length:Int)) = false → (0:Nat) + w.length ≤ l.length ∧ packV [V.c (W.rd (D.int .i64) (List.take w.length (List.drop (0:Nat) l)))] = lsI (turnW w) ∧ ([] : List Ob) = [])) (by kernel_rfl) ?_
   try simp only [and_true, Nat.zero_add, decide_eq_true_eq, decide_eq_false_iff_not, Int.not_lt, List.drop_zero]
   refine ⟨fun h => ?_, fun h => ⟨by omega, ?_⟩⟩
   · rw [wrap64 (n := (w.length : Int) - 1) (by omega) (by omega), wrap64 (n := (w.length : Int) - 1 - i) (by omega) (by omega), wrap64 (n := (i : Int) + 1) (by omega) (by omega),
      show ((w.length : Int) - 1 - i).toNat = w.length - 1 - i by omega]
     refine ⟨by omega, by omega, by omega, by omega, ?_⟩
     cases k with
     | zero => omega
     | succ k =>
       refine turned_loop w hl k (i + 1) _ (by omega) (by omega) (by simpa using hll) ?_
       have hj : w.length - 1 - i < l.length := by omega
       rw [take_snoc (by omega), turnW_snoc, ← hr, show w.length - (i + 1) = w.length - 1 - i by omega, getD_lt (by simpa using hj), List.drop_set_of_lt (by omega), show w.length - 1 - i + 1 = w.length - i by omega]
       congr 1
       rw [List.getD_eq_getElem?_getD, List.getElem?_set_self hj]; rfl
   · have : i = w.length := by omega
     subst this
     rw [Nat.sub_self, List.drop_zero, List.take_length] at hr
     rw [List.take_of_length_le (by omega), hr]; rfl
theorem turned_sem (w : List Int) (hl : w.length ≤ 1000000) : FnSem Tryz.prog 65 [lsI w] [] (lsI (turnW w)) [] := by
 refine fnSemF_at (live := [([0, 1, 0, 1, 1], [0, 3, 9, 10, 11])]) (fzl := []) (fz := [some dI]) gamOk_nil Tryz.func65 (by kernel_rfl) (keep := 0) rfl (by kernel_rfl) 100 ?_
 refine of_eq (q := ((0:Int) ≤ (w.length:Int) ∧ (w.length:Int) ≤ (w.length:Int) ∧ (↑(8:Nat) : Int) * (w.length:Int) ≤ (140737488355328:Int)) ∧ AtLoop (mkSiteF Tryz.prog [] Tryz.f65 (0:Nat) [([0, 1, 0, 1, 1], [0, 3, 9, 10, 11])] [] [some dI]) (Says1 (lsI (turnW w)) []) [0, 1, 0, 1, 1] (fr [(0, lsI w), (3, A.p (V.c (W.sl 0 0 w.length 1))), (9, lsI w), (10, nI (w.length:Int)), (11, nI (0))]) (Sto.ofList [Ob.mk 3 [Fd.a 0 (D.int .i64) (List.replicate w.length (0:Int))]])) (by kernel_rfl) ?_
 try simp only [true_and, Int.le_refl]
 refine ⟨by omega, ?_⟩
 exact turned_loop w hl w.length 0 _ (by omega) (by omega) (by simp) (by simp [turnW])
def cTu : Con := con1 dI fun w => (.p (List.length (α := Int) w ≤ 1000000), lsI (turnW w), [])
theorem cTu_ok : ConOk Tryz.prog 65 cTu := con1_ok (by kernel_rfl) fun w h => turned_sem w h
theorem grow_sem (n : Int) (h : 0 ≤ n ∧ n ≤ 1000000) : FnSem Tryz.prog 81 [.p (.c .nil), nI n] [] (slI 0 0) [obI (List.replicate n.toNat 0)] := by
 refine fnSem_at (live := []) gamOk_nil Tryz.func81 (by kernel_rfl) (keep := 0) rfl (by kernel_rfl) 100 ?_
 refine of_eq (q := let q0 := IntKind.i64.wrap; let q2 := (0:Int); let q1 := (n - q0 (q2 - q2)); (decide (n < q2) = true → False) ∧ (decide (n < q2) = false → (decide (q2 < q0 q1) = true → (q2 = q2 ∧ q2 = q2) ∧ (q2 < q0 q1 ∧ (↑(8:Nat) : Int) * q0 q1 ≤ (140737488355328:Int)) ∧ (q2 ≤ q2 ∧ q2 ≤ q2 ∧ q2 ≤ (↑(q0 q1).toNat : Int)) ∧ packV [V.c (W.sl (0:Nat) ((0:Nat) + (0:Nat) * (1:Nat)) (0:Nat) (1:Nat))] = slI (0:Nat) (0:Nat) ∧ [Ob.mk 3 [Fd.a 0 (D.int .i64) (List.replicate (q0 q1).toNat q2)]] = [obI (List.replicate n.toNat q2)]) ∧ (decide (q2 < q0 q1) = false → packV [V.c (W.sl 0 0 0 1)] = slI (0:Nat) (0:Nat) ∧ [Ob.mk 3 [Fd.a 0 (D.int .i64) []]] = [obI (List.replicate n.toNat q2)]))) (by kernel_rfl) ?_
 try simp only [true_and, and_true, Nat.zero_add, Nat.mul_one, decide_eq_true_eq, decide_eq_false_iff_not, Int.not_lt, Int.le_refl]
 rw [wrap64 (n := 0 - 0) (by omega) (by omega), wrap64 (n := n - (0 - 0)) (by omega) (by omega), show n - (0 - 0) = n by omega]
 refine ⟨fun g => by omega, fun _ => ⟨fun g => ⟨by omega, by omega, rfl, rfl⟩, fun g => ⟨rfl, ?_⟩⟩⟩
 rw [show n.toNat = 0 by omega]; rfl
end Go.Proofs.YtlcpgjjfjgbocaaGreatDoor

namespace Go.Proofs.YtlcpgjjfjgbocaaGreatDoor
open Go.Loom Go.Words
set_option maxRecDepth 100000
def cGrow : Con := { refs := [], f := fun args objs => match args, objs with | [.p (.c .nil), .p (.c (.int .i64 n))], [] => some (.p (0 ≤ n ∧ n ≤ 1000000), slI 0 0, [obI (List.replicate n.toNat 0)]) | _, _ => none }
theorem cGrow_ok : ConOk Tryz.prog 81 cGrow := by
 refine ⟨by kernel_rfl, fun args objs c r objs' e hc => ?_⟩
 simp only [cGrow] at e
 split at e
 · cases e; exact grow_sem _ hc
 · cases e
theorem flat_le (xs : List (List Int)) (i : Nat) : (xs.take i).flatten.length ≤ xs.flatten.length := by
 conv => rhs; rw [← List.take_append_drop i xs]
 rw [List.flatten_append, List.length_append]; omega
theorem flat_snoc {xs : List (List Int)} {i : Nat} (h : i < xs.length) : (xs.take (i + 1)).flatten = (xs.take i).flatten ++ xs.getD i [] := by
 rw [takeL_snoc h]; simp
noncomputable def gCat : Gam := [(81, cGrow)]
theorem gCat_ok : GamOk Tryz.prog gCat := gamOk_cons cGrow_ok gamOk_nil
abbrev pcA : List Nat := [0, 1, 0, 1, 1]
abbrev pcB : List Nat := [0, 1, 0, 1, 1, 1, 1]
noncomputable def sCat : Site := mkSiteF Tryz.prog gCat Tryz.f60 0 [(pcA, [0, 3, 9, 10, 11]), (pcB, [6, 25, 26, 27])] [] [some dI]
theorem cat_loopB (xs : List (List Int)) (hx : xs.length ≤ 100) (hf : xs.flatten.length ≤ 1000000) : ∀ (k i m : Nat) (l : List Int), k = xs.length - i → i ≤ xs.length → m ≤ l.length → l.take m = (xs.take i).flatten →
 AtLoop sCat (Says1 (lsI xs.flatten) []) pcB (fr [(6, slI 0 m), (25, llI xs), (26, nI xs.length), (27, nI i)]) (.ofList [obI l])
 | k, i, m, l, hk, hi, hm, hr => by
   refine atLoop_at gCat_ok (by kernel_rfl) 100 ?_
   refine of_eq (q := (decide ((i:Int) < (xs.length:Int)) = true → ((0:Int) ≤ (i:Int) ∧ (i:Int) < (xs.length:Int)) ∧ i < xs.length ∧ ((0:Nat) + m ≤ l.length ∧ (m + (xs.getD i []).length) * (8:Nat) ≤ (140737488355328:Nat)) ∧ AtLoop sCat (Says1 (lsI xs.flatten) []) [0, 1, 0, 1, 1, 1, 1] (fr [(6, A.p (V.c (W.sl 0 0 (m + (xs.getD i []).length) 1))), (25, llI xs), (26, nI (xs.length:Int)), (27, nI (IntKind.i64.wrap ((i:Int) + (1:Int))))]) (Sto.ofList [Ob.mk 3 [Fd.a 0 (D.int .i64) (List.take m (List.drop (0:Nat) l) ++ xs.getD i [])]])) ∧ (decide ((i:Int) < (xs.length:Int)) = false → (0:Nat) + m ≤ l.length ∧ packV [V.c (W.rd (D.int .i64) (List.take m (List.drop (0:Nat) l)))] = lsI xs.flatten ∧ ([] : List Ob) = [])) (by kernel_rfl) ?_
   try simp only [and_true, Nat.zero_add, decide_eq_true_eq, decide_eq_false_iff_not, Int.not_lt, List.drop_zero]
   rw [wrap64 (n := (i : Int) + 1) (by omega) (by omega)]
   refine ⟨fun h => ?_, fun h => ⟨hm, ?_⟩⟩
   · have hil : i < xs.length := by omega
     have e := flat_snoc hil
     have hle := flat_le xs (i + 1)
     have hml : m = (xs.take i).flatten.length := by rw [← hr]; simp; omega
     rw [e, List.length_append] at hle
     refine ⟨by omega, hil, ⟨hm, by omega⟩, ?_⟩
     cases k with
     | zero => omega
     | succ k =>
       refine cat_loopB xs hx hf k (i + 1) _ _ (by omega) (by omega) (by simp; omega) ?_
       rw [List.take_of_length_le (by simp; omega), hr, e]
   · rw [hr, List.take_of_length_le (by omega)]; rfl
theorem cat_loopA (xs : List (List Int)) (hx : xs.length ≤ 100) (hf : xs.flatten.length ≤ 1000000) : ∀ (k i : Nat), k = xs.length - i → i ≤ xs.length →
 AtLoop sCat (Says1 (lsI xs.flatten) []) pcA (fr [(0, llI xs), (3, nI (xs.take i).flatten.length), (9, llI xs), (10, nI xs.length), (11, nI i)]) (.ofList [])
 | k, i, hk, hi => by
   refine atLoop_at gCat_ok (by kernel_rfl) 100 ?_
   refine of_eq (q := let q1 := (↑(List.take i xs).flatten.length : Int); let q2 := decide (IntKind.i64.wrap (q1 + (↑(xs.getD i []).length : Int)) < (0:Int)); let q3 := (xs.length:Int); (decide ((i:Int) < q3) = true → ((0:Int) ≤ (i:Int) ∧ (i:Int) < q3) ∧ i < xs.length ∧ (q2 = true → False) ∧ (q2 = false → AtLoop sCat (Says1 (lsI xs.flatten) []) [0, 1, 0, 1, 1] (fr [(0, llI xs), (3, nI (IntKind.i64.wrap (q1 + (↑(xs.getD i []).length : Int)))), (9, llI xs), (10, nI q3), (11, nI (IntKind.i64.wrap ((i:Int) + (1:Int))))]) (Sto.ofList []))) ∧ (decide ((i:Int) < q3) = false → ((0:Int) ≤ q1 ∧ q1 ≤ (1000000:Int)) ∧ AtLoop sCat (Says1 (lsI xs.flatten) []) [0, 1, 0, 1, 1, 1, 1] (fr [(6, A.p (V.c (W.sl 0 0 0 1))), (25, llI xs), (26, nI q3), (27, nI (0))]) (Sto.ofList [Ob.mk 3 [Fd.a 0 (D.int .i64) (List.replicate (List.take i xs).flatten.length (0:Int))]]))) (by kernel_rfl) ?_
   try simp only [decide_eq_true_eq, decide_eq_false_iff_not, Int.not_lt]
   have hle := flat_le xs i
   refine ⟨fun h => ?_, fun h => ⟨by omega, ?_⟩⟩
   · have hil : i < xs.length := by omega
     have e := flat_snoc hil
     have hle1 := flat_le xs (i + 1)
     rw [e, List.length_append] at hle1
     rw [wrap64 (n := (i : Int) + 1) (by omega) (by omega), wrap64 (n := ((xs.take i).flatten.length : Int) + (xs.getD i []).length) (by omega) (by omega)]
     refine ⟨by omega, hil, fun g => by omega, fun _ => ?_⟩
     cases k with
     | zero => omega
     | succ k =>
       have := cat_loopA xs hx hf k (i + 1) (by omega) (by omega)
       rw [e, List.length_append, Int.natCast_add] at this
       exact this
   · exact cat_loopB xs hx hf xs.length 0 0 _ (by omega) (by omega) (by omega) (by simp)
theorem concat_sem (xs : List (List Int)) (h : xs.length ≤ 100 ∧ xs.flatten.length ≤ 1000000) : FnSem Tryz.prog 60 [llI xs] [] (lsI xs.flatten) [] := by
 refine fnSemF_at (live := [(pcA, [0, 3, 9, 10, 11]), (pcB, [6, 25, 26, 27])]) (fzl := []) (fz := [some dI]) gCat_ok Tryz.func60 (by kernel_rfl) (keep := 0) rfl (by kernel_rfl) 100 ?_
 refine of_eq (q := AtLoop (mkSiteF Tryz.prog gCat Tryz.f60 (0:Nat) [(pcA, [0, 3, 9, 10, 11]), (pcB, [6, 25, 26, 27])] [] [some dI]) (Says1 (lsI xs.flatten) []) [0, 1, 0, 1, 1] (fr [(0, llI xs), (3, nI (0)), (9, llI xs), (10, nI (xs.length:Int)), (11, nI (0))]) (Sto.ofList [])) (by kernel_rfl) ?_
 exact cat_loopA xs h.1 h.2 xs.length 0 (by omega) (by omega)
def cCat : Con := con1 dL fun xs => (.p (List.length (α := List Int) xs ≤ 100 ∧ (List.flatten (α := Int) xs).length ≤ 1000000), lsI (List.flatten (α := Int) xs), [])
theorem cCat_ok : ConOk Tryz.prog 60 cCat := con1_ok (by kernel_rfl) fun xs h => concat_sem xs h
end Go.Proofs.YtlcpgjjfjgbocaaGreatDoor

namespace Go.Proofs.YtlcpgjjfjgbocaaGreatDoor
open Go.Loom Go.Words
set_option maxRecDepth 100000
noncomputable def gMul : Gam := [(60, cCat), (57, cRed), (65, cTu)]
theorem gMul_ok : GamOk Tryz.prog gMul := gamOk_cons cCat_ok (gamOk_cons cRed_ok (gamOk_cons cTu_ok gamOk_nil))
def Ok5 (w : List Int) : Prop := All64 w ∧ w.length ≤ 100000
theorem wrap_R (n : Int) : R64 (IntKind.i64.wrap n) := by
 unfold R64; rw [IntKind.wrap_i64]; omega
theorem turnW_all (w : List Int) : All64 (turnW w) := by
 intro x hx
 simp only [turnW, List.mem_reverse, List.mem_map] at hx
 obtain ⟨y, _, rfl⟩ := hx
 exact wrap_R _
theorem turnW_length (w : List Int) : (turnW w).length = w.length := by simp [turnW]
theorem All64.app {u v : List Int} (h : All64 u) (g : All64 v) : All64 (u ++ v) := fun x hx => (List.mem_append.mp hx).elim (h x) (g x)
theorem mul_sem (a b : List Int) (ha : Ok5 a) (hb : Ok5 b) : FnSem Tryz.prog 54 [lsI a, lsI b] [] (lsI (red (a ++ b))) [] := by
 refine fnSemF_at (live := []) (fzl := []) (fz := [some dI]) gMul_ok Tryz.func54 (by kernel_rfl) (keep := 0) rfl (by kernel_rfl) 100 ?_
 refine of_eq (q := let q1 := (List.take (2:Nat) (List.drop (0:Nat) [a, b])); (0:Nat) + (2:Nat) ≤ (2:Nat) ∧ ((2:Nat) ≤ (100:Nat) ∧ q1.flatten.length ≤ (1000000:Nat)) ∧ (All64 q1.flatten ∧ q1.flatten.length ≤ (1000000:Nat)) ∧ packV [V.c (W.rd (D.int .i64) (red q1.flatten))] = lsI (red (a ++ b)) ∧ ([] : List Ob) = []) (by kernel_rfl) ?_
 try simp only [true_and, and_true, Nat.zero_add, List.drop_zero, List.take_succ_cons, List.take_zero, Nat.le_refl]
 have e : [a, b].flatten = a ++ b := by simp
 have hl := ha.2
 have hl2 := hb.2
 rw [e]
 exact ⟨⟨by omega, by simp; omega⟩, ⟨ha.1.app hb.1, by simp; omega⟩, rfl⟩
theorem invert_sem (a : List Int) (ha : Ok5 a) : FnSem Tryz.prog 39 [lsI a] [] (lsI (red (turnW a))) [] := by
 refine fnSemF_at (live := []) (fzl := []) (fz := [some dI]) gMul_ok Tryz.func39 (by kernel_rfl) (keep := 0) rfl (by kernel_rfl) 100 ?_
 refine of_eq (q := a.length ≤ (1000000:Nat) ∧ (All64 (turnW a) ∧ (turnW a).length ≤ (1000000:Nat)) ∧ packV [V.c (W.rd (D.int .i64) (red (turnW a)))] = lsI (red (turnW a)) ∧ ([] : List Ob) = []) (by kernel_rfl) ?_
 try simp only [and_true]
 have hl := ha.2
 have hl4 := turnW_length a
 exact ⟨by omega, ⟨turnW_all a, by omega⟩, rfl⟩
def cMul : Con := con2 dI dI fun a b => (.p (Ok5 a ∧ Ok5 b), lsI (red (List.append (α := Int) a b)), [])
theorem cMul_ok : ConOk Tryz.prog 54 cMul := con2_ok (by kernel_rfl) fun a b h => mul_sem a b h.1 h.2
def cInvert : Con := con1 dI fun a => (.p (Ok5 a), lsI (red (turnW a)), [])
theorem cInvert_ok : ConOk Tryz.prog 39 cInvert := con1_ok (by kernel_rfl) fun a h => invert_sem a h
end Go.Proofs.YtlcpgjjfjgbocaaGreatDoor

namespace Go.Proofs.YtlcpgjjfjgbocaaGreatDoor
open Go.Loom Go.Words
set_option maxRecDepth 100000
end Go.Proofs.YtlcpgjjfjgbocaaGreatDoor
