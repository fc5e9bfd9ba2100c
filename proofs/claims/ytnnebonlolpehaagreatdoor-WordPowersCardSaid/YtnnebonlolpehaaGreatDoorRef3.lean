/- Words: the reference: powers, sums; substitution by both. -/
import Derived.Test.YtnnebonlolpehaaGreatDoorRef2
namespace Go.Proofs.YtnnebonlolpehaaGreatDoor
open Go.Loom Go.Words
set_option maxRecDepth 100000
noncomputable def gRPow : Gam := [(10, cRRed), (37, cRTu), (20, cRCyc), (7, cOwn)]
theorem gRPow_ok : GamOk Tryz.prog gRPow := gamOk_cons cRRed_ok (gamOk_cons cRTu_ok (gamOk_cons cRCyc_ok (gamOk_cons cOwn_ok gamOk_nil)))
abbrev prP : List Nat := [0, 1, 0, 1, 1, 1, 1, 1, 1, 1, 1, 1]
noncomputable def sRPow : Site := mkSiteF Tryz.prog gRPow Tryz.f26 0 [(prP, [0, 1, 6, 8, 9, 10])] [] [some dI]
theorem rpow_loop (v c : List Int) (n : Int) (s M : Nat) (hM : max n (IntKind.i64.wrap (0 - n)) = M) (hs : s + c.length ≤ v.length) (hv : v.length ≤ 100000) (hc : c.length * M ≤ 100000000) (hMb : M ≤ 4000) : ∀ (k i : Nat), k = M - i → i ≤ M →
    AtLoop sRPow (Says1 (.tup [.c (.rd (.int .i64) (v.take s ++ pw c M ++ v.drop (s + c.length))), .c (.int .i64 0)]) []) prP (fr [(0, lsI v), (1, nI n), (6, lsI c), (8, nI s), (9, slI 0 (s + c.length * i)), (10, nI i)]) (.ofList [obI (v.take s ++ pw c i)])
  | k, i, hk, hi => by
    refine atLoop_at gRPow_ok (by kernel_rfl) 100 ?_
    refine of_eq (q :=
        (decide ((↑i : Int) < max n (IntKind.i64.wrap ((0 : Int) - n))) = true → ((0 : Nat) + (s + c.length * i) ≤ (List.take s v ++ pw c i).length ∧ (s + c.length * i + c.length) * (8 : Nat) ≤ (140737488355328 : Nat)) ∧ AtLoop sRPow (Says1 (A.tup [V.c (W.rd (D.int IntKind.i64) (List.take s v ++ pw c M ++ List.drop (s + c.length) v)), V.c (W.int IntKind.i64 (0 : Int))]) []) [(0 : Nat), (1 : Nat), (0 :
        Nat), (1 : Nat), (1 : Nat), (1 : Nat), (1 : Nat), (1 : Nat), (1 : Nat), (1 : Nat), (1 : Nat), (1 : Nat)] (fr [((0 : Nat), A.p (V.c (W.rd (D.int IntKind.i64) v))), ((1 : Nat), A.p (V.c (W.int IntKind.i64 n))), ((6 : Nat), A.p (V.c (W.rd (D.int IntKind.i64) c))), ((8 : Nat), A.p (V.c (W.int IntKind.i64 (↑s : Int)))), ((9 : Nat), A.p (V.c (W.sl (0 : Nat) (0 : Nat) (s + c.length * i + c.length) (1 :
        Nat)))), ((10 : Nat), A.p (V.c (W.int IntKind.i64 (IntKind.i64.wrap ((↑i : Int) + (1 : Int))))))]) (Sto.ofList [Ob.mk (3 : Nat) [Fd.a (0 : Nat) (D.int IntKind.i64) (List.take (s + c.length * i) (List.drop (0 : Nat) (List.take s v ++ pw c i)) ++ c)]])) ∧ (decide ((↑i : Int) < max n (IntKind.i64.wrap ((0 : Int) - n))) = false → ((0 : Int) ≤ IntKind.i64.wrap ((↑s : Int) + (↑c.length : Int)) ∧
        IntKind.i64.wrap ((↑s : Int) + (↑c.length : Int)) ≤ (↑v.length : Int) ∧ (↑v.length : Int) ≤ (↑v.length : Int)) ∧ ((0 : Nat) + (s + c.length * i) ≤ (List.take s v ++ pw c i).length ∧ (s + c.length * i + (List.drop (IntKind.i64.wrap ((↑s : Int) + (↑c.length : Int))).toNat (List.take v.length v)).length) * (8 : Nat) ≤ (140737488355328 : Nat)) ∧ (0 : Nat) + (s + c.length * i + (List.drop
        (IntKind.i64.wrap ((↑s : Int) + (↑c.length : Int))).toNat (List.take v.length v)).length) ≤ (List.take (s + c.length * i) (List.drop (0 : Nat) (List.take s v ++ pw c i)) ++ List.drop (IntKind.i64.wrap ((↑s : Int) + (↑c.length : Int))).toNat (List.take v.length v)).length ∧ packV [V.c (W.rd (D.int IntKind.i64) (List.take (s + c.length * i + (List.drop (IntKind.i64.wrap ((↑s : Int) + (↑c.length :
        Int))).toNat (List.take v.length v)).length) (List.drop (0 : Nat) (List.take (s + c.length * i) (List.drop (0 : Nat) (List.take s v ++ pw c i)) ++ List.drop (IntKind.i64.wrap ((↑s : Int) + (↑c.length : Int))).toNat (List.take v.length v))))), V.c (W.int IntKind.i64 (0 : Int))] = A.tup [V.c (W.rd (D.int IntKind.i64) (List.take s v ++ pw c M ++ List.drop (s + c.length) v)), V.c (W.int IntKind.i64 (0
        : Int))] ∧ ([] : List Ob) = [])) (by kernel_rfl) ?_
    try simp only [and_true, Nat.zero_add, decide_eq_true_eq, decide_eq_false_iff_not, Int.not_lt, List.drop_zero, List.take_length, Int.le_refl]
    have hci : c.length * i ≤ c.length * M := Nat.mul_le_mul_left _ hi
    have hlen : (v.take s ++ pw c i).length = s + c.length * i := by
      rw [List.length_append, List.length_take, pw_length, Nat.mul_comm]; omega
    have e0 : (v.take s ++ pw c i).take (s + c.length * i) = v.take s ++ pw c i := List.take_of_length_le (by omega)
    rw [hM, e0, hlen, wrap64 (n := (i : Int) + 1) (by omega) (by omega)]
    have e3 : IntKind.i64.wrap ((s : Int) + (c.length : Int)) = ((s + c.length : Nat) : Int) := by rw [← Int.natCast_add, wrap64 (by omega) (by omega)]
    rw [e3, Int.toNat_natCast]
    refine ⟨fun h => ⟨⟨by omega, by omega⟩, ?_⟩, fun h => ⟨by omega, ⟨by omega, by simp; omega⟩, by rw [List.length_append, hlen]; omega, ?_⟩⟩
    · cases k with
      | zero => omega
      | succ k =>
        have := rpow_loop v c n s M hM hs hv hc hMb k (i + 1) (by omega) (by omega)
        rw [pw_succ', ← List.append_assoc, Nat.mul_succ, ← Nat.add_assoc] at this
        exact this
    · have : i = M := by omega
      subst this
      rw [List.take_of_length_le (by rw [List.length_append, hlen]; omega)]; rfl
theorem rpow_sem (w : List Int) (n : Int) (h : Ok5 w ∧ R64 n) : FnSem Tryz.prog 26 [lsI w, nI n] [] (.tup [.c (.rd (.int .i64) (powR w n).1), .c (.int .i64 (powR w n).2)]) [] := by
  refine fnSemF_at (live := [(prP, [0, 1, 6, 8, 9, 10])]) (fzl := []) (fz := [some dI]) gRPow_ok Tryz.func26 (by kernel_rfl) (keep := 0) rfl (by kernel_rfl) 100 ?_
  refine of_eq (q :=
      (All64 w ∧ w.length ≤ (1000000 : Nat)) ∧ (decide (n < (0 : Int)) = true → (All64 (red w) ∧ (red w).length ≤ (1000000 : Nat)) ∧ Ok5 (turnW (red w)) ∧ (decide (n = (0 : Int)) = false → decide (n = (0 : Int)) = false) ∧ (decide (n = (0 : Int)) = false → decide (n = (0 : Int)) = false) ∧ (decide (n = (0 : Int)) = false → decide (n = (0 : Int)) = false) ∧ ((bif decide (n = (0 : Int)) then true else
      decide ((↑(cut (red (turnW (red w)))).length : Int) = (0 : Int))) = true → (0 : Nat) ≤ (0 : Nat) ∧ packV [V.c (W.rd (D.int IntKind.i64) (List.take (0 : Nat) (List.drop (0 : Nat) []))), V.c (W.int IntKind.i64 (0 : Int))] = A.tup [V.c (W.rd (D.int IntKind.i64) (powR w n).fst), V.c (W.int IntKind.i64 (powR w n).snd)] ∧ ([] : List Ob) = []) ∧ ((bif decide (n = (0 : Int)) then true else decide ((↑(cut
      (red (turnW (red w)))).length : Int) = (0 : Int))) = false → (decide ((4000 : Int) < n) = false → decide ((4000 : Int) < n) = false) ∧ (decide ((4000 : Int) < n) = false → decide ((4000 : Int) < n) = false) ∧ (decide ((4000 : Int) < n) = false → decide ((4000 : Int) < n) = false) ∧ (decide ((4000 : Int) < n) = false → decide ((4000 : Int) < n) = false) ∧ ((bif decide ((4000 : Int) < n) then true
      else decide (n < IntKind.i64.wrap ((0 : Int) - (4000 : Int)))) = false → (bif decide ((4000 : Int) < n) then true else decide (n < IntKind.i64.wrap ((0 : Int) - (4000 : Int)))) = false) ∧ ((bif decide ((4000 : Int) < n) then true else decide (n < IntKind.i64.wrap ((0 : Int) - (4000 : Int)))) = false → (bif decide ((4000 : Int) < n) then true else decide (n < IntKind.i64.wrap ((0 : Int) - (4000 :
      Int)))) = false) ∧ ((bif decide ((4000 : Int) < n) then true else decide (n < IntKind.i64.wrap ((0 : Int) - (4000 : Int)))) = false → (bif decide ((4000 : Int) < n) then true else decide (n < IntKind.i64.wrap ((0 : Int) - (4000 : Int)))) = false) ∧ ((bif decide ((4000 : Int) < n) then true else decide (n < IntKind.i64.wrap ((0 : Int) - (4000 : Int)))) = false → (bif decide ((4000 : Int) < n) then
      true else decide (n < IntKind.i64.wrap ((0 : Int) - (4000 : Int)))) = false) ∧ ((bif decide ((4000 : Int) < n) then true else decide (n < IntKind.i64.wrap ((0 : Int) - (4000 : Int)))) = false → (bif decide ((4000 : Int) < n) then true else decide (n < IntKind.i64.wrap ((0 : Int) - (4000 : Int)))) = false) ∧ ((bif decide ((4000 : Int) < n) then true else decide (n < IntKind.i64.wrap ((0 : Int) -
      (4000 : Int)))) = false → (bif decide ((4000 : Int) < n) then true else decide (n < IntKind.i64.wrap ((0 : Int) - (4000 : Int)))) = false) ∧ ((bif decide ((4000 : Int) < n) then true else decide (n < IntKind.i64.wrap ((0 : Int) - (4000 : Int)))) = false → (bif decide ((4000 : Int) < n) then true else decide (n < IntKind.i64.wrap ((0 : Int) - (4000 : Int)))) = false) ∧ ((bif decide ((4000 : Int) <
      n) then true else decide (n < IntKind.i64.wrap ((0 : Int) - (4000 : Int)))) = false → (bif decide ((4000 : Int) < n) then true else decide (n < IntKind.i64.wrap ((0 : Int) - (4000 : Int)))) = false) ∧ ((bif decide ((4000 : Int) < n) then true else decide (n < IntKind.i64.wrap ((0 : Int) - (4000 : Int)))) = false → (bif decide ((4000 : Int) < n) then true else decide (n < IntKind.i64.wrap ((0 :
      Int) - (4000 : Int)))) = false) ∧ ((bif decide ((4000 : Int) < n) then true else decide (n < IntKind.i64.wrap ((0 : Int) - (4000 : Int)))) = false → (bif decide ((4000 : Int) < n) then true else decide (n < IntKind.i64.wrap ((0 : Int) - (4000 : Int)))) = false) ∧ ((bif decide ((4000 : Int) < n) then true else decide (n < IntKind.i64.wrap ((0 : Int) - (4000 : Int)))) = false → (bif decide ((4000 :
      Int) < n) then true else decide (n < IntKind.i64.wrap ((0 : Int) - (4000 : Int)))) = false) ∧ ((bif decide ((4000 : Int) < n) then true else decide (n < IntKind.i64.wrap ((0 : Int) - (4000 : Int)))) = false → (bif decide ((4000 : Int) < n) then true else decide (n < IntKind.i64.wrap ((0 : Int) - (4000 : Int)))) = false) ∧ ((bif decide ((4000 : Int) < n) then true else decide (n < IntKind.i64.wrap
      ((0 : Int) - (4000 : Int)))) = false → (bif decide ((4000 : Int) < n) then true else decide (n < IntKind.i64.wrap ((0 : Int) - (4000 : Int)))) = false) ∧ ((bif decide ((4000 : Int) < n) then true else decide (n < IntKind.i64.wrap ((0 : Int) - (4000 : Int)))) = false → (bif decide ((4000 : Int) < n) then true else decide (n < IntKind.i64.wrap ((0 : Int) - (4000 : Int)))) = false) ∧ ((bif decide
      ((4000 : Int) < n) then true else decide (n < IntKind.i64.wrap ((0 : Int) - (4000 : Int)))) = false → (bif decide ((4000 : Int) < n) then true else decide (n < IntKind.i64.wrap ((0 : Int) - (4000 : Int)))) = false) ∧ ((bif bif decide ((4000 : Int) < n) then true else decide (n < IntKind.i64.wrap ((0 : Int) - (4000 : Int))) then true else decide ((4000 : Int) < IntKind.i64.wrap (IntKind.i64.wrap
      ((↑(turnW (red w)).length : Int) - (↑(cut (red (turnW (red w)))).length : Int)) + IntKind.i64.wrap ((↑(cut (red (turnW (red w)))).length : Int) * max n (IntKind.i64.wrap ((0 : Int) - n)))))) = true → (0 : Nat) ≤ (0 : Nat) ∧ packV [V.c (W.rd (D.int IntKind.i64) (List.take (0 : Nat) (List.drop (0 : Nat) []))), V.c (W.int IntKind.i64 (4 : Int))] = A.tup [V.c (W.rd (D.int IntKind.i64) (powR w n).fst),
      V.c (W.int IntKind.i64 (powR w n).snd)] ∧ ([] : List Ob) = []) ∧ ((bif bif decide ((4000 : Int) < n) then true else decide (n < IntKind.i64.wrap ((0 : Int) - (4000 : Int))) then true else decide ((4000 : Int) < IntKind.i64.wrap (IntKind.i64.wrap ((↑(turnW (red w)).length : Int) - (↑(cut (red (turnW (red w)))).length : Int)) + IntKind.i64.wrap ((↑(cut (red (turnW (red w)))).length : Int) * max n
      (IntKind.i64.wrap ((0 : Int) - n)))))) = false → (2 : Int) ≠ (0 : Int) ∧ ((0 : Int) ≤ (0 : Int) ∧ (0 : Int) ≤ IntKind.i64.wrap ((IntKind.i64.wrap ((↑(turnW (red w)).length : Int) - (↑(cut (red (turnW (red w)))).length : Int))).tdiv (2 : Int)) ∧ IntKind.i64.wrap ((IntKind.i64.wrap ((↑(turnW (red w)).length : Int) - (↑(cut (red (turnW (red w)))).length : Int))).tdiv (2 : Int)) ≤ (↑(turnW (red
      w)).length : Int)) ∧ (List.drop (0 : Nat) (List.take (IntKind.i64.wrap ((IntKind.i64.wrap ((↑(turnW (red w)).length : Int) - (↑(cut (red (turnW (red w)))).length : Int))).tdiv (2 : Int))).toNat (turnW (red w)))).length ≤ (1000000 : Nat) ∧ AtLoop (mkSiteF Tryz.prog gRPow Tryz.f26 (0 : Nat) [(prP, [(0 : Nat), (1 : Nat), (6 : Nat), (8 : Nat), (9 : Nat), (10 : Nat)])] [] [some dI]) (Says1 (A.tup [V.c
      (W.rd (D.int IntKind.i64) (powR w n).fst), V.c (W.int IntKind.i64 (powR w n).snd)]) []) [(0 : Nat), (1 : Nat), (0 : Nat), (1 : Nat), (1 : Nat), (1 : Nat), (1 : Nat), (1 : Nat), (1 : Nat), (1 : Nat), (1 : Nat), (1 : Nat)] (fr [((0 : Nat), A.p (V.c (W.rd (D.int IntKind.i64) (turnW (red w))))), ((1 : Nat), A.p (V.c (W.int IntKind.i64 n))), ((6 : Nat), A.p (V.c (W.rd (D.int IntKind.i64) (cut (red
      (turnW (red w))))))), ((8 : Nat), A.p (V.c (W.int IntKind.i64 (IntKind.i64.wrap ((IntKind.i64.wrap ((↑(turnW (red w)).length : Int) - (↑(cut (red (turnW (red w)))).length : Int))).tdiv (2 : Int)))))), ((9 : Nat), A.p (V.c (W.sl (0 : Nat) (0 : Nat) (List.drop (0 : Nat) (List.take (IntKind.i64.wrap ((IntKind.i64.wrap ((↑(turnW (red w)).length : Int) - (↑(cut (red (turnW (red w)))).length :
      Int))).tdiv (2 : Int))).toNat (turnW (red w)))).length (1 : Nat)))), ((10 : Nat), A.p (V.c (W.int IntKind.i64 (0 : Int))))]) (Sto.ofList [Ob.mk (3 : Nat) [Fd.a (0 : Nat) (D.int IntKind.i64) (List.drop (0 : Nat) (List.take (IntKind.i64.wrap ((IntKind.i64.wrap ((↑(turnW (red w)).length : Int) - (↑(cut (red (turnW (red w)))).length : Int))).tdiv (2 : Int))).toNat (turnW (red w))))]])))) ∧ (decide (n
      < (0 : Int)) = false → Ok5 (red w) ∧ (decide (n = (0 : Int)) = false → decide (n = (0 : Int)) = false) ∧ (decide (n = (0 : Int)) = false → decide (n = (0 : Int)) = false) ∧ (decide (n = (0 : Int)) = false → decide (n = (0 : Int)) = false) ∧ ((bif decide (n = (0 : Int)) then true else decide ((↑(cut (red (red w))).length : Int) = (0 : Int))) = true → (0 : Nat) ≤ (0 : Nat) ∧ packV [V.c (W.rd (D.int
      IntKind.i64) (List.take (0 : Nat) (List.drop (0 : Nat) []))), V.c (W.int IntKind.i64 (0 : Int))] = A.tup [V.c (W.rd (D.int IntKind.i64) (powR w n).fst), V.c (W.int IntKind.i64 (powR w n).snd)] ∧ ([] : List Ob) = []) ∧ ((bif decide (n = (0 : Int)) then true else decide ((↑(cut (red (red w))).length : Int) = (0 : Int))) = false → (decide ((4000 : Int) < n) = false → decide ((4000 : Int) < n) =
      false) ∧ (decide ((4000 : Int) < n) = false → decide ((4000 : Int) < n) = false) ∧ (decide ((4000 : Int) < n) = false → decide ((4000 : Int) < n) = false) ∧ (decide ((4000 : Int) < n) = false → decide ((4000 : Int) < n) = false) ∧ ((bif decide ((4000 : Int) < n) then true else decide (n < IntKind.i64.wrap ((0 : Int) - (4000 : Int)))) = false → (bif decide ((4000 : Int) < n) then true else decide
      (n < IntKind.i64.wrap ((0 : Int) - (4000 : Int)))) = false) ∧ ((bif decide ((4000 : Int) < n) then true else decide (n < IntKind.i64.wrap ((0 : Int) - (4000 : Int)))) = false → (bif decide ((4000 : Int) < n) then true else decide (n < IntKind.i64.wrap ((0 : Int) - (4000 : Int)))) = false) ∧ ((bif decide ((4000 : Int) < n) then true else decide (n < IntKind.i64.wrap ((0 : Int) - (4000 : Int)))) =
      false → (bif decide ((4000 : Int) < n) then true else decide (n < IntKind.i64.wrap ((0 : Int) - (4000 : Int)))) = false) ∧ ((bif decide ((4000 : Int) < n) then true else decide (n < IntKind.i64.wrap ((0 : Int) - (4000 : Int)))) = false → (bif decide ((4000 : Int) < n) then true else decide (n < IntKind.i64.wrap ((0 : Int) - (4000 : Int)))) = false) ∧ ((bif decide ((4000 : Int) < n) then true else
      decide (n < IntKind.i64.wrap ((0 : Int) - (4000 : Int)))) = false → (bif decide ((4000 : Int) < n) then true else decide (n < IntKind.i64.wrap ((0 : Int) - (4000 : Int)))) = false) ∧ ((bif decide ((4000 : Int) < n) then true else decide (n < IntKind.i64.wrap ((0 : Int) - (4000 : Int)))) = false → (bif decide ((4000 : Int) < n) then true else decide (n < IntKind.i64.wrap ((0 : Int) - (4000 :
      Int)))) = false) ∧ ((bif decide ((4000 : Int) < n) then true else decide (n < IntKind.i64.wrap ((0 : Int) - (4000 : Int)))) = false → (bif decide ((4000 : Int) < n) then true else decide (n < IntKind.i64.wrap ((0 : Int) - (4000 : Int)))) = false) ∧ ((bif decide ((4000 : Int) < n) then true else decide (n < IntKind.i64.wrap ((0 : Int) - (4000 : Int)))) = false → (bif decide ((4000 : Int) < n) then
      true else decide (n < IntKind.i64.wrap ((0 : Int) - (4000 : Int)))) = false) ∧ ((bif decide ((4000 : Int) < n) then true else decide (n < IntKind.i64.wrap ((0 : Int) - (4000 : Int)))) = false → (bif decide ((4000 : Int) < n) then true else decide (n < IntKind.i64.wrap ((0 : Int) - (4000 : Int)))) = false) ∧ ((bif decide ((4000 : Int) < n) then true else decide (n < IntKind.i64.wrap ((0 : Int) -
      (4000 : Int)))) = false → (bif decide ((4000 : Int) < n) then true else decide (n < IntKind.i64.wrap ((0 : Int) - (4000 : Int)))) = false) ∧ ((bif decide ((4000 : Int) < n) then true else decide (n < IntKind.i64.wrap ((0 : Int) - (4000 : Int)))) = false → (bif decide ((4000 : Int) < n) then true else decide (n < IntKind.i64.wrap ((0 : Int) - (4000 : Int)))) = false) ∧ ((bif decide ((4000 : Int) <
      n) then true else decide (n < IntKind.i64.wrap ((0 : Int) - (4000 : Int)))) = false → (bif decide ((4000 : Int) < n) then true else decide (n < IntKind.i64.wrap ((0 : Int) - (4000 : Int)))) = false) ∧ ((bif decide ((4000 : Int) < n) then true else decide (n < IntKind.i64.wrap ((0 : Int) - (4000 : Int)))) = false → (bif decide ((4000 : Int) < n) then true else decide (n < IntKind.i64.wrap ((0 :
      Int) - (4000 : Int)))) = false) ∧ ((bif decide ((4000 : Int) < n) then true else decide (n < IntKind.i64.wrap ((0 : Int) - (4000 : Int)))) = false → (bif decide ((4000 : Int) < n) then true else decide (n < IntKind.i64.wrap ((0 : Int) - (4000 : Int)))) = false) ∧ ((bif decide ((4000 : Int) < n) then true else decide (n < IntKind.i64.wrap ((0 : Int) - (4000 : Int)))) = false → (bif decide ((4000 :
      Int) < n) then true else decide (n < IntKind.i64.wrap ((0 : Int) - (4000 : Int)))) = false) ∧ ((bif bif decide ((4000 : Int) < n) then true else decide (n < IntKind.i64.wrap ((0 : Int) - (4000 : Int))) then true else decide ((4000 : Int) < IntKind.i64.wrap (IntKind.i64.wrap ((↑(red w).length : Int) - (↑(cut (red (red w))).length : Int)) + IntKind.i64.wrap ((↑(cut (red (red w))).length : Int) * max
      n (IntKind.i64.wrap ((0 : Int) - n)))))) = true → (0 : Nat) ≤ (0 : Nat) ∧ packV [V.c (W.rd (D.int IntKind.i64) (List.take (0 : Nat) (List.drop (0 : Nat) []))), V.c (W.int IntKind.i64 (4 : Int))] = A.tup [V.c (W.rd (D.int IntKind.i64) (powR w n).fst), V.c (W.int IntKind.i64 (powR w n).snd)] ∧ ([] : List Ob) = []) ∧ ((bif bif decide ((4000 : Int) < n) then true else decide (n < IntKind.i64.wrap ((0
      : Int) - (4000 : Int))) then true else decide ((4000 : Int) < IntKind.i64.wrap (IntKind.i64.wrap ((↑(red w).length : Int) - (↑(cut (red (red w))).length : Int)) + IntKind.i64.wrap ((↑(cut (red (red w))).length : Int) * max n (IntKind.i64.wrap ((0 : Int) - n)))))) = false → (2 : Int) ≠ (0 : Int) ∧ ((0 : Int) ≤ (0 : Int) ∧ (0 : Int) ≤ IntKind.i64.wrap ((IntKind.i64.wrap ((↑(red w).length : Int) -
      (↑(cut (red (red w))).length : Int))).tdiv (2 : Int)) ∧ IntKind.i64.wrap ((IntKind.i64.wrap ((↑(red w).length : Int) - (↑(cut (red (red w))).length : Int))).tdiv (2 : Int)) ≤ (↑(red w).length : Int)) ∧ (List.drop (0 : Nat) (List.take (IntKind.i64.wrap ((IntKind.i64.wrap ((↑(red w).length : Int) - (↑(cut (red (red w))).length : Int))).tdiv (2 : Int))).toNat (red w))).length ≤ (1000000 : Nat) ∧
      AtLoop (mkSiteF Tryz.prog gRPow Tryz.f26 (0 : Nat) [(prP, [(0 : Nat), (1 : Nat), (6 : Nat), (8 : Nat), (9 : Nat), (10 : Nat)])] [] [some dI]) (Says1 (A.tup [V.c (W.rd (D.int IntKind.i64) (powR w n).fst), V.c (W.int IntKind.i64 (powR w n).snd)]) []) [(0 : Nat), (1 : Nat), (0 : Nat), (1 : Nat), (1 : Nat), (1 : Nat), (1 : Nat), (1 : Nat), (1 : Nat), (1 : Nat), (1 : Nat), (1 : Nat)] (fr [((0 : Nat),
      A.p (V.c (W.rd (D.int IntKind.i64) (red w)))), ((1 : Nat), A.p (V.c (W.int IntKind.i64 n))), ((6 : Nat), A.p (V.c (W.rd (D.int IntKind.i64) (cut (red (red w)))))), ((8 : Nat), A.p (V.c (W.int IntKind.i64 (IntKind.i64.wrap ((IntKind.i64.wrap ((↑(red w).length : Int) - (↑(cut (red (red w))).length : Int))).tdiv (2 : Int)))))), ((9 : Nat), A.p (V.c (W.sl (0 : Nat) (0 : Nat) (List.drop (0 : Nat)
      (List.take (IntKind.i64.wrap ((IntKind.i64.wrap ((↑(red w).length : Int) - (↑(cut (red (red w))).length : Int))).tdiv (2 : Int))).toNat (red w))).length (1 : Nat)))), ((10 : Nat), A.p (V.c (W.int IntKind.i64 (0 : Int))))]) (Sto.ofList [Ob.mk (3 : Nat) [Fd.a (0 : Nat) (D.int IntKind.i64) (List.drop (0 : Nat) (List.take (IntKind.i64.wrap ((IntKind.i64.wrap ((↑(red w).length : Int) - (↑(cut (red (red
      w))).length : Int))).tdiv (2 : Int))).toNat (red w)))]]))))) (by kernel_rfl) ?_
  try simp only [imp_self, true_and, and_true, Bool.cond_true_left, Bool.or_eq_true, Bool.or_eq_false_iff, decide_eq_true_eq, decide_eq_false_iff_not, Int.not_lt, List.drop_zero, List.take_zero, Nat.le_refl, Int.le_refl, ne_eq, Int.reduceEq, not_false_eq_true]
  obtain ⟨h0, hn⟩ := h
  have hrl := red_len w
  have hwl := h0.2
  have har : All64 (red w) := fun x hx => h0.1 x (red_sub hx)
  have hmax : -4000 ≤ n → n ≤ 4000 → max n (IntKind.i64.wrap (0 - n)) = (n.natAbs : Int) := by
    intro g1 g2
    rw [wrap64 (n := 0 - n) (by omega) (by omega)]; omega
  have hw4 : IntKind.i64.wrap (0 - 4000) = -4000 := by decide
  rw [hw4]
  refine ⟨⟨h0.1, by omega⟩, fun g => ⟨⟨har, by omega⟩, ⟨turnW_all _, by rw [turnW_length]; omega⟩, ?_⟩, fun g => ⟨⟨har, by omega⟩, ?_⟩⟩
  · have hv : (turnW (red w)).length ≤ 100000 := by rw [turnW_length]; omega
    rw [show powR w n = powOf (turnW (red w)) n by rw [powR, if_pos g]]
    generalize turnW (red w) = v at hv
    have hcl := cut_length (red v)
    have hrv := red_len v
    have hpo : powOf v n = if (cut (red v)).length = 0 ∨ n.natAbs = 0 then ([], 0)
      else if 4000 < n.natAbs ∨ 4000 < v.length + (cut (red v)).length * (n.natAbs - 1) then ([], 4)
      else (v.take ((v.length - (cut (red v)).length) / 2) ++ pw (cut (red v)) n.natAbs ++ v.drop ((v.length - (cut (red v)).length) / 2 + (cut (red v)).length), 0) := rfl
    generalize cut (red v) = c at hcl hpo
    refine ⟨fun h => ?_, fun h => ?_⟩
    · rw [hpo, if_pos (by omega)]; rfl
    · have e0 : n.natAbs ≤ 4000 → c.length * n.natAbs ≤ 100000 * 4000 := fun hm => Nat.mul_le_mul (by omega) (by omega)
      have hmm := Nat.mul_sub_one c.length n.natAbs
      have hmp : c.length ≤ c.length * n.natAbs := Nat.le_mul_of_pos_right _ (by omega)
      have e1 : n.natAbs ≤ 4000 → IntKind.i64.wrap (IntKind.i64.wrap ((v.length : Int) - (c.length : Int)) + IntKind.i64.wrap ((c.length : Int) * max n (IntKind.i64.wrap (0 - n)))) = ((v.length + c.length * (n.natAbs - 1) : Nat) : Int) := by
        intro hm
        have := e0 hm
        rw [hmax (by omega) (by omega), wrap64 (n := (v.length : Int) - (c.length : Int)) (by omega) (by omega), ← Int.natCast_mul, wrap64 (n := ((c.length * n.natAbs : Nat) : Int)) (by omega) (by omega), wrap64 (by omega) (by omega)]
        omega
      have e2 : IntKind.i64.wrap ((IntKind.i64.wrap ((v.length : Int) - (c.length : Int))).tdiv 2) = (((v.length - c.length) / 2 : Nat) : Int) := by
        rw [wrap64 (n := (v.length : Int) - (c.length : Int)) (by omega) (by omega), show ((v.length : Int) - (c.length : Int)) = ((v.length - c.length : Nat) : Int) by omega, Int.tdiv_eq_ediv_of_nonneg (by omega), wrap64 (by omega) (by omega)]
        omega
      rw [e2, Int.toNat_natCast]
      refine ⟨fun g => ?_, fun g => ?_⟩
      · rw [hpo, if_neg (by omega), if_pos (by
          rcases Nat.lt_or_ge 4000 n.natAbs with h1 | h1
          · exact .inl h1
          · rw [e1 h1] at g; right; omega)]; rfl
      · rw [e1 (by omega)] at g
        have e7 : (v.take ((v.length - c.length) / 2)).length = (v.length - c.length) / 2 := by rw [List.length_take]; omega
        rw [e7]
        refine ⟨by omega, by omega, ?_⟩
        have hlp := rpow_loop v c n ((v.length - c.length) / 2) n.natAbs (hmax (by omega) (by omega)) (by omega) hv (by omega) (by omega) n.natAbs 0 (by omega) (by omega)
        rw [hpo, if_neg (by omega), if_neg (by omega)]
        rw [show pw c 0 = [] from rfl, List.append_nil, Nat.mul_zero, Nat.add_zero] at hlp
        exact hlp
  · have hv : (red w).length ≤ 100000 := by omega
    rw [show powR w n = powOf (red w) n by rw [powR, if_neg (by omega)]]
    generalize red w = v at hv
    have hcl := cut_length (red v)
    have hrv := red_len v
    have hpo : powOf v n = if (cut (red v)).length = 0 ∨ n.natAbs = 0 then ([], 0)
      else if 4000 < n.natAbs ∨ 4000 < v.length + (cut (red v)).length * (n.natAbs - 1) then ([], 4)
      else (v.take ((v.length - (cut (red v)).length) / 2) ++ pw (cut (red v)) n.natAbs ++ v.drop ((v.length - (cut (red v)).length) / 2 + (cut (red v)).length), 0) := rfl
    generalize cut (red v) = c at hcl hpo
    refine ⟨fun h => ?_, fun h => ?_⟩
    · rw [hpo, if_pos (by omega)]; rfl
    · have e0 : n.natAbs ≤ 4000 → c.length * n.natAbs ≤ 100000 * 4000 := fun hm => Nat.mul_le_mul (by omega) (by omega)
      have hmm := Nat.mul_sub_one c.length n.natAbs
      have hmp : c.length ≤ c.length * n.natAbs := Nat.le_mul_of_pos_right _ (by omega)
      have e1 : n.natAbs ≤ 4000 → IntKind.i64.wrap (IntKind.i64.wrap ((v.length : Int) - (c.length : Int)) + IntKind.i64.wrap ((c.length : Int) * max n (IntKind.i64.wrap (0 - n)))) = ((v.length + c.length * (n.natAbs - 1) : Nat) : Int) := by
        intro hm
        have := e0 hm
        rw [hmax (by omega) (by omega), wrap64 (n := (v.length : Int) - (c.length : Int)) (by omega) (by omega), ← Int.natCast_mul, wrap64 (n := ((c.length * n.natAbs : Nat) : Int)) (by omega) (by omega), wrap64 (by omega) (by omega)]
        omega
      have e2 : IntKind.i64.wrap ((IntKind.i64.wrap ((v.length : Int) - (c.length : Int))).tdiv 2) = (((v.length - c.length) / 2 : Nat) : Int) := by
        rw [wrap64 (n := (v.length : Int) - (c.length : Int)) (by omega) (by omega), show ((v.length : Int) - (c.length : Int)) = ((v.length - c.length : Nat) : Int) by omega, Int.tdiv_eq_ediv_of_nonneg (by omega), wrap64 (by omega) (by omega)]
        omega
      rw [e2, Int.toNat_natCast]
      refine ⟨fun g => ?_, fun g => ?_⟩
      · rw [hpo, if_neg (by omega), if_pos (by
          rcases Nat.lt_or_ge 4000 n.natAbs with h1 | h1
          · exact .inl h1
          · rw [e1 h1] at g; right; omega)]; rfl
      · rw [e1 (by omega)] at g
        have e7 : (v.take ((v.length - c.length) / 2)).length = (v.length - c.length) / 2 := by rw [List.length_take]; omega
        rw [e7]
        refine ⟨by omega, by omega, ?_⟩
        have hlp := rpow_loop v c n ((v.length - c.length) / 2) n.natAbs (hmax (by omega) (by omega)) (by omega) hv (by omega) (by omega) n.natAbs 0 (by omega) (by omega)
        rw [hpo, if_neg (by omega), if_neg (by omega)]
        rw [show pw c 0 = [] from rfl, List.append_nil, Nat.mul_zero, Nat.add_zero] at hlp
        exact hlp
def cRPow : Con := con2 dI (.int .i64) fun w n => (.p (Ok5 w ∧ R64 n), .tup [.c (.rd (.int .i64) (powR w n).1), .c (.int .i64 (powR w n).2)], [])
theorem cRPow_ok : ConOk Tryz.prog 26 cRPow := con2_ok (by kernel_rfl) fun w n h => rpow_sem w n h
noncomputable def gRSum : Gam := [(24, cRCheck)]
theorem gRSum_ok : GamOk Tryz.prog gRSum := gamOk_cons cRCheck_ok gamOk_nil
noncomputable def sRSum : Site := mkSiteF Tryz.prog gRSum Tryz.f30 0 [([0, 1, 0, 1, 1, 1], [0, 7, 8])] [] [some dI]
theorem rsums_loop (w : List Int) (g : Int) (hc : checkW w g = 0) : ∀ (k i : Nat), k = w.length - i → i ≤ w.length →
    AtLoop sRSum (Says1 (.tup [.c (.rd (.int .i64) (sumsW g.toNat w)), .c (.int .i64 0)]) []) [0, 1, 0, 1, 1, 1] (fr [(0, lsI w), (7, slI 0 g.toNat), (8, nI i)]) (.ofList [obI (sumsW g.toNat (w.take i))])
  | k, i, hk, hi => by
    refine atLoop_at gRSum_ok (by kernel_rfl) 100 ?_
    refine of_eq (q :=
        (decide ((↑i : Int) < (↑w.length : Int)) = true → ((0 : Int) ≤ (↑i : Int) ∧ (↑i : Int) < (↑w.length : Int)) ∧ i < w.length ∧ (decide ((0 : Int) < w.getD i (0 : Int)) = true → ((0 : Int) ≤ (↑i : Int) ∧ (↑i : Int) < (↑w.length : Int)) ∧ i < w.length ∧ ((0 : Int) ≤ IntKind.i64.wrap (w.getD i (0 : Int) - (1 : Int)) ∧ IntKind.i64.wrap (w.getD i (0 : Int) - (1 : Int)) < (↑g.toNat : Int)) ∧ (0 : Nat) +
        (IntKind.i64.wrap (w.getD i (0 : Int) - (1 : Int))).toNat < (sumsW g.toNat (List.take i w)).length ∧ ((0 : Int) ≤ IntKind.i64.wrap (w.getD i (0 : Int) - (1 : Int)) ∧ IntKind.i64.wrap (w.getD i (0 : Int) - (1 : Int)) < (↑g.toNat : Int)) ∧ (0 : Nat) + (IntKind.i64.wrap (w.getD i (0 : Int) - (1 : Int))).toNat < (sumsW g.toNat (List.take i w)).length ∧ AtLoop sRSum (Says1 (A.tup [V.c (W.rd (D.int
        IntKind.i64) (sumsW g.toNat w)), V.c (W.int IntKind.i64 (0 : Int))]) []) [(0 : Nat), (1 : Nat), (0 : Nat), (1 : Nat), (1 : Nat), (1 : Nat)] (fr [((0 : Nat), A.p (V.c (W.rd (D.int IntKind.i64) w))), ((7 : Nat), A.p (V.c (W.sl (0 : Nat) (0 : Nat) g.toNat (1 : Nat)))), ((8 : Nat), A.p (V.c (W.int IntKind.i64 (IntKind.i64.wrap ((↑i : Int) + (1 : Int))))))]) (Sto.ofList [Ob.mk (3 : Nat) [Fd.a (0 : Nat)
        (D.int IntKind.i64) ((sumsW g.toNat (List.take i w)).set ((0 : Nat) + (IntKind.i64.wrap (w.getD i (0 : Int) - (1 : Int))).toNat) (IntKind.i64.wrap ((sumsW g.toNat (List.take i w)).getD ((0 : Nat) + (IntKind.i64.wrap (w.getD i (0 : Int) - (1 : Int))).toNat) (0 : Int) + (1 : Int))))]])) ∧ (decide ((0 : Int) < w.getD i (0 : Int)) = false → ((0 : Int) ≤ (↑i : Int) ∧ (↑i : Int) < (↑w.length : Int)) ∧ i
        < w.length ∧ ((0 : Int) ≤ IntKind.i64.wrap (IntKind.i64.wrap ((0 : Int) - w.getD i (0 : Int)) - (1 : Int)) ∧ IntKind.i64.wrap (IntKind.i64.wrap ((0 : Int) - w.getD i (0 : Int)) - (1 : Int)) < (↑g.toNat : Int)) ∧ (0 : Nat) + (IntKind.i64.wrap (IntKind.i64.wrap ((0 : Int) - w.getD i (0 : Int)) - (1 : Int))).toNat < (sumsW g.toNat (List.take i w)).length ∧ ((0 : Int) ≤ IntKind.i64.wrap
        (IntKind.i64.wrap ((0 : Int) - w.getD i (0 : Int)) - (1 : Int)) ∧ IntKind.i64.wrap (IntKind.i64.wrap ((0 : Int) - w.getD i (0 : Int)) - (1 : Int)) < (↑g.toNat : Int)) ∧ (0 : Nat) + (IntKind.i64.wrap (IntKind.i64.wrap ((0 : Int) - w.getD i (0 : Int)) - (1 : Int))).toNat < (sumsW g.toNat (List.take i w)).length ∧ AtLoop sRSum (Says1 (A.tup [V.c (W.rd (D.int IntKind.i64) (sumsW g.toNat w)), V.c
        (W.int IntKind.i64 (0 : Int))]) []) [(0 : Nat), (1 : Nat), (0 : Nat), (1 : Nat), (1 : Nat), (1 : Nat)] (fr [((0 : Nat), A.p (V.c (W.rd (D.int IntKind.i64) w))), ((7 : Nat), A.p (V.c (W.sl (0 : Nat) (0 : Nat) g.toNat (1 : Nat)))), ((8 : Nat), A.p (V.c (W.int IntKind.i64 (IntKind.i64.wrap ((↑i : Int) + (1 : Int))))))]) (Sto.ofList [Ob.mk (3 : Nat) [Fd.a (0 : Nat) (D.int IntKind.i64) ((sumsW g.toNat
        (List.take i w)).set ((0 : Nat) + (IntKind.i64.wrap (IntKind.i64.wrap ((0 : Int) - w.getD i (0 : Int)) - (1 : Int))).toNat) (IntKind.i64.wrap ((sumsW g.toNat (List.take i w)).getD ((0 : Nat) + (IntKind.i64.wrap (IntKind.i64.wrap ((0 : Int) - w.getD i (0 : Int)) - (1 : Int))).toNat) (0 : Int) - (1 : Int))))]]))) ∧ (decide ((↑i : Int) < (↑w.length : Int)) = false → (0 : Nat) + g.toNat ≤ (sumsW
        g.toNat (List.take i w)).length ∧ packV [V.c (W.rd (D.int IntKind.i64) (List.take g.toNat (List.drop (0 : Nat) (sumsW g.toNat (List.take i w))))), V.c (W.int IntKind.i64 (0 : Int))] = A.tup [V.c (W.rd (D.int IntKind.i64) (sumsW g.toNat w)), V.c (W.int IntKind.i64 (0 : Int))] ∧ ([] : List Ob) = [])) (by kernel_rfl) ?_
    try simp only [and_true, Nat.zero_add, decide_eq_true_eq, decide_eq_false_iff_not, Int.not_lt, List.drop_zero]
    obtain ⟨hg, hl, ha⟩ := checkW_zero hc
    rw [wrap64 (n := (i : Int) + 1) (by omega) (by omega)]
    have step : i < w.length → ∀ (q : Nat) (d : Int), q = (w.getD i 0).natAbs - 1 → d = cmpI (w.getD i 0) 0 →
        AtLoop sRSum (Says1 (.tup [.c (.rd (.int .i64) (sumsW g.toNat w)), .c (.int .i64 0)]) []) [0, 1, 0, 1, 1, 1] (fr [(0, lsI w), (7, slI 0 g.toNat), (8, nI ((i : Int) + 1))]) (.ofList [obI ((sumsW g.toNat (w.take i)).set q (IntKind.i64.wrap ((sumsW g.toNat (w.take i)).getD q 0 + d)))]) := by
      intro hil q d hq hd
      have hx := ha (w.getD i 0) (by rw [List.getD_eq_getElem?_getD, List.getElem?_eq_getElem (by omega)]; exact List.getElem_mem _)
      subst hq hd
      rw [sumsW_getD (by omega)]
      have hcl := cnt_le ((((w.getD i 0).natAbs - 1 : Nat) : Int) + 1) (w.take i)
      have hcr := cmpI_R (w.getD i 0) 0
      have hti : (w.take i).length ≤ 4000 := by simp; omega
      rw [wrap64 (n := cnt ((((w.getD i 0).natAbs - 1 : Nat) : Int) + 1) (w.take i) + cmpI (w.getD i 0) 0) (by omega) (by omega), sumsW_step hx.1 (by omega) (by omega), ← take_snoc (by omega)]
      cases k with
      | zero => omega
      | succ k => exact rsums_loop w g hc k (i + 1) (by omega) (by omega)
    rw [sumsW_length]
    refine ⟨fun h => ⟨by omega, by omega, ?_⟩, fun h => ?_⟩
    · have hx := ha (w.getD i 0) (by rw [List.getD_eq_getElem?_getD, List.getElem?_eq_getElem (by omega)]; exact List.getElem_mem _)
      refine ⟨fun g1 => ?_, fun g1 => ?_⟩
      · rw [wrap64 (n := w.getD i 0 - 1) (by omega) (by omega)]
        exact ⟨by omega, by omega, by omega, by omega, by omega, by omega, step (by omega) _ _ (by omega) (by rw [cmpI, if_neg (by omega), if_pos (by omega)])⟩
      · rw [wrap64 (n := 0 - w.getD i 0) (by omega) (by omega), wrap64 (n := 0 - w.getD i 0 - 1) (by omega) (by omega)]
        exact ⟨by omega, by omega, by omega, by omega, by omega, by omega, step (by omega) _ _ (by omega) (by rw [cmpI, if_pos (by omega)])⟩
    · refine ⟨by omega, ?_⟩
      rw [List.take_of_length_le (l := w) (by omega), List.take_of_length_le (by rw [sumsW_length]; omega)]; rfl
theorem rsums_sem (w : List Int) (g : Int) (hw : w.length ≤ 1000000) : FnSem Tryz.prog 30 [lsI w, nI g] [] (.tup [.c (.rd (.int .i64) (sumR w g)), .c (.int .i64 (checkW w g))]) [] := by
  refine fnSemF_at (live := [([0, 1, 0, 1, 1, 1], [0, 7, 8])]) (fzl := []) (fz := [some dI]) gRSum_ok Tryz.func30 (by kernel_rfl) (keep := 0) rfl (by kernel_rfl) 100 ?_
  refine of_eq (q :=
      w.length ≤ (1000000 : Nat) ∧ ((!decide (checkW w g = (0 : Int))) = true → (0 : Nat) ≤ (0 : Nat) ∧ packV [V.c (W.rd (D.int IntKind.i64) (List.take (0 : Nat) (List.drop (0 : Nat) []))), V.c (W.int IntKind.i64 (checkW w g))] = A.tup [V.c (W.rd (D.int IntKind.i64) (sumR w g)), V.c (W.int IntKind.i64 (checkW w g))] ∧ ([] : List Ob) = []) ∧ ((!decide (checkW w g = (0 : Int))) = false → ((0 : Int) ≤ g ∧
      g ≤ g ∧ (↑(8 : Nat) : Int) * g ≤ (140737488355328 : Int)) ∧ AtLoop (mkSiteF Tryz.prog gRSum Tryz.f30 (0 : Nat) [([(0 : Nat), (1 : Nat), (0 : Nat), (1 : Nat), (1 : Nat), (1 : Nat)], [(0 : Nat), (7 : Nat), (8 : Nat)])] [] [some dI]) (Says1 (A.tup [V.c (W.rd (D.int IntKind.i64) (sumR w g)), V.c (W.int IntKind.i64 (checkW w g))]) []) [(0 : Nat), (1 : Nat), (0 : Nat), (1 : Nat), (1 : Nat), (1 : Nat)]
      (fr [((0 : Nat), A.p (V.c (W.rd (D.int IntKind.i64) w))), ((7 : Nat), A.p (V.c (W.sl (0 : Nat) (0 : Nat) g.toNat (1 : Nat)))), ((8 : Nat), A.p (V.c (W.int IntKind.i64 (0 : Int))))]) (Sto.ofList [Ob.mk (3 : Nat) [Fd.a (0 : Nat) (D.int IntKind.i64) (List.replicate g.toNat (0 : Int))]]))) (by kernel_rfl) ?_
  try simp only [true_and, and_true, Bool.not_eq_true', Bool.not_eq_false', decide_eq_true_eq, decide_eq_false_iff_not, List.drop_zero, List.take_zero, Nat.le_refl, Int.le_refl]
  refine ⟨hw, fun h => ?_, fun h => ?_⟩
  · rw [sumR, if_neg h]; rfl
  · obtain ⟨hg, hl, ha⟩ := checkW_zero h
    refine ⟨by omega, ?_⟩
    have := rsums_loop w g h w.length 0 (by omega) (by omega)
    rw [show sumsW g.toNat (w.take 0) = List.replicate g.toNat 0 by
      rw [List.take_zero, sumsW]
      apply List.ext_getElem?
      intro j
      rw [List.getElem?_map, List.getElem?_replicate]
      by_cases hj : j < g.toNat
      · rw [List.getElem?_range hj, if_pos hj]; rfl
      · rw [List.getElem?_eq_none (by simp; omega), if_neg hj]; rfl] at this
    rw [sumR, if_pos h, h]
    exact this
def cRSums : Con := con2 dI (.int .i64) fun w g => (.p (List.length (α := Int) w ≤ 1000000), .tup [.c (.rd (.int .i64) (sumR w g)), .c (.int .i64 (checkW w g))], [])
theorem cRSums_ok : ConOk Tryz.prog 30 cRSums := con2_ok (by kernel_rfl) fun w g h => rsums_sem w g h
end Go.Proofs.YtnnebonlolpehaaGreatDoor
