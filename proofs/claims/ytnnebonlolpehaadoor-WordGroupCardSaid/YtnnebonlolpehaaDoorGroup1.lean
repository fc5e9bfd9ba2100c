/- The law WordGroup, as a call. -/
import Derived.Test.YtnnebonlolpehaaDoorCyclic1
namespace Go.Proofs.YtnnebonlolpehaaDoor
open Go.Loom Go.Words
set_option maxRecDepth 100000
/-- Words of letters for four generators that are not too long. -/
def S4 (n : Nat) (w : List Int) : Prop := W4 w ∧ w.length ≤ n
theorem S4.red {n : Nat} {w : List Int} (h : S4 n w) : S4 n (red w) := ⟨h.1.red, Nat.le_trans (red_len w) h.2⟩
theorem S4.app {n m : Nat} {u v : List Int} (h : S4 n u) (g : S4 m v) : S4 (n + m) (List.append u v) := ⟨h.1.app g.1, by have := h.2; have := g.2; show (u ++ v).length ≤ _; rw [List.length_append]; omega⟩
theorem S4.turn {n : Nat} {w : List Int} (h : S4 n w) : S4 n (turnW w) := ⟨by rw [turnW_W4 h.1]; exact h.1.turn, by rw [turnW_length]; exact h.2⟩
theorem S4.ok {n : Nat} {w : List Int} (h : S4 n w) (hn : n ≤ 4000 := by omega) : Ok5 w := .of h.1 (Nat.le_trans h.2 hn)
theorem S4.tw {n : Nat} {w : List Int} (h : S4 n w) : turnW w = Words.turn w := turnW_W4 h.1
theorem S4.nz {n : Nat} {w : List Int} (h : S4 n w) : NZ w := h.1.nz
theorem side_cut {v : List Int} (h : Rd v) : (v.length - (cut v).length) / 2 = side v v.length 0 := by
  obtain ⟨s, e, hs, _⟩ := cut_split h
  have := congrArg List.length e
  simp only [List.length_append, turn_length] at this
  omega
theorem pow_S4 {n : Nat} {w : List Int} (h : S4 n w) (x : Int) (hx : n + n * x.natAbs ≤ 4000) : powR w x = (power w x, 0) ∧ S4 4000 (power w x) := by
  have key : ∀ v, S4 n v → Rd v → (powOf v x = ((if x = 0 ∨ cut v = [] then [] else v.take (side v v.length 0) ++ pw (cut v) x.natAbs ++ v.drop (side v v.length 0 + (cut v).length)), 0) ∧ S4 4000 (if x = 0 ∨ cut v = [] then [] else v.take (side v v.length 0) ++ pw (cut v) x.natAbs ++ v.drop (side v v.length 0 + (cut v).length))) := by
    intro v hv hr
    have hc := cut_length v
    have hvl := hv.2
    have hm1 : (cut v).length * (x.natAbs - 1) ≤ n * x.natAbs := Nat.mul_le_mul (by omega) (by omega)
    have hm2 : x.natAbs * (cut v).length ≤ n * x.natAbs := by rw [Nat.mul_comm]; exact Nat.mul_le_mul_right _ (by omega)
    unfold powOf
    rw [red_of_rd hr, side_cut hr]
    by_cases h0 : x = 0 ∨ cut v = []
    · rw [if_pos h0, if_pos (by rcases h0 with h0 | h0
                                · right; omega
                                · left; rw [h0]; rfl)]
      exact ⟨rfl, fun y hy => by simp at hy, by simp⟩
    · have h1 : ¬((cut v).length = 0 ∨ x.natAbs = 0) := by
        rintro (h1 | h1)
        · exact h0 (.inr (List.eq_nil_of_length_eq_zero h1))
        · exact h0 (.inl (by omega))
      have hpos : x.natAbs ≤ x.natAbs * (cut v).length := Nat.le_mul_of_pos_right _ (by omega)
      rw [if_neg h0, if_neg h1, if_neg (by omega)]
      refine ⟨rfl, ?_, ?_⟩
      · have hcut : W4 (cut v) := fun y hy => hv.1 y (List.mem_of_mem_drop (List.mem_of_mem_take hy))
        have hpw : ∀ k, W4 (pw (cut v) k) := by
          intro k
          induction k with
          | zero => intro y hy; simp [pw] at hy
          | succ k ih => exact hcut.app ih
        intro y hy
        simp only [List.mem_append] at hy
        rcases hy with (hy | hy) | hy
        · exact hv.1 y (List.mem_of_mem_take hy)
        · exact hpw _ y hy
        · exact hv.1 y (List.mem_of_mem_drop hy)
      · have hs := side_cut hr
        simp only [List.length_append, List.length_take, List.length_drop, pw_length]
        omega
  have e : powR w x = powOf (if x < 0 then Words.turn (red w) else red w) x := by
    rw [powR, h.red.tw]
  rw [e]
  by_cases hx0 : x < 0
  · have e2 : power w x = (if x = 0 ∨ cut (Words.turn (red w)) = [] then [] else (Words.turn (red w)).take (side (Words.turn (red w)) (Words.turn (red w)).length 0) ++ pw (cut (Words.turn (red w))) x.natAbs ++ (Words.turn (red w)).drop (side (Words.turn (red w)) (Words.turn (red w)).length 0 + (cut (Words.turn (red w))).length)) := by
      simp only [power, if_pos hx0]
    rw [if_pos hx0, e2]
    exact key _ (by rw [← h.red.tw]; exact h.red.turn) (rd_turn (red_rd w))
  · have e2 : power w x = (if x = 0 ∨ cut (red w) = [] then [] else (red w).take (side (red w) (red w).length 0) ++ pw (cut (red w)) x.natAbs ++ (red w).drop (side (red w) (red w).length 0 + (cut (red w)).length)) := by
      simp only [power, if_neg hx0]
    rw [if_neg hx0, e2]
    exact key _ h.red (red_rd w)
/-- Lists that are equal. -/
def cSameT : Con := con2 dI dI fun a b => (.p ((show List Int from a) = b ∧ List.length (α := Int) a ≤ 1000000000), bB true, [])
theorem cSameT_ok : ConOk Tryd.prog 13 cSameT := con2_ok (by kernel_rfl) fun a b h => by
  have := same_sem a b h.2
  rw [decide_eq_true h.1] at this
  exact this
/-- Powers of words that are not long. -/
theorem pow4_sem (w : List Int) (n : Int) (h : S4 40 w ∧ -20 ≤ n ∧ n ≤ 20) : FnSem Tryd.prog 21 [lsI w, nI n] [] (.tup [.c (.rd (.int .i64) (power w n)), .c (.int .i64 0)]) [] := by
  have := pow_sem w n ⟨h.1.ok, by unfold R64; omega⟩
  rw [(pow_S4 h.1 n (by omega)).1] at this
  exact this
def cPow4 : Con := con2 dI (.int .i64) fun w n => (.p (S4 40 w ∧ -20 ≤ (show Int from n) ∧ (show Int from n) ≤ 20), .tup [.c (.rd (.int .i64) (power w n)), .c (.int .i64 0)], [])
theorem cPow4_ok : ConOk Tryd.prog 21 cPow4 := con2_ok (by kernel_rfl) fun w n h => by
  exact pow4_sem w n h
noncomputable def gG : Gam := [(8, cLives), (9, cLet), (11, cPick), (19, cInvert), (18, cMul), (10, cRed), (16, cConj), (20, cComm), (21, cPow4), (13, cSameT)]
theorem gG_ok : GamOk Tryd.prog gG := gamOk_cons cLives_ok (gamOk_cons cLet_ok (gamOk_cons cPick_ok (gamOk_cons cInvert_ok (gamOk_cons cMul_ok (gamOk_cons cRed_ok (gamOk_cons cConj_ok (gamOk_cons cComm_ok (gamOk_cons cPow4_ok (gamOk_cons cSameT_ok gamOk_nil)))))))))
set_option maxHeartbeats 4000000 in
theorem grouplaw_sem (l m n : List Int) (x y : Int) : FnSem Tryd.prog 5 [lsI l, lsI m, lsI n, nI x, nI y] [] (bB true) [] := by
  refine fnSem_at (live := []) gG_ok Tryd.func5 (by kernel_rfl) (keep := 0) rfl (by kernel_rfl) 100 ?_
  refine of_eq (q :=
      ((!true) = true → packV [V.c (W.bool false)] = bB true ∧ ([] : List Ob) = []) ∧ ((!true) = false → (decide ((40 : Int) < (↑l.length : Int)) = false → decide ((40 : Int) < (↑l.length : Int)) = false) ∧ (decide ((40 : Int) < (↑l.length : Int)) = false → decide ((40 : Int) < (↑l.length : Int)) = false) ∧ (decide ((40 : Int) < (↑l.length : Int)) = false → decide ((40 : Int) < (↑l.length : Int)) =
      false) ∧ ((bif decide ((40 : Int) < (↑l.length : Int)) then true else decide ((40 : Int) < (↑m.length : Int))) = false → (bif decide ((40 : Int) < (↑l.length : Int)) then true else decide ((40 : Int) < (↑m.length : Int))) = false) ∧ ((bif decide ((40 : Int) < (↑l.length : Int)) then true else decide ((40 : Int) < (↑m.length : Int))) = false → (bif decide ((40 : Int) < (↑l.length : Int)) then true
      else decide ((40 : Int) < (↑m.length : Int))) = false) ∧ ((bif decide ((40 : Int) < (↑l.length : Int)) then true else decide ((40 : Int) < (↑m.length : Int))) = false → (bif decide ((40 : Int) < (↑l.length : Int)) then true else decide ((40 : Int) < (↑m.length : Int))) = false) ∧ ((bif bif decide ((40 : Int) < (↑l.length : Int)) then true else decide ((40 : Int) < (↑m.length : Int)) then true else
      decide ((40 : Int) < (↑n.length : Int))) = true → packV [V.c (W.bool true)] = bB true ∧ ([] : List Ob) = []) ∧ ((bif bif decide ((40 : Int) < (↑l.length : Int)) then true else decide ((40 : Int) < (↑m.length : Int)) then true else decide ((40 : Int) < (↑n.length : Int))) = false → l.length ≤ (1000000 : Nat) ∧ m.length ≤ (1000000 : Nat) ∧ n.length ≤ (1000000 : Nat) ∧ ((1 : Int) ≤ (21 : Int) ∧ (21 :
      Int) ≤ (4611686018427387904 : Int)) ∧ ((1 : Int) ≤ (21 : Int) ∧ (21 : Int) ≤ (4611686018427387904 : Int)) ∧ Ok5 (List.map letter l) ∧ Ok5 (List.map letter m) ∧ (Ok5 (List.map letter l) ∧ Ok5 (List.map letter m)) ∧ (Ok5 (red ((List.map letter l).append (List.map letter m))) ∧ Ok5 (List.map letter n)) ∧ (Ok5 (List.map letter m) ∧ Ok5 (List.map letter n)) ∧ (Ok5 (List.map letter l) ∧ Ok5 (red
      ((List.map letter m).append (List.map letter n)))) ∧ (red ((red ((List.map letter l).append (List.map letter m))).append (List.map letter n)) = red ((List.map letter l).append (red ((List.map letter m).append (List.map letter n)))) ∧ (red ((red ((List.map letter l).append (List.map letter m))).append (List.map letter n))).length ≤ (1000000000 : Nat)) ∧ ((!true) = false → (!true) = false) ∧
      ((!true) = false → (!true) = false) ∧ ((!true) = false → Ok5 (List.map letter l) ∧ Ok5 (red (turnW (List.map letter l)))) ∧ ((!true) = false → (!true) = false) ∧ ((!true) = false → (!true) = false) ∧ ((!true) = false → (!true) = false) ∧ ((bif !true then true else !decide ((↑(red ((List.map letter l).append (red (turnW (List.map letter l))))).length : Int) = (0 : Int))) = false → (bif !true then
      true else !decide ((↑(red ((List.map letter l).append (red (turnW (List.map letter l))))).length : Int) = (0 : Int))) = false) ∧ ((bif !true then true else !decide ((↑(red ((List.map letter l).append (red (turnW (List.map letter l))))).length : Int) = (0 : Int))) = false → (bif !true then true else !decide ((↑(red ((List.map letter l).append (red (turnW (List.map letter l))))).length : Int) = (0 :
      Int))) = false) ∧ ((bif !true then true else !decide ((↑(red ((List.map letter l).append (red (turnW (List.map letter l))))).length : Int) = (0 : Int))) = false → Ok5 (red (turnW (List.map letter l))) ∧ Ok5 (List.map letter l)) ∧ ((bif !true then true else !decide ((↑(red ((List.map letter l).append (red (turnW (List.map letter l))))).length : Int) = (0 : Int))) = false → (bif !true then true else
      !decide ((↑(red ((List.map letter l).append (red (turnW (List.map letter l))))).length : Int) = (0 : Int))) = false) ∧ ((bif !true then true else !decide ((↑(red ((List.map letter l).append (red (turnW (List.map letter l))))).length : Int) = (0 : Int))) = false → (bif !true then true else !decide ((↑(red ((List.map letter l).append (red (turnW (List.map letter l))))).length : Int) = (0 : Int))) =
      false) ∧ ((bif !true then true else !decide ((↑(red ((List.map letter l).append (red (turnW (List.map letter l))))).length : Int) = (0 : Int))) = false → (bif !true then true else !decide ((↑(red ((List.map letter l).append (red (turnW (List.map letter l))))).length : Int) = (0 : Int))) = false) ∧ ((bif bif !true then true else !decide ((↑(red ((List.map letter l).append (red (turnW (List.map
      letter l))))).length : Int) = (0 : Int)) then true else !decide ((↑(red ((red (turnW (List.map letter l))).append (List.map letter l))).length : Int) = (0 : Int))) = false → (bif bif !true then true else !decide ((↑(red ((List.map letter l).append (red (turnW (List.map letter l))))).length : Int) = (0 : Int)) then true else !decide ((↑(red ((red (turnW (List.map letter l))).append (List.map letter
      l))).length : Int) = (0 : Int))) = false) ∧ ((bif bif !true then true else !decide ((↑(red ((List.map letter l).append (red (turnW (List.map letter l))))).length : Int) = (0 : Int)) then true else !decide ((↑(red ((red (turnW (List.map letter l))).append (List.map letter l))).length : Int) = (0 : Int))) = false → Ok5 (List.map letter l) ∧ Ok5 []) ∧ ((bif bif !true then true else !decide ((↑(red
      ((List.map letter l).append (red (turnW (List.map letter l))))).length : Int) = (0 : Int)) then true else !decide ((↑(red ((red (turnW (List.map letter l))).append (List.map letter l))).length : Int) = (0 : Int))) = false → (bif bif !true then true else !decide ((↑(red ((List.map letter l).append (red (turnW (List.map letter l))))).length : Int) = (0 : Int)) then true else !decide ((↑(red ((red
      (turnW (List.map letter l))).append (List.map letter l))).length : Int) = (0 : Int))) = false) ∧ ((bif bif !true then true else !decide ((↑(red ((List.map letter l).append (red (turnW (List.map letter l))))).length : Int) = (0 : Int)) then true else !decide ((↑(red ((red (turnW (List.map letter l))).append (List.map letter l))).length : Int) = (0 : Int))) = false → All64 (List.map letter l) ∧
      (List.map letter l).length ≤ (1000000 : Nat)) ∧ ((bif bif !true then true else !decide ((↑(red ((List.map letter l).append (red (turnW (List.map letter l))))).length : Int) = (0 : Int)) then true else !decide ((↑(red ((red (turnW (List.map letter l))).append (List.map letter l))).length : Int) = (0 : Int))) = false → (bif bif !true then true else !decide ((↑(red ((List.map letter l).append (red
      (turnW (List.map letter l))))).length : Int) = (0 : Int)) then true else !decide ((↑(red ((red (turnW (List.map letter l))).append (List.map letter l))).length : Int) = (0 : Int))) = false) ∧ ((bif bif !true then true else !decide ((↑(red ((List.map letter l).append (red (turnW (List.map letter l))))).length : Int) = (0 : Int)) then true else !decide ((↑(red ((red (turnW (List.map letter
      l))).append (List.map letter l))).length : Int) = (0 : Int))) = false → (bif bif !true then true else !decide ((↑(red ((List.map letter l).append (red (turnW (List.map letter l))))).length : Int) = (0 : Int)) then true else !decide ((↑(red ((red (turnW (List.map letter l))).append (List.map letter l))).length : Int) = (0 : Int))) = false) ∧ ((bif bif !true then true else !decide ((↑(red ((List.map
      letter l).append (red (turnW (List.map letter l))))).length : Int) = (0 : Int)) then true else !decide ((↑(red ((red (turnW (List.map letter l))).append (List.map letter l))).length : Int) = (0 : Int))) = false → red ((List.map letter l).append []) = red (List.map letter l) ∧ (red ((List.map letter l).append [])).length ≤ (1000000000 : Nat)) ∧ ((bif bif !true then true else !decide ((↑(red
      ((List.map letter l).append (red (turnW (List.map letter l))))).length : Int) = (0 : Int)) then true else !decide ((↑(red ((red (turnW (List.map letter l))).append (List.map letter l))).length : Int) = (0 : Int))) = false → (bif bif !true then true else !decide ((↑(red ((List.map letter l).append (red (turnW (List.map letter l))))).length : Int) = (0 : Int)) then true else !decide ((↑(red ((red
      (turnW (List.map letter l))).append (List.map letter l))).length : Int) = (0 : Int))) = false) ∧ ((bif bif !true then true else !decide ((↑(red ((List.map letter l).append (red (turnW (List.map letter l))))).length : Int) = (0 : Int)) then true else !decide ((↑(red ((red (turnW (List.map letter l))).append (List.map letter l))).length : Int) = (0 : Int))) = false → (bif bif !true then true else
      !decide ((↑(red ((List.map letter l).append (red (turnW (List.map letter l))))).length : Int) = (0 : Int)) then true else !decide ((↑(red ((red (turnW (List.map letter l))).append (List.map letter l))).length : Int) = (0 : Int))) = false) ∧ ((bif bif bif !true then true else !decide ((↑(red ((List.map letter l).append (red (turnW (List.map letter l))))).length : Int) = (0 : Int)) then true else
      !decide ((↑(red ((red (turnW (List.map letter l))).append (List.map letter l))).length : Int) = (0 : Int)) then true else !true) = false → (bif bif bif !true then true else !decide ((↑(red ((List.map letter l).append (red (turnW (List.map letter l))))).length : Int) = (0 : Int)) then true else !decide ((↑(red ((red (turnW (List.map letter l))).append (List.map letter l))).length : Int) = (0 :
      Int)) then true else !true) = false) ∧ ((bif bif bif !true then true else !decide ((↑(red ((List.map letter l).append (red (turnW (List.map letter l))))).length : Int) = (0 : Int)) then true else !decide ((↑(red ((red (turnW (List.map letter l))).append (List.map letter l))).length : Int) = (0 : Int)) then true else !true) = false → Ok5 (red (turnW (List.map letter l)))) ∧ ((bif bif bif !true then
      true else !decide ((↑(red ((List.map letter l).append (red (turnW (List.map letter l))))).length : Int) = (0 : Int)) then true else !decide ((↑(red ((red (turnW (List.map letter l))).append (List.map letter l))).length : Int) = (0 : Int)) then true else !true) = false → (bif bif bif !true then true else !decide ((↑(red ((List.map letter l).append (red (turnW (List.map letter l))))).length : Int) =
      (0 : Int)) then true else !decide ((↑(red ((red (turnW (List.map letter l))).append (List.map letter l))).length : Int) = (0 : Int)) then true else !true) = false) ∧ ((bif bif bif !true then true else !decide ((↑(red ((List.map letter l).append (red (turnW (List.map letter l))))).length : Int) = (0 : Int)) then true else !decide ((↑(red ((red (turnW (List.map letter l))).append (List.map letter
      l))).length : Int) = (0 : Int)) then true else !true) = false → All64 (List.map letter l) ∧ (List.map letter l).length ≤ (1000000 : Nat)) ∧ ((bif bif bif !true then true else !decide ((↑(red ((List.map letter l).append (red (turnW (List.map letter l))))).length : Int) = (0 : Int)) then true else !decide ((↑(red ((red (turnW (List.map letter l))).append (List.map letter l))).length : Int) = (0 :
      Int)) then true else !true) = false → (bif bif bif !true then true else !decide ((↑(red ((List.map letter l).append (red (turnW (List.map letter l))))).length : Int) = (0 : Int)) then true else !decide ((↑(red ((red (turnW (List.map letter l))).append (List.map letter l))).length : Int) = (0 : Int)) then true else !true) = false) ∧ ((bif bif bif !true then true else !decide ((↑(red ((List.map
      letter l).append (red (turnW (List.map letter l))))).length : Int) = (0 : Int)) then true else !decide ((↑(red ((red (turnW (List.map letter l))).append (List.map letter l))).length : Int) = (0 : Int)) then true else !true) = false → (bif bif bif !true then true else !decide ((↑(red ((List.map letter l).append (red (turnW (List.map letter l))))).length : Int) = (0 : Int)) then true else !decide
      ((↑(red ((red (turnW (List.map letter l))).append (List.map letter l))).length : Int) = (0 : Int)) then true else !true) = false) ∧ ((bif bif bif !true then true else !decide ((↑(red ((List.map letter l).append (red (turnW (List.map letter l))))).length : Int) = (0 : Int)) then true else !decide ((↑(red ((red (turnW (List.map letter l))).append (List.map letter l))).length : Int) = (0 : Int)) then
      true else !true) = false → red (turnW (red (turnW (List.map letter l)))) = red (List.map letter l) ∧ (red (turnW (red (turnW (List.map letter l))))).length ≤ (1000000000 : Nat)) ∧ ((bif bif bif !true then true else !decide ((↑(red ((List.map letter l).append (red (turnW (List.map letter l))))).length : Int) = (0 : Int)) then true else !decide ((↑(red ((red (turnW (List.map letter l))).append
      (List.map letter l))).length : Int) = (0 : Int)) then true else !true) = false → (bif bif bif !true then true else !decide ((↑(red ((List.map letter l).append (red (turnW (List.map letter l))))).length : Int) = (0 : Int)) then true else !decide ((↑(red ((red (turnW (List.map letter l))).append (List.map letter l))).length : Int) = (0 : Int)) then true else !true) = false) ∧ ((bif bif bif !true
      then true else !decide ((↑(red ((List.map letter l).append (red (turnW (List.map letter l))))).length : Int) = (0 : Int)) then true else !decide ((↑(red ((red (turnW (List.map letter l))).append (List.map letter l))).length : Int) = (0 : Int)) then true else !true) = false → (bif bif bif !true then true else !decide ((↑(red ((List.map letter l).append (red (turnW (List.map letter l))))).length :
      Int) = (0 : Int)) then true else !decide ((↑(red ((red (turnW (List.map letter l))).append (List.map letter l))).length : Int) = (0 : Int)) then true else !true) = false) ∧ ((bif bif bif bif !true then true else !decide ((↑(red ((List.map letter l).append (red (turnW (List.map letter l))))).length : Int) = (0 : Int)) then true else !decide ((↑(red ((red (turnW (List.map letter l))).append
      (List.map letter l))).length : Int) = (0 : Int)) then true else !true then true else !true) = true → packV [V.c (W.bool false)] = bB true ∧ ([] : List Ob) = []) ∧ ((bif bif bif bif !true then true else !decide ((↑(red ((List.map letter l).append (red (turnW (List.map letter l))))).length : Int) = (0 : Int)) then true else !decide ((↑(red ((red (turnW (List.map letter l))).append (List.map letter
      l))).length : Int) = (0 : Int)) then true else !true then true else !true) = false → (Ok5 (List.map letter l) ∧ Ok5 (List.map letter m)) ∧ (Ok5 (red (turnW (List.map letter m))) ∧ Ok5 (List.map letter l)) ∧ (Ok5 (red ((red (turnW (List.map letter m))).append (List.map letter l))) ∧ Ok5 (List.map letter m)) ∧ (red (turnW (List.map letter m) ++ List.map letter l ++ List.map letter m) = red ((red
      ((red (turnW (List.map letter m))).append (List.map letter l))).append (List.map letter m)) ∧ (red (turnW (List.map letter m) ++ List.map letter l ++ List.map letter m)).length ≤ (1000000000 : Nat)) ∧ ((!true) = false → (!true) = false) ∧ ((!true) = false → (!true) = false) ∧ ((!true) = false → Ok5 (List.map letter l) ∧ Ok5 (List.map letter m)) ∧ ((!true) = false → (!true) = false) ∧ ((!true) =
      false → (!true) = false) ∧ ((!true) = false → Ok5 (red (turnW (List.map letter l))) ∧ Ok5 (red (turnW (List.map letter m)))) ∧ ((!true) = false → (!true) = false) ∧ ((!true) = false → (!true) = false) ∧ ((!true) = false → Ok5 (List.map letter l) ∧ Ok5 (List.map letter m)) ∧ ((!true) = false → (!true) = false) ∧ ((!true) = false → (!true) = false) ∧ ((!true) = false → Ok5 (red ((red (turnW
      (List.map letter l))).append (red (turnW (List.map letter m))))) ∧ Ok5 (red ((List.map letter l).append (List.map letter m)))) ∧ ((!true) = false → (!true) = false) ∧ ((!true) = false → (!true) = false) ∧ ((!true) = false → red (turnW (List.map letter l) ++ turnW (List.map letter m) ++ List.map letter l ++ List.map letter m) = red ((red ((red (turnW (List.map letter l))).append (red (turnW
      (List.map letter m))))).append (red ((List.map letter l).append (List.map letter m)))) ∧ (red (turnW (List.map letter l) ++ turnW (List.map letter m) ++ List.map letter l ++ List.map letter m)).length ≤ (1000000000 : Nat)) ∧ ((!true) = false → (!true) = false) ∧ ((!true) = false → (!true) = false) ∧ ((bif !true then true else !true) = true → packV [V.c (W.bool false)] = bB true ∧ ([] : List Ob) =
      []) ∧ ((bif !true then true else !true) = false → (S4 (40 : Nat) (List.map letter l) ∧ (-20 : Int) ≤ IntKind.i64.wrap (x % (21 : Int) - (10 : Int)) ∧ IntKind.i64.wrap (x % (21 : Int) - (10 : Int)) ≤ (20 : Int)) ∧ (S4 (40 : Nat) (List.map letter l) ∧ (-20 : Int) ≤ IntKind.i64.wrap (y % (21 : Int) - (10 : Int)) ∧ IntKind.i64.wrap (y % (21 : Int) - (10 : Int)) ≤ (20 : Int)) ∧ (S4 (40 : Nat) (List.map
      letter l) ∧ (-20 : Int) ≤ IntKind.i64.wrap (IntKind.i64.wrap (x % (21 : Int) - (10 : Int)) + IntKind.i64.wrap (y % (21 : Int) - (10 : Int))) ∧ IntKind.i64.wrap (IntKind.i64.wrap (x % (21 : Int) - (10 : Int)) + IntKind.i64.wrap (y % (21 : Int) - (10 : Int))) ≤ (20 : Int)) ∧ (S4 (40 : Nat) (List.map letter l) ∧ (-20 : Int) ≤ (1 : Int) ∧ (1 : Int) ≤ (20 : Int)) ∧ (decide ((0 : Int) = (0 : Int)) =
      true → decide ((0 : Int) = (0 : Int)) = true) ∧ (decide ((0 : Int) = (0 : Int)) = true → decide ((0 : Int) = (0 : Int)) = true) ∧ ((bif decide ((0 : Int) = (0 : Int)) then decide ((0 : Int) = (0 : Int)) else false) = true → (bif decide ((0 : Int) = (0 : Int)) then decide ((0 : Int) = (0 : Int)) else false) = true) ∧ ((bif decide ((0 : Int) = (0 : Int)) then decide ((0 : Int) = (0 : Int)) else
      false) = true → (bif decide ((0 : Int) = (0 : Int)) then decide ((0 : Int) = (0 : Int)) else false) = true) ∧ ((bif bif decide ((0 : Int) = (0 : Int)) then decide ((0 : Int) = (0 : Int)) else false then decide ((0 : Int) = (0 : Int)) else false) = true → (bif bif decide ((0 : Int) = (0 : Int)) then decide ((0 : Int) = (0 : Int)) else false then decide ((0 : Int) = (0 : Int)) else false) = true) ∧
      ((bif bif decide ((0 : Int) = (0 : Int)) then decide ((0 : Int) = (0 : Int)) else false then decide ((0 : Int) = (0 : Int)) else false) = true → (bif bif decide ((0 : Int) = (0 : Int)) then decide ((0 : Int) = (0 : Int)) else false then decide ((0 : Int) = (0 : Int)) else false) = true) ∧ ((bif bif bif decide ((0 : Int) = (0 : Int)) then decide ((0 : Int) = (0 : Int)) else false then decide ((0 :
      Int) = (0 : Int)) else false then decide ((0 : Int) = (0 : Int)) else false) = true → (bif bif bif decide ((0 : Int) = (0 : Int)) then decide ((0 : Int) = (0 : Int)) else false then decide ((0 : Int) = (0 : Int)) else false then decide ((0 : Int) = (0 : Int)) else false) = true) ∧ ((bif bif bif decide ((0 : Int) = (0 : Int)) then decide ((0 : Int) = (0 : Int)) else false then decide ((0 : Int) =
      (0 : Int)) else false then decide ((0 : Int) = (0 : Int)) else false) = true → (bif bif bif decide ((0 : Int) = (0 : Int)) then decide ((0 : Int) = (0 : Int)) else false then decide ((0 : Int) = (0 : Int)) else false then decide ((0 : Int) = (0 : Int)) else false) = true) ∧ ((bif bif bif decide ((0 : Int) = (0 : Int)) then decide ((0 : Int) = (0 : Int)) else false then decide ((0 : Int) = (0 :
      Int)) else false then decide ((0 : Int) = (0 : Int)) else false) = true → Ok5 (power (List.map letter l) (IntKind.i64.wrap (x % (21 : Int) - (10 : Int)))) ∧ Ok5 (power (List.map letter l) (IntKind.i64.wrap (y % (21 : Int) - (10 : Int))))) ∧ ((bif bif bif decide ((0 : Int) = (0 : Int)) then decide ((0 : Int) = (0 : Int)) else false then decide ((0 : Int) = (0 : Int)) else false then decide ((0 :
      Int) = (0 : Int)) else false) = true → (bif bif bif decide ((0 : Int) = (0 : Int)) then decide ((0 : Int) = (0 : Int)) else false then decide ((0 : Int) = (0 : Int)) else false then decide ((0 : Int) = (0 : Int)) else false) = true) ∧ ((bif bif bif decide ((0 : Int) = (0 : Int)) then decide ((0 : Int) = (0 : Int)) else false then decide ((0 : Int) = (0 : Int)) else false then decide ((0 : Int) =
      (0 : Int)) else false) = true → (bif bif bif decide ((0 : Int) = (0 : Int)) then decide ((0 : Int) = (0 : Int)) else false then decide ((0 : Int) = (0 : Int)) else false then decide ((0 : Int) = (0 : Int)) else false) = true) ∧ ((bif bif bif decide ((0 : Int) = (0 : Int)) then decide ((0 : Int) = (0 : Int)) else false then decide ((0 : Int) = (0 : Int)) else false then decide ((0 : Int) = (0 :
      Int)) else false) = true → red ((power (List.map letter l) (IntKind.i64.wrap (x % (21 : Int) - (10 : Int)))).append (power (List.map letter l) (IntKind.i64.wrap (y % (21 : Int) - (10 : Int))))) = power (List.map letter l) (IntKind.i64.wrap (IntKind.i64.wrap (x % (21 : Int) - (10 : Int)) + IntKind.i64.wrap (y % (21 : Int) - (10 : Int)))) ∧ (red ((power (List.map letter l) (IntKind.i64.wrap (x % (21
      : Int) - (10 : Int)))).append (power (List.map letter l) (IntKind.i64.wrap (y % (21 : Int) - (10 : Int)))))).length ≤ (1000000000 : Nat)) ∧ ((bif bif bif decide ((0 : Int) = (0 : Int)) then decide ((0 : Int) = (0 : Int)) else false then decide ((0 : Int) = (0 : Int)) else false then decide ((0 : Int) = (0 : Int)) else false) = true → (bif bif bif decide ((0 : Int) = (0 : Int)) then decide ((0 :
      Int) = (0 : Int)) else false then decide ((0 : Int) = (0 : Int)) else false then decide ((0 : Int) = (0 : Int)) else false) = true) ∧ ((bif bif bif bif decide ((0 : Int) = (0 : Int)) then decide ((0 : Int) = (0 : Int)) else false then decide ((0 : Int) = (0 : Int)) else false then decide ((0 : Int) = (0 : Int)) else false then true else false) = true → (bif bif bif bif decide ((0 : Int) = (0 :
      Int)) then decide ((0 : Int) = (0 : Int)) else false then decide ((0 : Int) = (0 : Int)) else false then decide ((0 : Int) = (0 : Int)) else false then true else false) = true) ∧ ((bif bif bif bif decide ((0 : Int) = (0 : Int)) then decide ((0 : Int) = (0 : Int)) else false then decide ((0 : Int) = (0 : Int)) else false then decide ((0 : Int) = (0 : Int)) else false then true else false) = true →
      All64 (List.map letter l) ∧ (List.map letter l).length ≤ (1000000 : Nat)) ∧ ((bif bif bif bif decide ((0 : Int) = (0 : Int)) then decide ((0 : Int) = (0 : Int)) else false then decide ((0 : Int) = (0 : Int)) else false then decide ((0 : Int) = (0 : Int)) else false then true else false) = true → (bif bif bif bif decide ((0 : Int) = (0 : Int)) then decide ((0 : Int) = (0 : Int)) else false then
      decide ((0 : Int) = (0 : Int)) else false then decide ((0 : Int) = (0 : Int)) else false then true else false) = true) ∧ ((bif bif bif bif decide ((0 : Int) = (0 : Int)) then decide ((0 : Int) = (0 : Int)) else false then decide ((0 : Int) = (0 : Int)) else false then decide ((0 : Int) = (0 : Int)) else false then true else false) = true → (bif bif bif bif decide ((0 : Int) = (0 : Int)) then
      decide ((0 : Int) = (0 : Int)) else false then decide ((0 : Int) = (0 : Int)) else false then decide ((0 : Int) = (0 : Int)) else false then true else false) = true) ∧ ((bif bif bif bif decide ((0 : Int) = (0 : Int)) then decide ((0 : Int) = (0 : Int)) else false then decide ((0 : Int) = (0 : Int)) else false then decide ((0 : Int) = (0 : Int)) else false then true else false) = true → power
      (List.map letter l) (1 : Int) = red (List.map letter l) ∧ (power (List.map letter l) (1 : Int)).length ≤ (1000000000 : Nat)) ∧ ((bif bif bif bif decide ((0 : Int) = (0 : Int)) then decide ((0 : Int) = (0 : Int)) else false then decide ((0 : Int) = (0 : Int)) else false then decide ((0 : Int) = (0 : Int)) else false then true else false) = true → (bif bif bif bif decide ((0 : Int) = (0 : Int)) then
      decide ((0 : Int) = (0 : Int)) else false then decide ((0 : Int) = (0 : Int)) else false then decide ((0 : Int) = (0 : Int)) else false then true else false) = true) ∧ packV [V.c (W.bool (bif bif bif bif bif decide ((0 : Int) = (0 : Int)) then decide ((0 : Int) = (0 : Int)) else false then decide ((0 : Int) = (0 : Int)) else false then decide ((0 : Int) = (0 : Int)) else false then true else false
      then true else false))] = bB true ∧ ([] : List Ob) = []))))) (by kernel_rfl) ?_
  try simp only [imp_self, true_and, and_true, Bool.cond_true_left, Bool.cond_false_right, Bool.or_eq_true, Bool.or_eq_false_iff, Bool.and_eq_true, Bool.not_eq_true', Bool.not_eq_false', decide_eq_true_eq, decide_eq_false_iff_not, Int.not_lt]
  refine ⟨(fun h => nomatch h), fun _ => ⟨fun _ => rfl, fun h => ?_⟩⟩
  have wa := W4.letters l
  have wb := W4.letters m
  have wc := W4.letters n
  have la : (List.map letter l).length ≤ 40 := by simp; omega
  have lb : (List.map letter m).length ≤ 40 := by simp; omega
  have lc : (List.map letter n).length ≤ 40 := by simp; omega
  have m1 := Int.emod_nonneg x (b := 21) (by omega)
  have m2 := Int.emod_lt_of_pos x (show (0 : Int) < 21 by omega)
  have m3 := Int.emod_nonneg y (b := 21) (by omega)
  have m4 := Int.emod_lt_of_pos y (show (0 : Int) < 21 by omega)
  have hp : -10 ≤ x % 21 - 10 ∧ x % 21 - 10 ≤ 10 := by omega
  have hq : -10 ≤ y % 21 - 10 ∧ y % 21 - 10 ≤ 10 := by omega
  simp only [wrap64 (n := x % 21 - 10) (by omega) (by omega), wrap64 (n := y % 21 - 10) (by omega) (by omega)]
  refine ⟨by omega, by omega, by omega, by omega, by omega, ?_⟩
  clear m1 m2 m3 m4 h
  generalize x % 21 - 10 = p at hp
  generalize y % 21 - 10 = q at hq
  simp only [wrap64 (n := p + q) (by omega) (by omega)]
  have sa : S4 40 (List.map letter l) := ⟨wa, la⟩
  have sb : S4 40 (List.map letter m) := ⟨wb, lb⟩
  have sc : S4 40 (List.map letter n) := ⟨wc, lc⟩
  clear wa wb wc la lb lc
  generalize List.map letter l = a at sa
  generalize List.map letter m = b at sb
  generalize List.map letter n = c at sc
  simp only [List.append_eq]
  have ha := sa.nz
  have hb := sb.nz
  have ta := sa.tw
  have tb := sb.tw
  have E1 : red (red (a ++ b) ++ c) = red (a ++ red (b ++ c)) := by
    refine Eqv.red_eq (((eqv_red (a ++ b)).app (Eqv.refl c)).trans ?_)
    rw [List.append_assoc]
    exact (Eqv.refl a).app (eqv_red (b ++ c)).symm
  have E2 : red (a ++ red (turnW a)) = [] := by
    rw [ta]
    exact (((Eqv.refl a).app (eqv_red (turn a))).trans (eqv_turn ha)).red_eq
  have E3 : red (red (turnW a) ++ a) = [] := by
    rw [ta]
    exact (((eqv_red (turn a)).app (Eqv.refl a)).trans (eqv_turn' ha)).red_eq
  have E4 : red (a ++ []) = red a := by rw [List.append_nil]
  have E5 : red (turnW (red (turnW a))) = red a := by
    rw [sa.turn.red.tw, ta]
    have := (eqv_red (turn a)).turn ha.turn.red ha.turn
    rw [turn_turn] at this
    exact this.red_eq
  have E6 : red (turnW b ++ a ++ b) = red (red (red (turnW b) ++ a) ++ b) := by
    refine (Eqv.red_eq ?_).symm
    exact ((eqv_red _).trans ((eqv_red _).app (Eqv.refl a))).app (Eqv.refl b)
  have E7 : red (turnW a ++ turnW b ++ a ++ b) = red (red (red (turnW a) ++ red (turnW b)) ++ red (a ++ b)) := by
    refine (Eqv.red_eq ?_).symm
    have := ((eqv_red _).trans ((eqv_red (turnW a)).app (eqv_red (turnW b)))).app (eqv_red (a ++ b))
    rw [← List.append_assoc] at this
    exact this
  obtain ⟨P1, Q1⟩ := pow_S4 sa p (by omega)
  obtain ⟨P2, Q2⟩ := pow_S4 sa q (by omega)
  obtain ⟨P3, Q3⟩ := pow_S4 sa (p + q) (by omega)
  obtain ⟨P4, Q4⟩ := pow_S4 sa 1 (by omega)
  have E8 : red (power a p ++ power a q) = power a (p + q) := power_add ha p q
  have E9 : power a 1 = red a := power_one ha
  have okA := sa.ok
  have okB := sb.ok
  have okC := sc.ok
  have okAB := (sa.app sb).red.ok
  have okBC := (sb.app sc).red.ok
  have okTa := sa.turn.red.ok
  have okTb := sb.turn.red.ok
  have okTbA := (sb.turn.red.app sa).red.ok
  have okTT := (sa.turn.red.app sb.turn.red).red.ok
  have okN : Ok5 [] := ⟨fun y hy => by simp at hy, by simp⟩
  have okP := Q1.ok
  have okQ := Q2.ok
  simp only [List.append_eq] at okAB okBC okTbA okTT
  have n1 := red_len (red (a ++ b) ++ c)
  have n2 := red_len (a ++ b)
  have n3 := red_len (a ++ [])
  have n4 := red_len (turnW (red (turnW a)))
  have n5 := red_len (turnW a)
  have n6 := red_len (turnW b ++ a ++ b)
  have n7 := red_len (turnW a ++ turnW b ++ a ++ b)
  have n8 := red_len (power a p ++ power a q)
  have z1 := sa.2
  have z2 := sb.2
  have z3 := sc.2
  have z4 := Q1.2
  have z5 := Q2.2
  simp only [List.length_append, turnW_length, List.length_nil] at n1 n2 n3 n4 n5 n6 n7 n8
  have rA := okA.1
  repeat' (first | assumption | with_reducible refine And.intro ?_ ?_ | intro _)
  all_goals first | omega | skip
  · rename_i h
    exfalso
    simp [E2, E3] at h
  · rename_i h
    exfalso
    simp at h
  · have := Q4.2; omega
  · simp [packV]
theorem grouplaw_all : ForArgs (fun args => FnSem Tryd.prog 5 args [] (dat .bool true) []) [.sl (.int .i64), .sl (.int .i64), .sl (.int .i64), .int .i64, .int .i64] [] :=
  fun l _ m _ n _ x _ y _ => grouplaw_sem l m n x y
end Go.Proofs.YtnnebonlolpehaaDoor
