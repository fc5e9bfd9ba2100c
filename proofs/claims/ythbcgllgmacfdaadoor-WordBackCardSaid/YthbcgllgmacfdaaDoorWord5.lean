/- Words: the reference: reduced forms, inverses, products. -/
import Derived.Test.YthbcgllgmacfdaaDoorWord4
import Derived.Test.YthbcgllgmacfdaaDoorWord1
namespace Go.Proofs.YthbcgllgmacfdaaDoor
open Go.Loom Go.Words
set_option maxRecDepth 100000
end Go.Proofs.YthbcgllgmacfdaaDoor

namespace Go.Proofs.YthbcgllgmacfdaaDoor
open Go.Loom Go.Words
set_option maxRecDepth 100000
end Go.Proofs.YthbcgllgmacfdaaDoor

namespace Go.Proofs.YthbcgllgmacfdaaDoor
open Go.Loom Go.Words
set_option maxRecDepth 100000
end Go.Proofs.YthbcgllgmacfdaaDoor

namespace Go.Proofs.YthbcgllgmacfdaaDoor
open Go.Loom Go.Words
set_option maxRecDepth 100000
abbrev obU (m : Int) : Ob := ⟨53, [.c (.int .u64 m)]⟩
abbrev fnS : A := .p (.c (.func 31 [(0, 0)]))
def outL (m x : Int) : Bool := decide (x = 0) || decide (m < sz x)
noncomputable def gCl : Gam := [(32, cSize)]
theorem gCl_ok : GamOk Tryd.prog gCl := gamOk_cons cSize_ok gamOk_nil
theorem clos_sem (x m : Int) : FnSem Tryd.prog 31 [nI x, .p (.c (.ptr 0 0))] [obU m] (bB (outL m x)) [obU m] := by
 refine fnSem_at (live := []) gCl_ok Tryd.func31 (by kernel_rfl) (keep := 1) rfl (by kernel_rfl) 100 ?_
 refine of_eq (q := let q1 := decide (x = (0:Int)); let q2 := (V.c (W.int .u64 m)); (q1 = false → q1 = false) ∧ (q1 = false → q1 = false) ∧ (q1 = false → q1 = false) ∧ (q1 = false → q1 = false) ∧ A.cond (q1 = false) q2 = A.cond (q1 = false) q2 ∧ A.cond (q1 = false) q2 = A.cond (q1 = false) q2 ∧ packV [V.c (W.bool (bif q1 then true else decide (m < sz x)))] = bB (outL m x) ∧ [Ob.mk 53 [Fd.c (W.int .u64 m)]] = [obU m]) (by kernel_rfl) ?_
 try simp only [imp_self, true_and, and_true, Bool.cond_true_left, decide_eq_false_iff_not]
 rfl
def cClos : Con := { refs := [false, true], f := fun args objs => match args, objs with | [.p (.c (.int .i64 x)), .p (.c (.ptr 0 0))], [⟨t, [.c (.int .u64 m)]⟩] => (bif Nat.beq t 53 then some (.t, bB (outL m x), [obU m]) else none) | _, _ => none }
theorem cClos_ok : ConOk Tryd.prog 31 cClos := by
 refine ⟨by kernel_rfl, fun args objs c r objs' e hc => ?_⟩
 simp only [cClos] at e
 split at e
 · rename_i x t m
   obtain ⟨ht, e⟩ := Mill.bif_some e
   have ht := Nat.eq_of_beq_eq_true ht
   subst ht
   cases e
   exact clos_sem x m
 · cases e
noncomputable def gIx : Gam := [(31, cClos)]
theorem gIx_ok : GamOk Tryd.prog gIx := gamOk_cons cClos_ok gamOk_nil
noncomputable def sIx : Site := mkSite Tryd.prog gIx Tryd.f50 1 [([0, 1, 0, 1], [0, 1, 7, 8])]
def ixL (m : Int) : List Int → Nat → Int
 | [], _ => -1
 | x :: w, i => if outL m x then i else ixL m w (i + 1)
theorem ixL_any (m : Int) : ∀ (w : List Int) (i : Nat), decide (0 ≤ ixL m w i) = w.any (outL m)
 | [], i => rfl
 | x :: w, i => by
   rw [ixL, List.any_cons]
   cases h : outL m x with
   | true => simp
   | false => simpa using ixL_any m w (i + 1)
theorem ix_loop (w : List Int) (m : Int) (hl : w.length ≤ 1000000) : ∀ (k i : Nat), k = w.length - i → i ≤ w.length →
 AtLoop sIx (Says1 (nI (ixL m (w.drop i) i)) [obU m]) [0, 1, 0, 1] (fr [(0, lsI w), (1, fnS), (7, nI w.length), (8, nI i)]) (.ofList [obU m])
 | k, i, hk, hi => by
   refine atLoop_at gIx_ok (by kernel_rfl) 100 ?_
   refine of_eq (q := (decide ((i:Int) < (w.length:Int)) = true → ((0:Int) ≤ (i:Int) ∧ (i:Int) < (w.length:Int)) ∧ i < w.length ∧ (outL m (w.getD i (0:Int)) = true → packV [V.c (W.int .i64 (i:Int))] = nI (ixL m (List.drop i w) i) ∧ [Ob.mk 53 [Fd.c (W.int .u64 m)]] = [obU m]) ∧ (outL m (w.getD i (0:Int)) = false → AtLoop sIx (Says1 (nI (ixL m (List.drop i w) i)) [obU m]) [0, 1, 0, 1] (fr [(0, lsI w), (1, A.p (V.c (W.func 31 [(0, (0:Nat))]))), (7, nI (w.length:Int)), (8, nI (IntKind.i64.wrap ((i:Int) + (1:Int))))]) (Sto.ofList [Ob.mk 53 [Fd.c (W.int .u64 m)]]))) ∧ (decide ((i:Int) < (w.length:Int)) = false → packV [V.c (W.int .i64 (-1))] = nI (ixL m (List.drop i w) i) ∧ [Ob.mk 53 [Fd.c (W.int .u64 m)]] = [obU m])) (by kernel_rfl) ?_
   try simp only [and_true, decide_eq_true_eq, decide_eq_false_iff_not, Int.not_lt]
   rw [wrap64 (n := (i : Int) + 1) (by omega) (by omega)]
   refine ⟨fun h => ⟨by omega, by omega, fun g => ?_, fun g => ?_⟩, fun h => ?_⟩
   · rw [getD_lt (by omega), ixL, if_pos g]; rfl
   · rw [getD_lt (by omega), ixL, g, if_neg (by simp)]
     cases k with
     | zero => omega
     | succ k => exact ix_loop w m hl k (i + 1) (by omega) (by omega)
   · rw [List.drop_eq_nil_of_le (by omega)]; rfl
theorem ix_sem (w : List Int) (m : Int) (hl : w.length ≤ 1000000) : FnSem Tryd.prog 50 [lsI w, fnS] [obU m] (nI (ixL m w 0)) [obU m] := by
 refine fnSem_at (live := [([0, 1, 0, 1], [0, 1, 7, 8])]) gIx_ok Tryd.func50 (by kernel_rfl) (keep := 1) rfl (by kernel_rfl) 100 ?_
 refine of_eq (q := AtLoop (mkSite Tryd.prog gIx Tryd.f50 (1:Nat) [([0, 1, 0, 1], [0, 1, 7, 8])]) (Says1 (nI (ixL m w (0:Nat))) [obU m]) [0, 1, 0, 1] (fr [(0, lsI w), (1, A.p (V.c (W.func 31 [(0, (0:Nat))]))), (7, nI (w.length:Int)), (8, nI (0))]) (Sto.ofList [Ob.mk 53 [Fd.c (W.int .u64 m)]])) (by kernel_rfl) ?_
 exact ix_loop w m hl w.length 0 (by omega) (by omega)
def cIx : Con := { refs := [false, true], f := fun args objs => match args, objs with | [x, .p (.c (.func f [(0, 0)]))], [⟨t, [.c (.int .u64 m)]⟩] => (bif Nat.beq f 31 && Nat.beq t 53 then (match asD dI x with | some w => some (.p (List.length (α := Int) w ≤ 1000000), nI (ixL m w 0), [obU m]) | none => none) else none) | _, _ => none }
theorem cIx_ok : ConOk Tryd.prog 50 cIx := by
 refine ⟨by kernel_rfl, fun args objs c r objs' e hc => ?_⟩
 simp only [cIx] at e
 split at e
 · rename_i x f t m
   obtain ⟨ht, e⟩ := Mill.bif_some e
   simp only [Bool.and_eq_true] at ht
   have h1 := Nat.eq_of_beq_eq_true ht.1
   have h2 := Nat.eq_of_beq_eq_true ht.2
   subst h1 h2
   split at e
   · rename_i w hw
     cases e
     exact (ix_sem w m hc).args fun η Z vs h => by
      cases vs with
      | nil => exact h.elim
      | cons v vs => exact ⟨asD_rel hw h.1, h.2⟩
   · cases e
 · cases e
noncomputable def gCo2 : Gam := [(50, cIx)]
theorem gCo2_ok : GamOk Tryd.prog gCo2 := gamOk_cons cIx_ok gamOk_nil
theorem co_sem (w : List Int) (m : Int) (hl : w.length ≤ 1000000) : FnSem Tryd.prog 30 [lsI w, fnS] [obU m] (bB (w.any (outL m))) [obU m] := by
 refine fnSem_at (live := []) gCo2_ok Tryd.func30 (by kernel_rfl) (keep := 1) rfl (by kernel_rfl) 100 ?_
 refine of_eq (q := w.length ≤ (1000000:Nat) ∧ packV [V.c (W.bool (decide ((0:Int) ≤ ixL m w (0:Nat))))] = bB (w.any (outL m)) ∧ [Ob.mk 53 [Fd.c (W.int .u64 m)]] = [obU m]) (by kernel_rfl) ?_
 try simp only [and_true]
 refine ⟨hl, ?_⟩
 rw [ixL_any]; rfl
def cCo : Con := { refs := [false, true], f := fun args objs => match args, objs with | [x, .p (.c (.func f [(0, 0)]))], [⟨t, [.c (.int .u64 m)]⟩] => (bif Nat.beq f 31 && Nat.beq t 53 then (match asD dI x with | some w => some (.p (List.length (α := Int) w ≤ 1000000), bB (List.any w (outL m)), [obU m]) | none => none) else none) | _, _ => none }
theorem cCo_ok : ConOk Tryd.prog 30 cCo := by
 refine ⟨by kernel_rfl, fun args objs c r objs' e hc => ?_⟩
 simp only [cCo] at e
 split at e
 · rename_i x f t m
   obtain ⟨ht, e⟩ := Mill.bif_some e
   simp only [Bool.and_eq_true] at ht
   have h1 := Nat.eq_of_beq_eq_true ht.1
   have h2 := Nat.eq_of_beq_eq_true ht.2
   subst h1 h2
   split at e
   · rename_i w hw
     cases e
     exact (co_sem w m hc).args fun η Z vs h => by
      cases vs with
      | nil => exact h.elim
      | cons v vs => exact ⟨asD_rel hw h.1, h.2⟩
   · cases e
 · cases e
/-! ### Images put in -/
def imgOf (xs : List (List Int)) (x : Int) : List Int := if x < 0 then turnW (xs.getD (x.natAbs - 1) []) else xs.getD (x.natAbs - 1) []
def subW (xs : List (List Int)) : List Int → List Int → List Int
 | o, [] => o
 | o, x :: w => subW xs (red (o ++ imgOf xs x)) w
def endS (o : List Int) : List Int × Int := if 4000 < o.length then ([], 4) else (o, 0)
def substR (w : List Int) (xs : List (List Int)) : List Int × Int := if w.any (outL xs.length) then ([], 2) else endS (subW xs [] w)
structure SubOk (w : List Int) (xs : List (List Int)) : Prop where
 all : All64 w
 len : w.length ≤ 300
 many : xs.length ≤ 10
 img : ∀ u ∈ xs, All64 u ∧ u.length ≤ 60
theorem SubOk.get {w : List Int} {xs : List (List Int)} (h : SubOk w xs) (i : Nat) : All64 (xs.getD i []) ∧ (xs.getD i []).length ≤ 60 := by
 rw [List.getD_eq_getElem?_getD]
 cases e : xs[i]? with
 | none => exact ⟨fun x hx => by simp at hx, by simp⟩
 | some u => exact h.img u (List.mem_of_getElem? e)
theorem SubOk.ok {w : List Int} {xs : List (List Int)} (h : SubOk w xs) (i : Nat) : Ok5 (xs.getD i []) ∧ Ok5 (turnW (xs.getD i [])) := by
 have := h.get i
 exact ⟨⟨this.1, by omega⟩, ⟨turnW_all _, by rw [turnW_length]; omega⟩⟩
theorem SubOk.letter {w : List Int} {xs : List (List Int)} (h : SubOk w xs) (ho : w.any (outL xs.length) = false) {i : Nat} (hi : i < w.length) : w.getD i 0 ≠ 0 ∧ sz (w.getD i 0) = (w.getD i 0).natAbs ∧ (w.getD i 0).natAbs ≤ xs.length := by
 have hm : w.getD i 0 ∈ w := by rw [List.getD_eq_getElem?_getD, List.getElem?_eq_getElem hi]; exact List.getElem_mem _
 have h1 := List.any_eq_false.mp ho _ hm
 simp only [outL, Bool.or_eq_true, decide_eq_true_eq] at h1
 have h2 := sz_abs (h.all _ hm)
 omega
theorem red_step (xs : List (List Int)) (o : List Int) (x : Int) {w : List Int} (h : SubOk w xs) (ho : All64 o) : All64 (red (o ++ imgOf xs x)) ∧ (red (o ++ imgOf xs x)).length ≤ o.length + 60 := by
 have hg := h.get (x.natAbs - 1)
 have hi : All64 (imgOf xs x) ∧ (imgOf xs x).length ≤ 60 := by
  unfold imgOf
  split
  · exact ⟨turnW_all _, by rw [turnW_length]; omega⟩
  · exact hg
 refine ⟨fun y hy => (ho.app hi.1) y (red_sub hy), ?_⟩
 have := red_len (o ++ imgOf xs x)
 rw [List.length_append] at this; omega
noncomputable def gSub : Gam := [(30, cCo), (32, cSize), (33, cTu), (8, cMul)]
theorem gSub_ok : GamOk Tryd.prog gSub := gamOk_cons cCo_ok (gamOk_cons cSize_ok (gamOk_cons cTu_ok (gamOk_cons cMul_ok gamOk_nil)))
abbrev psS : List Nat := [0, 1, 0, 1, 1, 1, 1]
end Go.Proofs.YthbcgllgmacfdaaDoor

namespace Go.Proofs.YthbcgllgmacfdaaDoor
open Go.Loom Go.Words
set_option maxRecDepth 100000
theorem turnW_W4 {w : List Int} (h : W4 w) : turnW w = turn w := by
 rw [turnW, turn]
 congr 1
 apply List.map_congr_left
 intro x hx
 have := h x hx
 rw [wrap64 (by omega) (by omega)]; omega
theorem W4.turn {w : List Int} (h : W4 w) : W4 (Words.turn w) := by
 intro x hx
 simp only [Words.turn, List.mem_reverse, List.mem_map] at hx
 obtain ⟨y, hy, rfl⟩ := hx
 have := h y hy
 omega
theorem W4.app {u v : List Int} (h : W4 u) (g : W4 v) : W4 (u ++ v) := fun x hx => (List.mem_append.mp hx).elim (h x) (g x)
theorem Ok5.of {w : List Int} (h : W4 w) (hl : w.length ≤ 4000) : Ok5 w := ⟨h.all, by omega⟩
end Go.Proofs.YthbcgllgmacfdaaDoor

namespace Go.Proofs.YthbcgllgmacfdaaDoor
open Go.Loom Go.Words
set_option maxRecDepth 100000
def S4 (n : Nat) (w : List Int) : Prop := W4 w ∧ w.length ≤ n
theorem S4.red {n : Nat} {w : List Int} (h : S4 n w) : S4 n (red w) := ⟨h.1.red, Nat.le_trans (red_len w) h.2⟩
theorem S4.app {n m : Nat} {u v : List Int} (h : S4 n u) (g : S4 m v) : S4 (n + m) (List.append u v) := ⟨h.1.app g.1, by have := h.2; have := g.2; show (u ++ v).length ≤ _; rw [List.length_append]; omega⟩
theorem S4.turn {n : Nat} {w : List Int} (h : S4 n w) : S4 n (turnW w) := ⟨by rw [turnW_W4 h.1]; exact h.1.turn, by rw [turnW_length]; exact h.2⟩
theorem S4.ok {n : Nat} {w : List Int} (h : S4 n w) (hn : n ≤ 4000 := by omega) : Ok5 w := .of h.1 (Nat.le_trans h.2 hn)
theorem S4.tw {n : Nat} {w : List Int} (h : S4 n w) : turnW w = Words.turn w := turnW_W4 h.1
theorem S4.nz {n : Nat} {w : List Int} (h : S4 n w) : NZ w := h.1.nz
theorem side_cut {v : List Int} (h : Rd v) : (v.length - (cut v).length) / 2 = side v v.length 0 := by
 obtain ⟨s, e, hs, _⟩ := cut_split h
 have := congrArg List.length e
 simp only [List.length_append, turn_length] at this
 omega
theorem pow_S4 {n : Nat} {w : List Int} (h : S4 n w) (x : Int) (hx : n + n * x.natAbs ≤ 4000) : powR w x = (power w x, 0) ∧ S4 4000 (power w x) := by
 have key : ∀ v, S4 n v → Rd v → (powOf v x = ((if x = 0 ∨ cut v = [] then [] else v.take (side v v.length 0) ++ pw (cut v) x.natAbs ++ v.drop (side v v.length 0 + (cut v).length)), 0) ∧ S4 4000 (if x = 0 ∨ cut v = [] then [] else v.take (side v v.length 0) ++ pw (cut v) x.natAbs ++ v.drop (side v v.length 0 + (cut v).length))) := by
  intro v hv hr
  have hc := cut_length v
  have hvl := hv.2
  have hm1 : (cut v).length * (x.natAbs - 1) ≤ n * x.natAbs := Nat.mul_le_mul (by omega) (by omega)
  have hm2 : x.natAbs * (cut v).length ≤ n * x.natAbs := by rw [Nat.mul_comm]; exact Nat.mul_le_mul_right _ (by omega)
  unfold powOf
  rw [red_of_rd hr, side_cut hr]
  by_cases h0 : x = 0 ∨ cut v = []
  · rw [if_pos h0, if_pos (by rcases h0 with h0 | h0
                              · right; omega
                              · left; rw [h0]; rfl)]
    exact ⟨rfl, fun y hy => by simp at hy, by simp⟩
  · have h1 : ¬((cut v).length = 0 ∨ x.natAbs = 0) := by
     rintro (h1 | h1)
     · exact h0 (.inr (List.eq_nil_of_length_eq_zero h1))
     · exact h0 (.inl (by omega))
    have hpos : x.natAbs ≤ x.natAbs * (cut v).length := Nat.le_mul_of_pos_right _ (by omega)
    rw [if_neg h0, if_neg h1, if_neg (by omega)]
    refine ⟨rfl, ?_, ?_⟩
    · have hcut : W4 (cut v) := fun y hy => hv.1 y (List.mem_of_mem_drop (List.mem_of_mem_take hy))
      have hpw : ∀ k, W4 (pw (cut v) k) := by
       intro k
       induction k with
       | zero => intro y hy; simp [pw] at hy
       | succ k ih => exact hcut.app ih
      intro y hy
      simp only [List.mem_append] at hy
      rcases hy with (hy | hy) | hy
      · exact hv.1 y (List.mem_of_mem_take hy)
      · exact hpw _ y hy
      · exact hv.1 y (List.mem_of_mem_drop hy)
    · have hs := side_cut hr
      simp only [List.length_append, List.length_take, List.length_drop, pw_length]
      omega
 have e : powR w x = powOf (if x < 0 then Words.turn (red w) else red w) x := by
  rw [powR, h.red.tw]
 rw [e]
 by_cases hx0 : x < 0
 · have e2 : power w x = (if x = 0 ∨ cut (Words.turn (red w)) = [] then [] else (Words.turn (red w)).take (side (Words.turn (red w)) (Words.turn (red w)).length 0) ++ pw (cut (Words.turn (red w))) x.natAbs ++ (Words.turn (red w)).drop (side (Words.turn (red w)) (Words.turn (red w)).length 0 + (cut (Words.turn (red w))).length)) := by
    simp only [power, if_pos hx0]
   rw [if_pos hx0, e2]
   exact key _ (by rw [← h.red.tw]; exact h.red.turn) (rd_turn (red_rd w))
 · have e2 : power w x = (if x = 0 ∨ cut (red w) = [] then [] else (red w).take (side (red w) (red w).length 0) ++ pw (cut (red w)) x.natAbs ++ (red w).drop (side (red w) (red w).length 0 + (cut (red w)).length)) := by
    simp only [power, if_neg hx0]
   rw [if_neg hx0, e2]
   exact key _ h.red (red_rd w)
def cSameT : Con := con2 dI dI fun a b => (.p ((show List Int from a) = b ∧ List.length (α := Int) a ≤ 1000000000), bB true, [])
theorem cSameT_ok : ConOk Tryd.prog 9 cSameT := con2_ok (by kernel_rfl) fun a b h => by
 have := same_sem a b h.2
 rw [decide_eq_true h.1] at this
 exact this
theorem pow4_sem (w : List Int) (n : Int) (h : S4 40 w ∧ -20 ≤ n ∧ n ≤ 20) : FnSem Tryd.prog 12 [lsI w, nI n] [] (.tup [.c (.rd (.int .i64) (power w n)), .c (.int .i64 0)]) [] := by
 have := pow_sem w n ⟨h.1.ok, by unfold R64; omega⟩
 rw [(pow_S4 h.1 n (by omega)).1] at this
 exact this
def cPow4 : Con := con2 dI (.int .i64) fun w n => (.p (S4 40 w ∧ -20 ≤ (show Int from n) ∧ (show Int from n) ≤ 20), .tup [.c (.rd (.int .i64) (power w n)), .c (.int .i64 0)], [])
theorem cPow4_ok : ConOk Tryd.prog 12 cPow4 := con2_ok (by kernel_rfl) fun w n h => by
 exact pow4_sem w n h
end Go.Proofs.YthbcgllgmacfdaaDoor
