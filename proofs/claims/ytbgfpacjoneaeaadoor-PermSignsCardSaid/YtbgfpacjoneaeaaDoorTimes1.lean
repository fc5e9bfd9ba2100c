/- The kit's Times (a text repeated n times) returns that text, for n from 1 to 1000000 and texts of at most 1000 bytes; what lay in memory before lies there as it was. -/
import Derived.Test.YtbgfpacjoneaeaaDoorProg
import Derived.WalkKit
import Derived.ProofKit
import Derived.Lib.AppendStr
namespace Go.Proofs.YtbgfpacjoneaeaaDoor
open Go.ChangeShapes Go.WideShapes Go.ChangeAt Go.RowKit
def rep (s : ByteArray) (n : Nat) : ByteArray := ⟨((List.replicate n s.data.toList).flatten).toArray⟩
theorem info5 : (Tryd.prog.info? 5).map (fun i => (i.zero, i.size, i.bytes)) = some (some (.int .u8 0), 1, 1) := by kernel_rfl
theorem rep_cells (s : ByteArray) (k : Nat) : Lib.strCells (rep s k) ++ Lib.strCells s = Lib.strCells (rep s (k + 1)) := by
  unfold Lib.strCells rep
  rw [List.replicate_succ' (n := k), List.flatten_append]
  simp
theorem rep_size (s : ByteArray) (k : Nat) : (rep s k).size = k * s.size := by
  show ((List.replicate k s.data.toList).flatten).toArray.size = _
  rw [List.size_toArray, List.length_flatten, List.map_replicate, List.sum_replicate_nat]
  rfl
theorem nums_cells (r : ByteArray) : Lib.strCells r = (r.data.toList.map fun b => (b.toNat : Int)).map (Value.int .u8) := by
  unfold Lib.strCells
  rw [List.map_map]
  rfl
theorem nums_back (r : ByteArray) : strOfNums (r.data.toList.map fun b => (b.toNat : Int)) = r := by
  unfold strOfNums
  rw [List.map_map]
  have h : (fun n : Int => UInt8.ofNat n.toNat) ∘ (fun b : UInt8 => (b.toNat : Int)) = id := by
    funext b
    simp
  rw [h, List.map_id]
theorem convert_own {w : World} {base m : Nat} {v : Value} {r : ByteArray} (hown : w.ownsRow base 5 1 v m (Lib.strCells r)) (hr : r.size = m) :
    (convert 86 9 v).run Tryd.prog w = .ok (.string r) w := by
  rcases hown.2 with ⟨rfl, rfl⟩ | ⟨g, cap, cur, rfl, hbg, hg, hnc, hcm, hcs, htake⟩
  · rw [run_convert_bytes_nil w 86 5 Tryd.underlying86 Tryd.underlying5 0 0 9 Tryd.underlying9]
    have : r = ByteArray.empty := by
      have : r.data = #[] := Array.eq_empty_of_size_eq_zero hr
      cases r; simp at this; subst this; rfl
    rw [this]
  · have hc := hown.cells (g := g) rfl
    have hx := run_convert_bytes_arg (P := Tryd.prog) w 86 5 Tryd.underlying86 Tryd.underlying5 g 0 m cap (r.data.toList.map fun b => (b.toNat : Int)) (by simpa using hr) (fun i hi => by
      have hi' : i < r.data.size := by rw [← hr] at hi; exact hi
      have := hc i (.int .u8 ((r.data.toList.map fun b => (b.toNat : Int)).getD i 0)) (by
        rw [nums_cells, List.getElem?_map, List.getD_eq_getElem?_getD]
        simp [Array.getElem?_eq_getElem hi'])
      rw [Addr.add_lit] at this
      exact this) 9 Tryd.underlying9
    rw [nums_back] at hx
    exact hx
set_option maxHeartbeats 1600000 in
set_option maxRecDepth 1000000 in
theorem times_any (s : ByteArray) (n : Nat) (w : World) (hn0 : 0 < n) (hn : n ≤ 1000000) (hs : s.size ≤ 1000) :
    Calls Tryd.prog 58 #[.string s, .int .i64 n] w fun e w' => e = .returned (.string (rep s n)) ∧ Below w.heap.size w w' := by
  obtain ⟨i0, hi, hz0, hz1, hz2⟩ := info_parts info5
  have hmul : n * s.size ≤ 1000000000 := Nat.le_trans (Nat.mul_le_mul hn hs) (by decide)
  go_enter Tryd.func58, Tryd.ntmps58
  go_wp2_with (first
    | (at_make; refine wpList_make_own _ rfl _ _ 86 rfl w.heap.size 5 i0 (.int .u8 0) 1 Tryd.underlying86 hi hz0 hz1 _ _ _ (n * s.size) rfl rfl ?m1 ?m2 ?m3 ?m4 ?_)
    | go_in)
  case m1 => exact (Int.natCast_mul _ _).symm
  case m2 => rw [hz2, Nat.one_mul]; omega
  case m3 => unfold maxLen; omega
  case m4 => exact Nat.le_refl _
  intro w1 hown0 hgrow0
  have hB0 : Below w.heap.size w w1 := (Below.refl _ w).grown hgrow0 (Nat.le_refl _) (fun _ e => by cases e)
  have hrep0 : Lib.strCells (rep s 0) = [] := rfl
  go_wp2
  go_loopw [5, 6] (fun v i wr => ∃ k : Nat, k ≤ n ∧ i = .int .i64 k ∧ wr.ownsRow w.heap.size 5 1 v (k * s.size) (Lib.strCells (rep s k)) ∧ Below w.heap.size w wr)
    (fun _ i _ => n - (intOf i).toNat)
  case atStart => exact ⟨0, Nat.zero_le _, rfl, by rw [hrep0, Nat.zero_mul]; exact hown0, hB0⟩
  case round =>
    obtain ⟨k, hk, rfl, hown, hB⟩ := hrel
    have hks : k * s.size ≤ 1000000000 := Nat.le_trans (Nat.mul_le_mul (Nat.le_trans hk hn) hs) (by decide)
    go_wp2_with (first
      | (at_builtin; refine Lib.wpList_append_own_string _ rfl _ _ 86 9 rfl w.heap.size 5 i0 Tryd.underlying86 Tryd.underlying9 hi hz0 hz1 hz2 _ _ _ rfl hown s rfl ?c1 ?c2 ?c3 ?_)
      | go_in)
    case c1 => unfold maxLen; omega
    case c2 => omega
    case c3 => exact hB.size
    · intro v' w2 hown' hgrow _
      have hB2 : Below w.heap.size w w2 := hB.grown hgrow hB.size (fun g e => (hown.lt g e).1)
      rw [rep_cells] at hown'
      have hlt : k < n := by assumption
      go_wp2
      go_roundw
      case rel => exact ⟨k + 1, by omega, by simp, by rw [Nat.succ_mul]; exact hown', hB2⟩
      case measure => simp [intOf]; omega
    · have hge : ¬ k < n := by assumption
      have hkn : k = n := by omega
      subst hkn
      have hsz : (rep s k).size = k * s.size := rep_size s k
      have hrun : (convert 86 9 u5).run Tryd.prog wr = .ok (.string (rep s k)) wr := by
        exact convert_own hown hsz
      simp only [hrun]
      go_wp2
      go_ret
      exact ⟨rfl, hB⟩
end Go.Proofs.YtbgfpacjoneaeaaDoor
