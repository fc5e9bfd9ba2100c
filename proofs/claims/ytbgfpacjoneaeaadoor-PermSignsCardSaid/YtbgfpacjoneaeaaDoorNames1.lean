/- lives() returns true in every world, by the verified evaluator; the table of calls that later evaluations may use. -/
import Derived.Test.YtbgfpacjoneaeaaDoorTimes1
import Derived.Test.YtbgfpacjoneaeaaDoorMillX
namespace Go.Proofs.YtbgfpacjoneaeaaDoor
open Go.ChangeShapes Go.WideShapes Go.ChangeAt Go.RowKit Go.Mill
noncomputable def timesG (args : List AV) : Option AV :=
  match args with
  | [.p (.c (.str s)), .p (.c (.int .i64 (.ofNat n)))] => bif Nat.ble 1 n && (Nat.ble n 1000000 && Nat.ble (sizeE s) 1000) then some (.p (.c (.str (rep s n)))) else none
  | _ => none
theorem times_memo : MemoOk Tryd.prog 58 timesG := by
  intro args r e ρ w vs hvs
  unfold timesG at e
  split at e
  · rename_i s n
    obtain ⟨h, e⟩ := bif_some e
    cases e
    simp only [Bool.and_eq_true, Nat.ble_eq, sizeE_eq] at h
    match vs, hvs with
    | [a, b], hv =>
      have ha : a = .string s := hv.1
      have hb : b = .int .i64 (.ofNat n) := hv.2.1
      subst ha; subst hb
      exact (callsIn_wide.2 (times_any s n w h.1 h.2.1 h.2.2)).mono fun e w' ⟨he, hB⟩ => ⟨_, he, fun _ => rfl, hB⟩
  · cases e
set_option maxRecDepth 1000000
theorem names : namesOk Tryd.prog = true := by kernel_rfl
theorem same98 : ∀ f, f ∈ [98] → ∀ x w, (callFunc f #[x]).run Tryd.prog w = .ok (.value x) w := by
  intro f hf x w
  simp only [List.mem_singleton] at hf
  subst hf
  exact same_of Tryd.func98 (by kernel_rfl) (by kernel_rfl) (by kernel_rfl) (by kernel_rfl) x w
noncomputable def E0 : Env := { P := Tryd.prog, same := [98], memo := [] }
theorem E0_ok : EnvOk E0 := ⟨names_of names, same98, memo_nil⟩
theorem lives_eval : saysTrue (ev E0 10000 (.call 11 []) h0) = true := by kernel_rfl
theorem lives_true (w : World) : Calls Tryd.prog 11 #[] w fun e w' => e = .returned (.bool true) ∧ Below w.heap.size w w' := calls_true E0_ok lives_eval w
noncomputable def E1 : Env := { P := Tryd.prog, same := [98], memo := [(11, trueG), (58, timesG)] }
theorem E1_ok : EnvOk E1 := ⟨names_of names, same98, memo_cons (memo_true lives_true) (memo_cons times_memo memo_nil)⟩
end Go.Proofs.YtbgfpacjoneaeaaDoor
