/- The law PermParses, as a call. -/
import Derived.Test.YtbgfpacjoneaeaaDoorParses3
import Derived.Test.YtbgfpacjoneaeaaDoorNames1
import Derived.Test.YtbgfpacjoneaeaaDoorFrameA
import Derived.ShutString
import Derived.ChangeMaps5
namespace Go.Proofs.YtbgfpacjoneaeaaDoor
open Go.Loom
set_option maxRecDepth 100000
theorem lives_sem : FnSem Tryd.prog 11 [] [] (bB true) [] := fnSem_below (d := .bool) (y := true) fun η Z w vs hvs => by
  cases vs with
  | cons _ _ => exact hvs.elim
  | nil => exact (lives_true w).mono fun e w' ⟨he, hB⟩ => ⟨_, he, fun _ => rfl, hB⟩
def cLives : Con := con0 (.t, bB true, [])
theorem cLives_ok : ConOk Tryd.prog 11 cLives := con0_ok (by kernel_rfl) fun _ => lives_sem
noncomputable def g4 : Gam := [(11, cLives), (19, cParse), (20, cParse), (16, cSame)]
theorem g4_ok : GamOk Tryd.prog g4 := gamOk_cons cLives_ok (gamOk_cons cParse_ok (gamOk_cons cRParse_ok (gamOk_cons cSame_ok gamOk_nil)))
theorem par_len (l : List Int) (n : Int) : ∀ (m : Nat) (p : List Int) (seen : List Bool) (i : Nat), (par l n m p seen i).1.length ≤ p.length
  | 0, p, _, _ => by simp [par]
  | m + 1, p, seen, i => by
    rw [par]
    split
    · split
      · split
        · simp
        · rename_i j seen' c _
          have := par_len l n m (turnL c c.length 0 p) seen' (j + 1)
          rw [turnL_length] at this
          exact this
      · simp
    · simp
theorem parR_len (s : ByteArray) (n : Int) : (parR s n).1.length ≤ 64 := by
  unfold parR
  split
  · simp
  · split
    · simp
    · have := par_len (bytesI s) n (s.size + 1) (idL n.toNat) (List.replicate 64 false) 0
      rw [idL_length] at this
      omega
theorem parses_sem (s : ByteArray) (n : Int) : FnSem Tryd.prog 4 [sT s, nI n] [] (bB true) [] := by
  refine fnSem_at (live := []) g4_ok Tryd.func4 (by kernel_rfl) (keep := 0) rfl (by kernel_rfl) 200 ?_
  refine of_eq (q :=
      ((!true) = true → packV [V.c (W.bool false)] = bB true ∧ ([] : List Ob) = []) ∧
        ((!true) = false →
          (decide ((2000 : Int) < (↑s.size : Int)) = true → packV [V.c (W.bool true)] = bB true ∧ ([] : List Ob) = []) ∧
            (decide ((2000 : Int) < (↑s.size : Int)) = false →
              s.size ≤ (1000000 : Nat) ∧
                s.size ≤ (1000000 : Nat) ∧
                  (0 : Nat) + (parR s n).fst.length ≤ (parR s n).fst.length ∧
                    (0 : Nat) + (parR s n).fst.length ≤ (parR s n).fst.length ∧
                      (List.take (parR s n).fst.length (List.drop (0 : Nat) (parR s n).fst)).length ≤ (1000000000 : Nat) ∧
                        (decide
                                (List.take (parR s n).fst.length (List.drop (0 : Nat) (parR s n).fst) =
                                  List.take (parR s n).fst.length (List.drop (0 : Nat) (parR s n).fst)) =
                              true →
                            decide
                                (List.take (parR s n).fst.length (List.drop (0 : Nat) (parR s n).fst) =
                                  List.take (parR s n).fst.length (List.drop (0 : Nat) (parR s n).fst)) =
                              true) ∧
                          (decide
                                  (List.take (parR s n).fst.length (List.drop (0 : Nat) (parR s n).fst) =
                                    List.take (parR s n).fst.length (List.drop (0 : Nat) (parR s n).fst)) =
                                true →
                              decide
                                  (List.take (parR s n).fst.length (List.drop (0 : Nat) (parR s n).fst) =
                                    List.take (parR s n).fst.length (List.drop (0 : Nat) (parR s n).fst)) =
                                true) ∧
                            (decide
                                    (List.take (parR s n).fst.length (List.drop (0 : Nat) (parR s n).fst) =
                                      List.take (parR s n).fst.length (List.drop (0 : Nat) (parR s n).fst)) =
                                  true →
                                decide
                                    (List.take (parR s n).fst.length (List.drop (0 : Nat) (parR s n).fst) =
                                      List.take (parR s n).fst.length (List.drop (0 : Nat) (parR s n).fst)) =
                                  true) ∧
                              packV
                                    [V.c
                                        (W.bool
                                          (bif
                                              decide
                                                (List.take (parR s n).fst.length (List.drop (0 : Nat) (parR s n).fst) =
                                                  List.take (parR s n).fst.length (List.drop (0 : Nat) (parR s n).fst)) then
                                            decide ((parR s n).snd.fst = (parR s n).snd.fst) &&
                                              (decide ((↑(parR s n).snd.snd : Int) = (↑(parR s n).snd.snd : Int)) && true)
                                          else false))] =
                                  bB true ∧
                                ([] : List Ob) = []))) (by kernel_rfl) ?_
  try simp only [imp_self, true_and, and_true, Nat.zero_add, Bool.cond_false_right, Bool.not_eq_true', Bool.not_eq_false', decide_eq_true_eq, decide_eq_false_iff_not, Int.not_lt, List.drop_zero, List.take_length, Nat.le_refl]
  have := parR_len s n
  refine ⟨(fun h => by cases h), fun _ => ⟨fun _ => rfl, fun h => ⟨by omega, by omega, by omega, ?_⟩⟩⟩
  simp [packV]
end Go.Proofs.YtbgfpacjoneaeaaDoor

namespace Go.Proofs.YtbgfpacjoneaeaaDoor
open Go.ChangeShapes Go.WideShapes Go.ChangeAt Go.RowKit Go.ChangeMaps
set_option maxRecDepth 1000000
theorem parses_true (s : ByteArray) (n : Int) (w : World) : Calls Tryd.prog 4 #[.string s, .int .i64 n] w fun e w' => e = .returned (.bool true) ∧ Below w.heap.size w w' := by
  refine (Loom.calls_out (d := .bool) (y := true) (parses_sem s n) (w := w) (vs := [.string s, .int .i64 n]) ⟨⟨by simp, by simp [Loom.WRel, Loom.FRel]⟩, ⟨by simp, by simp [Loom.WRel, Loom.FRel]⟩, trivial⟩ rfl).mono ?_
  rintro e w' ⟨u, rfl, hu, hB⟩
  have : u = .bool true := hu fun _ => none
  rw [this]
  exact ⟨rfl, hB⟩
namespace permParses
theorem laid_met5 (os : Os) (args : Array Value) : laidMet Tryd.prog Rows.permParsesRow.laid ((laidWorld os Rows.permParsesRow.laid).forCall (fun _ _ => 0) ⟨#[], args, []⟩).memory :=
  laidMet_of_run' 8 (by kernel_rfl) (by kernel_rfl)
theorem contract (H : Type) (enc : TypeId × Value → H) (W : World) (base : Nat) (args : Array Value) (ds gs : List (DataW H)) (before : List MemPlace)
    (hval0 : ∀ (j : Nat) t v, Tryd.f4.params[j]? = some t → args[j]? = some v → Value.okWide Tryd.prog W .any base t v)
    (hW : DataW.Whole enc Tryd.prog Tryd.f4.params.toList Rows.permParsesSpec.vars false W args.toList ds gs before) :
    Calls Tryd.prog 4 args W fun e W' => ∃ v, e = .returned v ∧ Rows.permParsesSpec.post enc Tryd.prog Tryd.f4 false true false false W args v W' := by
  have hval := hval0
  have hW' := hW
  obtain ⟨p, q, hA0, hV, rfl, hfz, hnd⟩ := hW
  have hA : DataW.TrodAll enc Tryd.prog W 0 (fun _ => true) true Tryd.f4.params.toList args.toList ds p := hA0
  rw [Tryd.params4] at hA hval
  obtain ⟨v0, vs0, d0, ds0, p0, q0, hargs, rfl, rfl, h0, r0⟩ := trodAll_cons hA
  obtain ⟨v1, vs1, d1, ds1, p1, q1, hargs1, rfl, rfl, h1, r1⟩ := trodAll_cons r0
  obtain ⟨rfl, rfl, rfl⟩ := trodAll_nil r1
  obtain rfl : args = #[v0, v1] := by cases args; simp_all
  obtain ⟨rfl, rfl⟩ := trodVars_none hV
  obtain ⟨s, rfl, rfl, rfl, ws⟩ := open_string Tryd.underlying9 (hval 0 9 v0 rfl rfl) h0
  obtain ⟨a1, rfl, rfl, rfl, w1⟩ := open_int Tryd.underlying3 (hval 1 3 v1 rfl rfl) h1
  clear hA0 hval0
  simp only [List.append_nil] at hW'
  refine (parses_true s a1 W).mono fun e W' ⟨he, hB⟩ => ?_
  subst he
  exact ⟨_, rfl, Mill.post_of_below (pa := []) (pv := []) hW' (fun _ _ _ => trodAll_cons_mk (shut_bool Tryd.underlying4 _) trodAll_mk0) (fun _ _ => trodAll_cons_mk (shut_string Tryd.underlying9 ws) (trodAll_cons_mk (shut_int Tryd.underlying3 w1) trodAll_mk0)) (fun _ _ => rfl) rfl hB (ok_one (by kernel_rfl) rfl (okWide_bool_mk Tryd.underlying4 _))⟩
theorem reads (os : Os) {H : Type} (enc : TypeId × Value → H) : ∃ places, DataW.whole enc Tryd.prog ((laidWorld os Rows.permParsesRow.laid).forCall (fun _ _ => 0) ⟨#[], #[.string ⟨#[]⟩, .int .i64 0], []⟩).memory Tryd.f4.params.toList Rows.permParsesSpec.vars false (#[.string ⟨#[]⟩, .int .i64 0] : Array Value).toList 8 = some ([.lit (.string []), .lit (.int .i64 0)], [], places) :=
  ⟨[], by kernel_rfl⟩
theorem lifted (os : Os) (started : os.Started) (H : Type) (enc : TypeId × Value → H) (F : Stop.Interp) :
    ReturnsInHanded {} Tryd.checked os 4 .any ((OpenSpec.ofChange Rows.permParsesSpec).preRow enc Tryd.prog Tryd.f4 Rows.permParsesRow.domain false Rows.permParsesRow.laid) (((OpenSpec.ofChange Rows.permParsesSpec).at F).post enc Tryd.prog Tryd.f4 false true false false) := by
  obtain ⟨places, hx⟩ := reads os enc
  refine returnsInHanded_of_row (C := Tryd.checked) (s := OpenSpec.ofChange Rows.permParsesSpec) own started (by kernel_rfl) Tryd.func4
    (witness_row_at (enc := enc) (C := Tryd.checked) false (laidWorld os Rows.permParsesRow.laid) #[.string ⟨#[]⟩, .int .i64 0] rfl (by kernel_rfl) (by kernel_rfl) (by kernel_rfl)
      (OpenSpec.preRow_of_cond 8 hx (by kernel_rfl) (fun k hk => by cases hk) (by kernel_rfl) (laid_met5 os _))) ?_
  intro W base args ds gs before hval hW _ _ _ hL _ _
  exact contract H enc W base args ds gs before hval hW
theorem said : Rows.PermParsesSaid :=
  OpenClaim.holds_of_cond 4 Tryd.f4 rfl rfl rfl rfl rfl rfl rfl ⟨rfl, rfl, rfl, rfl, rfl⟩ rfl rfl rfl rfl rfl (by kernel_rfl) Tryd.func4 (by kernel_rfl)
    (of_decide_eq_true (by kernel_rfl)) (by unfold Func.isWrapper; first | (rw [if_pos (by decide +kernel)]; kernel_rfl) | (rw [if_neg (by decide +kernel)]; exact ⟨rfl, rfl⟩))
    (fun os started H enc _ F => by rw [OpenClaim.pre_eq_preRow]; exact lifted os started H enc F)
theorem plain (f : FuncId) (fn : Func) (hf : Tryd.pinned.checked.prog.funcNamed "cayley/cayleylaw01.PermParses" = some f) (hfn : Tryd.pinned.checked.prog.funcs[f]? = some fn) :
    false = Tryd.pinned.checked.prog.looks [] ∧ ∀ (j : Nat) t, fn.params[j]? = some t → Tryd.pinned.checked.prog.wantsStandIn t = false := by
  obtain rfl : f = 4 := Option.some.inj ((show Tryd.prog.funcNamed "cayley/cayleylaw01.PermParses" = some 4 by kernel_rfl).symm.trans hf) |>.symm
  obtain rfl : fn = Tryd.f4 := (Option.some.inj (Tryd.func4.symm.trans hfn)).symm
  refine ⟨by kernel_rfl, fun j t ht => ?_⟩
  rw [Tryd.params4] at ht
  cases j with
  | zero => simp at ht; subst ht; kernel_rfl
  | succ j =>
    cases j with
    | zero => simp at ht; subst ht; kernel_rfl
    | succ j => simp at ht
end permParses
theorem permParses_holds : Rows.PermParsesCardSaid :=
  Claim7.holds_tied_plain_at .later [] _ _ _ _ permParses.said (fun _ h => by cases h) (by kernel_rfl) (fun _ h => by cases h) permParses_row_tie rfl ⟨rfl, rfl⟩ (by kernel_rfl) rfl permParses.plain (by kernel_rfl)
end Go.Proofs.YtbgfpacjoneaeaaDoor
