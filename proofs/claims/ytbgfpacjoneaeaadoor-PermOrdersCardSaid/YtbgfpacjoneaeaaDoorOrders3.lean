/- The law PermOrders, as a call. -/
import Derived.Test.YtbgfpacjoneaeaaDoorOrders2
import Derived.Test.YtbgfpacjoneaeaaDoorNames1
namespace Go.Proofs.YtbgfpacjoneaeaaDoor
open Go.Loom
set_option maxRecDepth 100000
theorem lives_sem : FnSem Tryd.prog 11 [] [] (bB true) [] := fnSem_below (d := .bool) (y := true) fun η Z w vs hvs => by
  cases vs with
  | cons _ _ => exact hvs.elim
  | nil => exact (lives_true w).mono fun e w' ⟨he, hB⟩ => ⟨_, he, fun _ => rfl, hB⟩
def cLives : Con := con0 (.t, bB true, [])
theorem cLives_ok : ConOk Tryd.prog 11 cLives := con0_ok (by kernel_rfl) fun _ => lives_sem
noncomputable def g7 : Gam := [(11, cLives), (41, cTimes), (42, cTimes), (43, cRatio), (44, cRatio)]
theorem g7_ok : GamOk Tryd.prog g7 := gamOk_cons cLives_ok (gamOk_cons cTimes_ok (gamOk_cons cRTimes_ok (gamOk_cons cRatio_ok (gamOk_cons cRRatio_ok gamOk_nil))))
theorem orders_sem (s : ByteArray) (n : Int) : FnSem Tryd.prog 7 [sT s, nI n] [] (bB true) [] := by
  refine fnSem_at (live := []) g7_ok Tryd.func7 (by kernel_rfl) (keep := 0) rfl (by kernel_rfl) 200 ?_
  refine of_eq (q :=
      ((!true) = true → packV [V.c (W.bool false)] = bB true ∧ ([] : List Ob) = []) ∧
        ((!true) = false →
          (decide ((300 : Int) < (↑s.size : Int)) = true → packV [V.c (W.bool true)] = bB true ∧ ([] : List Ob) = []) ∧
            (decide ((300 : Int) < (↑s.size : Int)) = false →
              s.size ≤ (1000000 : Nat) ∧
                s.size ≤ (1000000 : Nat) ∧
                  s.size ≤ (1000000 : Nat) ∧
                    s.size ≤ (1000000 : Nat) ∧
                      ((!decide (timesT s n = timesT s n)) = false → (!decide (timesT s n = timesT s n)) = false) ∧
                        ((!decide (timesT s n = timesT s n)) = false → (!decide (timesT s n = timesT s n)) = false) ∧
                          ((!decide (timesT s n = timesT s n)) = false → (!decide (timesT s n = timesT s n)) = false) ∧
                            ((bif !decide (timesT s n = timesT s n) then true else !decide (timesE s n = timesE s n)) =
                                  false →
                                (bif !decide (timesT s n = timesT s n) then true else !decide (timesE s n = timesE s n)) =
                                  false) ∧
                              ((bif !decide (timesT s n = timesT s n) then true else !decide (timesE s n = timesE s n)) =
                                    false →
                                  (bif !decide (timesT s n = timesT s n) then true else !decide (timesE s n = timesE s n)) =
                                    false) ∧
                                ((bif !decide (timesT s n = timesT s n) then true else !decide (timesE s n = timesE s n)) =
                                      false →
                                    (bif !decide (timesT s n = timesT s n) then true else !decide (timesE s n = timesE s n)) =
                                      false) ∧
                                  ((bif
                                            bif !decide (timesT s n = timesT s n) then true
                                            else !decide (timesE s n = timesE s n) then
                                          true
                                        else !decide (ratioT s n = ratioT s n)) =
                                        false →
                                      (bif
                                            bif !decide (timesT s n = timesT s n) then true
                                            else !decide (timesE s n = timesE s n) then
                                          true
                                        else !decide (ratioT s n = ratioT s n)) =
                                        false) ∧
                                    ((bif
                                              bif !decide (timesT s n = timesT s n) then true
                                              else !decide (timesE s n = timesE s n) then
                                            true
                                          else !decide (ratioT s n = ratioT s n)) =
                                          false →
                                        (bif
                                              bif !decide (timesT s n = timesT s n) then true
                                              else !decide (timesE s n = timesE s n) then
                                            true
                                          else !decide (ratioT s n = ratioT s n)) =
                                          false) ∧
                                      ((bif
                                                bif !decide (timesT s n = timesT s n) then true
                                                else !decide (timesE s n = timesE s n) then
                                              true
                                            else !decide (ratioT s n = ratioT s n)) =
                                            false →
                                          (bif
                                                bif !decide (timesT s n = timesT s n) then true
                                                else !decide (timesE s n = timesE s n) then
                                              true
                                            else !decide (ratioT s n = ratioT s n)) =
                                            false) ∧
                                        ((bif
                                                  bif
                                                      bif !decide (timesT s n = timesT s n) then true
                                                      else !decide (timesE s n = timesE s n) then
                                                    true
                                                  else !decide (ratioT s n = ratioT s n) then
                                                true
                                              else !decide (ratioE s n = ratioE s n)) =
                                              true →
                                            packV [V.c (W.bool false)] = bB true ∧ ([] : List Ob) = []) ∧
                                          ((bif
                                                  bif
                                                      bif !decide (timesT s n = timesT s n) then true
                                                      else !decide (timesE s n = timesE s n) then
                                                    true
                                                  else !decide (ratioT s n = ratioT s n) then
                                                true
                                              else !decide (ratioE s n = ratioE s n)) =
                                              false →
                                            ((!decide (timesE s n = (0 : Int))) = true →
                                                packV [V.c (W.bool true)] = bB true ∧ ([] : List Ob) = []) ∧
                                              ((!decide (timesE s n = (0 : Int))) = false →
                                                (timesT s n).size ≤ (1000000 : Nat) ∧
                                                  (decide (ratioT (timesT s n) n = s) = true →
                                                      decide (ratioT (timesT s n) n = s) = true) ∧
                                                    (decide (ratioT (timesT s n) n = s) = true →
                                                        decide (ratioT (timesT s n) n = s) = true) ∧
                                                      packV
                                                            [V.c
                                                                (W.bool
                                                                  (bif decide (ratioT (timesT s n) n = s) then
                                                                    decide (ratioE (timesT s n) n = (0 : Int))
                                                                  else false))] =
                                                          bB true ∧
                                                        ([] : List Ob) = []))))) (by kernel_rfl) ?_
  try simp only [imp_self, true_and, and_true, Bool.cond_true_left, Bool.cond_false_right, Bool.or_eq_true, Bool.or_eq_false_iff, Bool.not_eq_true', Bool.not_eq_false', decide_eq_true_eq, decide_eq_false_iff_not, Int.not_lt]
  have hb : ∀ b : Bool, b = true → packV [V.c (W.bool b)] = bB true := fun b h => by subst h; rfl
  refine ⟨(fun h => by cases h), fun _ => ⟨fun _ => rfl, fun h => ⟨by omega, by omega, by omega, by omega, fun h2 => ?_, fun _ => ⟨fun _ => rfl, fun h0 => ?_⟩⟩⟩⟩
  · simp at h2
  · obtain ⟨ho, hn, hl, ht⟩ : orderL (bytesI s) = true ∧ (1 ≤ n ∧ n ≤ 1000000000) ∧ (timesL (bytesI s) n).length ≤ 200 ∧ timesT s n = packI (timesL (bytesI s) n).reverse := by
      unfold timesE at h0
      unfold timesT
      split at h0
      · cases h0
      · rename_i h1
        split at h0
        · cases h0
        · rename_i h2
          split at h0
          · cases h0
          · rename_i h3
            rw [if_neg h1, if_neg h2, if_neg h3]
            exact ⟨by simpa using h1, by omega, by omega, rfl⟩
    obtain ⟨h1, h2, h3⟩ := ratio_times ho hn hl
    have hbytes : bytesI (timesT s n) = (timesL (bytesI s) n).reverse := by
      rw [ht]
      refine bytesI_packI fun c hc => ?_
      have := digs_tl n (bytesI s).reverse 0 c (by simpa [timesL] using hc)
      omega
    refine ⟨by rw [ht, packI_size]; simp; omega, hb _ ?_⟩
    have e1 : ratioT (timesT s n) n = s := by
      unfold ratioT
      rw [hbytes, if_neg (by simp [h1]), if_neg (by omega), if_neg (by omega), if_neg (by omega), h3, packI_bytesI]
    have e2 : ratioE (timesT s n) n = 0 := by
      unfold ratioE
      rw [hbytes, if_neg (by simp [h1]), if_neg (by omega), if_neg (by omega), if_neg (by omega)]
    simp [e1, e2]
end Go.Proofs.YtbgfpacjoneaeaaDoor
