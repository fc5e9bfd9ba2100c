/- Reading presentations: relators, Parse. -/
import Derived.Test.YtlcpgjjfjgbocaaGreatDoorBack2
import Derived.Test.YtlcpgjjfjgbocaaGreatDoorRec1
import Derived.Test.YtlcpgjjfjgbocaaGreatDoorText1
namespace Go.Proofs.YtlcpgjjfjgbocaaGreatDoor
open Go.Loom Go.Words
open Go.RowKit
set_option maxRecDepth 100000
/-! ### Relators -/
theorem piece_skip (g : Int) (l : List Int) (i : Nat) : pieceP g l (skipP l i) = pieceP g l i := by unfold pieceP; rw [skipP_skipP]
theorem rel_parts {g : Int} {l : List Int} {i : Nat} {w : List Int} {j : Nat} (h : relP g l i = some (w, j)) : pieceP g l i = some (w, j) ∧ j < l.length ∧ l.getD j 0 ≠ 61 := by
 unfold relP at h
 split at h
 · rename_i w' j' hp
   split at h
   · rename_i hc
     cases h
     exact ⟨hp, hc⟩
   · cases h
 · cases h
theorem rels_step {g : Int} {l : List Int} {m left : Nat} {rs : List (List Int)} {i : Nat} {R : List (List Int)} {J : Nat} (h : relsP g l (m + 1) left rs i = some (R, J)) :
 ∃ w j, relP g l i = some (w, j) ∧ rs.length < 100 ∧ w.length ≤ left ∧ (l.getD j 0 = 44 → relsP g l m (left - w.length) (rs ++ [w]) (j + 1) = some (R, J)) ∧ (l.getD j 0 ≠ 44 → rs ++ [w] = R ∧ j = J) := by
 rw [relsP] at h
 split at h
 · rename_i w j hr
   split at h
   · rename_i hc
     refine ⟨w, j, hr, hc.1, hc.2, fun h4 => ?_, fun h4 => ?_⟩
     · rw [if_pos h4] at h; exact h
     · rw [if_neg h4] at h; cases h; exact ⟨rfl, rfl⟩
   · cases h
 · cases h
noncomputable def gRl : Gam := [(28, cPBlanks), (53, cPiece), (39, cInvert), (54, cMul)]
theorem gRl_ok : GamOk Tryz.prog gRl := gamOk_cons cPBlanks_ok (gamOk_cons cPiece_ok (gamOk_cons cInvert_ok (gamOk_cons cMul_ok gamOk_nil)))
theorem relN_sem (s : ByteArray) (hs : s.size ≤ 20000) (g left i : Int) (hl : left ≤ 4000) (hg : RG g) (h : At s i) (w : List Int) (j : Nat) (hw : relP g (bytesI s) i.toNat = some (w, j)) (hwl : (w.length : Int) ≤ left) : FnSemK Tryz.prog 27 1 [pt0] [prN s i g left] (.tup []) [prL s j g 1 (left - w.length), obLL [w]] := by
 refine fnSemK_at (live := []) (fzl := []) (fz := []) gRl_ok Tryz.func27 (by kernel_rfl) 1 (by kernel_rfl) 100 ?_
 refine of_eq (q := let q0 := IntKind.i64.wrap; let q4 := (gv (pieceP g (bytesI s) (skipP (bytesI s) i.toNat))); let q8 := decide (bAt s q4.snd = (61:Int)); let q9 := (1:Nat); let q10 := decide (q0 (left - (↑q4.fst.length : Int)) < (0:Int)); let q1 := (↑q4.snd : Int); let q3 := (pieceP g (bytesI s) (q0 (q1 + (1:Int))).toNat); let q5 := decide (q1 < (s.size:Int)); let q6 := decide (q1 = (s.size:Int)); let q7 := (left - (↑(red (q4.fst.append (red (turnW (gv q3).fst)))).length : Int)); let q2 := decide ((↑(gv q3).snd : Int) = (s.size:Int)); At s i ∧ (s.size ≤ (20000:Nat) ∧ (0:Nat) < (100:Nat) ∧ RG g ∧ At s (↑(skipP (bytesI s) i.toNat) : Int) ∧ (pieceP g (bytesI s) (skipP (bytesI s) i.toNat)).isSome = true) ∧ (q5 = true → q5 = true) ∧ (q5 = true → q5 = true) ∧ (q5 = true → q5 = true) ∧ (q5 = true → q5 = true) ∧ (q5 = true → q5 = true) ∧ (q5 = true → q5 = true) ∧ (q5 = true → q5 = true) ∧ (q5 = true → q5 = true) ∧ (q5 = true → (0:Int) ≤ q1 ∧ q1 < (s.size:Int)) ∧ (q5 = true → q5 = true) ∧ (q5 = true → q5 = true) ∧ ((bif q5 then q8 else false) = true → (s.size ≤ (20000:Nat) ∧ (0:Nat) < (100:Nat) ∧ RG g ∧ At s (q0 (q1 + (1:Int))) ∧ q3.isSome = true) ∧ Ok5 (gv q3).fst ∧ (Ok5 q4.fst ∧ Ok5 (red (turnW (gv q3).fst))) ∧ (q2 = false → q2 = false) ∧ (q2 = false → q2 = false) ∧ (q2 = false → q2 = false) ∧ (q2 = false → q2 = false) ∧ (q2 = false → q2 = false) ∧ (q2 = false → q2 = false) ∧ (q2 = false → q2 = false) ∧ (q2 = false → q2 = false) ∧ (q2 = false → (0:Int) ≤ (↑(gv q3).snd : Int) ∧ (↑(gv q3).snd : Int) < (s.size:Int)) ∧ (q2 = false → q2 = false) ∧ (q2 = false → q2 = false) ∧ ((bif q2 then true else decide (bAt s (gv q3).snd = (61:Int))) = true → False) ∧ ((bif q2 then true else decide (bAt s (gv q3).snd = (61:Int))) = false → (decide (q0 q7 < (0:Int)) = true → False) ∧ (decide (q0 q7 < (0:Int)) = false → (0:Nat) + q9 ≤ q9 ∧ q9 * (24:Nat) ≤ (140737488355328:Nat) ∧ packV [] = A.tup [] ∧ [Ob.mk 62 [Fd.c (W.str s), Fd.c (W.int .i64 (↑(gv q3).snd : Int)), Fd.c (W.int .i64 g), Fd.c (W.sl ((0:Nat) + q9) (0:Nat) q9 q9), Fd.c (W.int .i64 (q0 q7))], Ob.mk 40 [Fd.a 0 (D.int .i64).sl (List.take q9 (List.drop (0:Nat) [red (q4.fst.append (red (turnW (gv q3).fst)))]))]] = [prL s (j:Int) g q9 (left - (w.length:Int)), obLL [w]]))) ∧ ((bif q5 then q8 else false) = false → (q6 = false → q6 = false) ∧ (q6 = false → q6 = false) ∧ (q6 = false → q6 = false) ∧ (q6 = false → q6 = false) ∧ (q6 = false → q6 = false) ∧ (q6 = false → q6 = false) ∧ (q6 = false → q6 = false) ∧ (q6 = false → q6 = false) ∧ (q6 = false → (0:Int) ≤ q1 ∧ q1 < (s.size:Int)) ∧ (q6 = false → q6 = false) ∧ (q6 = false → q6 = false) ∧ ((bif q6 then true else q8) = true → False) ∧ ((bif q6 then true else q8) = false → (q10 = true → False) ∧ (q10 = false → (0:Nat) + q9 ≤ q9 ∧ q9 * (24:Nat) ≤ (140737488355328:Nat) ∧ packV [] = A.tup [] ∧ [Ob.mk 62 [Fd.c (W.str s), Fd.c (W.int .i64 q1), Fd.c (W.int .i64 g), Fd.c (W.sl ((0:Nat) + q9) (0:Nat) q9 q9), Fd.c (W.int .i64 (q0 (left - (↑q4.fst.length : Int))))], Ob.mk 40 [Fd.a 0 (D.int .i64).sl (List.take q9 (List.drop (0:Nat) [q4.fst]))]] = [prL s (j:Int) g q9 (left - (w.length:Int)), obLL [w]])))) (by kernel_rfl) ?_
 try simp only [imp_self, true_and, Nat.zero_add, Bool.cond_true_left, Bool.cond_false_right, Bool.or_eq_true, Bool.or_eq_false_iff, Bool.and_eq_true, Bool.and_eq_false_imp, decide_eq_true_eq, decide_eq_false_iff_not, Int.not_lt, List.drop_zero, List.take_succ_cons, List.take_zero, Nat.le_refl]
 obtain ⟨hp, hj, hne⟩ := rel_parts hw
 have hps : pieceP g (bytesI s) (skipP (bytesI s) i.toNat) = some (w, j) := by rw [piece_skip]; exact hp
 rw [hps]
 dsimp only [Option.getD_some, gv, Option.isSome_some]
 rw [bytesI_length] at hj
 rw [← bAt_get] at hne
 rw [wrap64 (n := left - (w.length : Int)) (by omega) (by omega)]
 obtain ⟨hat, _⟩ := skip_at h
 refine ⟨h, ⟨hs, by decide, hg, hat, rfl⟩, fun _ => by omega, fun h1 => absurd h1.2 hne, fun _ => ⟨fun _ => by omega, fun h1 => ?_, fun _ => ⟨fun h1 => by omega, fun _ => ⟨by decide, rfl, rfl⟩⟩⟩⟩
 rcases h1 with h1 | h1
 · omega
 · exact hne h1
theorem relL_sem (s : ByteArray) (hs : s.size ≤ 20000) (g left i : Int) (rs : List (List Int)) (hr : rs.length < 100) (hl : left ≤ 4000) (hg : RG g) (h : At s i) (w : List Int) (j : Nat) (hw : relP g (bytesI s) i.toNat = some (w, j)) (hwl : (w.length : Int) ≤ left) : FnSemK Tryz.prog 27 1 [pt0] [prL s i g rs.length left, obLL rs] (.tup []) [prL s j g (rs.length + 1) (left - w.length), obLL (rs ++ [w])] := by
 refine fnSemK_at (live := []) (fzl := []) (fz := []) gRl_ok Tryz.func27 (by kernel_rfl) 1 (by kernel_rfl) 100 ?_
 refine of_eq (q := let q0 := IntKind.i64.wrap; let q4 := (gv (pieceP g (bytesI s) (skipP (bytesI s) i.toNat))); let q8 := (rs.length + (1:Nat)); let q9 := decide (bAt s q4.snd = (61:Int)); let q10 := decide (q0 (left - (↑q4.fst.length : Int)) < (0:Int)); let q11 := (0:Nat); let q1 := (↑q4.snd : Int); let q3 := (pieceP g (bytesI s) (q0 (q1 + (1:Int))).toNat); let q5 := decide (q1 < (s.size:Int)); let q6 := decide (q1 = (s.size:Int)); let q7 := (left - (↑(red (q4.fst.append (red (turnW (gv q3).fst)))).length : Int)); let q2 := decide ((↑(gv q3).snd : Int) = (s.size:Int)); rs.length = rs.length ∧ At s i ∧ rs.length = rs.length ∧ (s.size ≤ (20000:Nat) ∧ rs.length < (100:Nat) ∧ RG g ∧ At s (↑(skipP (bytesI s) i.toNat) : Int) ∧ (pieceP g (bytesI s) (skipP (bytesI s) i.toNat)).isSome = true) ∧ (q5 = true → q5 = true) ∧ (q5 = true → q5 = true) ∧ (q5 = true → q5 = true) ∧ (q5 = true → q5 = true) ∧ (q5 = true → q5 = true) ∧ (q5 = true → q5 = true) ∧ (q5 = true → q5 = true) ∧ (q5 = true → q5 = true) ∧ (q5 = true → (0:Int) ≤ q1 ∧ q1 < (s.size:Int)) ∧ (q5 = true → q5 = true) ∧ (q5 = true → q5 = true) ∧ ((bif q5 then q9 else false) = true → rs.length = rs.length ∧ (s.size ≤ (20000:Nat) ∧ rs.length < (100:Nat) ∧ RG g ∧ At s (q0 (q1 + (1:Int))) ∧ q3.isSome = true) ∧ Ok5 (gv q3).fst ∧ (Ok5 q4.fst ∧ Ok5 (red (turnW (gv q3).fst))) ∧ (q2 = false → q2 = false) ∧ (q2 = false → q2 = false) ∧ (q2 = false → q2 = false) ∧ (q2 = false → q2 = false) ∧ (q2 = false → q2 = false) ∧ (q2 = false → q2 = false) ∧ (q2 = false → q2 = false) ∧ (q2 = false → q2 = false) ∧ (q2 = false → (0:Int) ≤ (↑(gv q3).snd : Int) ∧ (↑(gv q3).snd : Int) < (s.size:Int)) ∧ (q2 = false → q2 = false) ∧ (q2 = false → q2 = false) ∧ ((bif q2 then true else decide (bAt s (gv q3).snd = (61:Int))) = true → False) ∧ ((bif q2 then true else decide (bAt s (gv q3).snd = (61:Int))) = false → (decide (q0 q7 < (0:Int)) = true → False) ∧ (decide (q0 q7 < (0:Int)) = false → q11 + (1:Nat) ≤ (1:Nat) ∧ (q11 + rs.length ≤ rs.length ∧ q8 * (24:Nat) ≤ (140737488355328:Nat)) ∧ packV [] = A.tup [] ∧ [Ob.mk 62 [Fd.c (W.str s), Fd.c (W.int .i64 (↑(gv q3).snd : Int)), Fd.c (W.int .i64 g), Fd.c (W.sl (q11 + (1:Nat)) q11 q8 (1:Nat)), Fd.c (W.int .i64 (q0 q7))], Ob.mk 40 [Fd.a 0 (D.int .i64).sl (List.take rs.length (List.drop q11 rs) ++ List.take (1:Nat) (List.drop q11 [red (q4.fst.append (red (turnW (gv q3).fst)))]))]] = [prL s (j:Int) g q8 (left - (w.length:Int)), obLL (rs ++ [w])]))) ∧ ((bif q5 then q9 else false) = false → (q6 = false → q6 = false) ∧ (q6 = false → q6 = false) ∧ (q6 = false → q6 = false) ∧ (q6 = false → q6 = false) ∧ (q6 = false → q6 = false) ∧ (q6 = false → q6 = false) ∧ (q6 = false → q6 = false) ∧ (q6 = false → q6 = false) ∧ (q6 = false → (0:Int) ≤ q1 ∧ q1 < (s.size:Int)) ∧ (q6 = false → q6 = false) ∧ (q6 = false → q6 = false) ∧ ((bif q6 then true else q9) = true → False) ∧ ((bif q6 then true else q9) = false → (q10 = true → False) ∧ (q10 = false → q11 + (1:Nat) ≤ (1:Nat) ∧ (q11 + rs.length ≤ rs.length ∧ q8 * (24:Nat) ≤ (140737488355328:Nat)) ∧ packV [] = A.tup [] ∧ [Ob.mk 62 [Fd.c (W.str s), Fd.c (W.int .i64 q1), Fd.c (W.int .i64 g), Fd.c (W.sl (q11 + (1:Nat)) q11 q8 (1:Nat)), Fd.c (W.int .i64 (q0 (left - (↑q4.fst.length : Int))))], Ob.mk 40 [Fd.a 0 (D.int .i64).sl (List.take rs.length (List.drop q11 rs) ++ List.take (1:Nat) (List.drop q11 [q4.fst]))]] = [prL s (j:Int) g q8 (left - (w.length:Int)), obLL (rs ++ [w])])))) (by kernel_rfl) ?_
 try simp only [imp_self, true_and, Nat.zero_add, Bool.cond_true_left, Bool.cond_false_right, Bool.or_eq_true, Bool.or_eq_false_iff, Bool.and_eq_true, Bool.and_eq_false_imp, decide_eq_true_eq, decide_eq_false_iff_not, Int.not_lt, List.drop_zero, List.take_length, List.take_succ_cons, List.take_zero, Nat.le_refl]
 obtain ⟨hp, hj, hne⟩ := rel_parts hw
 have hps : pieceP g (bytesI s) (skipP (bytesI s) i.toNat) = some (w, j) := by rw [piece_skip]; exact hp
 rw [hps]
 dsimp only [Option.getD_some, gv, Option.isSome_some]
 rw [bytesI_length] at hj
 rw [← bAt_get] at hne
 rw [wrap64 (n := left - (w.length : Int)) (by omega) (by omega)]
 obtain ⟨hat, _⟩ := skip_at h
 refine ⟨h, ⟨hs, hr, hg, hat, rfl⟩, fun _ => by omega, fun h1 => absurd h1.2 hne, fun _ => ⟨fun _ => by omega, fun h1 => ?_, fun _ => ⟨fun h1 => by omega, fun _ => ⟨by omega, rfl, rfl⟩⟩⟩⟩
 rcases h1 with h1 | h1
 · omega
 · exact hne h1
def relOk (s : ByteArray) (g left i : Int) (rs : List (List Int)) : Prop := s.size ≤ 20000 ∧ rs.length < 100 ∧ left ≤ 4000 ∧ RG g ∧ At s i ∧ (relP g (bytesI s) i.toNat).isSome = true ∧ ((gv (relP g (bytesI s) i.toNat)).1.length : Int) ≤ left
def cRel : Con := { refs := [true], keep := some 1, f := fun args objs => match args, objs with
 | [.p (.c (.ptr a b))], [o] => bif Nat.beq a 0 && Nat.beq b 0 then (match asPN o with
   | some (s, i, g, left) => some (.p (relOk s g left i []), .tup [], [prL s (gv (relP g (bytesI s) i.toNat)).2 g 1 (left - (gv (relP g (bytesI s) i.toNat)).1.length), obLL [(gv (relP g (bytesI s) i.toNat)).1]])
   | none => none) else none
 | [.p (.c (.ptr a b))], [o, o2] => bif Nat.beq a 0 && Nat.beq b 0 then (match asPL o, asLL o2 with
   | some (s, i, g, n, left), some rs => some (.p (n = rs.length ∧ relOk s g left i rs), .tup [], [prL s (gv (relP g (bytesI s) i.toNat)).2 g (n + 1) (left - (gv (relP g (bytesI s) i.toNat)).1.length), obLL (rs ++ [(gv (relP g (bytesI s) i.toNat)).1])])
   | _, _ => none) else none
 | _, _ => none }
theorem cRel_ok : ConOk Tryz.prog 27 cRel := by
 refine ⟨by kernel_rfl, fun args objs c r objs' e hc => ?_⟩
 simp only [cRel] at e
 split at e
 · obtain ⟨hb, e⟩ := Mill.bif_some e
   simp only [Bool.and_eq_true, Nat.beq_eq] at hb
   obtain ⟨rfl, rfl⟩ := hb
   split at e
   · rename_i s i g left ho
     rw [asPN_eq ho]
     cases e
     obtain ⟨h1, h2, h3, h4, h5, h6, h7⟩ := hc
     obtain ⟨⟨w, j⟩, e⟩ := Option.isSome_iff_exists.1 h6
     rw [e] at h7 ⊢
     exact relN_sem s h1 g left i h3 h4 h5 w j e h7
   · cases e
 · obtain ⟨hb, e⟩ := Mill.bif_some e
   simp only [Bool.and_eq_true, Nat.beq_eq] at hb
   obtain ⟨rfl, rfl⟩ := hb
   split at e
   · rename_i s i g n left rs ho ho2
     rw [asPL_eq ho, asLL_eq ho2]
     cases e
     obtain ⟨rfl, h1, h2, h3, h4, h5, h6, h7⟩ := hc
     obtain ⟨⟨w, j⟩, e⟩ := Option.isSome_iff_exists.1 h6
     rw [e] at h7 ⊢
     exact relL_sem s h1 g left i rs h2 h3 h4 h5 w j e h7
   · cases e
 · cases e
/-! ### Parse -/
theorem fail_zero (w : World) : (zeroValue 58).run Tryz.prog w = .ok (.agg #[.int .i64 0, .int .i64 0]) w := by kernel_rfl
theorem pd_idle (x y : Value) (w : World) :
 CallsDIn Fence.wide 0 Tryz.prog 24 #[x, y] .returning w fun e u' w' => e = .returned (.tuple #[]) ∧ u' = .returning ∧ Below w.heap.size w w' := by
 refine callsDIn_of_wpSIn Tryz.func24 rfl (by simp [Fence.wide]) fun c₀ cs hu => ?_
 have hta : Sem.run Tryz.prog (Instr.typeAssert .nilIface 20 58 true) w = .ok (.tuple #[.agg #[.int .i64 0, .int .i64 0], .bool false]) w := by
  unfold Instr.typeAssert
  simp [fail_zero w]
 apply wpSIn_seq
 apply wpSIn_region
 simp [wpOpsSIn, go_sem, recoverD, hu, Tryz.ntmps24, Exit.thenS, Fence.wide]
 apply wpSIn_seq
 apply wpSIn_region
 simp [wpOpsSIn, go_sem, Exit.thenS, hta]
 apply wpSIn_seq
 apply wpSIn_region
 simp [wpOpsSIn, go_sem, Exit.thenS]
 refine wpSIn_cond (t := false) (by simp [Act.eval, Array.replicate]) ?_
 simp only [Bool.false_eq_true, if_false]
 apply wpSIn_seq
 apply wpSIn_region
 simp [wpOpsSIn, go_sem, Exit.thenS]
 refine wpSIn_cond (t := false) (by simp [Act.eval, Array.replicate]) ?_
 simp only [Bool.false_eq_true, if_false]
 refine wpSIn_of_wpIn rfl (wpIn_skip ?_)
 have hB : Below w.heap.size w (w.alloc (Obj.cells #[Value.int IntKind.i64 0, Value.int IntKind.i64 0] 58)) := (Below.refl _ w).alloc (Nat.le_refl _) _
 cases c₀
 simp_all [bodyPostS, results, Tryz.results24]
theorem pd_dfr : DfrOk Tryz.prog 24 2 := by
 refine ⟨by kernel_rfl, fun vs w hv => ?_⟩
 obtain ⟨x, y, rfl⟩ : ∃ x y, vs = #[x, y] := by
  rcases vs with ⟨l⟩
  match l, hv with
  | [x, y], _ => exact ⟨x, y, rfl⟩
 exact pd_idle x y w
noncomputable def gPp : Gam := [(25, cNeed), (26, cHas), (27, cRel), (28, cPBlanks)]
theorem gPp_ok : GamOk Tryz.prog gPp := gamOk_cons cNeed_ok (gamOk_cons cHas_ok (gamOk_cons cRel_ok (gamOk_cons cPBlanks_ok gamOk_nil)))
def dfPp : List { x : FuncId × Nat // DfrOk Tryz.prog x.1 x.2 } := [⟨(24, 2), pd_dfr⟩]
abbrev pPl : List Nat := [0, 0, 1, 1, 1, 1, 1]
abbrev pPr : List Nat := [0, 1, 0, 1, 0, 1, 1, 1, 1, 1, 1, 1]
abbrev livePp : List (List Nat × List Nat) := [(pPl, [0, 2, 3, 4]), (pPr, [0, 2, 3, 4])]
noncomputable def sPp : Site := mkSiteD Tryz.prog gPp Tryz.f8 0 livePp [] [some dL, none] dfPp
abbrev okP (g : Int) (rs : List (List Int)) : A := .tup [prV g rs, .agg [.int .i64 0, .int .i64 0]]
abbrev obZ : Ob := ⟨28, [.c (.int .i64 0), .c .nil]⟩
abbrev obF : Ob := ⟨33, [.c (.int .i64 0), .c (.int .i64 0)]⟩
noncomputable abbrev frPp (s : ByteArray) : Fr := fr [(0, stT s), (2, .p (.c (.ptr 0 0))), (3, .p (.c (.ptr 1 0))), (4, .p (.c (.ptr 2 0)))]
theorem rel_ok {s : ByteArray} (hs : s.size ≤ 20000) {g : Nat} (hg : 1 ≤ g ∧ g ≤ 16) {left : Nat} (hl : left ≤ 4000) {i : Nat} (hi : i ≤ s.size) {rs : List (List Int)} (hr : rs.length < 100) {w : List Int} {j : Nat} (e : relP g (bytesI s) i = some (w, j)) (hw : w.length ≤ left) : relOk s g left i rs := by
 refine ⟨hs, hr, by omega, ⟨by omega, by omega⟩, ⟨by omega, by omega, by omega⟩, ?_, ?_⟩
 · rw [Int.toNat_natCast, e]; rfl
 · rw [Int.toNat_natCast, e]
   show (w.length : Int) ≤ left
   omega
theorem pr_loop (s : ByteArray) (hs : s.size ≤ 20000) (g : Nat) (hg : 1 ≤ g ∧ g ≤ 16) (R : List (List Int)) (J : Nat) (hJ : ¬ skipP (bytesI s) (J + 1) < (bytesI s).length) : ∀ (m : Nat) (left : Nat) (rs : List (List Int)) (i : Nat), left ≤ 4000 → i < s.size → ((bytesI s).getD i 0 = 44 → relsP g (bytesI s) m left rs (i + 1) = some (R, J)) → ((bytesI s).getD i 0 ≠ 44 → rs = R ∧ i = J) →
 AtLoop sPp (Says1 (okP g R) []) pPr (frPp s) (.ofList [obZ, obF, ⟨62, [.c (.str s), .c (.int .i64 i), .c (.int .i64 g), .c (.sl 3 0 rs.length 1), .c (.int .i64 left)]⟩, obLL rs])
 | m, left, rs, i, hl, hi, hc, hn => by
   refine atLoop_at gPp_ok (by kernel_rfl) 100 ?_
   refine of_eq (q := let q1 := (IntKind.i64.wrap ((i:Int) + (1:Int))); let q2 := (gv (relP (g:Int) (bytesI s) q1.toNat)); let q3 := decide ((↑(skipP (bytesI s) q1.toNat) : Int) < (s.size:Int)); ((0:Int) ≤ (i:Int) ∧ (i:Int) < (s.size:Int)) ∧ (decide (bAt s i = (44:Int)) = true → (rs.length = rs.length ∧ relOk s (g:Int) (left:Int) q1 rs) ∧ AtLoop sPp (Says1 (okP (g:Int) R) []) [0, 1, 0, 1, 0, 1, 1, 1, 1, 1, 1, 1] (fr [(0, A.p (V.c (W.str s))), (2, A.p (V.c (W.ptr 0 0))), (3, A.p (V.c (W.ptr 1 0))), (4, A.p (V.c (W.ptr 2 0)))]) (Sto.ofList [Ob.mk 28 [Fd.c (W.int .i64 (0)), Fd.c W.nil], Ob.mk 33 [Fd.c (W.int .i64 (0)), Fd.c (W.int .i64 (0))], Ob.mk 62 [Fd.c (W.str s), Fd.c (W.int .i64 (↑q2.snd : Int)), Fd.c (W.int .i64 (g:Int)), Fd.c (W.sl 3 0 (rs.length + (1:Nat)) 1), Fd.c (W.int .i64 ((left:Int) - (↑q2.fst.length : Int)))], Ob.mk 40 [Fd.a 0 (D.int .i64).sl (rs ++ [q2.fst])]])) ∧ (decide (bAt s i = (44:Int)) = false → rs.length = rs.length ∧ At s q1 ∧ (q3 = true → False) ∧ (q3 = false → (0:Nat) + rs.length ≤ rs.length ∧ packV [V.agg [W.int .i64 (g:Int), W.rd (D.int .i64).sl (List.take rs.length (List.drop (0:Nat) rs))], V.agg [W.int .i64 (0), W.int .i64 (0)]] = okP (g:Int) R ∧ ([] : List Ob) = []))) (by kernel_rfl) ?_
   try simp only [true_and, and_true, Nat.zero_add, decide_eq_true_eq, decide_eq_false_iff_not, Int.not_lt, List.drop_zero, List.take_length, Nat.le_refl]
   rw [wrap64 (n := (i : Int) + 1) (by omega) (by omega), bAt_get, show ((i : Int) + 1).toNat = i + 1 by omega]
   rw [bytesI_length] at hJ
   refine ⟨by omega, fun h => ?_, fun h => ?_⟩
   · have hr := hc h
     cases m with
     | zero => cases hr
     | succ m =>
       obtain ⟨w, j, e1, e2, e3, e4, e5⟩ := rels_step hr
       have hj := (rel_parts e1).2.1
       rw [bytesI_length] at hj
       rw [e1]
       dsimp only [Option.getD_some, gv]
       rw [show (left : Int) - (w.length : Int) = ((left - w.length : Nat) : Int) by omega]
       refine ⟨rel_ok hs hg hl (i := i + 1) (by omega) e2 e1 e3, ?_⟩
       have := pr_loop s hs g hg R J (by rw [bytesI_length]; exact hJ) m (left - w.length) (rs ++ [w]) j (by omega) hj e4 e5
       rw [List.length_append] at this
       exact this
   · obtain ⟨rfl, rfl⟩ := hn h
     exact ⟨⟨by omega, by omega, by omega⟩, fun h => by omega, fun _ => rfl⟩
theorem take_yes {l : List Int} {c : Int} {i : Nat} (h : seesP l c i = true) : takeP l c i = skipP l i + 1 := by unfold takeP; rw [if_pos h]
theorem lets_range {l : List Int} {G I : Nat} : ∀ (m g i : Nat), g ≤ 15 → letsP l m g i = some (G, I) → 1 ≤ G ∧ G ≤ 16
 | 0, _, _, _, e => by cases e
 | m + 1, g, i, hg, e => by
   rw [letsP] at e
   split at e
   · split at e
     · cases e; omega
     · split at e
       · exact lets_range m (g + 1) _ (by omega) e
       · cases e; omega
   · cases e
def RestP (l : List Int) (G I : Nat) (R : List (List Int)) : Prop := seesP l 124 I = true ∧ (seesP l 62 (takeP l 124 I) = true → R = [] ∧ ¬ skipP l (takeP l 62 (takeP l 124 I)) < l.length) ∧
 (seesP l 62 (takeP l 124 I) = false → ∃ J, relsP G l (l.length + 1) 4000 [] (skipP l (takeP l 124 I)) = some (R, J) ∧ ¬ skipP l (J + 1) < l.length)
theorem pr_parts {l : List Int} {G : Nat} {R : List (List Int)} (h : prP l = some (G, R)) : seesP l 60 0 = true ∧ ∃ I, letsP l 17 0 (takeP l 60 0) = some (G, I) ∧ RestP l G I R := by
 unfold prP at h
 split at h
 · rename_i h60
   refine ⟨h60, ?_⟩
   split at h
   · rename_i g i hl
     split at h
     · rename_i h124
       split at h
       · rename_i h62
         split at h
         · cases h
         · rename_i hs
           cases h
           exact ⟨i, hl, h124, fun _ => ⟨rfl, hs⟩, fun h => by rw [h62] at h; cases h⟩
       · rename_i h62
         split at h
         · rename_i rs j hr
           split at h
           · cases h
           · rename_i hs
             cases h
             exact ⟨i, hl, h124, fun h => absurd h h62, fun _ => ⟨j, hr, hs⟩⟩
         · cases h
     · cases h
   · cases h
 · cases h
theorem take_nat (c : Int) {s : ByteArray} (hs : s.size ≤ 20000) {i : Nat} (h : i ≤ s.size) : takeP (bytesI s) c i ≤ s.size ∧ skipP (bytesI s) i ≤ s.size := by
 have h1 := take_at c (s := s) (i := i) ⟨by omega, by omega, by omega⟩
 have h2 := (skip_at (s := s) (i := i) ⟨by omega, by omega, by omega⟩).1
 rw [Int.toNat_natCast] at h1 h2
 have := h1.2.2
 have := h2.2.2
 omega
theorem pl_rest (s : ByteArray) (hs : s.size ≤ 20000) (G : Nat) (hG : 1 ≤ G ∧ G ≤ 16) (R : List (List Int)) (I : Nat) (hI : I ≤ s.size) (hR : RestP (bytesI s) G I R) :
 (At s I ∧ seesP (bytesI s) 124 I = true) ∧ At s (takeP (bytesI s) 124 I) ∧
 (seesP (bytesI s) 62 (takeP (bytesI s) 124 I) = false → relOk s G 4000 (skipP (bytesI s) (takeP (bytesI s) 124 I)) [] ∧
  AtLoop sPp (Says1 (okP G R) []) pPr (frPp s) (.ofList [obZ, obF, ⟨62, [.c (.str s), .c (.int .i64 (gv (relP G (bytesI s) (skipP (bytesI s) (takeP (bytesI s) 124 I)))).2), .c (.int .i64 G), .c (.sl 3 0 1 1), .c (.int .i64 (4000 - ((gv (relP G (bytesI s) (skipP (bytesI s) (takeP (bytesI s) 124 I)))).1.length : Int)))]⟩, obLL [(gv (relP G (bytesI s) (skipP (bytesI s) (takeP (bytesI s) 124 I)))).1]])) ∧
 (seesP (bytesI s) 62 (takeP (bytesI s) 124 I) = true → At s (IntKind.i64.wrap ((skipP (bytesI s) (takeP (bytesI s) 124 I) : Int) + 1)) ∧
  ((skipP (bytesI s) (IntKind.i64.wrap ((skipP (bytesI s) (takeP (bytesI s) 124 I) : Int) + 1)).toNat : Int) < s.size → False) ∧
  ((s.size : Int) ≤ skipP (bytesI s) (IntKind.i64.wrap ((skipP (bytesI s) (takeP (bytesI s) 124 I) : Int) + 1)).toNat → packV [V.agg [W.int .i64 G, W.rd (D.int .i64).sl []], V.agg [W.int .i64 0, W.int .i64 0]] = okP G R)) := by
 obtain ⟨r1, r2, r3⟩ := hR
 have h1 := (take_nat 124 hs hI).1
 have h2 := (take_nat 62 hs h1).2
 refine ⟨⟨⟨by omega, by omega, by omega⟩, r1⟩, ⟨by omega, by omega, by omega⟩, fun h => ?_, fun h => ?_⟩
 · obtain ⟨J, e, hJ⟩ := r3 h
   obtain ⟨w, j, e1, e2, e3, e4, e5⟩ := rels_step e
   have hj := (rel_parts e1).2.1
   rw [bytesI_length] at hj
   rw [e1]
   dsimp only [Option.getD_some, gv]
   rw [show (4000 : Int) - (w.length : Int) = ((4000 - w.length : Nat) : Int) by omega]
   exact ⟨rel_ok hs hG (left := 4000) (by omega) h2 e2 e1 e3, pr_loop s hs G hG R J hJ _ (4000 - w.length) [w] j (by omega) hj e4 e5⟩
 · obtain ⟨rfl, e⟩ := r2 h
   have h5 := (seesP_lt h).1
   rw [take_yes h, bytesI_length] at e
   rw [bytesI_length] at h5
   rw [wrap64 (by omega) (by omega), show (((skipP (bytesI s) (takeP (bytesI s) 124 I) : Nat) : Int) + 1).toNat = skipP (bytesI s) (takeP (bytesI s) 124 I) + 1 by omega]
   exact ⟨⟨by omega, by omega, by omega⟩, fun h => by omega, fun _ => rfl⟩
theorem pl_loop (s : ByteArray) (hs : s.size ≤ 20000) (G : Nat) (hG : 1 ≤ G ∧ G ≤ 16) (R : List (List Int)) (I : Nat) (hR : RestP (bytesI s) G I R) : ∀ (m : Nat) (g : Nat) (i : Nat), g + m = 17 → i ≤ s.size → letsP (bytesI s) m g i = some (G, I) →
 AtLoop sPp (Says1 (okP G R) []) pPl (frPp s) (.ofList [obZ, obF, ⟨62, [.c (.str s), .c (.int .i64 i), .c (.int .i64 g), .c .nil, .c (.int .i64 4000)]⟩])
 | 0, g, i, _, _, e => by cases e
 | m + 1, g, i, hm, hi, e => by
   refine atLoop_at gPp_ok (by kernel_rfl) 100 ?_
   refine of_eq (q := let q0 := IntKind.i64.wrap; let q2 := (q0 ((g:Int) + (1:Int))); let q5 := (fr [(0, A.p (V.c (W.str s))), (2, A.p (V.c (W.ptr 0 0))), (3, A.p (V.c (W.ptr 1 0))), (4, A.p (V.c (W.ptr 2 0)))]); let q6 := (bytesI s); let q7 := (W.int .i64 (0)); let q8 := decide (q0 ((g:Int) + (1:Int)) = (16:Int)); let q1 := (takeP q6 (IntKind.u8.wrap (q0 ((97:Int) + (g:Int)))) i); let q3 := (takeP q6 (124:Int) (skipP q6 q1)); let q4 := (skipP q6 (takeP q6 (124:Int) q1)); let q9 := decide ((↑(skipP q6 (q0 ((↑(skipP q6 q3) : Int) + (1:Int))).toNat) : Int) < (s.size:Int)); let q10 := decide ((↑(skipP q6 (q0 ((↑q4 : Int) + (1:Int))).toNat) : Int) < (s.size:Int)); let q11 := (gv (relP q2 q6 (skipP q6 q3))); (At s (i:Int) ∧ seesP q6 (IntKind.u8.wrap (q0 ((97:Int) + (g:Int)))) i = true) ∧ (q8 = false → q8 = false ∧ At s (↑q1 : Int) ∧ ((!seesP q6 (44:Int) q1) = true → (At s (↑(skipP q6 q1) : Int) ∧ seesP q6 (124:Int) (skipP q6 q1) = true) ∧ At s (↑q3 : Int) ∧ ((!seesP q6 (62:Int) q3) = true → relOk s q2 (4000:Int) (↑(skipP q6 q3) : Int) [] ∧ AtLoop sPp (Says1 (okP (G:Int) R) []) [0, 1, 0, 1, 0, 1, 1, 1, 1, 1, 1, 1] q5 (Sto.ofList [Ob.mk 28 [Fd.c q7, Fd.c W.nil], Ob.mk 33 [Fd.c q7, Fd.c q7], Ob.mk 62 [Fd.c (W.str s), Fd.c (W.int .i64 (↑q11.snd : Int)), Fd.c (W.int .i64 q2), Fd.c (W.sl 3 0 1 1), Fd.c (W.int .i64 ((4000:Int) - (↑q11.fst.length : Int)))], Ob.mk 40 [Fd.a 0 (D.int .i64).sl [q11.fst]]])) ∧ ((!seesP q6 (62:Int) q3) = false → At s (q0 ((↑(skipP q6 q3) : Int) + (1:Int))) ∧ (q9 = true → False) ∧ (q9 = false → packV [V.agg [W.int .i64 q2, W.rd (D.int .i64).sl []], V.agg [W.int .i64 (0), W.int .i64 (0)]] = okP (G:Int) R ∧ ([] : List Ob) = []))) ∧ ((!seesP q6 (44:Int) q1) = false → AtLoop sPp (Says1 (okP (G:Int) R) []) [0, 0, 1, 1, 1, 1, 1] q5 (Sto.ofList [Ob.mk 28 [Fd.c q7, Fd.c W.nil], Ob.mk 33 [Fd.c q7, Fd.c q7], Ob.mk 62 [Fd.c (W.str s), Fd.c (W.int .i64 (q0 ((↑(skipP q6 q1) : Int) + (1:Int)))), Fd.c (W.int .i64 q2), Fd.c W.nil, Fd.c (W.int .i64 (4000))]]))) ∧ (q8 = !false → (At s (↑q1 : Int) ∧ seesP q6 (124:Int) q1 = true) ∧ At s (↑(takeP q6 (124:Int) q1) : Int) ∧ ((!seesP q6 (62:Int) (takeP q6 (124:Int) q1)) = true → relOk s q2 (4000:Int) (↑q4 : Int) [] ∧ AtLoop sPp (Says1 (okP (G:Int) R) []) [0, 1, 0, 1, 0, 1, 1, 1, 1, 1, 1, 1] q5 (Sto.ofList [Ob.mk 28 [Fd.c q7, Fd.c W.nil], Ob.mk 33 [Fd.c q7, Fd.c q7], Ob.mk 62 [Fd.c (W.str s), Fd.c (W.int .i64 (↑(gv (relP q2 q6 q4)).snd : Int)), Fd.c (W.int .i64 q2), Fd.c (W.sl 3 0 1 1), Fd.c (W.int .i64 ((4000:Int) - (↑(gv (relP q2 q6 q4)).fst.length : Int)))], Ob.mk 40 [Fd.a 0 (D.int .i64).sl [(gv (relP q2 q6 q4)).fst]]])) ∧ ((!seesP q6 (62:Int) (takeP q6 (124:Int) q1)) = false → At s (q0 ((↑q4 : Int) + (1:Int))) ∧ (q10 = true → False) ∧ (q10 = false → packV [V.agg [W.int .i64 q2, W.rd (D.int .i64).sl []], V.agg [W.int .i64 (0), W.int .i64 (0)]] = okP (G:Int) R ∧ ([] : List Ob) = [])))) (by kernel_rfl) ?_
   try simp only [and_true, Bool.not_eq_true', Bool.not_eq_false', decide_eq_true_eq, decide_eq_false_iff_not, Int.not_lt]
   have hc : IntKind.u8.wrap (IntKind.i64.wrap (97 + (g : Int))) = 97 + (g : Int) := by rw [wrap64 (by omega) (by omega), wrap8 (by omega) (by omega)]
   have hw : IntKind.i64.wrap ((g : Int) + 1) = ((g + 1 : Nat) : Int) := by rw [wrap64 (by omega) (by omega)]; omega
   have h1 := take_nat (97 + (g : Int)) hs hi
   have h2 := (take_nat 0 hs h1.1).2
   rw [letsP] at e
   by_cases hsee : seesP (bytesI s) (97 + (g : Int)) i = true
   · rw [if_pos hsee] at e
     simp only [hc, hw]
     refine ⟨⟨⟨by omega, by omega, by omega⟩, hsee⟩, fun h16 => ⟨h16, ⟨by omega, by omega, by omega⟩, fun h44 => ?_, fun h44 => ?_⟩, fun h16 => ?_⟩
     · rw [if_neg (by omega), if_neg (by rw [h44]; simp)] at e
       cases e
       exact pl_rest s hs (g + 1) hG R _ h2 hR
     · rw [if_neg (by omega), if_pos h44] at e
       have h5 := (seesP_lt h44).1
       rw [bytesI_length] at h5
       rw [take_yes h44] at e
       rw [wrap64 (n := ((skipP (bytesI s) (takeP (bytesI s) (97 + (g : Int)) i) : Nat) : Int) + 1) (by omega) (by omega)]
       exact pl_loop s hs G hG R I hR m (g + 1) (skipP (bytesI s) (takeP (bytesI s) (97 + (g : Int)) i) + 1) (by omega) (by omega) e
     · have h16 : g + 1 = 16 := by simp at h16; omega
       rw [if_pos h16] at e
       cases e
       rw [h16]
       exact pl_rest s hs 16 hG R _ h1.1 hR
   · rw [if_neg hsee] at e; cases e
theorem pparse_sem (s : ByteArray) (g : Nat) (rs : List (List Int)) (hs : s.size ≤ 20000) (e : prP (bytesI s) = some (g, rs)) : FnSem Tryz.prog 8 [stT s] [] (okP g rs) [] := by
 refine fnSemD_at (live := livePp) (fzl := []) (fz := [some dL, none]) dfPp gPp_ok Tryz.func8 (by kernel_rfl) (keep := 0) rfl (by kernel_rfl) 100 ?_
 refine of_eq (q := let q1 := (W.int .i64 (0)); (decide ((20000:Int) < (s.size:Int)) = true → packV [V.agg [W.int .i64 (0), W.rd (D.int .i64).sl []], V.agg [W.int .i64 (4), W.int .i64 (20000)]] = okP (g:Int) rs ∧ ([] : List Ob) = []) ∧ (decide ((20000:Int) < (s.size:Int)) = false → (At s (0:Int) ∧ seesP (bytesI s) (60:Int) (0:Nat) = true) ∧ AtLoop (mkSiteD Tryz.prog gPp Tryz.f8 (0:Nat) livePp [] [some dL, none] dfPp) (Says1 (okP (g:Int) rs) []) [0, 0, 1, 1, 1, 1, 1] (fr [(0, A.p (V.c (W.str s))), (2, A.p (V.c (W.ptr 0 0))), (3, A.p (V.c (W.ptr 1 0))), (4, A.p (V.c (W.ptr 2 0)))]) (Sto.ofList [Ob.mk 28 [Fd.c q1, Fd.c W.nil], Ob.mk 33 [Fd.c q1, Fd.c q1], Ob.mk 62 [Fd.c (W.str s), Fd.c (W.int .i64 (↑(takeP (bytesI s) (60:Int) (0:Nat)) : Int)), Fd.c q1, Fd.c W.nil, Fd.c (W.int .i64 (4000))]]))) (by kernel_rfl) ?_
 try simp only [and_true, decide_eq_true_eq, decide_eq_false_iff_not, Int.not_lt]
 obtain ⟨h60, I, hl, hR⟩ := pr_parts e
 refine ⟨fun h => by omega, fun _ => ⟨⟨⟨by omega, by omega, by omega⟩, h60⟩, ?_⟩⟩
 exact pl_loop s hs g (lets_range 17 0 _ (by omega) hl) rs I hR 17 0 _ (by omega) (take_nat 60 hs (Nat.zero_le _)).1 hl
end Go.Proofs.YtlcpgjjfjgbocaaGreatDoor

namespace Go.Proofs.YtlcpgjjfjgbocaaGreatDoor
open Go.Loom Go.Words
set_option maxRecDepth 100000
/-! ### A number from 0 on -/
def turnI (x n : Int) : Int := Int.tmod (Int.tmod x n + n) n
theorem turn_sem (x n : Int) (h1 : 1 ≤ n) (h2 : n ≤ 1000) : FnSem Tryz.prog 5 [nI x, nI n] [] (nI (turnI x n)) [] := by
 refine fnSem_at (live := []) gamOk_nil Tryz.func5 (by kernel_rfl) (keep := 0) rfl (by kernel_rfl) 100 ?_
 refine of_eq (q := n ≠ (0:Int) ∧ n ≠ (0:Int) ∧ packV [V.c (W.int .i64 ((IntKind.i64.wrap (x.tmod n + n)).tmod n))] = nI (turnI x n) ∧ ([] : List Ob) = []) (by kernel_rfl) ?_
 try simp only [and_true, ne_eq]
 have h3 := Int.lt_tmod_of_pos x (show 0 < n by omega)
 have h4 := Int.tmod_lt_of_pos x (show 0 < n by omega)
 rw [wrap64 (n := x.tmod n + n) (by omega) (by omega)]
 exact ⟨by omega, by omega, rfl⟩
def cTurn : Con := con2 (.int .i64) (.int .i64) fun x n => (.p (1 ≤ (show Int from n) ∧ (show Int from n) ≤ 1000), nI (turnI x n), [])
theorem cTurn_ok : ConOk Tryz.prog 5 cTurn := con2_ok (by kernel_rfl) fun x n h => turn_sem x n h.1 h.2
theorem turn_range (x n : Int) (h : 1 ≤ n) : 0 ≤ turnI x n ∧ turnI x n < n := by
 unfold turnI
 have h1 := Int.lt_tmod_of_pos x (show 0 < n by omega)
 exact ⟨Int.tmod_nonneg _ (by omega), Int.tmod_lt_of_pos _ (by omega)⟩
/-! ### Letters and words -/
def ltrI (c : Int) : Int := if Int.tmod c 2 = 0 then Int.tdiv c 2 + 1 else 0 - (Int.tdiv c 2 + 1)
theorem letter_sem (c : Int) (h : 0 ≤ c ∧ c ≤ 1000) : FnSem Tryz.prog 46 [nI c] [] (nI (ltrI c)) [] := by
 refine fnSem_at (live := []) gamOk_nil Tryz.func46 (by kernel_rfl) (keep := 0) rfl (by kernel_rfl) 100 ?_
 refine of_eq (q := let q0 := IntKind.i64.wrap; (2:Int) ≠ (0:Int) ∧ (decide (c.tmod (2:Int) = (0:Int)) = true → (2:Int) ≠ (0:Int) ∧ packV [V.c (W.int .i64 (q0 (q0 (c.tdiv (2:Int)) + (1:Int))))] = nI (ltrI c) ∧ ([] : List Ob) = []) ∧ (decide (c.tmod (2:Int) = (0:Int)) = false → (2:Int) ≠ (0:Int) ∧ packV [V.c (W.int .i64 (q0 ((0:Int) - q0 (q0 (c.tdiv (2:Int)) + (1:Int)))))] = nI (ltrI c) ∧ ([] : List Ob) = [])) (by kernel_rfl) ?_
 try simp only [true_and, and_true, decide_eq_true_eq, decide_eq_false_iff_not, ne_eq, Int.reduceEq, not_false_eq_true]
 have e : c.tdiv 2 = c / 2 := Int.tdiv_eq_ediv_of_nonneg (by omega)
 rw [wrap64 (n := c.tdiv 2) (by omega) (by omega), wrap64 (n := c.tdiv 2 + 1) (by omega) (by omega), wrap64 (n := 0 - (c.tdiv 2 + 1)) (by omega) (by omega)]
 refine ⟨fun h1 => ?_, fun h1 => ?_⟩
 · rw [ltrI, if_pos h1]; rfl
 · rw [ltrI, if_neg h1]; rfl
def cLetter : Con := con1 (.int .i64) fun c => (.p (0 ≤ (show Int from c) ∧ (show Int from c) ≤ 1000), nI (ltrI c), [])
theorem cLetter_ok : ConOk Tryz.prog 46 cLetter := con1_ok (by kernel_rfl) fun c h => letter_sem c h
def wordO (g : Int) (l : List Int) : List Int := l.map fun x => ltrI (turnI x (2 * g))
noncomputable def gWof : Gam := [(5, cTurn), (46, cLetter)]
theorem gWof_ok : GamOk Tryz.prog gWof := gamOk_cons cTurn_ok (gamOk_cons cLetter_ok gamOk_nil)
noncomputable def sWof : Site := mkSiteF Tryz.prog gWof Tryz.f21 0 [([0, 1, 0, 1, 1], [0, 1, 5, 6])] [] [some dI]
theorem wo_loop (g : Int) (l : List Int) (hg : 1 ≤ g ∧ g ≤ 16) (hl : l.length ≤ 1000) : ∀ (n i : Nat), n = l.length - i → i ≤ l.length →
 AtLoop sWof (Says1 (lsI (wordO g l)) []) [0, 1, 0, 1, 1] (fr [(0, lsI l), (1, nI g), (5, slI 0 i), (6, nI i)]) (.ofList [obI (wordO g (l.take i))])
 | n, i, hn, hi => by
   refine atLoop_at gWof_ok (by kernel_rfl) 100 ?_
   refine of_eq (q := let q0 := IntKind.i64.wrap; let q1 := (wordO g (List.take i l)); let q2 := (q0 ((2:Int) * g)); (decide ((i:Int) < (l.length:Int)) = true → ((0:Int) ≤ (i:Int) ∧ (i:Int) < (l.length:Int)) ∧ i < l.length ∧ ((1:Int) ≤ q0 ((2:Int) * g) ∧ q0 ((2:Int) * g) ≤ (1000:Int)) ∧ ((0:Int) ≤ turnI (l.getD i (0:Int)) q2 ∧ turnI (l.getD i (0:Int)) q2 ≤ (1000:Int)) ∧ (0:Nat) + (1:Nat) ≤ (1:Nat) ∧ ((0:Nat) + i ≤ q1.length ∧ (i + (1:Nat)) * (8:Nat) ≤ (140737488355328:Nat)) ∧ AtLoop sWof (Says1 (lsI (wordO g l)) []) [0, 1, 0, 1, 1] (fr [(0, lsI l), (1, nI g), (5, A.p (V.c (W.sl 0 0 (i + (1:Nat)) 1))), (6, nI (q0 ((i:Int) + (1:Int))))]) (Sto.ofList [Ob.mk 3 [Fd.a 0 (D.int .i64) (List.take i (List.drop (0:Nat) q1) ++ List.take (1:Nat) (List.drop (0:Nat) [ltrI (turnI (l.getD i (0:Int)) q2)]))]])) ∧ (decide ((i:Int) < (l.length:Int)) = false → (0:Nat) + i ≤ q1.length ∧ packV [V.c (W.rd (D.int .i64) (List.take i (List.drop (0:Nat) q1)))] = lsI (wordO g l) ∧ ([] : List Ob) = [])) (by kernel_rfl) ?_
   try simp only [true_and, and_true, Nat.zero_add, decide_eq_true_eq, decide_eq_false_iff_not, Int.not_lt, List.drop_zero, List.take_succ_cons, List.take_zero, Nat.le_refl]
   have hlw : (wordO g (l.take i)).length = i := by simp [wordO]; omega
   have t := turn_range (l.getD i 0) (2 * g) (by omega)
   rw [wrap64 (n := 2 * g) (by omega) (by omega), wrap64 (n := (i : Int) + 1) (by omega) (by omega), List.take_of_length_le (show (wordO g (l.take i)).length ≤ i by omega)]
   refine ⟨fun h => ⟨by omega, by omega, by omega, by omega, ⟨by omega, by omega⟩, ?_⟩, fun h => ⟨by omega, ?_⟩⟩
   · have hi' : i < l.length := by omega
     have e : wordO g (l.take i) ++ [ltrI (turnI (l.getD i 0) (2 * g))] = wordO g (l.take (i + 1)) := by
      rw [take_snoc hi', wordO, wordO, List.map_append]; rfl
     rw [e]
     cases n with
     | zero => omega
     | succ n => exact wo_loop g l hg hl n (i + 1) (by omega) (by omega)
   · rw [List.take_of_length_le (show l.length ≤ i by omega)]; rfl
theorem wo_sem (g : Int) (l : List Int) (hg : 1 ≤ g ∧ g ≤ 16) (hl : l.length ≤ 1000) : FnSem Tryz.prog 21 [lsI l, nI g] [] (lsI (wordO g l)) [] := by
 refine fnSemF_at (live := [([0, 1, 0, 1, 1], [0, 1, 5, 6])]) (fzl := []) (fz := [some dI]) gWof_ok Tryz.func21 (by kernel_rfl) (keep := 0) rfl (by kernel_rfl) 100 ?_
 refine of_eq (q := AtLoop (mkSiteF Tryz.prog gWof Tryz.f21 (0:Nat) [([0, 1, 0, 1, 1], [0, 1, 5, 6])] [] [some dI]) (Says1 (lsI (wordO g l)) []) [0, 1, 0, 1, 1] (fr [(0, lsI l), (1, nI g), (5, A.p (V.c (W.sl 0 0 0 1))), (6, nI (0))]) (Sto.ofList [Ob.mk 3 [Fd.a 0 (D.int .i64) []]])) (by kernel_rfl) ?_
 exact wo_loop g l hg hl l.length 0 rfl (by omega)
def cWof : Con := con2 dI (.int .i64) fun l g => (.p ((1 ≤ (show Int from g) ∧ (show Int from g) ≤ 16) ∧ List.length (α := Int) l ≤ 1000), lsI (wordO g l), [])
theorem cWof_ok : ConOk Tryz.prog 21 cWof := con2_ok (by kernel_rfl) fun l g h => wo_sem g l h.1 h.2
/-! ### Several words -/
def wordsG (g most : Int) : Nat → List Int → List (List Int) → List (List Int)
 | 0, _, acc => acc
 | f + 1, l, acc => match l with
   | [] => acc
   | x :: l => wordsG g most f (l.drop (min (turnI x (most + 1)) l.length).toNat) (acc ++ [wordO g (l.take (min (turnI x (most + 1)) l.length).toNat)])
theorem wordsG_nil (g most : Int) (n : Nat) (acc : List (List Int)) : wordsG g most n [] acc = acc := by cases n <;> rfl
noncomputable def gWsf : Gam := [(5, cTurn), (21, cWof)]
theorem gWsf_ok : GamOk Tryz.prog gWsf := gamOk_cons cTurn_ok (gamOk_cons cWof_ok gamOk_nil)
noncomputable def sWsf : Site := mkSiteF Tryz.prog gWsf Tryz.f6 0 [([0, 0, 1, 1], [0, 1, 2, 7])] [] [some dL]
theorem ws_loop (g most : Int) (hg : 1 ≤ g ∧ g ≤ 16) (hm : 0 ≤ most ∧ most ≤ 100) (R : List (List Int)) : ∀ (n : Nat) (l : List Int) (acc : List (List Int)), l.length ≤ n → n + acc.length ≤ 1000 → R = wordsG g most n l acc →
 AtLoop sWsf (Says1 (llI R) []) [0, 0, 1, 1] (fr [(0, lsI l), (1, nI g), (2, nI most), (7, slI 0 acc.length)]) (.ofList [obLL acc])
 | n, l, acc, hl, hn, hr => by
   refine atLoop_at gWsf_ok (by kernel_rfl) 100 ?_
   refine of_eq (q := let q0 := IntKind.i64.wrap; let q2 := (l.length:Int); let q1 := ((1:Int) + min (turnI (l.getD (0:Nat) (0:Int)) (q0 (most + (1:Int)))) (q0 (q2 - (1:Int)))); let q3 := (List.drop (1:Nat) (List.take (q0 q1).toNat l)); (decide ((0:Int) < q2) = true → ((0:Int) ≤ (0:Int) ∧ (0:Int) < q2) ∧ (0:Nat) < l.length ∧ ((1:Int) ≤ q0 (most + (1:Int)) ∧ q0 (most + (1:Int)) ≤ (1000:Int)) ∧ ((0:Int) ≤ (1:Int) ∧ (1:Int) ≤ q0 q1 ∧ q0 q1 ≤ q2) ∧ (((1:Int) ≤ g ∧ g ≤ (16:Int)) ∧ q3.length ≤ (1000:Nat)) ∧ (0:Nat) + (1:Nat) ≤ (1:Nat) ∧ ((0:Nat) + acc.length ≤ acc.length ∧ (acc.length + (1:Nat)) * (24:Nat) ≤ (140737488355328:Nat)) ∧ ((0:Int) ≤ q0 q1 ∧ q0 q1 ≤ q2 ∧ q2 ≤ q2) ∧ AtLoop sWsf (Says1 (llI R) []) [0, 0, 1, 1] (fr [(0, lsI (List.drop (q0 q1).toNat (List.take l.length l))), (1, nI g), (2, nI most), (7, A.p (V.c (W.sl 0 0 (acc.length + (1:Nat)) 1)))]) (Sto.ofList [Ob.mk 40 [Fd.a 0 (D.int .i64).sl (List.take acc.length (List.drop (0:Nat) acc) ++ List.take (1:Nat) (List.drop (0:Nat) [wordO g q3]))]])) ∧ (decide ((0:Int) < q2) = false → (0:Nat) + acc.length ≤ acc.length ∧ packV [V.c (W.rd (D.int .i64).sl (List.take acc.length (List.drop (0:Nat) acc)))] = llI R ∧ ([] : List Ob) = [])) (by kernel_rfl) ?_
   try simp only [true_and, and_true, Nat.zero_add, decide_eq_true_eq, decide_eq_false_iff_not, Int.not_lt, List.drop_zero, List.take_length, List.take_succ_cons, List.take_zero, Nat.le_refl, Int.le_refl]
   cases l with
   | nil => exact ⟨fun h => by simp at h, fun _ => by rw [hr, wordsG_nil]; rfl⟩
   | cons x l =>
     refine ⟨fun _ => ?_, fun h => by simp at h; omega⟩
     have t := turn_range x (most + 1) (by omega)
     simp only [List.length_cons] at hl ⊢
     have e0 : (x :: l).getD 0 0 = x := rfl
     have e1 : IntKind.i64.wrap (most + 1) = most + 1 := wrap64 (by omega) (by omega)
     have e2 : IntKind.i64.wrap (((l.length + 1 : Nat) : Int) - 1) = (l.length : Int) := by rw [wrap64 (by omega) (by omega)]; omega
     have e3 : IntKind.i64.wrap (1 + min (turnI x (most + 1)) (l.length : Int)) = 1 + min (turnI x (most + 1)) (l.length : Int) := wrap64 (by omega) (by omega)
     simp only [e0, e1, e2, e3]
     cases n with
     | zero => omega
     | succ n =>
       simp only [wordsG] at hr
       have hm1 : 0 ≤ min (turnI x (most + 1)) (l.length : Int) := by omega
       have hm2 : min (turnI x (most + 1)) (l.length : Int) ≤ l.length := by omega
       revert hm1 hm2 hr
       generalize min (turnI x (most + 1)) (l.length : Int) = m
       intro hr hm1 hm2
       have e4 : (1 + m).toNat = m.toNat + 1 := by omega
       rw [e4, List.take_succ_cons, List.drop_succ_cons, List.drop_succ_cons, List.drop_zero]
       refine ⟨by omega, by omega, by omega, by omega, ⟨hg, by simp; omega⟩, by omega, by omega, ?_⟩
       have := ws_loop g most hg hm R n (l.drop m.toNat) (acc ++ [wordO g (l.take m.toNat)]) (by simp; omega) (by simp; omega) hr
       rw [List.length_append] at this
       exact this
theorem ws_sem (g most : Int) (l : List Int) (hg : 1 ≤ g ∧ g ≤ 16) (hm : 0 ≤ most ∧ most ≤ 100) (hl : l.length ≤ 1000) : FnSem Tryz.prog 6 [lsI l, nI g, nI most] [] (llI (wordsG g most l.length l [])) [] := by
 refine fnSemF_at (live := [([0, 0, 1, 1], [0, 1, 2, 7])]) (fzl := []) (fz := [some dL]) gWsf_ok Tryz.func6 (by kernel_rfl) (keep := 0) rfl (by kernel_rfl) 100 ?_
 refine of_eq (q := AtLoop (mkSiteF Tryz.prog gWsf Tryz.f6 (0:Nat) [([0, 0, 1, 1], [0, 1, 2, 7])] [] [some dL]) (Says1 (llI (wordsG g most l.length l [])) []) [0, 0, 1, 1] (fr [(0, lsI l), (1, nI g), (2, nI most), (7, A.p (V.c (W.sl 0 0 0 1)))]) (Sto.ofList [Ob.mk 40 [Fd.a 0 (D.int .i64).sl []]])) (by kernel_rfl) ?_
 exact ws_loop g most hg hm _ l.length l [] (by omega) (by simp; omega) rfl
def cWs : Con := con3 dI (.int .i64) (.int .i64) fun l g m => (.p ((1 ≤ (show Int from g) ∧ (show Int from g) ≤ 16) ∧ (0 ≤ (show Int from m) ∧ (show Int from m) ≤ 100) ∧ List.length (α := Int) l ≤ 1000), llI (wordsG g m (List.length (α := Int) l) l []), [])
theorem cWs_ok : ConOk Tryz.prog 6 cWs := con3_ok (by kernel_rfl) fun l g m h => ws_sem g m l h.1 h.2.1 h.2.2
end Go.Proofs.YtlcpgjjfjgbocaaGreatDoor
