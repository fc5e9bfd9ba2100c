/- Reading presentations: the reader's methods in the program. -/
import Derived.Test.YtlcpgjjfjgbocaaGreatDoorBack1
import Derived.Test.YtlcpgjjfjgbocaaGreatDoorRead2
namespace Go.Proofs.YtlcpgjjfjgbocaaGreatDoor
open Go.Loom Go.Words
set_option maxRecDepth 100000
/-! ### Blanks at the ends of a text -/
def spS : ByteArray := ⟨#[32]⟩
theorem bytesI_extract (s : ByteArray) (i j : Nat) : bytesI (s.extract i j) = ((bytesI s).drop i).take (j - i) := by
 unfold bytesI
 rw [ByteArray.data_extract, Array.toList_extract, List.extract_eq_take_drop, List.map_take, List.map_drop]
theorem extract_all (s : ByteArray) : s.extract 0 s.size = s := ByteArray.extract_zero_size
theorem extract_extract (s : ByteArray) (i j k m : Nat) (h : i + m ≤ j) : (s.extract i j).extract k m = s.extract (i + k) (i + m) := by
 rw [ByteArray.extract_extract, Nat.min_eq_left h]
theorem ext_empty (a b : Nat) : (⟨#[]⟩ : ByteArray).extract a b = ⟨#[]⟩ := by
 apply ByteArray.ext
 simp [ByteArray.data_extract]
theorem bAt_ext (s : ByteArray) {i j k : Nat} (h : i + k < j) : bAt (s.extract i j) k = (bytesI s).getD (i + k) 0 := by
 rw [bAt_get, bytesI_extract, List.getD_eq_getElem?_getD, List.getElem?_take_of_lt (by omega), List.getElem?_drop, ← List.getD_eq_getElem?_getD]
theorem size_ext (s : ByteArray) {i j : Nat} (hj : j ≤ s.size) : (s.extract i j).size = j - i := by rw [ByteArray.size_extract, Nat.min_eq_left hj]
noncomputable def sTl : Site := mkSite Tryz.prog [] Tryz.f77 0 [([0, 0, 1], [0, 1])]
theorem tl_loop (s : ByteArray) (hs : s.size ≤ 1000000) : ∀ (m i : Nat), m = s.size - i → i ≤ s.size →
 AtLoop sTl (Says1 (stT (s.extract (skipP (bytesI s) i) s.size)) []) [0, 0, 1] (fr [(0, stT (s.extract i s.size)), (1, u8A 32)]) (.ofList [])
 | m, i, hm, hi => by
   refine atLoop_at gamOk_nil (by kernel_rfl) 100 ?_
   refine of_eq (q := let q2 := (s.extract i s.size); let q1 := decide ((0:Int) < (↑q2.size : Int)); (q1 = true → q1 = true) ∧ (q1 = true → (0:Int) ≤ (0:Int) ∧ (0:Int) < (↑q2.size : Int)) ∧ (q1 = true → q1 = true) ∧ (q1 = true → q1 = true) ∧ (q1 = true → q1 = true) ∧ ((bif q1 then decide (bAt q2 (0:Nat) = (32:Int)) else false) = true → ((0:Int) ≤ (1:Int) ∧ (1:Int) ≤ (↑q2.size : Int) ∧ (↑q2.size : Int) ≤ (↑q2.size : Int)) ∧ AtLoop sTl (Says1 (stT (s.extract (skipP (bytesI s) i) s.size)) []) [0, 0, 1] (fr [(0, A.p (V.c (W.str (q2.extract (1:Nat) q2.size)))), (1, A.p (V.c (W.int .u8 (32:Int))))]) (Sto.ofList [])) ∧ ((bif q1 then decide (bAt q2 (0:Nat) = (32:Int)) else false) = false → packV [V.c (W.str q2)] = stT (s.extract (skipP (bytesI s) i) s.size) ∧ ([] : List Ob) = [])) (by kernel_rfl) ?_
   try simp only [imp_self, true_and, and_true, Bool.cond_false_right, Bool.and_eq_true, Bool.and_eq_false_imp, decide_eq_true_eq, decide_eq_false_iff_not, Int.le_refl]
   have hl := bytesI_length s
   rw [size_ext s (Nat.le_refl _)]
   refine ⟨fun h => ⟨by omega, ?_⟩, fun h => ?_⟩
   · have hb := h.2
     rw [bAt_ext s (show i + 0 < s.size by omega), Nat.add_zero] at hb
     rw [extract_extract s i s.size 1 (s.size - i) (by omega), show i + (s.size - i) = s.size by omega, skipP_yes ⟨by omega, hb⟩]
     cases m with
     | zero => omega
     | succ m => exact tl_loop s hs m (i + 1) (by omega) (by omega)
   · rw [skipP_no]
     · rfl
     · rintro ⟨h1, h2⟩
       refine h (by omega) ?_
       rw [bAt_ext s (show i + 0 < s.size by omega), Nat.add_zero, h2]
theorem tl_sem (s : ByteArray) (hs : s.size ≤ 1000000) : FnSem Tryz.prog 77 [stT s, u8A 32] [] (stT (s.extract (skipP (bytesI s) 0) s.size)) [] := by
 refine fnSem_at (live := [([0, 0, 1], [0, 1])]) gamOk_nil Tryz.func77 (by kernel_rfl) (keep := 0) rfl (by kernel_rfl) 100 ?_
 refine of_eq (q := AtLoop (mkSite Tryz.prog [] Tryz.f77 (0:Nat) [([0, 0, 1], [0, 1])]) (Says1 (stT (s.extract (skipP (bytesI s) (0:Nat)) s.size)) []) [0, 0, 1] (fr [(0, A.p (V.c (W.str s))), (1, A.p (V.c (W.int .u8 (32:Int))))]) (Sto.ofList [])) (by kernel_rfl) ?_
 have := tl_loop s hs _ 0 rfl (by omega)
 rw [extract_all] at this
 exact this
def cTl : Con := con2 .str (.int .u8) fun s c => (.p ((show Int from c) = 32 ∧ s.size ≤ 1000000), stT (s.extract (skipP (bytesI s) 0) s.size), [])
theorem cTl_ok : ConOk Tryz.prog 77 cTl := con2_ok (by kernel_rfl) fun s c h => by
 obtain ⟨h1, h2⟩ := h
 have h1 : c = (32 : Int) := h1
 subst h1
 exact tl_sem s h2
noncomputable def sTr : Site := mkSite Tryz.prog [] Tryz.f91 0 [([0, 0, 1], [0, 1])]
theorem tr_loop (s : ByteArray) (hs : s.size ≤ 1000000) : ∀ (i : Nat), i ≤ s.size →
 AtLoop sTr (Says1 (stT (s.extract 0 (trimN (bytesI s) i))) []) [0, 0, 1] (fr [(0, stT (s.extract 0 i)), (1, u8A 32)]) (.ofList [])
 | i, hi => by
   refine atLoop_at gamOk_nil (by kernel_rfl) 100 ?_
   refine of_eq (q := let q0 := IntKind.i64.wrap; let q3 := (s.extract (0:Nat) i); let q1 := decide ((0:Int) < (↑q3.size : Int)); let q2 := ((↑q3.size : Int) - (1:Int)); let q4 := decide (bAt q3 (q0 q2).toNat = (32:Int)); (q1 = true → q1 = true) ∧ (q1 = true → q1 = true) ∧ (q1 = true → q1 = true) ∧ (q1 = true → q1 = true) ∧ (q1 = true → (0:Int) ≤ q0 q2 ∧ q0 q2 < (↑q3.size : Int)) ∧ (q1 = true → q1 = true) ∧ (q1 = true → q1 = true) ∧ (q1 = true → q1 = true) ∧ ((bif q1 then q4 else false) = true → ((0:Int) ≤ (0:Int) ∧ (0:Int) ≤ q0 q2 ∧ q0 q2 ≤ (↑q3.size : Int)) ∧ AtLoop sTr (Says1 (stT (s.extract (0:Nat) (trimN (bytesI s) i))) []) [0, 0, 1] (fr [(0, A.p (V.c (W.str (q3.extract (0:Nat) (q0 q2).toNat)))), (1, A.p (V.c (W.int .u8 (32:Int))))]) (Sto.ofList [])) ∧ ((bif q1 then q4 else false) = false → packV [V.c (W.str q3)] = stT (s.extract (0:Nat) (trimN (bytesI s) i)) ∧ ([] : List Ob) = [])) (by kernel_rfl) ?_
   try simp only [imp_self, true_and, and_true, Bool.cond_false_right, Bool.and_eq_true, Bool.and_eq_false_imp, decide_eq_true_eq, decide_eq_false_iff_not, Int.le_refl]
   rw [size_ext s hi, Nat.sub_zero]
   cases i with
   | zero => exact ⟨fun h => by omega, fun h => by omega, fun _ => rfl⟩
   | succ i =>
     rw [wrap64 (n := ((i + 1 : Nat) : Int) - 1) (by omega) (by omega), show (((i + 1 : Nat) : Int) - 1).toNat = i by omega, bAt_ext s (show 0 + i < i + 1 by omega), Nat.zero_add, extract_extract s 0 (i + 1) 0 i (by omega), Nat.zero_add, trimN]
     refine ⟨fun _ => by omega, fun h => ⟨by omega, ?_⟩, fun h => ?_⟩
     · rw [if_pos h.2, Nat.zero_add]
       exact tr_loop s hs i (by omega)
     · rw [if_neg (h (by omega))]; rfl
theorem tr_sem (s : ByteArray) (hs : s.size ≤ 1000000) : FnSem Tryz.prog 91 [stT s, u8A 32] [] (stT (s.extract 0 (trimN (bytesI s) s.size))) [] := by
 refine fnSem_at (live := [([0, 0, 1], [0, 1])]) gamOk_nil Tryz.func91 (by kernel_rfl) (keep := 0) rfl (by kernel_rfl) 100 ?_
 refine of_eq (q := AtLoop (mkSite Tryz.prog [] Tryz.f91 (0:Nat) [([0, 0, 1], [0, 1])]) (Says1 (stT (s.extract (0:Nat) (trimN (bytesI s) s.size))) []) [0, 0, 1] (fr [(0, A.p (V.c (W.str s))), (1, A.p (V.c (W.int .u8 (32:Int))))]) (Sto.ofList [])) (by kernel_rfl) ?_
 have := tr_loop s hs s.size (Nat.le_refl _)
 rw [extract_all] at this
 exact this
def cTr : Con := con2 .str (.int .u8) fun s c => (.p ((show Int from c) = 32 ∧ s.size ≤ 1000000), stT (s.extract 0 (trimN (bytesI s) s.size)), [])
theorem cTr_ok : ConOk Tryz.prog 91 cTr := con2_ok (by kernel_rfl) fun s c h => by
 obtain ⟨h1, h2⟩ := h
 have h1 : c = (32 : Int) := h1
 subst h1
 exact tr_sem s h2
noncomputable def gTl : Gam := [(77, cTl), (91, cTr)]
theorem gTl_ok : GamOk Tryz.prog gTl := gamOk_cons cTl_ok (gamOk_cons cTr_ok gamOk_nil)
theorem trimL_sem (s : ByteArray) (hs : s.size ≤ 1000000) : FnSem Tryz.prog 55 [stT s, stT spS] [] (stT (s.extract (skipP (bytesI s) 0) s.size)) [] := by
 refine fnSem_at (live := []) gTl_ok Tryz.func55 (by kernel_rfl) (keep := 0) rfl (by kernel_rfl) 100 ?_
 refine of_eq (q := let q1 := decide ((↑(1:Nat) : Int) = (1:Int)); let q2 := decide (s = ByteArray.mk #[]); let q3 := (s.extract (skipP (bytesI s) (0:Nat)) s.size); (q2 = false → q2 = false) ∧ (q2 = false → q2 = false) ∧ ((bif q2 then true else decide (spS = ByteArray.mk #[])) = true → packV [V.c (W.str s)] = stT q3 ∧ ([] : List Ob) = []) ∧ ((bif q2 then true else decide (spS = ByteArray.mk #[])) = false → (q1 = true → q1 = true) ∧ (q1 = true → (0:Int) ≤ (0:Int) ∧ (0:Int) < (↑(1:Nat) : Int)) ∧ (q1 = true → q1 = true) ∧ (q1 = true → q1 = true) ∧ ((bif q1 then decide (bAt spS (0:Nat) < (128:Int)) else false) = true → ((0:Int) ≤ (0:Int) ∧ (0:Int) < (↑(1:Nat) : Int)) ∧ (bAt spS (0:Nat) = (32:Int) ∧ s.size ≤ (1000000:Nat)) ∧ packV [V.c (W.str q3)] = stT q3 ∧ ([] : List Ob) = []) ∧ ((bif q1 then decide (bAt spS (0:Nat) < (128:Int)) else false) = false → False))) (by kernel_rfl) ?_
 try simp only [imp_self, true_and, and_true, Bool.cond_true_left, Bool.cond_false_right, Bool.or_eq_true, Bool.or_eq_false_iff, Bool.and_eq_true, Bool.and_eq_false_imp, decide_eq_true_eq, decide_eq_false_iff_not, Int.not_lt, Int.le_refl]
 refine ⟨fun h => ?_, fun h => ⟨fun _ => by omega, fun _ => ⟨by omega, ⟨rfl, hs⟩, rfl⟩, fun h2 => by have := h2 rfl; revert this; decide⟩⟩
 rcases h with rfl | h
 · rw [ext_empty]; rfl
 · exact absurd h (by decide)
theorem trimR_sem (s : ByteArray) (hs : s.size ≤ 1000000) : FnSem Tryz.prog 75 [stT s, stT spS] [] (stT (s.extract 0 (trimN (bytesI s) s.size))) [] := by
 refine fnSem_at (live := []) gTl_ok Tryz.func75 (by kernel_rfl) (keep := 0) rfl (by kernel_rfl) 100 ?_
 refine of_eq (q := let q1 := decide ((↑(1:Nat) : Int) = (1:Int)); let q2 := decide (s = ByteArray.mk #[]); let q3 := (s.extract (0:Nat) (trimN (bytesI s) s.size)); (q2 = false → q2 = false) ∧ (q2 = false → q2 = false) ∧ ((bif q2 then true else decide (spS = ByteArray.mk #[])) = true → packV [V.c (W.str s)] = stT q3 ∧ ([] : List Ob) = []) ∧ ((bif q2 then true else decide (spS = ByteArray.mk #[])) = false → (q1 = true → q1 = true) ∧ (q1 = true → (0:Int) ≤ (0:Int) ∧ (0:Int) < (↑(1:Nat) : Int)) ∧ (q1 = true → q1 = true) ∧ (q1 = true → q1 = true) ∧ ((bif q1 then decide (bAt spS (0:Nat) < (128:Int)) else false) = true → ((0:Int) ≤ (0:Int) ∧ (0:Int) < (↑(1:Nat) : Int)) ∧ (bAt spS (0:Nat) = (32:Int) ∧ s.size ≤ (1000000:Nat)) ∧ packV [V.c (W.str q3)] = stT q3 ∧ ([] : List Ob) = []) ∧ ((bif q1 then decide (bAt spS (0:Nat) < (128:Int)) else false) = false → False))) (by kernel_rfl) ?_
 try simp only [imp_self, true_and, and_true, Bool.cond_true_left, Bool.cond_false_right, Bool.or_eq_true, Bool.or_eq_false_iff, Bool.and_eq_true, Bool.and_eq_false_imp, decide_eq_true_eq, decide_eq_false_iff_not, Int.not_lt, Int.le_refl]
 refine ⟨fun h => ?_, fun h => ⟨fun _ => by omega, fun _ => ⟨by omega, ⟨rfl, hs⟩, rfl⟩, fun h2 => by have := h2 rfl; revert this; decide⟩⟩
 rcases h with rfl | h
 · rw [ext_empty]; rfl
 · exact absurd h (by decide)
def cTrimL : Con := con2 .str .str fun s c => (.p (c = spS ∧ s.size ≤ 1000000), stT (s.extract (skipP (bytesI s) 0) s.size), [])
theorem cTrimL_ok : ConOk Tryz.prog 55 cTrimL := con2_ok (by kernel_rfl) fun s c h => by
 obtain ⟨rfl, h2⟩ := h
 exact trimL_sem s h2
def cTrimR : Con := con2 .str .str fun s c => (.p (c = spS ∧ s.size ≤ 1000000), stT (s.extract 0 (trimN (bytesI s) s.size)), [])
theorem cTrimR_ok : ConOk Tryz.prog 75 cTrimR := con2_ok (by kernel_rfl) fun s c h => by
 obtain ⟨rfl, h2⟩ := h
 exact trimR_sem s h2
/-! ### The reader -/
abbrev prN (s : ByteArray) (i g left : Int) : Ob := ⟨62, [.c (.str s), .c (.int .i64 i), .c (.int .i64 g), .c .nil, .c (.int .i64 left)]⟩
abbrev prL (s : ByteArray) (i g : Int) (n : Nat) (left : Int) : Ob := ⟨62, [.c (.str s), .c (.int .i64 i), .c (.int .i64 g), .c (.sl 1 0 n 1), .c (.int .i64 left)]⟩
def asLL : Ob → Option (List (List Int))
 | ⟨ty, [.a k d l]⟩ => bif Nat.beq ty 40 && Nat.beq k 0 then (if h : d = .sl (.int .i64) then some (h ▸ l : List (D.sl (.int .i64)).ty) else none) else none
 | _ => none
theorem asLL_eq {o : Ob} {l : List (List Int)} (e : asLL o = some l) : o = obLL l := by
 unfold asLL at e
 split at e
 · obtain ⟨hb, e⟩ := Mill.bif_some e
   simp only [Bool.and_eq_true, Nat.beq_eq] at hb
   obtain ⟨rfl, rfl⟩ := hb
   split at e
   · rename_i h; subst h; cases e; rfl
   · cases e
 · cases e
def asPN : Ob → Option (ByteArray × Int × Int × Int)
 | ⟨ty, [.c (.str s), .c (.int k i), .c (.int k' g), .c .nil, .c (.int k'' left)]⟩ => bif Nat.beq ty 62 then (if k = .i64 ∧ k' = .i64 ∧ k'' = .i64 then some (s, i, g, left) else none) else none
 | _ => none
theorem asPN_eq {o : Ob} {s : ByteArray} {i g left : Int} (e : asPN o = some (s, i, g, left)) : o = prN s i g left := by
 unfold asPN at e
 split at e
 · obtain ⟨hb, e⟩ := Mill.bif_some e
   rw [Nat.beq_eq] at hb
   subst hb
   split at e
   · rename_i h
     obtain ⟨rfl, rfl, rfl⟩ := h
     cases e; rfl
   · cases e
 · cases e
def asPL : Ob → Option (ByteArray × Int × Int × Nat × Int)
 | ⟨ty, [.c (.str s), .c (.int k i), .c (.int k' g), .c (.sl x y n z), .c (.int k'' left)]⟩ => bif Nat.beq ty 62 && (Nat.beq x 1 && (Nat.beq y 0 && Nat.beq z 1)) then (if k = .i64 ∧ k' = .i64 ∧ k'' = .i64 then some (s, i, g, n, left) else none) else none
 | _ => none
theorem asPL_eq {o : Ob} {s : ByteArray} {i g left : Int} {n : Nat} (e : asPL o = some (s, i, g, n, left)) : o = prL s i g n left := by
 unfold asPL at e
 split at e
 · obtain ⟨hb, e⟩ := Mill.bif_some e
   simp only [Bool.and_eq_true, Nat.beq_eq] at hb
   obtain ⟨rfl, rfl, rfl, rfl⟩ := hb
   split at e
   · rename_i h
     obtain ⟨rfl, rfl, rfl⟩ := h
     cases e; rfl
   · cases e
 · cases e
abbrev PF := List A → ByteArray → Int → Int → List (List Int) → Int → Option (Cd × A × Int)
def conPr (refs : List Bool) (F : PF) : Con := { refs := true :: refs, f := fun args objs => match args, objs with
 | .p (.c (.ptr a b)) :: rest, [o] => bif Nat.beq a 0 && Nat.beq b 0 then (match asPN o with
   | some (s, i, g, left) => (match F rest s i g [] left with | some (c, r, j) => some (c, r, [prN s j g left]) | none => none)
   | none => none) else none
 | .p (.c (.ptr a b)) :: rest, [o, o2] => bif Nat.beq a 0 && Nat.beq b 0 then (match asPL o, asLL o2 with
   | some (s, i, g, n, left), some rs => (match F rest s i g rs left with | some (c, r, j) => some (.and (.p (n = rs.length)) c, r, [prL s j g n left, obLL rs]) | none => none)
   | _, _ => none) else none
 | _, _ => none }
theorem conPr_ok {f : FuncId} {refs : List Bool} {F : PF} (he : enters Tryz.prog f = true)
 (h1 : ∀ rest s i g left c r j, F rest s i g [] left = some (c, r, j) → c → FnSem Tryz.prog f (pt0 :: rest) [prN s i g left] r [prN s j g left])
 (h2 : ∀ rest s i g rs left c r j, F rest s i g rs left = some (c, r, j) → c → FnSem Tryz.prog f (pt0 :: rest) [prL s i g rs.length left, obLL rs] r [prL s j g rs.length left, obLL rs]) : ConOk Tryz.prog f (conPr refs F) := by
 refine ⟨he, fun args objs c r objs' e hc => ?_⟩
 simp only [conPr] at e
 split at e
 · obtain ⟨hb, e⟩ := Mill.bif_some e
   simp only [Bool.and_eq_true, Nat.beq_eq] at hb
   obtain ⟨rfl, rfl⟩ := hb
   split at e
   · rename_i s i g left ho
     rw [asPN_eq ho]
     split at e
     · rename_i c' r' j hF
       cases e
       exact h1 _ _ _ _ _ _ _ _ hF hc
     · cases e
   · cases e
 · obtain ⟨hb, e⟩ := Mill.bif_some e
   simp only [Bool.and_eq_true, Nat.beq_eq] at hb
   obtain ⟨rfl, rfl⟩ := hb
   split at e
   · rename_i s i g n left rs ho ho2
     rw [asPL_eq ho, asLL_eq ho2]
     split at e
     · rename_i c' r' j hF
       cases e
       obtain ⟨hn, hc⟩ := hc
       have hn : n = rs.length := hn
       subst hn
       exact h2 _ _ _ _ _ _ _ _ _ hF hc
     · cases e
   · cases e
 · cases e
theorem skip_drop (l : List Int) (i : Nat) : ∀ (m k : Nat), m = l.length - (i + k) → i + skipP (l.drop i) k = skipP l (i + k)
 | m, k, hm => by
   have e : (l.drop i).getD k 0 = l.getD (i + k) 0 := by rw [List.getD_eq_getElem?_getD, List.getD_eq_getElem?_getD, List.getElem?_drop]
   by_cases h : i + k < l.length ∧ l.getD (i + k) 0 = 32
   · rw [skipP_yes h, skipP_yes (by rw [List.length_drop, e]; omega)]
     cases m with
     | zero => omega
     | succ m => exact skip_drop l i m (k + 1) (by omega)
   · rw [skipP_no h, skipP_no (by rw [List.length_drop, e]; omega)]
/-! ### blanks -/
noncomputable def gBk : Gam := [(55, cTrimL)]
theorem gBk_ok : GamOk Tryz.prog gBk := gamOk_cons cTrimL_ok gamOk_nil
theorem pblanksN_sem (s : ByteArray) (i g left : Int) (h : At s i) : FnSem Tryz.prog 28 [pt0] [prN s (i) (g) (left)] (.tup []) [prN s (skipP (bytesI s) i.toNat) (g) (left)] := by
 refine fnSem_at (live := []) gBk_ok Tryz.func28 (by kernel_rfl) (keep := 1) rfl (by kernel_rfl) 100 ?_
 refine of_eq (q := let q1 := (R1.pure (Cd.t.and Cd.t) (nI i)); let q2 := (s.extract i.toNat s.size); let q3 := (A.p (V.c (W.str s))); let q4 := (R1.pure (Cd.t.and Cd.t) q3); let q5 := (s.size:Int); ((0:Int) ≤ i ∧ i ≤ q5 ∧ q5 ≤ q5) ∧ ((0:Int) ≤ i ∧ i ≤ q5 ∧ q5 ≤ q5) ∧ (ByteArray.mk #[(32 : UInt8)] = spS ∧ q2.size ≤ (1000000:Nat)) ∧ q1.v = q1.v ∧ q1.v = q1.v ∧ q4.v = q4.v ∧ q4.v = q4.v ∧ q1.v = q1.v ∧ q1.v = q1.v ∧ packV [] = A.tup [] ∧ [Ob.mk 62 [Fd.c (W.str s), Fd.c (W.int .i64 (IntKind.i64.wrap (i + IntKind.i64.wrap ((↑q2.size : Int) - (↑(q2.extract (skipP (bytesI q2) (0:Nat)) q2.size).size : Int))))), Fd.c (W.int .i64 g), Fd.c W.nil, Fd.c (W.int .i64 left)]] = [prN s (↑(skipP (bytesI s) i.toNat) : Int) g left]) (by kernel_rfl) ?_
 try simp only [true_and, and_true, Int.le_refl]
 obtain ⟨h1, h2, h3⟩ := h
 have hz := size_ext s (i := i.toNat) (Nat.le_refl s.size)
 have hb : bytesI (s.extract i.toNat s.size) = (bytesI s).drop i.toNat := by
  rw [bytesI_extract, List.take_of_length_le (by rw [List.length_drop, bytesI_length]; omega)]
 have hd := skip_drop (bytesI s) i.toNat _ 0 rfl
 rw [Nat.add_zero] at hd
 have hle := (skipP_le (bytesI s) _ i.toNat rfl (by rw [bytesI_length]; omega)).2
 rw [bytesI_length] at hle
 have hz2 : ((s.extract i.toNat s.size).extract (skipP (List.drop i.toNat (bytesI s)) 0) (s.size - i.toNat)).size = s.size - i.toNat - skipP (List.drop i.toNat (bytesI s)) 0 := size_ext _ (by omega)
 rw [hb, hz, hz2, wrap64 (n := ((s.size - i.toNat : Nat) : Int) - _) (by omega) (by omega), wrap64 (by omega) (by omega)]
 refine ⟨by omega, by omega, ⟨rfl, by omega⟩, rfl, ?_⟩
 rw [show i + (((s.size - i.toNat : Nat) : Int) - ((s.size - i.toNat - skipP (List.drop i.toNat (bytesI s)) 0 : Nat) : Int)) = ((skipP (bytesI s) i.toNat : Nat) : Int) by omega]
theorem pblanksL_sem (s : ByteArray) (i g left : Int) (rs : List (List Int)) (h : At s i) : FnSem Tryz.prog 28 [pt0] [prL s (i) (g) rs.length (left), obLL rs] (.tup []) [prL s (skipP (bytesI s) i.toNat) (g) rs.length (left), obLL rs] := by
 refine fnSem_at (live := []) gBk_ok Tryz.func28 (by kernel_rfl) (keep := 2) rfl (by kernel_rfl) 100 ?_
 refine of_eq (q := let q1 := (R1.pure (Cd.t.and Cd.t) (nI i)); let q2 := (s.extract i.toNat s.size); let q3 := (A.p (V.c (W.str s))); let q4 := (R1.pure (Cd.t.and Cd.t) q3); let q5 := (s.size:Int); ((0:Int) ≤ i ∧ i ≤ q5 ∧ q5 ≤ q5) ∧ ((0:Int) ≤ i ∧ i ≤ q5 ∧ q5 ≤ q5) ∧ (ByteArray.mk #[(32 : UInt8)] = spS ∧ q2.size ≤ (1000000:Nat)) ∧ q1.v = q1.v ∧ q1.v = q1.v ∧ q4.v = q4.v ∧ q4.v = q4.v ∧ q1.v = q1.v ∧ q1.v = q1.v ∧ packV [] = A.tup [] ∧ [Ob.mk 62 [Fd.c (W.str s), Fd.c (W.int .i64 (IntKind.i64.wrap (i + IntKind.i64.wrap ((↑q2.size : Int) - (↑(q2.extract (skipP (bytesI q2) (0:Nat)) q2.size).size : Int))))), Fd.c (W.int .i64 g), Fd.c (W.sl ((0:Nat) + (1:Nat)) (0:Nat) rs.length (1:Nat)), Fd.c (W.int .i64 left)], Ob.mk 40 [Fd.a 0 (D.int .i64).sl rs]] = [prL s (↑(skipP (bytesI s) i.toNat) : Int) g rs.length left, obLL rs]) (by kernel_rfl) ?_
 try simp only [true_and, and_true, Nat.zero_add, Int.le_refl]
 obtain ⟨h1, h2, h3⟩ := h
 have hz := size_ext s (i := i.toNat) (Nat.le_refl s.size)
 have hb : bytesI (s.extract i.toNat s.size) = (bytesI s).drop i.toNat := by
  rw [bytesI_extract, List.take_of_length_le (by rw [List.length_drop, bytesI_length]; omega)]
 have hd := skip_drop (bytesI s) i.toNat _ 0 rfl
 rw [Nat.add_zero] at hd
 have hle := (skipP_le (bytesI s) _ i.toNat rfl (by rw [bytesI_length]; omega)).2
 rw [bytesI_length] at hle
 have hz2 : ((s.extract i.toNat s.size).extract (skipP (List.drop i.toNat (bytesI s)) 0) (s.size - i.toNat)).size = s.size - i.toNat - skipP (List.drop i.toNat (bytesI s)) 0 := size_ext _ (by omega)
 rw [hb, hz, hz2, wrap64 (n := ((s.size - i.toNat : Nat) : Int) - _) (by omega) (by omega), wrap64 (by omega) (by omega)]
 refine ⟨by omega, by omega, ⟨rfl, by omega⟩, rfl, ?_⟩
 rw [show i + (((s.size - i.toNat : Nat) : Int) - ((s.size - i.toNat - skipP (List.drop i.toNat (bytesI s)) 0 : Nat) : Int)) = ((skipP (bytesI s) i.toNat : Nat) : Int) by omega]
def cPBlanks : Con := conPr [] fun rest s i _ _ _ => match rest with
 | [] => some (.p (At s i), .tup [], (skipP (bytesI s) i.toNat : Int))
 | _ => none
theorem cPBlanks_ok : ConOk Tryz.prog 28 cPBlanks := conPr_ok (by kernel_rfl)
 (fun rest s i g left c r j e h => by
  split at e
  · cases e; exact pblanksN_sem s i g left h
  · cases e)
 (fun rest s i g rs left c r j e h => by
  split at e
  · cases e; exact pblanksL_sem s i g left rs h
  · cases e)
/-! ### has, need -/
noncomputable def gHs : Gam := [(28, cPBlanks)]
theorem gHs_ok : GamOk Tryz.prog gHs := gamOk_cons cPBlanks_ok gamOk_nil
theorem phasN_sem (c : Int) (s : ByteArray) (i g left : Int) (h : At s i) : FnSem Tryz.prog 26 [pt0, u8A c] [prN s (i) (g) (left)] (seesB c s i) [prN s (skipP (bytesI s) i.toNat) (g) (left)] := by
 refine fnSem_at (live := []) gHs_ok Tryz.func26 (by kernel_rfl) (keep := 1) rfl (by kernel_rfl) 100 ?_
 refine of_eq (q := let q2 := (↑(skipP (bytesI s) i.toNat) : Int); let q1 := decide (q2 < (s.size:Int)); At s i ∧ (q1 = true → q1 = true) ∧ (q1 = true → q1 = true) ∧ (q1 = true → q1 = true) ∧ (q1 = true → q1 = true) ∧ (q1 = true → q1 = true) ∧ (q1 = true → q1 = true) ∧ (q1 = true → q1 = true) ∧ (q1 = true → q1 = true) ∧ (q1 = true → (0:Int) ≤ q2 ∧ q2 < (s.size:Int)) ∧ (q1 = true → q1 = true) ∧ (q1 = true → q1 = true) ∧ (q1 = true → q1 = true) ∧ packV [V.c (W.bool (bif q1 then decide (bAt s (skipP (bytesI s) i.toNat) = c) else false))] = seesB c s i ∧ [Ob.mk 62 [Fd.c (W.str s), Fd.c (W.int .i64 q2), Fd.c (W.int .i64 g), Fd.c W.nil, Fd.c (W.int .i64 left)]] = [prN s q2 g left]) (by kernel_rfl) ?_
 try simp only [imp_self, true_and, and_true, Bool.cond_false_right, decide_eq_true_eq]
 obtain ⟨⟨h1, h2, h3⟩, _⟩ := skip_at h
 refine ⟨h, fun h4 => by omega, ?_⟩
 show A.p (V.c (W.bool _)) = A.p (V.c (W.bool _))
 congr 3
 unfold seesP
 rw [bytesI_length, bAt_get, Bool.eq_iff_iff]
 simp only [Bool.and_eq_true, decide_eq_true_eq]
 omega
theorem phasL_sem (c : Int) (s : ByteArray) (i g left : Int) (rs : List (List Int)) (h : At s i) : FnSem Tryz.prog 26 [pt0, u8A c] [prL s (i) (g) rs.length (left), obLL rs] (seesB c s i) [prL s (skipP (bytesI s) i.toNat) (g) rs.length (left), obLL rs] := by
 refine fnSem_at (live := []) gHs_ok Tryz.func26 (by kernel_rfl) (keep := 2) rfl (by kernel_rfl) 100 ?_
 refine of_eq (q := let q2 := (↑(skipP (bytesI s) i.toNat) : Int); let q1 := decide (q2 < (s.size:Int)); rs.length = rs.length ∧ At s i ∧ (q1 = true → q1 = true) ∧ (q1 = true → q1 = true) ∧ (q1 = true → q1 = true) ∧ (q1 = true → q1 = true) ∧ (q1 = true → q1 = true) ∧ (q1 = true → q1 = true) ∧ (q1 = true → q1 = true) ∧ (q1 = true → q1 = true) ∧ (q1 = true → (0:Int) ≤ q2 ∧ q2 < (s.size:Int)) ∧ (q1 = true → q1 = true) ∧ (q1 = true → q1 = true) ∧ (q1 = true → q1 = true) ∧ packV [V.c (W.bool (bif q1 then decide (bAt s (skipP (bytesI s) i.toNat) = c) else false))] = seesB c s i ∧ [Ob.mk 62 [Fd.c (W.str s), Fd.c (W.int .i64 q2), Fd.c (W.int .i64 g), Fd.c (W.sl ((0:Nat) + (1:Nat)) (0:Nat) rs.length (1:Nat)), Fd.c (W.int .i64 left)], Ob.mk 40 [Fd.a 0 (D.int .i64).sl rs]] = [prL s q2 g rs.length left, obLL rs]) (by kernel_rfl) ?_
 try simp only [imp_self, true_and, and_true, Nat.zero_add, Bool.cond_false_right, decide_eq_true_eq]
 obtain ⟨⟨h1, h2, h3⟩, _⟩ := skip_at h
 refine ⟨h, fun h4 => by omega, ?_⟩
 show A.p (V.c (W.bool _)) = A.p (V.c (W.bool _))
 congr 3
 unfold seesP
 rw [bytesI_length, bAt_get, Bool.eq_iff_iff]
 simp only [Bool.and_eq_true, decide_eq_true_eq]
 omega
def cHas : Con := conPr [false] fun rest s i _ _ _ => match rest with
 | [.p (.c (.int .u8 c))] => some (.p (At s i), seesB c s i, (skipP (bytesI s) i.toNat : Int))
 | _ => none
theorem cHas_ok : ConOk Tryz.prog 26 cHas := conPr_ok (by kernel_rfl)
 (fun rest s i g left c r j e h => by
  split at e
  · cases e; exact phasN_sem _ s i g left h
  · cases e)
 (fun rest s i g rs left c r j e h => by
  split at e
  · cases e; exact phasL_sem _ s i g left rs h
  · cases e)
noncomputable def gNe : Gam := [(26, cHas)]
theorem gNe_ok : GamOk Tryz.prog gNe := gamOk_cons cHas_ok gamOk_nil
theorem pneedN_sem (c : Int) (s : ByteArray) (i g left : Int) (h : At s i) (hc : seesP (bytesI s) c i.toNat = true) : FnSem Tryz.prog 25 [pt0, u8A c] [prN s (i) (g) (left)] (.tup []) [prN s (takeP (bytesI s) c i.toNat) (g) (left)] := by
 refine fnSem_at (live := []) gNe_ok Tryz.func25 (by kernel_rfl) (keep := 1) rfl (by kernel_rfl) 100 ?_
 refine of_eq (q := At s i ∧ ((!seesP (bytesI s) c i.toNat) = true → False) ∧ ((!seesP (bytesI s) c i.toNat) = false → packV [] = A.tup [] ∧ [Ob.mk 62 [Fd.c (W.str s), Fd.c (W.int .i64 (IntKind.i64.wrap ((↑(skipP (bytesI s) i.toNat) : Int) + (1:Int)))), Fd.c (W.int .i64 g), Fd.c W.nil, Fd.c (W.int .i64 left)]] = [prN s (↑(takeP (bytesI s) c i.toNat) : Int) g left])) (by kernel_rfl) ?_
 try simp only [Bool.not_eq_true', Bool.not_eq_false']
 obtain ⟨⟨h1, h2, h3⟩, _⟩ := skip_at h
 refine ⟨h, fun h4 => ?_, fun _ => ⟨rfl, ?_⟩⟩
 · rw [hc] at h4; cases h4
 have h5 := (seesP_lt hc).1
 rw [bytesI_length] at h5
 unfold takeP
 rw [if_pos hc, wrap64 (by omega) (by omega)]
 rfl
theorem pneedL_sem (c : Int) (s : ByteArray) (i g left : Int) (rs : List (List Int)) (h : At s i) (hc : seesP (bytesI s) c i.toNat = true) : FnSem Tryz.prog 25 [pt0, u8A c] [prL s (i) (g) rs.length (left), obLL rs] (.tup []) [prL s (takeP (bytesI s) c i.toNat) (g) rs.length (left), obLL rs] := by
 refine fnSem_at (live := []) gNe_ok Tryz.func25 (by kernel_rfl) (keep := 2) rfl (by kernel_rfl) 100 ?_
 refine of_eq (q := rs.length = rs.length ∧ At s i ∧ ((!seesP (bytesI s) c i.toNat) = true → False) ∧ ((!seesP (bytesI s) c i.toNat) = false → packV [] = A.tup [] ∧ [Ob.mk 62 [Fd.c (W.str s), Fd.c (W.int .i64 (IntKind.i64.wrap ((↑(skipP (bytesI s) i.toNat) : Int) + (1:Int)))), Fd.c (W.int .i64 g), Fd.c (W.sl ((0:Nat) + (1:Nat)) (0:Nat) rs.length (1:Nat)), Fd.c (W.int .i64 left)], Ob.mk 40 [Fd.a 0 (D.int .i64).sl rs]] = [prL s (↑(takeP (bytesI s) c i.toNat) : Int) g rs.length left, obLL rs])) (by kernel_rfl) ?_
 try simp only [true_and, Nat.zero_add, Bool.not_eq_true', Bool.not_eq_false']
 obtain ⟨⟨h1, h2, h3⟩, _⟩ := skip_at h
 refine ⟨h, fun h4 => ?_, fun _ => ⟨rfl, ?_⟩⟩
 · rw [hc] at h4; cases h4
 have h5 := (seesP_lt hc).1
 rw [bytesI_length] at h5
 unfold takeP
 rw [if_pos hc, wrap64 (by omega) (by omega)]
 rfl
def cNeed : Con := conPr [false] fun rest s i _ _ _ => match rest with
 | [.p (.c (.int .u8 c))] => some (.p (At s i ∧ seesP (bytesI s) c i.toNat = true), .tup [], (takeP (bytesI s) c i.toNat : Int))
 | _ => none
theorem cNeed_ok : ConOk Tryz.prog 25 cNeed := conPr_ok (by kernel_rfl)
 (fun rest s i g left c r j e h => by
  split at e
  · cases e; exact pneedN_sem _ s i g left h.1 h.2
  · cases e)
 (fun rest s i g rs left c r j e h => by
  split at e
  · cases e; exact pneedL_sem _ s i g left rs h.1 h.2
  · cases e)
/-! ### piece -/
theorem parse_nil (g : Int) : parseP g [] = none := by
 have h0 : skipP [] 0 = 0 := skipP_no (by simp)
 have h1 : ∀ c, seesP [] c 0 = false := fun c => by unfold seesP; simp
 have h2 : letP g [] 0 = none := by
  unfold letP
  rw [h1, if_neg (by simp), if_neg (by simp)]
 unfold parseP wordP
 rw [List.length_nil, wLoop, h0]
 unfold facP
 rw [itemP, h1, h1, h2]
 simp
noncomputable def gPi : Gam := [(28, cPBlanks), (75, cTrimR), (76, cParse)]
theorem gPi_ok : GamOk Tryz.prog gPi := gamOk_cons cPBlanks_ok (gamOk_cons cTrimR_ok (gamOk_cons cParse_ok gamOk_nil))
theorem piece_fact (s : ByteArray) (f i : Nat) (g : Int) (w : List Int) (hf : f ≤ i) (hi : i ≤ s.size) (hs : s.size ≤ 20000) (hw : parseP g (trimR (seg (bytesI s) f i)) = some w) :
 ¬ (s.extract f i).extract 0 (trimN (bytesI (s.extract f i)) (s.extract f i).size) = ⟨#[]⟩ ∧ ((s.extract f i).extract 0 (trimN (bytesI (s.extract f i)) (s.extract f i).size)).size ≤ 20000 ∧ parseP g (bytesI ((s.extract f i).extract 0 (trimN (bytesI (s.extract f i)) (s.extract f i).size))) = some w := by
 have hz := size_ext s (i := f) hi
 have hb : bytesI ((s.extract f i).extract 0 (trimN (bytesI (s.extract f i)) (s.extract f i).size)) = trimR (seg (bytesI s) f i) := by
  rw [bytesI_extract, List.drop_zero, Nat.sub_zero]
  unfold trimR
  rw [← bytesI_length, bytesI_extract]
  rfl
 refine ⟨fun h => ?_, ?_, by rw [hb]; exact hw⟩
 · rw [← hb, h, show bytesI ⟨#[]⟩ = [] from rfl, parse_nil] at hw
   cases hw
 · have := trimN_le (bytesI (s.extract f i)) (s.extract f i).size
   rw [size_ext _ this]
   omega
abbrev liPi : List (List Nat × List Nat) := [([0, 0, 1, 1, 1, 0, 1], [0, 1, 5, 6])]
noncomputable def sPiN : Site := mkSite Tryz.prog gPi Tryz.f53 1 liPi
theorem pieceN_loop (s : ByteArray) (hs : s.size ≤ 20000) (g left b : Int) (hr : ([] : List (List Int)).length < 100) (hg : RG g) (f J : Nat) (w : List Int) (hw : parseP g (trimR (seg (bytesI s) f J)) = some w) : ∀ (m i : Nat) (d : Int), m = s.size - i → f ≤ i → i ≤ s.size → -(i : Int) ≤ d ∧ d ≤ i → scanP (bytesI s) i d = J →
 AtLoop sPiN (Says1 (lsI w) [prN s (J) (g) (left)]) [0, 0, 1, 1, 1, 0, 1] (fr [(0, pt0), (1, nI b), (5, nI f), (6, nI d)]) (.ofList [prN s (i) (g) (left)])
 | m, i, d, hm, hf, hi, hd, hJ => by
   refine atLoop_at gPi_ok (by kernel_rfl) 100 ?_
   refine of_eq (q := let q1 := ((s.extract f i).extract (0:Nat) (trimN (bytesI (s.extract f i)) (s.extract f i).size)); let q3 := decide ((s.extract f i).extract (0:Nat) (trimN (bytesI (s.extract f i)) (s.extract f i).size) = ByteArray.mk #[]); let q4 := (fr [(0, A.p (V.c (W.ptr 0 0))), (1, nI b), (5, nI (f:Int)), (6, nI d)]); let q5 := decide ((0:Int) = (100:Int)); let q6 := decide ((0:Int) = (0:Int)); let q8 := decide (d = (0:Int)); let q9 := (i:Int); let q10 := (s.size:Int); let q11 := (W.int .i64 left); let q12 := (parseP g (bytesI q1)); let q13 := (W.int .i64 q9); let q14 := (W.int .i64 g); let q2 := (Sto.ofList [Ob.mk 62 [Fd.c (W.str s), Fd.c (W.int .i64 (IntKind.i64.wrap (q9 + (1:Int)))), Fd.c q14, Fd.c W.nil, Fd.c q11]]); let q7 := (W.rd (D.int .i64) (q12.getD [])); (decide (q9 < q10) = true → ((0:Int) ≤ q9 ∧ q9 < q10) ∧ (decide (bAt s i = (44:Int)) = true → (q8 = true → ((0:Int) ≤ (f:Int) ∧ (f:Int) ≤ q9 ∧ q9 ≤ q10) ∧ (ByteArray.mk #[(32 : UInt8)] = spS ∧ (s.extract f i).size ≤ (1000000:Nat)) ∧ (q3 = true → False) ∧ (q3 = false → (q5 = true → False) ∧ (q5 = false → (q1.size ≤ (20000:Nat) ∧ RG g ∧ q12.isSome = true) ∧ ((!q6) = true → False) ∧ ((!q6) = false → packV [V.c q7] = lsI w ∧ [Ob.mk 62 [Fd.c (W.str s), Fd.c q13, Fd.c q14, Fd.c W.nil, Fd.c q11]] = [prN s (J:Int) g left])))) ∧ (q8 = false → AtLoop sPiN (Says1 (lsI w) [prN s (J:Int) g left]) [0, 0, 1, 1, 1, 0, 1] q4 q2)) ∧ (decide (bAt s i = (44:Int)) = false → (decide (bAt s i = (61:Int)) = true → (q8 = true → ((0:Int) ≤ (f:Int) ∧ (f:Int) ≤ q9 ∧ q9 ≤ q10) ∧ (ByteArray.mk #[(32 : UInt8)] = spS ∧ (s.extract f i).size ≤ (1000000:Nat)) ∧ (q3 = true → False) ∧ (q3 = false → (q5 = true → False) ∧ (q5 = false → (q1.size ≤ (20000:Nat) ∧ RG g ∧ q12.isSome = true) ∧ ((!q6) = true → False) ∧ ((!q6) = false → packV [V.c q7] = lsI w ∧ [Ob.mk 62 [Fd.c (W.str s), Fd.c q13, Fd.c q14, Fd.c W.nil, Fd.c q11]] = [prN s (J:Int) g left])))) ∧ (q8 = false → AtLoop sPiN (Says1 (lsI w) [prN s (J:Int) g left]) [0, 0, 1, 1, 1, 0, 1] q4 q2)) ∧ (decide (bAt s i = (61:Int)) = false → (decide (bAt s i = (62:Int)) = true → (q8 = true → ((0:Int) ≤ (f:Int) ∧ (f:Int) ≤ q9 ∧ q9 ≤ q10) ∧ (ByteArray.mk #[(32 : UInt8)] = spS ∧ (s.extract f i).size ≤ (1000000:Nat)) ∧ (q3 = true → False) ∧ (q3 = false → (q5 = true → False) ∧ (q5 = false → (q1.size ≤ (20000:Nat) ∧ RG g ∧ q12.isSome = true) ∧ ((!q6) = true → False) ∧ ((!q6) = false → packV [V.c q7] = lsI w ∧ [Ob.mk 62 [Fd.c (W.str s), Fd.c q13, Fd.c q14, Fd.c W.nil, Fd.c q11]] = [prN s (J:Int) g left])))) ∧ (q8 = false → AtLoop sPiN (Says1 (lsI w) [prN s (J:Int) g left]) [0, 0, 1, 1, 1, 0, 1] q4 q2)) ∧ (decide (bAt s i = (62:Int)) = false → (decide (bAt s i = (91:Int)) = true → AtLoop sPiN (Says1 (lsI w) [prN s (J:Int) g left]) [0, 0, 1, 1, 1, 0, 1] (fr [(0, A.p (V.c (W.ptr 0 0))), (1, nI b), (5, nI (f:Int)), (6, nI (IntKind.i64.wrap (d + (1:Int))))]) q2) ∧ (decide (bAt s i = (91:Int)) = false → (decide (bAt s i = (93:Int)) = true → AtLoop sPiN (Says1 (lsI w) [prN s (J:Int) g left]) [0, 0, 1, 1, 1, 0, 1] (fr [(0, A.p (V.c (W.ptr 0 0))), (1, nI b), (5, nI (f:Int)), (6, nI (IntKind.i64.wrap (d - (1:Int))))]) q2) ∧ (decide (bAt s i = (93:Int)) = false → AtLoop sPiN (Says1 (lsI w) [prN s (J:Int) g left]) [0, 0, 1, 1, 1, 0, 1] q4 q2)))))) ∧ (decide (q9 < q10) = false → ((0:Int) ≤ (f:Int) ∧ (f:Int) ≤ q9 ∧ q9 ≤ q10) ∧ (ByteArray.mk #[(32 : UInt8)] = spS ∧ (s.extract f i).size ≤ (1000000:Nat)) ∧ (q3 = true → False) ∧ (q3 = false → (q5 = true → False) ∧ (q5 = false → (q1.size ≤ (20000:Nat) ∧ RG g ∧ q12.isSome = true) ∧ ((!q6) = true → False) ∧ ((!q6) = false → packV [V.c q7] = lsI w ∧ [Ob.mk 62 [Fd.c (W.str s), Fd.c q13, Fd.c q14, Fd.c W.nil, Fd.c q11]] = [prN s (J:Int) g left]))))) (by kernel_rfl) ?_
   try simp only [imp_self, true_and, Bool.not_eq_true', Bool.not_eq_false', decide_eq_true_eq, decide_eq_false_iff_not, Int.not_lt, Int.reduceEq, not_false_eq_true]
   have hlen := bytesI_length s
   have go : ∀ d' : Int, i < s.size → ¬ stopC (bAt s i) d → nextD (bAt s i) d = d' → d - 1 ≤ d' → d' ≤ d + 1 → AtLoop sPiN (Says1 (lsI w) [prN s (J) (g) (left)]) [0, 0, 1, 1, 1, 0, 1] (fr [(0, pt0), (1, nI b), (5, nI f), (6, nI d')]) (.ofList [prN s ((i + 1 : Nat)) (g) (left)]) := by
    intro d' hlt hst hn hd1 hd2
    rw [bAt_get] at hst hn
    rw [scan_go (by omega) hst, hn] at hJ
    cases m with
    | zero => omega
    | succ m => exact pieceN_loop s hs g left b  hr hg f J w hw m (i + 1) d' (by omega) (by omega) (by omega) (by omega) hJ
   refine ⟨fun hlt => ⟨by omega, fun h44 => ⟨fun hd0 => ?_, fun hd0 => ?_⟩, fun h44 => ⟨fun h61 => ⟨fun hd0 => ?_, fun hd0 => ?_⟩, fun h61 => ⟨fun h62 => ⟨fun hd0 => ?_, fun hd0 => ?_⟩, fun h62 => ⟨fun h91 => ?_, fun h91 => ⟨fun h93 => ?_, fun h93 => ?_⟩⟩⟩⟩⟩, fun hge => ?_⟩
   · have hJi : i = J := by rw [← hJ, scan_stop (by omega) (by rw [← bAt_get]; exact ⟨.inl h44, hd0⟩)]
     subst hJi
     obtain ⟨hT2, hT3, hP⟩ := piece_fact s f i g w hf hi hs hw
     rw [hP]
     exact ⟨by omega, ⟨rfl, by rw [size_ext s hi]; omega⟩, fun h => absurd h hT2, fun _ _ => ⟨⟨hT3, hg, rfl⟩, fun h => absurd trivial h, fun _ => ⟨rfl, rfl⟩⟩⟩
   · rw [wrap64 (n := (i : Int) + 1) (by omega) (by omega)]
     exact go d (by omega) (fun h => hd0 h.2) (by unfold nextD; rw [if_pos (.inl h44)]) (by omega) (by omega)
   · have hJi : i = J := by rw [← hJ, scan_stop (by omega) (by rw [← bAt_get]; exact ⟨.inr (.inl h61), hd0⟩)]
     subst hJi
     obtain ⟨hT2, hT3, hP⟩ := piece_fact s f i g w hf hi hs hw
     rw [hP]
     exact ⟨by omega, ⟨rfl, by rw [size_ext s hi]; omega⟩, fun h => absurd h hT2, fun _ _ => ⟨⟨hT3, hg, rfl⟩, fun h => absurd trivial h, fun _ => ⟨rfl, rfl⟩⟩⟩
   · rw [wrap64 (n := (i : Int) + 1) (by omega) (by omega)]
     exact go d (by omega) (fun h => hd0 h.2) (by unfold nextD; rw [if_pos (.inr (.inl h61))]) (by omega) (by omega)
   · have hJi : i = J := by rw [← hJ, scan_stop (by omega) (by rw [← bAt_get]; exact ⟨.inr (.inr h62), hd0⟩)]
     subst hJi
     obtain ⟨hT2, hT3, hP⟩ := piece_fact s f i g w hf hi hs hw
     rw [hP]
     exact ⟨by omega, ⟨rfl, by rw [size_ext s hi]; omega⟩, fun h => absurd h hT2, fun _ _ => ⟨⟨hT3, hg, rfl⟩, fun h => absurd trivial h, fun _ => ⟨rfl, rfl⟩⟩⟩
   · rw [wrap64 (n := (i : Int) + 1) (by omega) (by omega)]
     exact go d (by omega) (fun h => hd0 h.2) (by unfold nextD; rw [if_pos (.inr (.inr h62))]) (by omega) (by omega)
   · rw [wrap64 (n := d + 1) (by omega) (by omega), wrap64 (n := (i : Int) + 1) (by omega) (by omega)]
     exact go (d + 1) (by omega) (fun h => by have := h.1; omega) (by unfold nextD; rw [if_neg (by omega), if_pos h91]) (by omega) (by omega)
   · rw [wrap64 (n := d - 1) (by omega) (by omega), wrap64 (n := (i : Int) + 1) (by omega) (by omega)]
     exact go (d - 1) (by omega) (fun h => by have := h.1; omega) (by unfold nextD; rw [if_neg (by omega), if_neg h91, if_pos h93]) (by omega) (by omega)
   · rw [wrap64 (n := (i : Int) + 1) (by omega) (by omega)]
     exact go d (by omega) (fun h => by have := h.1; omega) (by unfold nextD; rw [if_neg (by omega), if_neg h91, if_neg h93]) (by omega) (by omega)
   · have hJi : i = J := by rw [← hJ, scan_end d (by omega)]
     subst hJi
     obtain ⟨hT2, hT3, hP⟩ := piece_fact s f i g w hf hi hs hw
     rw [hP]
     exact ⟨by omega, ⟨rfl, by rw [size_ext s hi]; omega⟩, fun h => absurd h hT2, fun _ _ => ⟨⟨hT3, hg, rfl⟩, fun h => absurd trivial h, fun _ => ⟨rfl, rfl⟩⟩⟩
theorem pieceN_sem (s : ByteArray) (hs : s.size ≤ 20000) (g left b i : Int) (hr : ([] : List (List Int)).length < 100) (hg : RG g) (h : At s i) (w : List Int) (j : Nat) (hw : pieceP g (bytesI s) i.toNat = some (w, j)) : FnSem Tryz.prog 53 [pt0, nI b] [prN s (i) (g) (left)] (lsI w) [prN s (j) (g) (left)] := by
 refine fnSem_at (live := liPi) gPi_ok Tryz.func53 (by kernel_rfl) (keep := 1) rfl (by kernel_rfl) 100 ?_
 refine of_eq (q := At s i ∧ AtLoop (mkSite Tryz.prog gPi Tryz.f53 (1:Nat) liPi) (Says1 (lsI w) [prN s (j:Int) g left]) [0, 0, 1, 1, 1, 0, 1] (fr [(0, A.p (V.c (W.ptr 0 0))), (1, nI b), (5, nI (↑(skipP (bytesI s) i.toNat) : Int)), (6, nI (0))]) (Sto.ofList [Ob.mk 62 [Fd.c (W.str s), Fd.c (W.int .i64 (↑(skipP (bytesI s) i.toNat) : Int)), Fd.c (W.int .i64 g), Fd.c W.nil, Fd.c (W.int .i64 left)]])) (by kernel_rfl) ?_
 unfold pieceP at hw
 split at hw
 · rename_i w' hp
   cases hw
   obtain ⟨⟨h1, h2, h3⟩, _⟩ := skip_at h
   exact ⟨h, pieceN_loop s hs g left b  hr hg _ _ w hp _ _ 0 rfl (Nat.le_refl _) (by omega) (by omega) rfl⟩
 · cases hw
noncomputable def sPiL : Site := mkSite Tryz.prog gPi Tryz.f53 2 liPi
theorem pieceL_loop (s : ByteArray) (hs : s.size ≤ 20000) (g left b : Int) (rs : List (List Int)) (hr : rs.length < 100) (hg : RG g) (f J : Nat) (w : List Int) (hw : parseP g (trimR (seg (bytesI s) f J)) = some w) : ∀ (m i : Nat) (d : Int), m = s.size - i → f ≤ i → i ≤ s.size → -(i : Int) ≤ d ∧ d ≤ i → scanP (bytesI s) i d = J →
 AtLoop sPiL (Says1 (lsI w) [prL s (J) (g) rs.length (left), obLL rs]) [0, 0, 1, 1, 1, 0, 1] (fr [(0, pt0), (1, nI b), (5, nI f), (6, nI d)]) (.ofList [prL s (i) (g) rs.length (left), obLL rs])
 | m, i, d, hm, hf, hi, hd, hJ => by
   refine atLoop_at gPi_ok (by kernel_rfl) 100 ?_
   refine of_eq (q := let q2 := ((s.extract f i).extract (0:Nat) (trimN (bytesI (s.extract f i)) (s.extract f i).size)); let q3 := decide ((s.extract f i).extract (0:Nat) (trimN (bytesI (s.extract f i)) (s.extract f i).size) = ByteArray.mk #[]); let q4 := decide ((rs.length:Int) = (100:Int)); let q5 := (fr [(0, A.p (V.c (W.ptr 0 0))), (1, nI b), (5, nI (f:Int)), (6, nI d)]); let q6 := decide ((0:Int) = (0:Int)); let q7 := (W.sl ((0:Nat) + (1:Nat)) (0:Nat) rs.length (1:Nat)); let q9 := decide (d = (0:Int)); let q10 := (i:Int); let q11 := (s.size:Int); let q12 := (W.int .i64 left); let q13 := (W.int .i64 q10); let q14 := (parseP g (bytesI q2)); let q15 := (W.int .i64 g); let q1 := (Sto.ofList [Ob.mk 62 [Fd.c (W.str s), Fd.c (W.int .i64 (IntKind.i64.wrap (q10 + (1:Int)))), Fd.c q15, Fd.c (W.sl 1 0 rs.length 1), Fd.c q12], Ob.mk 40 [Fd.a 0 (D.int .i64).sl rs]]); let q8 := (W.rd (D.int .i64) (q14.getD [])); (decide (q10 < q11) = true → ((0:Int) ≤ q10 ∧ q10 < q11) ∧ (decide (bAt s i = (44:Int)) = true → (q9 = true → ((0:Int) ≤ (f:Int) ∧ (f:Int) ≤ q10 ∧ q10 ≤ q11) ∧ (ByteArray.mk #[(32 : UInt8)] = spS ∧ (s.extract f i).size ≤ (1000000:Nat)) ∧ (q3 = true → False) ∧ (q3 = false → (q4 = true → False) ∧ (q4 = false → (q2.size ≤ (20000:Nat) ∧ RG g ∧ q14.isSome = true) ∧ ((!q6) = true → False) ∧ ((!q6) = false → packV [V.c q8] = lsI w ∧ [Ob.mk 62 [Fd.c (W.str s), Fd.c q13, Fd.c q15, Fd.c q7, Fd.c q12], Ob.mk 40 [Fd.a 0 (D.int .i64).sl rs]] = [prL s (J:Int) g rs.length left, obLL rs])))) ∧ (q9 = false → AtLoop sPiL (Says1 (lsI w) [prL s (J:Int) g rs.length left, obLL rs]) [0, 0, 1, 1, 1, 0, 1] q5 q1)) ∧ (decide (bAt s i = (44:Int)) = false → (decide (bAt s i = (61:Int)) = true → (q9 = true → ((0:Int) ≤ (f:Int) ∧ (f:Int) ≤ q10 ∧ q10 ≤ q11) ∧ (ByteArray.mk #[(32 : UInt8)] = spS ∧ (s.extract f i).size ≤ (1000000:Nat)) ∧ (q3 = true → False) ∧ (q3 = false → (q4 = true → False) ∧ (q4 = false → (q2.size ≤ (20000:Nat) ∧ RG g ∧ q14.isSome = true) ∧ ((!q6) = true → False) ∧ ((!q6) = false → packV [V.c q8] = lsI w ∧ [Ob.mk 62 [Fd.c (W.str s), Fd.c q13, Fd.c q15, Fd.c q7, Fd.c q12], Ob.mk 40 [Fd.a 0 (D.int .i64).sl rs]] = [prL s (J:Int) g rs.length left, obLL rs])))) ∧ (q9 = false → AtLoop sPiL (Says1 (lsI w) [prL s (J:Int) g rs.length left, obLL rs]) [0, 0, 1, 1, 1, 0, 1] q5 q1)) ∧ (decide (bAt s i = (61:Int)) = false → (decide (bAt s i = (62:Int)) = true → (q9 = true → ((0:Int) ≤ (f:Int) ∧ (f:Int) ≤ q10 ∧ q10 ≤ q11) ∧ (ByteArray.mk #[(32 : UInt8)] = spS ∧ (s.extract f i).size ≤ (1000000:Nat)) ∧ (q3 = true → False) ∧ (q3 = false → (q4 = true → False) ∧ (q4 = false → (q2.size ≤ (20000:Nat) ∧ RG g ∧ q14.isSome = true) ∧ ((!q6) = true → False) ∧ ((!q6) = false → packV [V.c q8] = lsI w ∧ [Ob.mk 62 [Fd.c (W.str s), Fd.c q13, Fd.c q15, Fd.c q7, Fd.c q12], Ob.mk 40 [Fd.a 0 (D.int .i64).sl rs]] = [prL s (J:Int) g rs.length left, obLL rs])))) ∧ (q9 = false → AtLoop sPiL (Says1 (lsI w) [prL s (J:Int) g rs.length left, obLL rs]) [0, 0, 1, 1, 1, 0, 1] q5 q1)) ∧ (decide (bAt s i = (62:Int)) = false → (decide (bAt s i = (91:Int)) = true → AtLoop sPiL (Says1 (lsI w) [prL s (J:Int) g rs.length left, obLL rs]) [0, 0, 1, 1, 1, 0, 1] (fr [(0, A.p (V.c (W.ptr 0 0))), (1, nI b), (5, nI (f:Int)), (6, nI (IntKind.i64.wrap (d + (1:Int))))]) q1) ∧ (decide (bAt s i = (91:Int)) = false → (decide (bAt s i = (93:Int)) = true → AtLoop sPiL (Says1 (lsI w) [prL s (J:Int) g rs.length left, obLL rs]) [0, 0, 1, 1, 1, 0, 1] (fr [(0, A.p (V.c (W.ptr 0 0))), (1, nI b), (5, nI (f:Int)), (6, nI (IntKind.i64.wrap (d - (1:Int))))]) q1) ∧ (decide (bAt s i = (93:Int)) = false → AtLoop sPiL (Says1 (lsI w) [prL s (J:Int) g rs.length left, obLL rs]) [0, 0, 1, 1, 1, 0, 1] q5 q1)))))) ∧ (decide (q10 < q11) = false → ((0:Int) ≤ (f:Int) ∧ (f:Int) ≤ q10 ∧ q10 ≤ q11) ∧ (ByteArray.mk #[(32 : UInt8)] = spS ∧ (s.extract f i).size ≤ (1000000:Nat)) ∧ (q3 = true → False) ∧ (q3 = false → (q4 = true → False) ∧ (q4 = false → (q2.size ≤ (20000:Nat) ∧ RG g ∧ q14.isSome = true) ∧ ((!q6) = true → False) ∧ ((!q6) = false → packV [V.c q8] = lsI w ∧ [Ob.mk 62 [Fd.c (W.str s), Fd.c q13, Fd.c q15, Fd.c q7, Fd.c q12], Ob.mk 40 [Fd.a 0 (D.int .i64).sl rs]] = [prL s (J:Int) g rs.length left, obLL rs]))))) (by kernel_rfl) ?_
   try simp only [Nat.zero_add, Bool.not_eq_true', Bool.not_eq_false', decide_eq_true_eq, decide_eq_false_iff_not, Int.not_lt]
   have hlen := bytesI_length s
   have go : ∀ d' : Int, i < s.size → ¬ stopC (bAt s i) d → nextD (bAt s i) d = d' → d - 1 ≤ d' → d' ≤ d + 1 → AtLoop sPiL (Says1 (lsI w) [prL s (J) (g) rs.length (left), obLL rs]) [0, 0, 1, 1, 1, 0, 1] (fr [(0, pt0), (1, nI b), (5, nI f), (6, nI d')]) (.ofList [prL s ((i + 1 : Nat)) (g) rs.length (left), obLL rs]) := by
    intro d' hlt hst hn hd1 hd2
    rw [bAt_get] at hst hn
    rw [scan_go (by omega) hst, hn] at hJ
    cases m with
    | zero => omega
    | succ m => exact pieceL_loop s hs g left b rs  hr hg f J w hw m (i + 1) d' (by omega) (by omega) (by omega) (by omega) hJ
   refine ⟨fun hlt => ⟨by omega, fun h44 => ⟨fun hd0 => ?_, fun hd0 => ?_⟩, fun h44 => ⟨fun h61 => ⟨fun hd0 => ?_, fun hd0 => ?_⟩, fun h61 => ⟨fun h62 => ⟨fun hd0 => ?_, fun hd0 => ?_⟩, fun h62 => ⟨fun h91 => ?_, fun h91 => ⟨fun h93 => ?_, fun h93 => ?_⟩⟩⟩⟩⟩, fun hge => ?_⟩
   · have hJi : i = J := by rw [← hJ, scan_stop (by omega) (by rw [← bAt_get]; exact ⟨.inl h44, hd0⟩)]
     subst hJi
     obtain ⟨hT2, hT3, hP⟩ := piece_fact s f i g w hf hi hs hw
     rw [hP]
     exact ⟨by omega, ⟨rfl, by rw [size_ext s hi]; omega⟩, fun h => absurd h hT2, fun _ => ⟨fun h => by omega, fun _ => ⟨⟨hT3, hg, rfl⟩, fun h => absurd trivial h, fun _ => ⟨rfl, rfl⟩⟩⟩⟩
   · rw [wrap64 (n := (i : Int) + 1) (by omega) (by omega)]
     exact go d (by omega) (fun h => hd0 h.2) (by unfold nextD; rw [if_pos (.inl h44)]) (by omega) (by omega)
   · have hJi : i = J := by rw [← hJ, scan_stop (by omega) (by rw [← bAt_get]; exact ⟨.inr (.inl h61), hd0⟩)]
     subst hJi
     obtain ⟨hT2, hT3, hP⟩ := piece_fact s f i g w hf hi hs hw
     rw [hP]
     exact ⟨by omega, ⟨rfl, by rw [size_ext s hi]; omega⟩, fun h => absurd h hT2, fun _ => ⟨fun h => by omega, fun _ => ⟨⟨hT3, hg, rfl⟩, fun h => absurd trivial h, fun _ => ⟨rfl, rfl⟩⟩⟩⟩
   · rw [wrap64 (n := (i : Int) + 1) (by omega) (by omega)]
     exact go d (by omega) (fun h => hd0 h.2) (by unfold nextD; rw [if_pos (.inr (.inl h61))]) (by omega) (by omega)
   · have hJi : i = J := by rw [← hJ, scan_stop (by omega) (by rw [← bAt_get]; exact ⟨.inr (.inr h62), hd0⟩)]
     subst hJi
     obtain ⟨hT2, hT3, hP⟩ := piece_fact s f i g w hf hi hs hw
     rw [hP]
     exact ⟨by omega, ⟨rfl, by rw [size_ext s hi]; omega⟩, fun h => absurd h hT2, fun _ => ⟨fun h => by omega, fun _ => ⟨⟨hT3, hg, rfl⟩, fun h => absurd trivial h, fun _ => ⟨rfl, rfl⟩⟩⟩⟩
   · rw [wrap64 (n := (i : Int) + 1) (by omega) (by omega)]
     exact go d (by omega) (fun h => hd0 h.2) (by unfold nextD; rw [if_pos (.inr (.inr h62))]) (by omega) (by omega)
   · rw [wrap64 (n := d + 1) (by omega) (by omega), wrap64 (n := (i : Int) + 1) (by omega) (by omega)]
     exact go (d + 1) (by omega) (fun h => by have := h.1; omega) (by unfold nextD; rw [if_neg (by omega), if_pos h91]) (by omega) (by omega)
   · rw [wrap64 (n := d - 1) (by omega) (by omega), wrap64 (n := (i : Int) + 1) (by omega) (by omega)]
     exact go (d - 1) (by omega) (fun h => by have := h.1; omega) (by unfold nextD; rw [if_neg (by omega), if_neg h91, if_pos h93]) (by omega) (by omega)
   · rw [wrap64 (n := (i : Int) + 1) (by omega) (by omega)]
     exact go d (by omega) (fun h => by have := h.1; omega) (by unfold nextD; rw [if_neg (by omega), if_neg h91, if_neg h93]) (by omega) (by omega)
   · have hJi : i = J := by rw [← hJ, scan_end d (by omega)]
     subst hJi
     obtain ⟨hT2, hT3, hP⟩ := piece_fact s f i g w hf hi hs hw
     rw [hP]
     exact ⟨by omega, ⟨rfl, by rw [size_ext s hi]; omega⟩, fun h => absurd h hT2, fun _ => ⟨fun h => by omega, fun _ => ⟨⟨hT3, hg, rfl⟩, fun h => absurd trivial h, fun _ => ⟨rfl, rfl⟩⟩⟩⟩
theorem pieceL_sem (s : ByteArray) (hs : s.size ≤ 20000) (g left b i : Int) (rs : List (List Int)) (hr : rs.length < 100) (hg : RG g) (h : At s i) (w : List Int) (j : Nat) (hw : pieceP g (bytesI s) i.toNat = some (w, j)) : FnSem Tryz.prog 53 [pt0, nI b] [prL s (i) (g) rs.length (left), obLL rs] (lsI w) [prL s (j) (g) rs.length (left), obLL rs] := by
 refine fnSem_at (live := liPi) gPi_ok Tryz.func53 (by kernel_rfl) (keep := 2) rfl (by kernel_rfl) 100 ?_
 refine of_eq (q := rs.length = rs.length ∧ At s i ∧ AtLoop (mkSite Tryz.prog gPi Tryz.f53 (2:Nat) liPi) (Says1 (lsI w) [prL s (j:Int) g rs.length left, obLL rs]) [0, 0, 1, 1, 1, 0, 1] (fr [(0, A.p (V.c (W.ptr 0 0))), (1, nI b), (5, nI (↑(skipP (bytesI s) i.toNat) : Int)), (6, nI (0))]) (Sto.ofList [Ob.mk 62 [Fd.c (W.str s), Fd.c (W.int .i64 (↑(skipP (bytesI s) i.toNat) : Int)), Fd.c (W.int .i64 g), Fd.c (W.sl 1 0 rs.length 1), Fd.c (W.int .i64 left)], Ob.mk 40 [Fd.a 0 (D.int .i64).sl rs]])) (by kernel_rfl) ?_
 try simp only [true_and]
 unfold pieceP at hw
 split at hw
 · rename_i w' hp
   cases hw
   obtain ⟨⟨h1, h2, h3⟩, _⟩ := skip_at h
   exact ⟨h, pieceL_loop s hs g left b rs  hr hg _ _ w hp _ _ 0 rfl (Nat.le_refl _) (by omega) (by omega) rfl⟩
 · cases hw
def cPiece : Con := conPr [false] fun rest s i g rs _ => match rest with
 | [.p (.c (.int .i64 _))] => some (.p (s.size ≤ 20000 ∧ rs.length < 100 ∧ RG g ∧ At s i ∧ (pieceP g (bytesI s) i.toNat).isSome = true), lsI (gv (pieceP g (bytesI s) i.toNat)).1, ((gv (pieceP g (bytesI s) i.toNat)).2 : Int))
 | _ => none
theorem cPiece_ok : ConOk Tryz.prog 53 cPiece := conPr_ok (by kernel_rfl)
 (fun rest s i g left c r j e h => by
  split at e
  · cases e
    obtain ⟨h1, h2, h3, h4, h5⟩ := h
    obtain ⟨⟨w, j⟩, e⟩ := Option.isSome_iff_exists.1 h5
    rw [e]
    exact pieceN_sem s h1 g left _ i h2 h3 h4 w j e
  · cases e)
 (fun rest s i g rs left c r j e h => by
  split at e
  · cases e
    obtain ⟨h1, h2, h3, h4, h5⟩ := h
    obtain ⟨⟨w, j⟩, e⟩ := Option.isSome_iff_exists.1 h5
    rw [e]
    exact pieceL_sem s h1 g left _ i rs h2 h3 h4 w j e
  · cases e)
end Go.Proofs.YtlcpgjjfjgbocaaGreatDoor
