/- Reading words: the reader's steps in the program. -/
import Derived.Test.YtlcpgjjfjgbocaaGreatDoorRead1
import Derived.Test.YtlcpgjjfjgbocaaGreatDoorLoom4
import Derived.Test.YtlcpgjjfjgbocaaGreatDoorWord3
import Derived.Test.YtlcpgjjfjgbocaaGreatDoorRec1
namespace Go.Proofs.YtlcpgjjfjgbocaaGreatDoor
open Go.Loom Go.Words
set_option maxRecDepth 100000
theorem bytesI_length (s : ByteArray) : (bytesI s).length = s.size := by simp [bytesI]
theorem bAt_get (s : ByteArray) (i : Nat) : bAt s i = (bytesI s).getD i 0 := by
 unfold bAt bytesI
 rw [List.getD_eq_getElem?_getD, List.getD_eq_getElem?_getD, List.getElem?_map]
 cases s.data.toList[i]? <;> rfl
theorem byte_get (s : ByteArray) (i : Nat) : 0 ≤ (bytesI s).getD i 0 ∧ (bytesI s).getD i 0 < 256 := by
 rw [← bAt_get]
 unfold bAt
 have := (s.data.toList.getD i 0).toNat_lt
 omega
theorem wrap8 {n : Int} (h1 : 0 ≤ n) (h2 : n ≤ 255) : IntKind.u8.wrap n = n := IntWalk.u8_in n ⟨h1, h2⟩
abbrev rdO (s : ByteArray) (i o g : Int) : Ob := ⟨140, [.c (.str s), .c (.int .i64 i), .c (.int .i64 o), .c (.int .i64 g)]⟩
def asRd : Ob → Option (ByteArray × Int × Int × Int)
 | ⟨ty, [.c (.str s), .c (.int k i), .c (.int k' o), .c (.int k'' g)]⟩ => bif Nat.beq ty 140 then (if k = .i64 ∧ k' = .i64 ∧ k'' = .i64 then some (s, i, o, g) else none) else none
 | _ => none
theorem asRd_eq {ob : Ob} {s : ByteArray} {i o g : Int} (e : asRd ob = some (s, i, o, g)) : ob = rdO s i o g := by
 unfold asRd at e
 split at e
 · obtain ⟨hb, e⟩ := Mill.bif_some e
   rw [Nat.beq_eq] at hb
   subst hb
   split at e
   · rename_i h
     obtain ⟨rfl, rfl, rfl⟩ := h
     cases e
     rfl
   · cases e
 · cases e
abbrev pt0 : A := .p (.c (.ptr 0 0))
abbrev u8A (c : Int) : A := .p (.c (.int .u8 c))
def conR (g : ByteArray → Int → Int → Int → Cd × A × List Ob) : Con := { refs := [true], f := fun args objs => match args, objs with
 | [.p (.c (.ptr a b))], [o] => bif Nat.beq a 0 && Nat.beq b 0 then (match asRd o with | some (s, i, o, n) => some (g s i o n) | none => none) else none
 | _, _ => none }
def conRc (g : Int → ByteArray → Int → Int → Int → Cd × A × List Ob) : Con := { refs := [true, false], f := fun args objs => match args, objs with
 | [.p (.c (.ptr a b)), .p (.c (.int .u8 c))], [o] => bif Nat.beq a 0 && Nat.beq b 0 then (match asRd o with | some (s, i, o, n) => some (g c s i o n) | none => none) else none
 | _, _ => none }
theorem conR_ok {f : FuncId} {g : ByteArray → Int → Int → Int → Cd × A × List Ob} (he : enters Tryz.prog f = true) (h : ∀ s i o n, (g s i o n).1 → FnSem Tryz.prog f [pt0] [rdO s i o n] (g s i o n).2.1 (g s i o n).2.2) : ConOk Tryz.prog f (conR g) := by
 refine ⟨he, fun args objs c r objs' e hc => ?_⟩
 simp only [conR] at e
 split at e
 · obtain ⟨hb, e⟩ := Mill.bif_some e
   simp only [Bool.and_eq_true, Nat.beq_eq] at hb
   obtain ⟨rfl, rfl⟩ := hb
   split at e
   · rename_i s i o n hr
     rw [asRd_eq hr]
     have := h s i o n
     injection e with e
     rw [e] at this
     exact this hc
   · cases e
 · cases e
theorem conRc_ok {f : FuncId} {g : Int → ByteArray → Int → Int → Int → Cd × A × List Ob} (he : enters Tryz.prog f = true) (h : ∀ c s i o n, (g c s i o n).1 → FnSem Tryz.prog f [pt0, u8A c] [rdO s i o n] (g c s i o n).2.1 (g c s i o n).2.2) : ConOk Tryz.prog f (conRc g) := by
 refine ⟨he, fun args objs c r objs' e hc => ?_⟩
 simp only [conRc] at e
 split at e
 · rename_i c _
   obtain ⟨hb, e⟩ := Mill.bif_some e
   simp only [Bool.and_eq_true, Nat.beq_eq] at hb
   obtain ⟨rfl, rfl⟩ := hb
   split at e
   · rename_i s i o n hr
     rw [asRd_eq hr]
     have := h c s i o n
     injection e with e
     rw [e] at this
     exact this hc
   · cases e
 · cases e
def At (s : ByteArray) (i : Int) : Prop := s.size ≤ 1000000 ∧ 0 ≤ i ∧ i ≤ s.size
abbrev seesB (c : Int) (s : ByteArray) (i : Int) : A := bB (seesP (bytesI s) c i.toNat)
theorem toNat_cast {i : Int} (h : 0 ≤ i) : ((i.toNat : Nat) : Int) = i := by omega
noncomputable def sBl : Site := mkSite Tryz.prog [] Tryz.f96 1 [([0], [0])]
theorem blanks_loop (s : ByteArray) (hs : s.size ≤ 1000000) (o n : Int) : ∀ (m i : Nat), m = s.size - i → i ≤ s.size →
 AtLoop sBl (Says1 (.tup []) [rdO s (skipP (bytesI s) i) o n]) [0] (fr [(0, pt0)]) (.ofList [⟨140, [.c (.str s), .c (.int .i64 i), .c (.int .i64 o), .c (.int .i64 n)]⟩])
 | m, i, hm, hi => by
   refine atLoop_at gamOk_nil (by kernel_rfl) 100 ?_
   refine of_eq (q := let q1 := decide ((i:Int) < (s.size:Int)); (q1 = true → q1 = true) ∧ (q1 = true → q1 = true) ∧ (q1 = true → q1 = true) ∧ (q1 = true → q1 = true) ∧ (q1 = true → q1 = true) ∧ (q1 = true → q1 = true) ∧ (q1 = true → q1 = true) ∧ (q1 = true → q1 = true) ∧ (q1 = true → (0:Int) ≤ (i:Int) ∧ (i:Int) < (s.size:Int)) ∧ (q1 = true → q1 = true) ∧ (q1 = true → q1 = true) ∧ ((bif q1 then decide (bAt s i = (32:Int)) else false) = true → AtLoop sBl (Says1 (A.tup []) [rdO s (↑(skipP (bytesI s) i) : Int) o n]) [0] (fr [(0, A.p (V.c (W.ptr 0 0)))]) (Sto.ofList [Ob.mk 140 [Fd.c (W.str s), Fd.c (W.int .i64 (IntKind.i64.wrap ((i:Int) + (1:Int)))), Fd.c (W.int .i64 o), Fd.c (W.int .i64 n)]])) ∧ ((bif q1 then decide (bAt s i = (32:Int)) else false) = false → packV [] = A.tup [] ∧ [Ob.mk 140 [Fd.c (W.str s), Fd.c (W.int .i64 (i:Int)), Fd.c (W.int .i64 o), Fd.c (W.int .i64 n)]] = [rdO s (↑(skipP (bytesI s) i) : Int) o n])) (by kernel_rfl) ?_
   try simp only [imp_self, true_and, Bool.cond_false_right, Bool.and_eq_true, Bool.and_eq_false_imp, decide_eq_true_eq, decide_eq_false_iff_not]
   simp only [bAt_get]
   have hl := bytesI_length s
   refine ⟨fun h => by omega, fun h => ?_, fun h => ?_⟩
   · rw [wrap64 (by omega) (by omega), skipP_yes (by omega)]
     cases m with
     | zero => omega
     | succ m => exact blanks_loop s hs o n m (i + 1) (by omega) (by omega)
   · rw [skipP_no (by omega)]
     exact ⟨rfl, rfl⟩
theorem blanks_sem (s : ByteArray) (i : Int) (h : At s i) (o n : Int) : FnSem Tryz.prog 96 [pt0] [rdO s i o n] (.tup []) [rdO s (skipP (bytesI s) i.toNat) o n] := by
 obtain ⟨h1, h2, h3⟩ := h
 refine fnSem_at (live := [([0], [0])]) gamOk_nil Tryz.func96 (by kernel_rfl) (keep := 1) rfl (by kernel_rfl) 100 ?_
 refine of_eq (q := AtLoop (mkSite Tryz.prog [] Tryz.f96 (1:Nat) [([0], [0])]) (Says1 (A.tup []) [rdO s (↑(skipP (bytesI s) i.toNat) : Int) o n]) [0] (fr [(0, A.p (V.c (W.ptr 0 0)))]) (Sto.ofList [Ob.mk 140 [Fd.c (W.str s), Fd.c (W.int .i64 i), Fd.c (W.int .i64 o), Fd.c (W.int .i64 n)]])) (by kernel_rfl) ?_
 have := blanks_loop s h1 o n _ i.toNat rfl (by omega)
 rw [toNat_cast h2] at this
 exact this
def cBlanks : Con := conR fun s i o n => (.p (At s i), .tup [], [rdO s (skipP (bytesI s) i.toNat) o n])
theorem cBlanks_ok : ConOk Tryz.prog 96 cBlanks := conR_ok (by kernel_rfl) fun s i o n h => blanks_sem s i h o n
theorem skip_at {s : ByteArray} {i : Int} (h : At s i) : At s (skipP (bytesI s) i.toNat) ∧ i.toNat ≤ skipP (bytesI s) i.toNat := by
 obtain ⟨h1, h2, h3⟩ := h
 have := skipP_le (bytesI s) _ i.toNat rfl (by rw [bytesI_length]; omega)
 rw [bytesI_length] at this
 exact ⟨⟨h1, by omega, by omega⟩, this.1⟩
noncomputable def gSe : Gam := [(96, cBlanks)]
theorem gSe_ok : GamOk Tryz.prog gSe := gamOk_cons cBlanks_ok gamOk_nil
theorem sees_sem (c : Int) (s : ByteArray) (i o n : Int) (h : At s i) : FnSem Tryz.prog 134 [pt0, u8A c] [rdO s i o n] (seesB c s i) [rdO s (skipP (bytesI s) i.toNat) o n] := by
 refine fnSem_at (live := []) gSe_ok Tryz.func134 (by kernel_rfl) (keep := 1) rfl (by kernel_rfl) 100 ?_
 refine of_eq (q := let q2 := (↑(skipP (bytesI s) i.toNat) : Int); let q1 := decide (q2 < (s.size:Int)); At s i ∧ (q1 = true → q1 = true) ∧ (q1 = true → q1 = true) ∧ (q1 = true → q1 = true) ∧ (q1 = true → q1 = true) ∧ (q1 = true → q1 = true) ∧ (q1 = true → q1 = true) ∧ (q1 = true → q1 = true) ∧ (q1 = true → q1 = true) ∧ (q1 = true → (0:Int) ≤ q2 ∧ q2 < (s.size:Int)) ∧ (q1 = true → q1 = true) ∧ (q1 = true → q1 = true) ∧ (q1 = true → q1 = true) ∧ packV [V.c (W.bool (bif q1 then decide (bAt s (skipP (bytesI s) i.toNat) = c) else false))] = seesB c s i ∧ [Ob.mk 140 [Fd.c (W.str s), Fd.c (W.int .i64 q2), Fd.c (W.int .i64 o), Fd.c (W.int .i64 n)]] = [rdO s q2 o n]) (by kernel_rfl) ?_
 try simp only [imp_self, true_and, and_true, Bool.cond_false_right, decide_eq_true_eq]
 obtain ⟨⟨h1, h2, h3⟩, _⟩ := skip_at h
 refine ⟨h, fun h4 => by omega, ?_⟩
 show A.p (V.c (W.bool _)) = A.p (V.c (W.bool _))
 congr 3
 unfold seesP
 rw [bytesI_length, bAt_get, Bool.eq_iff_iff]
 simp only [Bool.and_eq_true, decide_eq_true_eq]
 omega
def cSees : Con := conRc fun c s i o n => (.p (At s i), seesB c s i, [rdO s (skipP (bytesI s) i.toNat) o n])
theorem cSees_ok : ConOk Tryz.prog 134 cSees := conRc_ok (by kernel_rfl) fun c s i o n h => sees_sem c s i o n h
noncomputable def gTk : Gam := [(134, cSees)]
theorem gTk_ok : GamOk Tryz.prog gTk := gamOk_cons cSees_ok gamOk_nil
theorem seesP_lt {l : List Int} {c : Int} {i : Nat} (h : seesP l c i = true) : skipP l i < l.length ∧ l.getD (skipP l i) 0 = c := by
 unfold seesP at h
 exact of_decide_eq_true h
theorem take_at (c : Int) {s : ByteArray} {i : Int} (h : At s i) : At s (takeP (bytesI s) c i.toNat) := by
 obtain ⟨⟨h1, h2, h3⟩, _⟩ := skip_at h
 unfold takeP
 split
 · rename_i h4
   have := (seesP_lt h4).1
   rw [bytesI_length] at this
   exact ⟨h1, by omega, by omega⟩
 · exact ⟨h1, h2, h3⟩
theorem takes_sem (c : Int) (s : ByteArray) (i o n : Int) (h : At s i) : FnSem Tryz.prog 119 [pt0, u8A c] [rdO s i o n] (seesB c s i) [rdO s (takeP (bytesI s) c i.toNat) o n] := by
 refine fnSem_at (live := []) gTk_ok Tryz.func119 (by kernel_rfl) (keep := 1) rfl (by kernel_rfl) 100 ?_
 refine of_eq (q := At s i ∧ (seesP (bytesI s) c i.toNat = true → packV [V.c (W.bool (seesP (bytesI s) c i.toNat))] = seesB c s i ∧ [Ob.mk 140 [Fd.c (W.str s), Fd.c (W.int .i64 (IntKind.i64.wrap ((↑(skipP (bytesI s) i.toNat) : Int) + (1:Int)))), Fd.c (W.int .i64 o), Fd.c (W.int .i64 n)]] = [rdO s (↑(takeP (bytesI s) c i.toNat) : Int) o n]) ∧ (seesP (bytesI s) c i.toNat = false → packV [V.c (W.bool (seesP (bytesI s) c i.toNat))] = seesB c s i ∧ [Ob.mk 140 [Fd.c (W.str s), Fd.c (W.int .i64 (↑(skipP (bytesI s) i.toNat) : Int)), Fd.c (W.int .i64 o), Fd.c (W.int .i64 n)]] = [rdO s (↑(takeP (bytesI s) c i.toNat) : Int) o n])) (by kernel_rfl) ?_
 obtain ⟨⟨h1, h2, h3⟩, _⟩ := skip_at h
 have h5 := take_at c h
 unfold At at h5
 unfold takeP at h5 ⊢
 refine ⟨h, fun h6 => ⟨rfl, ?_⟩, fun h6 => ⟨rfl, ?_⟩⟩
 · rw [if_pos h6] at h5 ⊢
   rw [wrap64 (by omega) (by omega)]
   rfl
 · rw [if_neg (by rw [h6]; simp)]
def cTakes : Con := conRc fun c s i o n => (.p (At s i), seesB c s i, [rdO s (takeP (bytesI s) c i.toNat) o n])
theorem cTakes_ok : ConOk Tryz.prog 119 cTakes := conRc_ok (by kernel_rfl) fun c s i o n h => takes_sem c s i o n h
noncomputable def gWa : Gam := [(119, cTakes)]
theorem gWa_ok : GamOk Tryz.prog gWa := gamOk_cons cTakes_ok gamOk_nil
theorem wants_sem (c : Int) (s : ByteArray) (i o n : Int) (h : At s i) (hc : seesP (bytesI s) c i.toNat = true) : FnSem Tryz.prog 146 [pt0, u8A c] [rdO s i o n] (.tup []) [rdO s (takeP (bytesI s) c i.toNat) o n] := by
 refine fnSem_at (live := []) gWa_ok Tryz.func146 (by kernel_rfl) (keep := 1) rfl (by kernel_rfl) 100 ?_
 refine of_eq (q := At s i ∧ ((!seesP (bytesI s) c i.toNat) = true → False) ∧ ((!seesP (bytesI s) c i.toNat) = false → packV [] = A.tup [] ∧ [Ob.mk 140 [Fd.c (W.str s), Fd.c (W.int .i64 (↑(takeP (bytesI s) c i.toNat) : Int)), Fd.c (W.int .i64 o), Fd.c (W.int .i64 n)]] = [rdO s (↑(takeP (bytesI s) c i.toNat) : Int) o n])) (by kernel_rfl) ?_
 try simp only [and_true, Bool.not_eq_true', Bool.not_eq_false']
 exact ⟨h, (fun h1 => by rw [hc] at h1; cases h1), fun _ => rfl⟩
def cWants : Con := conRc fun c s i o n => (.p (At s i ∧ seesP (bytesI s) c i.toNat = true), .tup [], [rdO s (takeP (bytesI s) c i.toNat) o n])
theorem cWants_ok : ConOk Tryz.prog 146 cWants := conRc_ok (by kernel_rfl) fun c s i o n h => wants_sem c s i o n h.1 h.2
theorem fits_sem (w : List Int) (k : Int) (s : ByteArray) (i o n : Int) (h : w.length ≤ 4000) : FnSem Tryz.prog 117 [pt0, lsI w, nI k] [rdO s i o n] (lsI w) [rdO s i o n] := by
 refine fnSem_at (live := []) gamOk_nil Tryz.func117 (by kernel_rfl) (keep := 1) rfl (by kernel_rfl) 100 ?_
 refine of_eq (q := (decide ((4000:Int) < (w.length:Int)) = true → False) ∧ (decide ((4000:Int) < (w.length:Int)) = false → packV [V.c (W.rd (D.int .i64) w)] = lsI w ∧ [Ob.mk 140 [Fd.c (W.str s), Fd.c (W.int .i64 i), Fd.c (W.int .i64 o), Fd.c (W.int .i64 n)]] = [rdO s i o n])) (by kernel_rfl) ?_
 try simp only [and_true, decide_eq_true_eq, decide_eq_false_iff_not, Int.not_lt]
 exact ⟨fun h1 => by omega, fun _ => rfl⟩
theorem fitsO_sem (w : List Int) (m : Nat) (k : Int) (s : ByteArray) (i o n : Int) (h : m ≤ 4000 ∧ m ≤ w.length) : FnSem Tryz.prog 117 [pt0, slI 1 m, nI k] [rdO s i o n, obI w] (slI 1 m) [rdO s i o n, obI w] := by
 refine fnSem_at (live := []) gamOk_nil Tryz.func117 (by kernel_rfl) (keep := 2) rfl (by kernel_rfl) 100 ?_
 refine of_eq (q := (decide ((4000:Int) < (m:Int)) = true → False) ∧ (decide ((4000:Int) < (m:Int)) = false → packV [V.c (W.sl ((0:Nat) + (1:Nat)) (0:Nat) m (1:Nat))] = slI (1:Nat) m ∧ [Ob.mk 140 [Fd.c (W.str s), Fd.c (W.int .i64 i), Fd.c (W.int .i64 o), Fd.c (W.int .i64 n)], Ob.mk 3 [Fd.a 0 (D.int .i64) w]] = [rdO s i o n, obI w])) (by kernel_rfl) ?_
 try simp only [and_true, Nat.zero_add, decide_eq_true_eq, decide_eq_false_iff_not, Int.not_lt]
 exact ⟨fun h1 => by omega, fun _ => rfl⟩
def asI : Ob → Option (List Int)
 | ⟨ty, [.a k d l]⟩ => bif Nat.beq ty 3 && Nat.beq k 0 then (if h : d = .int .i64 then some (h ▸ l : List (D.int .i64).ty) else none) else none
 | _ => none
theorem asI_eq {o : Ob} {l : List Int} (e : asI o = some l) : o = obI l := by
 unfold asI at e
 split at e
 · obtain ⟨hb, e⟩ := Mill.bif_some e
   simp only [Bool.and_eq_true, Nat.beq_eq] at hb
   obtain ⟨rfl, rfl⟩ := hb
   split at e
   · rename_i h; subst h; cases e; rfl
   · cases e
 · cases e
def conFits : Con := { refs := [true, true, false], f := fun args objs => match args, objs with
 | [.p (.c (.ptr a b)), .p (.c (.rd (.int .i64) w)), .p (.c (.int .i64 _))], [o] => bif Nat.beq a 0 && Nat.beq b 0 then (match asRd o with | some (s, i, o, n) => some (.p (List.length (α := Int) w ≤ 4000), lsI w, [rdO s i o n]) | none => none) else none
 | [.p (.c (.ptr a b)), .p (.c (.sl x y m z)), .p (.c (.int .i64 _))], [o, o2] => bif Nat.beq a 0 && (Nat.beq b 0 && (Nat.beq x 1 && (Nat.beq y 0 && Nat.beq z 1))) then (match asRd o, asI o2 with | some (s, i, o, n), some w => some (.p (m ≤ 4000 ∧ m ≤ List.length (α := Int) w), slI 1 m, [rdO s i o n, obI w]) | _, _ => none) else none
 | _, _ => none }
theorem conFits_ok : ConOk Tryz.prog 117 conFits := by
 refine ⟨by kernel_rfl, fun args objs c r objs' e hc => ?_⟩
 simp only [conFits] at e
 split at e
 · obtain ⟨hb, e⟩ := Mill.bif_some e
   simp only [Bool.and_eq_true, Nat.beq_eq] at hb
   obtain ⟨rfl, rfl⟩ := hb
   split at e
   · rename_i s i o n hr
     rw [asRd_eq hr]
     cases e
     exact fits_sem _ _ s i o n hc
   · cases e
 · obtain ⟨hb, e⟩ := Mill.bif_some e
   simp only [Bool.and_eq_true, Nat.beq_eq] at hb
   obtain ⟨rfl, rfl, rfl, rfl, rfl⟩ := hb
   split at e
   · rename_i s i o n w hr hw
     rw [asRd_eq hr, asI_eq hw]
     cases e
     exact fitsO_sem _ _ _ s i o n hc
   · cases e
 · cases e
/-! ### Numbers -/
theorem num_snoc (l : List Int) (c : Int) : num (l ++ [c]) = num l * 10 + (c - 48) := by simp [num]
theorem num_range : ∀ (k : Nat) (l : List Int), l.length = k → k ≤ 4 → (∀ c ∈ l, dig c = true) → 0 ≤ num l ∧ num l < 10 ^ k
 | 0, l, hl, _, _ => by
   have := List.length_eq_zero_iff.1 hl
   subst this
   simp [num]
 | k + 1, l, hl, hk, hd => by
   obtain ⟨m, y, rfl⟩ : ∃ m y, l = m ++ [y] := by
    rcases snoc_of (v := l) with h | h
    · subst h; simp at hl
    · exact h
   have h1 := dig_range (hd y (by simp))
   have h2 := num_range k m (by simpa using hl) (by omega) fun c hc => hd c (by simp [hc])
   rw [num_snoc, Int.pow_succ]
   omega
theorem dig_at {s : ByteArray} (hd : ∀ c ∈ bytesI s, dig c = true) {i : Nat} (h : i < s.size) : 48 ≤ (bytesI s).getD i 0 ∧ (bytesI s).getD i 0 ≤ 57 := by
 refine dig_range (hd _ ?_)
 have hi : i < (bytesI s).length := by rw [bytesI_length]; exact h
 rw [List.getD_eq_getElem?_getD, List.getElem?_eq_getElem hi]
 exact List.getElem_mem hi
theorem num_small {s : ByteArray} (hd : ∀ c ∈ bytesI s, dig c = true) (hs : s.size ≤ 4) {i : Nat} (h : i ≤ s.size) : 0 ≤ num ((bytesI s).take i) ∧ num ((bytesI s).take i) < 10000 := by
 have hl := bytesI_length s
 have := num_range i ((bytesI s).take i) (by rw [List.length_take]; omega) (by omega) fun c hc => hd c (List.mem_of_mem_take hc)
 have h2 : (10 : Int) ^ i ≤ 10 ^ 4 := by
  have : i = 0 ∨ i = 1 ∨ i = 2 ∨ i = 3 ∨ i = 4 := by omega
  rcases this with rfl | rfl | rfl | rfl | rfl <;> decide
 omega
noncomputable def sAt : Site := mkSite Tryz.prog [] Tryz.f147 0 [([0, 1, 0, 1, 1, 1, 0, 1, 0, 1, 1], [5, 6, 47, 48, 49])]
theorem atoi_loop (s : ByteArray) (hd : ∀ c ∈ bytesI s, dig c = true) (hs : 1 ≤ s.size ∧ s.size ≤ 4) : ∀ (k i : Nat), k = s.size - i → i ≤ s.size →
 AtLoop sAt (Says1 (.tup [.c (.int .i64 (num (bytesI s))), .c .nilif]) []) [0, 1, 0, 1, 1, 1, 0, 1, 0, 1, 1] (fr [(5, .p (.c (.str s))), (6, nI (num ((bytesI s).take i))), (47, slI 0 s.size), (48, nI s.size), (49, nI i)]) (.ofList [⟨5, [.a 0 (.int .u8) (bytesI s)]⟩])
 | k, i, hk, hi => by
   refine atLoop_at gamOk_nil (by kernel_rfl) 100 ?_
   refine of_eq (q := let q0 := IntKind.i64.wrap; let q1 := ((bytesI s).getD ((0:Nat) + i) (0:Int) - (48:Int)); let q2 := (W.int .i64 (num (bytesI s))); (decide ((i:Int) < (s.size:Int)) = true → ((0:Int) ≤ (i:Int) ∧ (i:Int) < (s.size:Int)) ∧ (0:Nat) + i < (bytesI s).length ∧ (decide ((9:Int) < IntKind.u8.wrap q1) = true → False) ∧ (decide ((9:Int) < IntKind.u8.wrap q1) = false → AtLoop sAt (Says1 (A.tup [V.c q2, V.c W.nilif]) []) [0, 1, 0, 1, 1, 1, 0, 1, 0, 1, 1] (fr [(5, A.p (V.c (W.str s))), (6, nI (q0 (q0 (num (List.take i (bytesI s)) * (10:Int)) + q0 (IntKind.u8.wrap q1)))), (47, A.p (V.c (W.sl 0 0 s.size 1))), (48, nI (s.size:Int)), (49, nI (q0 ((i:Int) + (1:Int))))]) (Sto.ofList [Ob.mk 5 [Fd.a 0 (D.int .u8) (bytesI s)]]))) ∧ (decide ((i:Int) < (s.size:Int)) = false → ((0:Int) ≤ (0:Int) ∧ (0:Int) < (s.size:Int)) ∧ (decide (bAt s (0:Nat) = (45:Int)) = true → packV [V.c (W.int .i64 (q0 ((0:Int) - num (List.take i (bytesI s))))), V.c W.nilif] = A.tup [V.c q2, V.c W.nilif] ∧ ([] : List Ob) = []) ∧ (decide (bAt s (0:Nat) = (45:Int)) = false → packV [V.c (W.int .i64 (num (List.take i (bytesI s)))), V.c W.nilif] = A.tup [V.c q2, V.c W.nilif] ∧ ([] : List Ob) = []))) (by kernel_rfl) ?_
   try simp only [true_and, and_true, Nat.zero_add, decide_eq_true_eq, decide_eq_false_iff_not, Int.not_lt, Int.le_refl]
   have hl := bytesI_length s
   have h0 := dig_at hd (i := 0) (by omega)
   rw [bAt_get]
   refine ⟨fun h => ?_, fun h => ⟨by omega, fun h1 => by omega, fun _ => ?_⟩⟩
   · have h1 := dig_at hd (i := i) (by omega)
     have h2 := num_small hd hs.2 hi
     rw [wrap8 (by omega) (by omega)]
     refine ⟨by omega, by omega, fun h3 => by omega, fun _ => ?_⟩
     rw [wrap64 (n := (bytesI s).getD i 0 - 48) (by omega) (by omega), wrap64 (n := num (List.take i (bytesI s)) * 10) (by omega) (by omega), wrap64 (n := num (List.take i (bytesI s)) * 10 + _) (by omega) (by omega), wrap64 (n := (i : Int) + 1) (by omega) (by omega), ← num_snoc, ← take_snoc (by omega)]
     cases k with
     | zero => omega
     | succ k => exact atoi_loop s hd hs k (i + 1) (by omega) (by omega)
   · rw [List.take_of_length_le (by omega)]; rfl
theorem atoi_sem (s : ByteArray) (hd : ∀ c ∈ bytesI s, dig c = true) (hs : 1 ≤ s.size ∧ s.size ≤ 4) : FnSem Tryz.prog 147 [.p (.c (.str s))] [] (.tup [.c (.int .i64 (num (bytesI s))), .c .nilif]) [] := by
 refine fnSem_at (live := [([0, 1, 0, 1, 1, 1, 0, 1, 0, 1, 1], [5, 6, 47, 48, 49])]) gamOk_nil Tryz.func147 (by kernel_rfl) (keep := 0) rfl (by kernel_rfl) 100 ?_
 refine of_eq (q := let q1 := decide (bAt s (0:Nat) = (45:Int)); let q3 := (s.extract (1:Nat) s.size); let q4 := (s.size:Int); let q5 := ([0, 1, 0, 1, 1, 1, 0, 1, 0, 1, 1], [5, 6, 47, 48, 49]); let q2 := decide ((0:Int) < q4); (q2 = true → q2 = true) ∧ (q2 = true → q2 = true) ∧ ((bif q2 then decide (q4 < (19:Int)) else false) = true → ((0:Int) ≤ (0:Int) ∧ (0:Int) < q4) ∧ (q1 = false → q1 = false) ∧ (q1 = false → (0:Int) ≤ (0:Int) ∧ (0:Int) < q4) ∧ (q1 = false → q1 = false) ∧ (q1 = false → q1 = false) ∧ ((bif q1 then true else decide (bAt s (0:Nat) = (43:Int))) = true → ((0:Int) ≤ (1:Int) ∧ (1:Int) ≤ q4 ∧ q4 ≤ q4) ∧ (decide ((↑q3.size : Int) < (1:Int)) = true → False) ∧ (decide ((↑q3.size : Int) < (1:Int)) = false → AtLoop (mkSite Tryz.prog [] Tryz.f147 (0:Nat) [q5]) (Says1 (A.tup [V.c (W.int .i64 (num (bytesI s))), V.c W.nilif]) []) [0, 1, 0, 1, 1, 1, 0, 1, 0, 1, 1] (fr [(5, A.p (V.c (W.str s))), (6, nI (0)), (47, A.p (V.c (W.sl 0 0 q3.size (1:Nat)))), (48, nI (↑q3.size : Int)), (49, nI (0))]) (Sto.ofList [Ob.mk 5 [Fd.a 0 (D.int .u8) (bytesI q3)]]))) ∧ ((bif q1 then true else decide (bAt s (0:Nat) = (43:Int))) = false → AtLoop (mkSite Tryz.prog [] Tryz.f147 (0:Nat) [q5]) (Says1 (A.tup [V.c (W.int .i64 (num (bytesI s))), V.c W.nilif]) []) [0, 1, 0, 1, 1, 1, 0, 1, 0, 1, 1] (fr [(5, A.p (V.c (W.str s))), (6, nI (0)), (47, A.p (V.c (W.sl 0 0 s.size 1))), (48, nI q4), (49, nI (0))]) (Sto.ofList [Ob.mk 5 [Fd.a 0 (D.int .u8) (bytesI s)]]))) ∧ ((bif q2 then decide (q4 < (19:Int)) else false) = false → False)) (by kernel_rfl) ?_
 try simp only [imp_self, true_and, and_true, Bool.cond_true_left, Bool.cond_false_right, Bool.or_eq_true, Bool.or_eq_false_iff, Bool.and_eq_true, Bool.and_eq_false_imp, decide_eq_true_eq, decide_eq_false_iff_not, Int.not_lt, Int.le_refl]
 have h0 := dig_at hd (i := 0) (by omega)
 rw [bAt_get]
 refine ⟨fun _ => ⟨by omega, fun _ => by omega, fun h => by omega, fun _ => ?_⟩, fun h => by omega⟩
 have := atoi_loop s hd hs s.size 0 (by omega) (by omega)
 exact this
abbrev okS (s : ByteArray) : Prop := (∀ c ∈ bytesI s, dig c = true) ∧ 1 ≤ s.size ∧ s.size ≤ 4
def cAtoi1 : Con := con1 .str fun s => (.p (okS s), .tup [.c (.int .i64 (num (bytesI s))), .c .nilif], [])
theorem cAtoi1_ok : ConOk Tryz.prog 147 cAtoi1 := con1_ok (by kernel_rfl) fun s h => atoi_sem s h.1 h.2
noncomputable def gAto : Gam := [(147, cAtoi1)]
theorem gAto_ok : GamOk Tryz.prog gAto := gamOk_cons cAtoi1_ok gamOk_nil
theorem atoi2_sem (s : ByteArray) (h : okS s) : FnSem Tryz.prog 144 [.p (.c (.str s))] [] (.tup [.c (.int .i64 (num (bytesI s))), .c .nilif]) [] := by
 refine fnSem_at (live := []) gAto_ok Tryz.func144 (by kernel_rfl) (keep := 0) rfl (by kernel_rfl) 100 ?_
 refine of_eq (q := okS s ∧ ((!true) = true → False) ∧ ((!true) = false → packV [V.c (W.int .i64 (num (bytesI s))), V.c W.nilif] = A.tup [V.c (W.int .i64 (num (bytesI s))), V.c W.nilif] ∧ ([] : List Ob) = [])) (by kernel_rfl) ?_
 try simp only [and_true, Bool.not_eq_true', Bool.not_eq_false']
 exact ⟨h, by simp, fun _ => rfl⟩
def cAtoi : Con := con1 .str fun s => (.p (okS s), .tup [.c (.int .i64 (num (bytesI s))), .c .nilif], [])
theorem cAtoi_ok : ConOk Tryz.prog 144 cAtoi := con1_ok (by kernel_rfl) fun s h => atoi2_sem s h
noncomputable def gEx : Gam := [(144, cAtoi)]
theorem gEx_ok : GamOk Tryz.prog gEx := gamOk_cons cAtoi_ok gamOk_nil
theorem digP_all (l : List Int) : ∀ (m i : Nat), m = l.length - i → ∀ k, i ≤ k → k < digP l i → dig (l.getD k 0) = true
 | m, i, hm, k, hk, hk2 => by
   by_cases h : i < l.length ∧ dig (l.getD i 0) = true
   · rw [digP_yes h] at hk2
     rcases Nat.eq_or_lt_of_le hk with rfl | h3
     · exact h.2
     · cases m with
       | zero => omega
       | succ m => exact digP_all l m (i + 1) (by omega) k (by omega) hk2
   · rw [digP_no h] at hk2; omega
noncomputable def sEx : Site := mkSite Tryz.prog gEx Tryz.f133 1 [([0, 0, 1, 1], [0, 3])]
theorem exp_loop (s : ByteArray) (hs : s.size ≤ 1000000) (o n : Int) (f : Nat) (hok : expOk (bytesI s) f = true) : ∀ (m i : Nat), m = s.size - i → i ≤ s.size → f ≤ i → digP (bytesI s) i = digP (bytesI s) f →
 AtLoop sEx (Says1 (nI (expV (bytesI s) f)) [rdO s (digP (bytesI s) f) o n]) [0, 0, 1, 1] (fr [(0, pt0), (3, nI f)]) (.ofList [⟨140, [.c (.str s), .c (.int .i64 i), .c (.int .i64 o), .c (.int .i64 n)]⟩])
 | m, i, hm, hi, hf, hj => by
   refine atLoop_at gEx_ok (by kernel_rfl) 100 ?_
   refine of_eq (q := let q1 := (↑(s.extract f i).size : Int); let q2 := decide ((i:Int) < (s.size:Int)); let q3 := decide ((48:Int) ≤ bAt s i); let q4 := decide (q1 < (1:Int)); let q5 := decide ((4:Int) < q1); let q6 := decide ((1:Int) < q1); (q2 = true → q2 = true) ∧ (q2 = true → q2 = true) ∧ (q2 = true → q2 = true) ∧ (q2 = true → q2 = true) ∧ (q2 = true → q2 = true) ∧ (q2 = true → q2 = true) ∧ (q2 = true → q2 = true) ∧ (q2 = true → q2 = true) ∧ (q2 = true → (0:Int) ≤ (i:Int) ∧ (i:Int) < (s.size:Int)) ∧ (q2 = true → q2 = true) ∧ (q2 = true → q2 = true) ∧ ((bif q2 then q3 else false) = true → (bif q2 then q3 else false) = true) ∧ ((bif q2 then q3 else false) = true → (bif q2 then q3 else false) = true) ∧ ((bif q2 then q3 else false) = true → (bif q2 then q3 else false) = true) ∧ ((bif q2 then q3 else false) = true → (bif q2 then q3 else false) = true) ∧ ((bif q2 then q3 else false) = true → (bif q2 then q3 else false) = true) ∧ ((bif q2 then q3 else false) = true → (bif q2 then q3 else false) = true) ∧ ((bif q2 then q3 else false) = true → (bif q2 then q3 else false) = true) ∧ ((bif q2 then q3 else false) = true → (bif q2 then q3 else false) = true) ∧ ((bif q2 then q3 else false) = true → (0:Int) ≤ (i:Int) ∧ (i:Int) < (s.size:Int)) ∧ ((bif q2 then q3 else false) = true → (bif q2 then q3 else false) = true) ∧ ((bif q2 then q3 else false) = true → (bif q2 then q3 else false) = true) ∧ ((bif bif q2 then q3 else false then decide (bAt s i ≤ (57:Int)) else false) = true → AtLoop sEx (Says1 (nI (expV (bytesI s) f)) [rdO s (↑(digP (bytesI s) f) : Int) o n]) [0, 0, 1, 1] (fr [(0, A.p (V.c (W.ptr 0 0))), (3, nI (f:Int))]) (Sto.ofList [Ob.mk 140 [Fd.c (W.str s), Fd.c (W.int .i64 (IntKind.i64.wrap ((i:Int) + (1:Int)))), Fd.c (W.int .i64 o), Fd.c (W.int .i64 n)]])) ∧ ((bif bif q2 then q3 else false then decide (bAt s i ≤ (57:Int)) else false) = false → ((0:Int) ≤ (f:Int) ∧ (f:Int) ≤ (i:Int) ∧ (i:Int) ≤ (s.size:Int)) ∧ (q4 = false → q4 = false) ∧ (q4 = false → q4 = false) ∧ (q4 = false → q4 = false) ∧ ((bif q4 then true else q5) = false → (bif q4 then true else q5) = false) ∧ ((bif q4 then true else q5) = false → (bif q4 then true else q5) = false) ∧ ((bif q4 then true else q5) = false → (bif q4 then true else q5) = false) ∧ ((bif q4 then true else q5) = false ∧ q6 = true → (bif q4 then true else q5) = false ∧ q6 = true) ∧ ((bif q4 then true else q5) = false ∧ q6 = true → (0:Int) ≤ (0:Int) ∧ (0:Int) < q1) ∧ ((bif q4 then true else q5) = false ∧ q6 = true → (bif q4 then true else q5) = false ∧ q6 = true) ∧ ((bif q4 then true else q5) = false → (bif q4 then true else q5) = false) ∧ ((bif q4 then true else q5) = false → q6 = true → (bif q4 then true else q5) = false ∧ q6 = true) ∧ ((bif q4 then true else q5) = false → (bif q4 then true else q5) = false) ∧ ((bif bif q4 then true else q5 then true else bif q6 then decide (bAt (s.extract f i) (0:Nat) = (48:Int)) else false) = true → False) ∧ ((bif bif q4 then true else q5 then true else bif q6 then decide (bAt (s.extract f i) (0:Nat) = (48:Int)) else false) = false → okS (s.extract f i) ∧ packV [V.c (W.int .i64 (num (bytesI (s.extract f i))))] = nI (expV (bytesI s) f) ∧ [Ob.mk 140 [Fd.c (W.str s), Fd.c (W.int .i64 (i:Int)), Fd.c (W.int .i64 o), Fd.c (W.int .i64 n)]] = [rdO s (↑(digP (bytesI s) f) : Int) o n]))) (by kernel_rfl) ?_
   try simp only [imp_self, true_and, Bool.cond_true_left, Bool.cond_false_right, Bool.or_eq_true, Bool.or_eq_false_iff, Bool.and_eq_true, Bool.and_eq_false_imp, decide_eq_true_eq, decide_eq_false_iff_not, Int.not_lt, Int.not_le, Int.le_refl]
   simp only [bAt_get]
   have hl := bytesI_length s
   refine ⟨fun h => by omega, fun h => by omega, fun h => ?_, fun h => ?_⟩
   · have hd : dig ((bytesI s).getD i 0) = true := isdig ⟨h.1.2, h.2⟩
     rw [wrap64 (by omega) (by omega)]
     cases m with
     | zero => omega
     | succ m => exact exp_loop s hs o n f hok m (i + 1) (by omega) (by omega) (by omega) (by rw [← digP_yes ⟨by omega, hd⟩]; exact hj)
   · have hnd : ¬ (i < (bytesI s).length ∧ dig ((bytesI s).getD i 0) = true) := by
      rintro ⟨h1, h2⟩
      have := dig_range h2
      have := h ⟨by omega, this.1⟩
      omega
     rw [digP_no hnd] at hj
     have hok' := hok
     unfold expOk at hok'
     have ho := of_decide_eq_true hok'
     rw [← hj] at ho
     have hsz : (s.extract f i).size = i - f := by rw [ByteArray.size_extract]; omega
     have hby : bytesI (s.extract f i) = ((bytesI s).drop f).take (i - f) := by
      unfold bytesI
      rw [ByteArray.data_extract, Array.toList_extract, List.extract_eq_take_drop, List.map_take, List.map_drop]
     have hdd : ∀ c ∈ bytesI (s.extract f i), dig c = true := by
      rw [hby]
      intro c hc
      obtain ⟨k, hk, rfl⟩ := List.mem_iff_getElem.1 hc
      rw [List.length_take, List.length_drop] at hk
      rw [List.getElem_take, List.getElem_drop]
      have := digP_all (bytesI s) _ f rfl (f + k) (by omega) (by rw [← hj]; omega)
      rw [List.getD_eq_getElem?_getD, List.getElem?_eq_getElem (by omega)] at this
      exact this
     have h0 : 1 < i - f → (bytesI (s.extract f i)).getD 0 0 ≠ 48 := by
      intro h1 h2
      rw [hby, List.getD_eq_getElem?_getD, List.getElem?_take_of_lt (by omega), List.getElem?_drop, Nat.add_zero, ← List.getD_eq_getElem?_getD] at h2
      exact ho.2.2 ⟨by omega, h2⟩
     rw [hsz]
     refine ⟨by omega, fun _ => by omega, fun _ _ => by omega, fun h1 => ?_, fun h1 => ⟨⟨hdd, by omega, by omega⟩, ?_, ?_⟩⟩
     · rcases h1 with h1 | h1
       · omega
       · exact h0 (by omega) h1.2
     · unfold expV
       rw [← hj, hby]
       rfl
     · rw [← hj]
theorem exponent_sem (s : ByteArray) (i o n : Int) (h : At s i) (hok : expOk (bytesI s) i.toNat = true) : FnSem Tryz.prog 133 [pt0] [rdO s i o n] (nI (expV (bytesI s) i.toNat)) [rdO s (digP (bytesI s) i.toNat) o n] := by
 refine fnSem_at (live := [([0, 0, 1, 1], [0, 3])]) gEx_ok Tryz.func133 (by kernel_rfl) (keep := 1) rfl (by kernel_rfl) 100 ?_
 refine of_eq (q := AtLoop (mkSite Tryz.prog gEx Tryz.f133 (1:Nat) [([0, 0, 1, 1], [0, 3])]) (Says1 (nI (expV (bytesI s) i.toNat)) [rdO s (↑(digP (bytesI s) i.toNat) : Int) o n]) [0, 0, 1, 1] (fr [(0, A.p (V.c (W.ptr 0 0))), (3, nI i)]) (Sto.ofList [Ob.mk 140 [Fd.c (W.str s), Fd.c (W.int .i64 i), Fd.c (W.int .i64 o), Fd.c (W.int .i64 n)]])) (by kernel_rfl) ?_
 obtain ⟨h1, h2, h3⟩ := h
 have := exp_loop s h1 o n i.toNat hok _ i.toNat rfl (by omega) (Nat.le_refl _) rfl
 rw [toNat_cast h2] at this
 exact this
def cExpo : Con := conR fun s i o n => (.p (At s i ∧ expOk (bytesI s) i.toNat = true), nI (expV (bytesI s) i.toNat), [rdO s (digP (bytesI s) i.toNat) o n])
theorem cExpo_ok : ConOk Tryz.prog 133 cExpo := conR_ok (by kernel_rfl) fun s i o n h => exponent_sem s i o n h.1 h.2
end Go.Proofs.YtlcpgjjfjgbocaaGreatDoor

namespace Go.Proofs.YtlcpgjjfjgbocaaGreatDoor
open Go.Loom Go.Words
set_option maxRecDepth 100000
/-! ### Bounds -/
def FineR (l : List Int) (N : Nat) (f : Rdr) : Prop := ∀ i w j, i ≤ l.length → f i = some (w, j) → w.length ≤ N ∧ j ≤ l.length
theorem takeP_le {l : List Int} {c : Int} {i : Nat} (h : i ≤ l.length) : takeP l c i ≤ l.length := by
 have := skipP_le l _ i rfl h
 unfold takeP
 split
 · rename_i h1
   have := (seesP_lt h1).1
   omega
 · omega
theorem fine_fac {l : List Int} {item : Rdr} (h : FineR l 16000 item) : FineR l 16000 (facP item l) := by
 intro i w j hi e
 unfold facP at e
 split at e
 · cases e
 · rename_i v k hv
   obtain ⟨h1, h2⟩ := h i v k hi hv
   split at e
   · cases e
   · split at e
     · split at e
       · split at e
         · cases e
         · rename_i hh
           cases e
           have h3 := takeP_le (c := 45) (takeP_le (c := 94) h2)
           refine ⟨?_, (digP_le l _ _ rfl h3).2⟩
           generalize expV l (takeP l 45 (takeP l 94 k)) = x at *
           have hl : (if seesP l 45 (takeP l 94 k) = true then turnW v else v).length = v.length := by split <;> simp [turnW]
           rw [pw_length, hl]
           rcases Int.lt_or_le x 0 with hx | hx
           · rw [Int.toNat_of_nonpos (by omega)]; omega
           · have : ((x.toNat * v.length : Nat) : Int) = x * v.length := by simp [Int.toNat_of_nonneg hx]
             omega
       · cases e
     · cases e
       exact ⟨h1, takeP_le h2⟩
theorem fine_loop {l : List Int} {fac : Rdr} (h : FineR l 16000 fac) : ∀ (m : Nat) (acc : List Int), FineR l 4000 (wLoop fac l m acc)
 | 0, acc => fun i w j _ e => by cases e
 | m + 1, acc => fun i w j hi e => by
   rw [wLoop] at e
   split at e
   · cases e
   · rename_i v k hv
     obtain ⟨h1, h2⟩ := h _ v k (skipP_le l _ i rfl hi).2 hv
     split at e
     · cases e
     · rename_i hh
       split at e
       · exact fine_loop h m _ _ w j (takeP_le h2) e
       · cases e
         exact ⟨by omega, takeP_le h2⟩
theorem fine_end {l : List Int} {c : Int} {N : Nat} {i : Nat} {f : Rdr} (h : FineR l N f) (hi : i ≤ l.length) {w : List Int} {j : Nat} (e : endP l c (f i) = some (w, j)) : w.length ≤ N ∧ j ≤ l.length := by
 unfold endP at e
 split at e
 · cases e
 · rename_i v k hv
   obtain ⟨h1, h2⟩ := h i v k hi hv
   split at e
   · cases e; exact ⟨h1, takeP_le h2⟩
   · cases e
theorem fine_com {l : List Int} {f : Rdr} (h : FineR l 4000 f) : FineR l 16000 (comP f l) := by
 intro i w j hi e
 unfold comP at e
 split at e
 · cases e
 · rename_i x k hx
   obtain ⟨h1, h2⟩ := fine_end h hi hx
   split at e
   · cases e
   · rename_i y m hy
     obtain ⟨h3, h4⟩ := h _ _ _ h2 hy
     cases e
     refine ⟨?_, h4⟩
     simp [turnW]; omega
theorem fine_let {l : List Int} {g : Int} : FineR l 16000 (letP g l) := by
 intro i w j hi e
 unfold letP at e
 split at e
 · cases e; exact ⟨by simp, takeP_le hi⟩
 · split at e
   · cases e; exact ⟨by simp, by omega⟩
   · cases e
theorem fine_item {l : List Int} {g : Int} : ∀ d : Nat, FineR l 16000 (itemP g l d)
 | 0 => fun i w j hi e => by
   rw [itemP] at e
   split at e
   · cases e
   · exact fine_let i w j hi e
 | d + 1 => fun i w j hi e => by
   have hw := fine_loop (fine_fac (fine_item (l := l) (g := g) d)) (l.length + 1) []
   rw [itemP] at e
   split at e
   · rename_i hs
     have := fine_end hw (i := skipP l i + 1) (by have := (seesP_lt hs).1; omega) e
     omega
   · split at e
     · rename_i hs
       exact fine_end (fine_com hw) (i := skipP l i + 1) (by have := (seesP_lt hs).1; omega) e
     · exact fine_let i w j hi e
theorem fine_word {l : List Int} {g : Int} (d : Nat) : FineR l 4000 (wordP g l d) := fine_loop (fine_fac (fine_item d)) _ _
/-! ### A step that reads a word -/
def RG (n : Int) : Prop := 1 ≤ n ∧ n ≤ 16
abbrev gv (r : Option (List Int × Nat)) : List Int × Nat := r.getD ([], 0)
def conW (R : Int → List Int → Nat → Rdr) (d : Nat) : Con := conR fun s i o n => (.p (At s i ∧ RG n ∧ o = 50 - (d : Int) ∧ (R n (bytesI s) d i.toNat).isSome = true), lsI (gv (R n (bytesI s) d i.toNat)).1, [rdO s (gv (R n (bytesI s) d i.toNat)).2 o n])
theorem conW_ok {f : FuncId} {R : Int → List Int → Nat → Rdr} {d : Nat} (he : enters Tryz.prog f = true) (h : ∀ s i n w j, At s i → RG n → R n (bytesI s) d i.toNat = some (w, j) → FnSem Tryz.prog f [pt0] [rdO s i (50 - (d : Int)) n] (lsI w) [rdO s j (50 - (d : Int)) n]) : ConOk Tryz.prog f (conW R d) := conR_ok he fun s i o n hc => by
 obtain ⟨h1, h2, rfl, h4⟩ := hc
 obtain ⟨⟨w, j⟩, e⟩ := Option.isSome_iff_exists.1 h4
 have := h s i n w j h1 h2 e
 show FnSem Tryz.prog f [pt0] [rdO s i (50 - (d : Int)) n] (lsI (gv (R n (bytesI s) d i.toNat)).1) [rdO s (gv (R n (bytesI s) d i.toNat)).2 _ n]
 rw [e]
 exact this
def itemR (n : Int) (l : List Int) (d : Nat) : Rdr := itemP n l d
def facR (n : Int) (l : List Int) (d : Nat) : Rdr := facP (itemP n l d) l
def comR (n : Int) (l : List Int) (d : Nat) : Rdr := comP (wordP n l d) l
noncomputable def gFac (d : Nat) : Gam := [(132, conW itemR d), (117, conFits), (119, cTakes), (96, cBlanks), (65, cTu), (133, cExpo), (45, cRep)]
theorem gFac_ok {d : Nat} (h : ConOk Tryz.prog 132 (conW itemR d)) : GamOk Tryz.prog (gFac d) := gamOk_cons h (gamOk_cons conFits_ok (gamOk_cons cTakes_ok (gamOk_cons cBlanks_ok (gamOk_cons cTu_ok (gamOk_cons cExpo_ok (gamOk_cons cRep_ok gamOk_nil))))))
theorem exp_range {l : List Int} {k : Nat} (h : expOk l k = true) : 0 ≤ expV l k ∧ expV l k < 10000 := by
 have ho := of_decide_eq_true h
 have hdl : k ≤ l.length := by
  rcases Nat.lt_or_ge l.length k with h1 | h1
  · rw [digP_no (by omega)] at ho; omega
  · exact h1
 have hle := digP_le l _ k rfl hdl
 have hd : ∀ c ∈ (l.drop k).take (digP l k - k), dig c = true := by
  intro c hc
  obtain ⟨m, hm, rfl⟩ := List.mem_iff_getElem.1 hc
  rw [List.length_take, List.length_drop] at hm
  rw [List.getElem_take, List.getElem_drop]
  have := digP_all l _ k rfl (k + m) (by omega) (by omega)
  rw [List.getD_eq_getElem?_getD, List.getElem?_eq_getElem (by omega)] at this
  exact this
 have hn := num_range (digP l k - k) _ (by rw [List.length_take, List.length_drop]; omega) (by omega) hd
 have h2 : (10 : Int) ^ (digP l k - k) ≤ 10 ^ 4 := by
  have : digP l k - k = 0 ∨ digP l k - k = 1 ∨ digP l k - k = 2 ∨ digP l k - k = 3 ∨ digP l k - k = 4 := by omega
  rcases this with h | h | h | h | h <;> rw [h] <;> decide
 unfold expV
 omega
theorem skip_take {l : List Int} {c : Int} {i : Nat} (h : seesP l c i = false) : skipP l (takeP l c i) = takeP l c i := by
 have : takeP l c i = skipP l i := by unfold takeP; rw [h]; simp
 rw [this, skipP_skipP]
theorem at_nat {s : ByteArray} {k : Nat} (h : s.size ≤ 1000000) (hk : k ≤ (bytesI s).length) : At s k := by
 rw [bytesI_length] at hk
 exact ⟨h, by omega, by omega⟩
theorem factor_sem {d : Nat} (hI : ConOk Tryz.prog 132 (conW itemR d)) : ConOk Tryz.prog 118 (conW facR d) := conW_ok (by kernel_rfl) fun s i n w j h hn e => by
 refine fnSemF_at (live := []) (fzl := []) (fz := [some dI]) (gFac_ok hI) Tryz.func118 (by kernel_rfl) (keep := 1) rfl (by kernel_rfl) 100 ?_
 refine of_eq (q := let q3 := (bytesI s); let q4 := ((50:Int) - (d:Int)); let q2 := (gv (itemR n q3 d i.toNat)); let q7 := (takeP q3 (94:Int) q2.snd); let q1 := (takeP q3 (45:Int) q7); let q6 := decide ((4000:Int) < IntKind.i64.wrap (expV q3 q1 * (↑(turnW q2.fst).length : Int))); let q8 := (skipP q3 q1); let q5 := decide ((4000:Int) < IntKind.i64.wrap (expV q3 q8 * (↑q2.fst.length : Int))); (At s i ∧ RG n ∧ (50:Int) - (d:Int) = (50:Int) - (d:Int) ∧ (itemR n q3 d i.toNat).isSome = true) ∧ q2.fst.length ≤ (4000:Nat) ∧ At s (↑q2.snd : Int) ∧ ((!seesP q3 (94:Int) q2.snd) = true → packV [V.c (W.rd (D.int .i64) q2.fst)] = lsI w ∧ [Ob.mk 140 [Fd.c (W.str s), Fd.c (W.int .i64 (↑q7 : Int)), Fd.c (W.int .i64 q4), Fd.c (W.int .i64 n)]] = [rdO s (j:Int) q4 n]) ∧ ((!seesP q3 (94:Int) q2.snd) = false → At s (↑q7 : Int) ∧ (seesP q3 (45:Int) q7 = true → q2.fst.length ≤ (1000000:Nat) ∧ (At s (↑q1 : Int) ∧ expOk q3 q1 = true) ∧ (q6 = true → False) ∧ (q6 = false → ((0:Int) ≤ expV q3 q1 ∧ expV q3 q1 ≤ (100000:Int) ∧ (turnW q2.fst).length ≤ (100000:Nat) ∧ (expV q3 q1).toNat * (turnW q2.fst).length ≤ (1000000:Nat)) ∧ packV [V.c (W.rd (D.int .i64) (pw (turnW q2.fst) (expV q3 q1).toNat))] = lsI w ∧ [Ob.mk 140 [Fd.c (W.str s), Fd.c (W.int .i64 (↑(digP q3 q1) : Int)), Fd.c (W.int .i64 q4), Fd.c (W.int .i64 n)]] = [rdO s (j:Int) q4 n])) ∧ (seesP q3 (45:Int) q7 = false → At s (↑q1 : Int) ∧ (At s (↑q8 : Int) ∧ expOk q3 q8 = true) ∧ (q5 = true → False) ∧ (q5 = false → ((0:Int) ≤ expV q3 q8 ∧ expV q3 q8 ≤ (100000:Int) ∧ q2.fst.length ≤ (100000:Nat) ∧ (expV q3 q8).toNat * q2.fst.length ≤ (1000000:Nat)) ∧ packV [V.c (W.rd (D.int .i64) (pw q2.fst (expV q3 q8).toNat))] = lsI w ∧ [Ob.mk 140 [Fd.c (W.str s), Fd.c (W.int .i64 (↑(digP q3 q8) : Int)), Fd.c (W.int .i64 q4), Fd.c (W.int .i64 n)]] = [rdO s (j:Int) q4 n])))) (by kernel_rfl) ?_
 try simp only [true_and, Bool.not_eq_true', Bool.not_eq_false', decide_eq_true_eq, decide_eq_false_iff_not, Int.not_lt]
 unfold facR facP at e
 cases hv : itemP n (bytesI s) d i.toNat with
 | none => rw [hv] at e; cases e
 | some vk =>
 obtain ⟨v, k⟩ := vk
 rw [hv] at e
 dsimp only at e
 have hv' : itemR n (bytesI s) d i.toNat = some (v, k) := hv
 have hil : i.toNat ≤ (bytesI s).length := by rw [bytesI_length]; have := h.2; omega
 obtain ⟨f1, f2⟩ := fine_item d _ v k hil hv
 rw [hv']
 dsimp only [Option.getD_some, gv, Option.isSome_some]
 by_cases h4 : 4000 < v.length
 · rw [if_pos h4] at e; cases e
 rw [if_neg h4] at e
 have a1 := at_nat h.1 f2
 have a2 := at_nat h.1 (takeP_le (c := 94) f2)
 have a3 := at_nat h.1 (takeP_le (c := 45) (takeP_le (c := 94) f2))
 have tl : (turnW v).length = v.length := by simp [turnW]
 refine ⟨⟨h, hn, rfl⟩, by omega, a1, fun g => ?_, fun g => ⟨a2, fun g2 => ?_, fun g2 => ?_⟩⟩
 · rw [if_neg (by rw [g]; simp)] at e
   cases e
   exact ⟨rfl, rfl⟩
 · rw [if_pos g] at e
   split at e
   · rename_i hok
     obtain ⟨x1, x2⟩ := exp_range hok
     split at e
     · cases e
     · rename_i hm
       cases e
       generalize expV (bytesI s) (takeP (bytesI s) 45 (takeP (bytesI s) 94 k)) = x at *
       have hx0 : 0 ≤ x * (v.length : Int) := Int.mul_nonneg x1 (by omega)
       have hxt : ((x.toNat * v.length : Nat) : Int) = x * v.length := by simp [Int.toNat_of_nonneg x1]
       have hw : IntKind.i64.wrap (x * ((turnW v).length : Nat)) = x * v.length := by rw [tl, wrap64 (by omega) (by omega)]
       refine ⟨by omega, ⟨a3, hok⟩, fun g3 => hm ?_, fun _ => ⟨⟨x1, by omega, ?_, ?_⟩, rfl, rfl⟩⟩
       · rw [← hw]; exact g3
       · show (turnW v).length ≤ 100000; omega
       · show x.toNat * (turnW v).length ≤ 1000000; rw [tl]; omega
   · cases e
 · rw [if_pos g] at e
   rw [skip_take g2]
   split at e
   · rename_i hok
     obtain ⟨x1, x2⟩ := exp_range hok
     split at e
     · cases e
     · rename_i hm
       rw [if_neg (by rw [g2]; simp)] at e
       cases e
       generalize expV (bytesI s) (takeP (bytesI s) 45 (takeP (bytesI s) 94 k)) = x at *
       have hx0 : 0 ≤ x * (v.length : Int) := Int.mul_nonneg x1 (by omega)
       have hxt : ((x.toNat * v.length : Nat) : Int) = x * v.length := by simp [Int.toNat_of_nonneg x1]
       rw [wrap64 (n := x * (v.length : Int)) (by omega) (by omega)]
       exact ⟨a3, ⟨a3, hok⟩, fun g3 => hm g3, fun _ => ⟨⟨x1, by omega, by omega, by omega⟩, rfl, rfl⟩⟩
   · cases e
noncomputable def gWo (d : Nat) : Gam := [(118, conW facR d), (117, conFits), (119, cTakes), (96, cBlanks)]
theorem gWo_ok {d : Nat} (h : ConOk Tryz.prog 118 (conW facR d)) : GamOk Tryz.prog (gWo d) := gamOk_cons h (gamOk_cons conFits_ok (gamOk_cons cTakes_ok (gamOk_cons cBlanks_ok gamOk_nil)))
noncomputable def sWo (d : Nat) : Site := mkSiteF Tryz.prog (gWo d) Tryz.f95 1 [([0, 1, 1], [0, 3])] [] [some dI]
theorem word_loop {d : Nat} (hI : ConOk Tryz.prog 118 (conW facR d)) (s : ByteArray) (n : Int) (hn : RG n) (W : List Int) (J : Nat) : ∀ (m : Nat) (i : Nat) (acc : List Int), At s i → wLoop (facR n (bytesI s) d) (bytesI s) m acc i = some (W, J) → acc.length ≤ 4000 →
 AtLoop (sWo d) (Says1 (lsI W) [rdO s J (50 - (d : Int)) n]) [0, 1, 1] (fr [(0, pt0), (3, slI 1 acc.length)]) (.ofList [⟨140, [.c (.str s), .c (.int .i64 i), .c (.int .i64 (50 - (d : Int))), .c (.int .i64 n)]⟩, obI acc])
 | 0, i, acc, h, e, hl => by cases e
 | m + 1, i, acc, h, e, hl => by
   refine atLoop_at (gWo_ok hI) (by kernel_rfl) 100 ?_
   refine of_eq (q := let q1 := (gv (facR n (bytesI s) d (skipP (bytesI s) i))); let q2 := (List.take acc.length (List.drop (0:Nat) acc) ++ q1.fst); let q3 := (acc.length + q1.fst.length); let q4 := ((50:Int) - (d:Int)); At s (i:Int) ∧ (At s (↑(skipP (bytesI s) i) : Int) ∧ RG n ∧ (50:Int) - (d:Int) = (50:Int) - (d:Int) ∧ (facR n (bytesI s) d (skipP (bytesI s) i)).isSome = true) ∧ ((0:Nat) + acc.length ≤ acc.length ∧ q3 * (8:Nat) ≤ (140737488355328:Nat)) ∧ (acc.length + q1.fst.length ≤ (4000:Nat) ∧ acc.length + q1.fst.length ≤ q2.length) ∧ At s (↑q1.snd : Int) ∧ ((!seesP (bytesI s) (42:Int) q1.snd) = true → (0:Nat) + q3 ≤ q2.length ∧ packV [V.c (Loom.W.rd (D.int .i64) (List.take q3 (List.drop (0:Nat) q2)))] = lsI W ∧ [Ob.mk 140 [Fd.c (Loom.W.str s), Fd.c (Loom.W.int .i64 (↑(takeP (bytesI s) (42:Int) q1.snd) : Int)), Fd.c (Loom.W.int .i64 q4), Fd.c (Loom.W.int .i64 n)]] = [rdO s (J:Int) q4 n]) ∧ ((!seesP (bytesI s) (42:Int) q1.snd) = false → AtLoop (sWo d) (Says1 (lsI W) [rdO s (J:Int) q4 n]) [0, 1, 1] (fr [(0, A.p (V.c (Loom.W.ptr 0 0))), (3, A.p (V.c (Loom.W.sl 1 0 q3 (1:Nat))))]) (Sto.ofList [Ob.mk 140 [Fd.c (Loom.W.str s), Fd.c (Loom.W.int .i64 (↑(takeP (bytesI s) (42:Int) q1.snd) : Int)), Fd.c (Loom.W.int .i64 q4), Fd.c (Loom.W.int .i64 n)], Ob.mk 3 [Fd.a 0 (D.int .i64) q2]]))) (by kernel_rfl) ?_
   try simp only [true_and, Nat.zero_add, Bool.not_eq_true', Bool.not_eq_false', List.drop_zero, List.take_length, Nat.le_refl]
   rw [wLoop] at e
   have hil : i ≤ (bytesI s).length := by rw [bytesI_length]; have := h.2; omega
   have hsk := (skipP_le (bytesI s) _ i rfl hil).2
   cases hv : facR n (bytesI s) d (skipP (bytesI s) i) with
   | none => rw [hv] at e; cases e
   | some vk =>
   obtain ⟨v, k⟩ := vk
   rw [hv] at e
   dsimp only at e
   obtain ⟨f1, f2⟩ := fine_fac (fine_item d) _ v k hsk hv
   dsimp only [Option.getD_some, gv, Option.isSome_some]
   by_cases h4 : 4000 < (acc ++ v).length
   · rw [if_pos h4] at e; cases e
   rw [if_neg h4] at e
   have hla : (acc ++ v).length = acc.length + v.length := List.length_append
   rw [hla] at h4 ⊢
   refine ⟨h, ⟨at_nat h.1 hsk, hn, rfl⟩, by omega, by omega, at_nat h.1 f2, fun g => ?_, fun g => ?_⟩
   · rw [if_neg (by rw [g]; simp)] at e
     cases e
     refine ⟨Nat.le_refl _, ?_, rfl⟩
     rw [← hla, List.take_length]
     rfl
   · rw [if_pos g] at e
     rw [← hla]
     exact word_loop hI s n hn W J m _ (acc ++ v) (at_nat h.1 (takeP_le f2)) e (by omega)
theorem word_sem {d : Nat} (hI : ConOk Tryz.prog 118 (conW facR d)) : ConOk Tryz.prog 95 (conW wordP d) := conW_ok (by kernel_rfl) fun s i n w j h hn e => by
 refine fnSemF_at (live := [([0, 1, 1], [0, 3])]) (fzl := []) (fz := [some dI]) (gWo_ok hI) Tryz.func95 (by kernel_rfl) (keep := 1) rfl (by kernel_rfl) 100 ?_
 refine of_eq (q := AtLoop (mkSiteF Tryz.prog (gWo d) Tryz.f95 (1:Nat) [([0, 1, 1], [0, 3])] [] [some dI]) (Says1 (lsI w) [rdO s (j:Int) ((50:Int) - (d:Int)) n]) [0, 1, 1] (fr [(0, A.p (V.c (W.ptr 0 0))), (3, A.p (V.c (W.sl 1 0 0 1)))]) (Sto.ofList [Ob.mk 140 [Fd.c (W.str s), Fd.c (W.int .i64 i), Fd.c (W.int .i64 ((50:Int) - (d:Int))), Fd.c (W.int .i64 n)], Ob.mk 3 [Fd.a 0 (D.int .i64) []]])) (by kernel_rfl) ?_
 have := word_loop hI s n hn w j _ i.toNat [] (by rw [toNat_cast h.2.1]; exact h) e (by simp)
 rw [toNat_cast h.2.1] at this
 exact this
noncomputable def gCm (d : Nat) : Gam := [(95, conW wordP d), (146, cWants), (65, cTu), (60, cCat)]
theorem gCm_ok {d : Nat} (h : ConOk Tryz.prog 95 (conW wordP d)) : GamOk Tryz.prog (gCm d) := gamOk_cons h (gamOk_cons cWants_ok (gamOk_cons cTu_ok (gamOk_cons cCat_ok gamOk_nil)))
theorem com_sem {d : Nat} (hI : ConOk Tryz.prog 95 (conW wordP d)) : ConOk Tryz.prog 143 (conW comR d) := conW_ok (by kernel_rfl) fun s i n w j h hn e => by
 refine fnSemF_at (live := []) (fzl := []) (fz := [some dI]) (gCm_ok hI) Tryz.func143 (by kernel_rfl) (keep := 1) rfl (by kernel_rfl) 100 ?_
 refine of_eq (q := let q2 := (gv (wordP n (bytesI s) d i.toNat)); let q1 := (wordP n (bytesI s) d (takeP (bytesI s) (44:Int) q2.snd)); let q3 := (List.take (4:Nat) (List.drop (0:Nat) [turnW q2.fst, turnW (gv q1).fst, q2.fst, (gv q1).fst])); (At s i ∧ RG n ∧ (50:Int) - (d:Int) = (50:Int) - (d:Int) ∧ (wordP n (bytesI s) d i.toNat).isSome = true) ∧ (At s (↑q2.snd : Int) ∧ seesP (bytesI s) (44:Int) q2.snd = true) ∧ (At s (↑(takeP (bytesI s) (44:Int) q2.snd) : Int) ∧ RG n ∧ (50:Int) - (d:Int) = (50:Int) - (d:Int) ∧ q1.isSome = true) ∧ q2.fst.length ≤ (1000000:Nat) ∧ (gv q1).fst.length ≤ (1000000:Nat) ∧ (0:Nat) + (4:Nat) ≤ (4:Nat) ∧ ((4:Nat) ≤ (100:Nat) ∧ q3.flatten.length ≤ (1000000:Nat)) ∧ packV [V.c (W.rd (D.int .i64) q3.flatten)] = lsI w ∧ [Ob.mk 140 [Fd.c (W.str s), Fd.c (W.int .i64 (↑(gv q1).snd : Int)), Fd.c (W.int .i64 ((50:Int) - (d:Int))), Fd.c (W.int .i64 n)]] = [rdO s (j:Int) ((50:Int) - (d:Int)) n]) (by kernel_rfl) ?_
 try simp only [true_and, Nat.zero_add, List.drop_zero, List.take_succ_cons, List.take_zero, Nat.le_refl]
 unfold comR comP endP at e
 have hil : i.toNat ≤ (bytesI s).length := by rw [bytesI_length]; have := h.2; omega
 cases hx : wordP n (bytesI s) d i.toNat with
 | none => rw [hx] at e; cases e
 | some xk =>
 obtain ⟨x, k⟩ := xk
 rw [hx] at e
 dsimp only at e
 by_cases hs : seesP (bytesI s) 44 k = true
 · rw [if_pos hs] at e
   dsimp only at e
   obtain ⟨f1, f2⟩ := fine_word d _ x k hil hx
   cases hy : wordP n (bytesI s) d (takeP (bytesI s) 44 k) with
   | none => rw [hy] at e; cases e
   | some yk =>
   obtain ⟨y, m⟩ := yk
   rw [hy] at e
   cases e
   obtain ⟨f3, f4⟩ := fine_word d _ y _ (takeP_le f2) hy
   dsimp only [Option.getD_some, gv, Option.isSome_some]
   rw [hy]
   dsimp only [Option.getD_some, gv, Option.isSome_some]
   refine ⟨⟨h, hn, rfl⟩, ⟨at_nat h.1 f2, hs⟩, ⟨at_nat h.1 (takeP_le f2), hn, rfl⟩, by omega, by omega, ⟨by omega, ?_⟩, ?_, rfl⟩
   · simp [turnW]; omega
   · simp [packV, lsI]
 · rw [if_neg hs] at e; cases e
def rdW (g : Nat) (n : Int) (l : List Int) (d : Nat) : Rdr := bif Nat.beq g 95 then wordP n l d else comP (wordP n l d) l
def conWi (d : Nat) : Con := { refs := [true, true, false], f := fun args objs => match args, objs with
 | [.p (.c (.ptr a b)), .p (.c (.meth g x y)), .p (.c (.int .u8 c))], [o] => bif Nat.beq a 0 && (Nat.beq b 0 && (Nat.beq x 0 && (Nat.beq y 0 && (Nat.beq g 95 || Nat.beq g 143)))) then (match asRd o with
   | some (s, i, o, n) => some (.p (At s i ∧ i < s.size ∧ RG n ∧ o = 49 - (d : Int) ∧ (endP (bytesI s) c (rdW g n (bytesI s) d (i.toNat + 1))).isSome = true), lsI (gv (endP (bytesI s) c (rdW g n (bytesI s) d (i.toNat + 1)))).1, [rdO s (gv (endP (bytesI s) c (rdW g n (bytesI s) d (i.toNat + 1)))).2 o n])
   | none => none) else none
 | _, _ => none }
noncomputable def gWi (d : Nat) : Gam := [(95, conW wordP d), (143, conW comR d), (146, cWants)]
theorem gWi_ok {d : Nat} (h : ConOk Tryz.prog 95 (conW wordP d)) : GamOk Tryz.prog (gWi d) := gamOk_cons h (gamOk_cons (com_sem h) (gamOk_cons cWants_ok gamOk_nil))
theorem withinA_sem {d : Nat} (hd : d ≤ 49) (hI : ConOk Tryz.prog 95 (conW wordP d)) (c : Int) (s : ByteArray) (i n : Int) (w : List Int) (j : Nat) (h : At s i ∧ i < s.size) (hn : RG n) (e : endP (bytesI s) c (wordP n (bytesI s) d (i.toNat + 1)) = some (w, j)) :
 FnSem Tryz.prog 142 [pt0, .p (.c (.meth 95 0 0)), u8A c] [rdO s i (49 - (d : Int)) n] (lsI w) [rdO s j (49 - (d : Int)) n] := by
 refine fnSemF_at (live := []) (fzl := []) (fz := [some dI]) (gWi_ok hI) Tryz.func142 (by kernel_rfl) (keep := 1) rfl (by kernel_rfl) 100 ?_
 refine of_eq (q := let q0 := IntKind.i64.wrap; let q1 := (wordP n (bytesI s) d (q0 (i + (1:Int))).toNat); (decide ((49:Int) - (d:Int) = (50:Int)) = true → False) ∧ (decide ((49:Int) - (d:Int) = (50:Int)) = false → (At s (q0 (i + (1:Int))) ∧ RG n ∧ q0 ((49:Int) - (d:Int) + (1:Int)) = (50:Int) - (d:Int) ∧ q1.isSome = true) ∧ (At s (↑(gv q1).snd : Int) ∧ seesP (bytesI s) c (gv q1).snd = true) ∧ packV [V.c (W.rd (D.int .i64) (gv q1).fst)] = lsI w ∧ [Ob.mk 140 [Fd.c (W.str s), Fd.c (W.int .i64 (↑(takeP (bytesI s) c (gv q1).snd) : Int)), Fd.c (W.int .i64 (q0 (q0 ((49:Int) - (d:Int) + (1:Int)) - (1:Int)))), Fd.c (W.int .i64 n)]] = [rdO s (j:Int) ((49:Int) - (d:Int)) n])) (by kernel_rfl) ?_
 try simp only [decide_eq_true_eq, decide_eq_false_iff_not]
 have hil : i.toNat + 1 ≤ (bytesI s).length := by rw [bytesI_length]; have := h.1.2; omega
 have hbs := h.1.1
 rw [wrap64 (n := i + 1) (by have := h.1.2; omega) (by have := h.1.2; omega), wrap64 (n := 49 - (d : Int) + 1) (by omega) (by omega), wrap64 (n := 49 - (d : Int) + 1 - 1) (by omega) (by omega), show (i + 1).toNat = i.toNat + 1 by have := h.1.2; omega]
 unfold endP at e
 cases hx : wordP n (bytesI s) d (i.toNat + 1) with
 | none => rw [hx] at e; cases e
 | some xk =>
 obtain ⟨x, k⟩ := xk
 rw [hx] at e
 dsimp only at e
 by_cases hs : seesP (bytesI s) c k = true
 · rw [if_pos hs] at e
   cases e
   obtain ⟨f1, f2⟩ := fine_word d _ _ k hil hx
   dsimp only [Option.getD_some, gv, Option.isSome_some]
   refine ⟨fun h1 => by omega, fun _ => ⟨⟨⟨hbs, by have := h.1.2; omega, by have := h.1.2; omega⟩, hn, by omega, rfl⟩, ⟨at_nat hbs f2, hs⟩, rfl, ?_⟩⟩
   rw [show 49 - (d : Int) + 1 - 1 = 49 - (d : Int) by omega]
 · rw [if_neg hs] at e; cases e
theorem withinB_sem {d : Nat} (hd : d ≤ 49) (hI : ConOk Tryz.prog 95 (conW wordP d)) (c : Int) (s : ByteArray) (i n : Int) (w : List Int) (j : Nat) (h : At s i ∧ i < s.size) (hn : RG n) (e : endP (bytesI s) c (comP (wordP n (bytesI s) d) (bytesI s) (i.toNat + 1)) = some (w, j)) :
 FnSem Tryz.prog 142 [pt0, .p (.c (.meth 143 0 0)), u8A c] [rdO s i (49 - (d : Int)) n] (lsI w) [rdO s j (49 - (d : Int)) n] := by
 refine fnSemF_at (live := []) (fzl := []) (fz := [some dI]) (gWi_ok hI) Tryz.func142 (by kernel_rfl) (keep := 1) rfl (by kernel_rfl) 100 ?_
 refine of_eq (q := let q0 := IntKind.i64.wrap; let q1 := (comR n (bytesI s) d (q0 (i + (1:Int))).toNat); (decide ((49:Int) - (d:Int) = (50:Int)) = true → False) ∧ (decide ((49:Int) - (d:Int) = (50:Int)) = false → (At s (q0 (i + (1:Int))) ∧ RG n ∧ q0 ((49:Int) - (d:Int) + (1:Int)) = (50:Int) - (d:Int) ∧ q1.isSome = true) ∧ (At s (↑(gv q1).snd : Int) ∧ seesP (bytesI s) c (gv q1).snd = true) ∧ packV [V.c (W.rd (D.int .i64) (gv q1).fst)] = lsI w ∧ [Ob.mk 140 [Fd.c (W.str s), Fd.c (W.int .i64 (↑(takeP (bytesI s) c (gv q1).snd) : Int)), Fd.c (W.int .i64 (q0 (q0 ((49:Int) - (d:Int) + (1:Int)) - (1:Int)))), Fd.c (W.int .i64 n)]] = [rdO s (j:Int) ((49:Int) - (d:Int)) n])) (by kernel_rfl) ?_
 try simp only [decide_eq_true_eq, decide_eq_false_iff_not]
 have hil : i.toNat + 1 ≤ (bytesI s).length := by rw [bytesI_length]; have := h.1.2; omega
 have hbs := h.1.1
 rw [wrap64 (n := i + 1) (by have := h.1.2; omega) (by have := h.1.2; omega), wrap64 (n := 49 - (d : Int) + 1) (by omega) (by omega), wrap64 (n := 49 - (d : Int) + 1 - 1) (by omega) (by omega), show (i + 1).toNat = i.toNat + 1 by have := h.1.2; omega]
 unfold endP at e
 have hcr : comR n (bytesI s) d (i.toNat + 1) = comP (wordP n (bytesI s) d) (bytesI s) (i.toNat + 1) := rfl
 rw [hcr]
 cases hx : comP (wordP n (bytesI s) d) (bytesI s) (i.toNat + 1) with
 | none => rw [hx] at e; cases e
 | some xk =>
 obtain ⟨x, k⟩ := xk
 rw [hx] at e
 dsimp only at e
 by_cases hs : seesP (bytesI s) c k = true
 · rw [if_pos hs] at e
   cases e
   obtain ⟨f1, f2⟩ := fine_com (fine_word d) _ _ k hil hx
   dsimp only [Option.getD_some, gv, Option.isSome_some]
   refine ⟨fun h1 => by omega, fun _ => ⟨⟨⟨hbs, by have := h.1.2; omega, by have := h.1.2; omega⟩, hn, by omega, rfl⟩, ⟨at_nat hbs f2, hs⟩, rfl, ?_⟩⟩
   rw [show 49 - (d : Int) + 1 - 1 = 49 - (d : Int) by omega]
 · rw [if_neg hs] at e; cases e
theorem conWi_ok {d : Nat} (hd : d ≤ 49) (hI : ConOk Tryz.prog 95 (conW wordP d)) : ConOk Tryz.prog 142 (conWi d) := by
 refine ⟨by kernel_rfl, fun args objs c r objs' e hc => ?_⟩
 simp only [conWi] at e
 split at e
 · rename_i g x y c' o
   have hb' := Mill.bif_some e
   clear e
   obtain ⟨hb, e⟩ := hb'
   simp only [Bool.and_eq_true, Bool.or_eq_true, Nat.beq_eq] at hb
   obtain ⟨rfl, rfl, rfl, rfl, hg⟩ := hb
   split at e
   · rename_i s i o n hr
     rw [asRd_eq hr]
     cases e
     obtain ⟨h1, h2, h3, rfl, h4⟩ := hc
     obtain ⟨⟨w, j⟩, e⟩ := Option.isSome_iff_exists.1 h4
     rw [e]
     rcases hg with rfl | rfl
     · exact withinA_sem hd hI c' s i n w j ⟨h1, h2⟩ h3 e
     · exact withinB_sem hd hI c' s i n w j ⟨h1, h2⟩ h3 e
   · cases e
 · cases e
theorem sees_skip (l : List Int) (c : Int) (i : Nat) : seesP l c (skipP l i) = seesP l c i := by unfold seesP; rw [skipP_skipP]
theorem take_skip (l : List Int) (c : Int) (i : Nat) : takeP l c (skipP l i) = takeP l c i := by unfold takeP; rw [sees_skip, skipP_skipP]
noncomputable def gIt0 : Gam := [(134, cSees), (119, cTakes)]
theorem gIt0_ok : GamOk Tryz.prog gIt0 := gamOk_cons cSees_ok (gamOk_cons cTakes_ok gamOk_nil)
noncomputable def gItm (d : Nat) : Gam := [(134, cSees), (119, cTakes), (142, conWi d)]
theorem gItm_ok {d : Nat} (hd : d ≤ 49) (hI : ConOk Tryz.prog 95 (conW wordP d)) : GamOk Tryz.prog (gItm d) := gamOk_cons cSees_ok (gamOk_cons cTakes_ok (gamOk_cons (conWi_ok hd hI) gamOk_nil))
theorem item0_sem : ConOk Tryz.prog 132 (conW itemR 0) := conW_ok (by kernel_rfl) fun s i n w j h hn e => by
 refine fnSemF_at (live := []) (fzl := []) (fz := [some dI]) gIt0_ok Tryz.func132 (by kernel_rfl) (keep := 1) rfl (by kernel_rfl) 100 ?_
 refine of_eq (q := let q0 := IntKind.i64.wrap; let q4 := (skipP (bytesI s) i.toNat); let q6 := ((50:Int) - (↑(0:Nat) : Int)); let q7 := (W.int .i64 n); let q1 := (takeP (bytesI s) (49:Int) (skipP (bytesI s) q4)); let q2 := decide ((↑q1 : Int) < (s.size:Int)); let q3 := decide ((97:Int) ≤ bAt s q1); let q5 := (q0 ((↑q1 : Int) + (1:Int)) - (1:Int)); let q8 := decide (q0 (IntKind.u8.wrap (bAt s q1 - (97:Int))) < n); At s i ∧ (seesP (bytesI s) (40:Int) i.toNat = true → False) ∧ (seesP (bytesI s) (40:Int) i.toNat = false → At s (↑q4 : Int) ∧ (seesP (bytesI s) (91:Int) q4 = true → False) ∧ (seesP (bytesI s) (91:Int) q4 = false → At s (↑(skipP (bytesI s) q4) : Int) ∧ (seesP (bytesI s) (49:Int) (skipP (bytesI s) q4) = true → (0:Nat) ≤ (0:Nat) ∧ packV [V.c (W.rd (D.int .i64) (List.take (0:Nat) (List.drop (0:Nat) [])))] = lsI w ∧ [Ob.mk 140 [Fd.c (W.str s), Fd.c (W.int .i64 (↑q1 : Int)), Fd.c (W.int .i64 q6), Fd.c q7]] = [rdO s (j:Int) q6 n]) ∧ (seesP (bytesI s) (49:Int) (skipP (bytesI s) q4) = false → (q2 = true → q2 = true) ∧ (q2 = true → q2 = true) ∧ (q2 = true → q2 = true) ∧ (q2 = true → q2 = true) ∧ (q2 = true → q2 = true) ∧ (q2 = true → q2 = true) ∧ (q2 = true → q2 = true) ∧ (q2 = true → q2 = true) ∧ (q2 = true → (0:Int) ≤ (↑q1 : Int) ∧ (↑q1 : Int) < (s.size:Int)) ∧ (q2 = true → q2 = true) ∧ (q2 = true → q2 = true) ∧ ((bif q2 then q3 else false) = true → (bif q2 then q3 else false) = true) ∧ ((bif q2 then q3 else false) = true → (bif q2 then q3 else false) = true) ∧ ((bif q2 then q3 else false) = true → (bif q2 then q3 else false) = true) ∧ ((bif q2 then q3 else false) = true → (bif q2 then q3 else false) = true) ∧ ((bif q2 then q3 else false) = true → (bif q2 then q3 else false) = true) ∧ ((bif q2 then q3 else false) = true → (bif q2 then q3 else false) = true) ∧ ((bif q2 then q3 else false) = true → (bif q2 then q3 else false) = true) ∧ ((bif q2 then q3 else false) = true → (bif q2 then q3 else false) = true) ∧ ((bif q2 then q3 else false) = true → (0:Int) ≤ (↑q1 : Int) ∧ (↑q1 : Int) < (s.size:Int)) ∧ ((bif q2 then q3 else false) = true → (bif q2 then q3 else false) = true) ∧ ((bif q2 then q3 else false) = true → (bif q2 then q3 else false) = true) ∧ ((bif q2 then q3 else false) = true → (bif q2 then q3 else false) = true) ∧ ((bif q2 then q3 else false) = true → (bif q2 then q3 else false) = true) ∧ ((bif q2 then q3 else false) = true → (bif q2 then q3 else false) = true) ∧ ((bif q2 then q3 else false) = true → (bif q2 then q3 else false) = true) ∧ ((bif q2 then q3 else false) = true → (bif q2 then q3 else false) = true) ∧ ((bif q2 then q3 else false) = true → (bif q2 then q3 else false) = true) ∧ ((bif q2 then q3 else false) = true → (bif q2 then q3 else false) = true) ∧ A.cond ((bif q2 then q3 else false) = true) (V.c q7) = A.cond ((bif q2 then q3 else false) = true) (V.c q7) ∧ ((bif q2 then q3 else false) = true → (bif q2 then q3 else false) = true) ∧ A.cond ((bif q2 then q3 else false) = true) (V.c q7) = A.cond ((bif q2 then q3 else false) = true) (V.c q7) ∧ ((bif bif q2 then q3 else false then q8 else false) = true → ((0:Int) ≤ q0 q5 ∧ q0 q5 < (s.size:Int)) ∧ (0:Nat) + (1:Nat) ≤ (1:Nat) ∧ packV [V.c (W.rd (D.int .i64) (List.take (1:Nat) (List.drop (0:Nat) [q0 (q0 (IntKind.u8.wrap (bAt s (q0 q5).toNat - (97:Int))) + (1:Int))])))] = lsI w ∧ [Ob.mk 140 [Fd.c (W.str s), Fd.c (W.int .i64 (q0 ((↑q1 : Int) + (1:Int)))), Fd.c (W.int .i64 q6), Fd.c q7]] = [rdO s (j:Int) q6 n]) ∧ ((bif bif q2 then q3 else false then q8 else false) = false → False))))) (by kernel_rfl) ?_
 try simp only [imp_self, true_and, Nat.zero_add, Bool.cond_false_right, Bool.and_eq_true, Bool.and_eq_false_imp, decide_eq_true_eq, decide_eq_false_iff_not, Int.not_lt, List.drop_zero, List.take_succ_cons, List.take_zero, Nat.le_refl]
 have hil : i.toNat ≤ (bytesI s).length := by rw [bytesI_length]; have := h.2; omega
 have hsk := (skipP_le (bytesI s) _ i.toNat rfl hil).2
 unfold itemR at e
 rw [itemP] at e
 simp only [skipP_skipP, sees_skip, take_skip]
 obtain ⟨hat, _⟩ := skip_at h
 refine ⟨h, fun g => ?_, fun g0 => ⟨hat, fun g => ?_, fun g1 => ⟨hat, ?_⟩⟩⟩
 · rw [if_pos (.inl g)] at e; cases e
 · rw [if_pos (.inr g)] at e; cases e
 rw [if_neg (by rw [g0, g1]; simp)] at e
 refine ⟨fun g => ?_, fun g => ?_⟩
 · unfold letP at e
   rw [if_pos g] at e
   cases e
   exact ⟨rfl, rfl⟩
 · have ht : takeP (bytesI s) 49 i.toNat = skipP (bytesI s) i.toNat := by unfold takeP; rw [g]; simp
   unfold letP at e
   rw [if_neg (by rw [g]; simp)] at e
   rw [ht]
   have hl := bytesI_length s
   have hsz := h.1
   generalize skipP (bytesI s) i.toNat = p at *
   split at e
   · rename_i hc
     obtain ⟨c1, c2, c3⟩ := hc
     have hb := byte_get s p
     have w1 : IntKind.i64.wrap ((p : Int) + 1) = (p : Int) + 1 := wrap64 (by omega) (by omega)
     have w2 : IntKind.i64.wrap ((p : Int) + 1 - 1) = (p : Int) := by rw [wrap64 (by omega) (by omega)]; omega
     have hA : IntKind.i64.wrap (IntKind.u8.wrap ((bytesI s).getD p 0 - 97)) = (bytesI s).getD p 0 - 97 := by rw [wrap8 (by omega) (by omega), wrap64 (by omega) (by omega)]
     have hB : IntKind.i64.wrap ((bytesI s).getD p 0 - 97 + 1) = (bytesI s).getD p 0 - 96 := by rw [wrap64 (by omega) (by omega)]; omega
     simp only [w1, w2, Int.toNat_natCast, bAt_get, hA, hB]
     cases e
     exact ⟨fun _ => by omega, fun _ => by omega, fun _ => ⟨by omega, rfl, rfl⟩, fun g4 => by have := g4 (by omega); omega⟩
   · cases e
theorem itemS_sem {d : Nat} (hd : d ≤ 49) (hI : ConOk Tryz.prog 95 (conW wordP d)) : ConOk Tryz.prog 132 (conW itemR (d + 1)) := conW_ok (by kernel_rfl) fun s i n w j h hn e => by
 refine fnSemF_at (live := []) (fzl := []) (fz := [some dI]) (gItm_ok hd hI) Tryz.func132 (by kernel_rfl) (keep := 1) rfl (by kernel_rfl) 100 ?_
 refine of_eq (q := let q0 := IntKind.i64.wrap; let q4 := (skipP (bytesI s) i.toNat); let q5 := ((50:Int) - (↑(d + (1:Nat)) : Int)); let q6 := (endP (bytesI s) (41:Int) (rdW (95:Nat) n (bytesI s) d (skipP (bytesI s) i.toNat + (1:Nat)))); let q7 := (endP (bytesI s) (93:Int) (rdW (143:Nat) n (bytesI s) d (skipP (bytesI s) q4 + (1:Nat)))); let q8 := (W.int .i64 n); let q10 := (skipP (bytesI s) q4); let q12 := (W.int .i64 q5); let q1 := (takeP (bytesI s) (49:Int) q10); let q2 := decide ((↑q1 : Int) < (s.size:Int)); let q3 := decide ((97:Int) ≤ bAt s q1); let q9 := (q0 ((↑q1 : Int) + (1:Int)) - (1:Int)); let q11 := decide (q0 (IntKind.u8.wrap (bAt s q1 - (97:Int))) < n); At s i ∧ (seesP (bytesI s) (40:Int) i.toNat = true → (At s (↑q4 : Int) ∧ (↑q4 : Int) < (s.size:Int) ∧ RG n ∧ (50:Int) - (↑(d + (1:Nat)) : Int) = (49:Int) - (d:Int) ∧ q6.isSome = true) ∧ packV [V.c (W.rd (D.int .i64) (gv q6).fst)] = lsI w ∧ [Ob.mk 140 [Fd.c (W.str s), Fd.c (W.int .i64 (↑(gv q6).snd : Int)), Fd.c q12, Fd.c q8]] = [rdO s (j:Int) q5 n]) ∧ (seesP (bytesI s) (40:Int) i.toNat = false → At s (↑q4 : Int) ∧ (seesP (bytesI s) (91:Int) q4 = true → (At s (↑q10 : Int) ∧ (↑q10 : Int) < (s.size:Int) ∧ RG n ∧ (50:Int) - (↑(d + (1:Nat)) : Int) = (49:Int) - (d:Int) ∧ q7.isSome = true) ∧ packV [V.c (W.rd (D.int .i64) (gv q7).fst)] = lsI w ∧ [Ob.mk 140 [Fd.c (W.str s), Fd.c (W.int .i64 (↑(gv q7).snd : Int)), Fd.c q12, Fd.c q8]] = [rdO s (j:Int) q5 n]) ∧ (seesP (bytesI s) (91:Int) q4 = false → At s (↑q10 : Int) ∧ (seesP (bytesI s) (49:Int) q10 = true → (0:Nat) ≤ (0:Nat) ∧ packV [V.c (W.rd (D.int .i64) (List.take (0:Nat) (List.drop (0:Nat) [])))] = lsI w ∧ [Ob.mk 140 [Fd.c (W.str s), Fd.c (W.int .i64 (↑q1 : Int)), Fd.c q12, Fd.c q8]] = [rdO s (j:Int) q5 n]) ∧ (seesP (bytesI s) (49:Int) q10 = false → (q2 = true → q2 = true) ∧ (q2 = true → q2 = true) ∧ (q2 = true → q2 = true) ∧ (q2 = true → q2 = true) ∧ (q2 = true → q2 = true) ∧ (q2 = true → q2 = true) ∧ (q2 = true → q2 = true) ∧ (q2 = true → q2 = true) ∧ (q2 = true → (0:Int) ≤ (↑q1 : Int) ∧ (↑q1 : Int) < (s.size:Int)) ∧ (q2 = true → q2 = true) ∧ (q2 = true → q2 = true) ∧ ((bif q2 then q3 else false) = true → (bif q2 then q3 else false) = true) ∧ ((bif q2 then q3 else false) = true → (bif q2 then q3 else false) = true) ∧ ((bif q2 then q3 else false) = true → (bif q2 then q3 else false) = true) ∧ ((bif q2 then q3 else false) = true → (bif q2 then q3 else false) = true) ∧ ((bif q2 then q3 else false) = true → (bif q2 then q3 else false) = true) ∧ ((bif q2 then q3 else false) = true → (bif q2 then q3 else false) = true) ∧ ((bif q2 then q3 else false) = true → (bif q2 then q3 else false) = true) ∧ ((bif q2 then q3 else false) = true → (bif q2 then q3 else false) = true) ∧ ((bif q2 then q3 else false) = true → (0:Int) ≤ (↑q1 : Int) ∧ (↑q1 : Int) < (s.size:Int)) ∧ ((bif q2 then q3 else false) = true → (bif q2 then q3 else false) = true) ∧ ((bif q2 then q3 else false) = true → (bif q2 then q3 else false) = true) ∧ ((bif q2 then q3 else false) = true → (bif q2 then q3 else false) = true) ∧ ((bif q2 then q3 else false) = true → (bif q2 then q3 else false) = true) ∧ ((bif q2 then q3 else false) = true → (bif q2 then q3 else false) = true) ∧ ((bif q2 then q3 else false) = true → (bif q2 then q3 else false) = true) ∧ ((bif q2 then q3 else false) = true → (bif q2 then q3 else false) = true) ∧ ((bif q2 then q3 else false) = true → (bif q2 then q3 else false) = true) ∧ ((bif q2 then q3 else false) = true → (bif q2 then q3 else false) = true) ∧ A.cond ((bif q2 then q3 else false) = true) (V.c q8) = A.cond ((bif q2 then q3 else false) = true) (V.c q8) ∧ ((bif q2 then q3 else false) = true → (bif q2 then q3 else false) = true) ∧ A.cond ((bif q2 then q3 else false) = true) (V.c q8) = A.cond ((bif q2 then q3 else false) = true) (V.c q8) ∧ ((bif bif q2 then q3 else false then q11 else false) = true → ((0:Int) ≤ q0 q9 ∧ q0 q9 < (s.size:Int)) ∧ (0:Nat) + (1:Nat) ≤ (1:Nat) ∧ packV [V.c (W.rd (D.int .i64) (List.take (1:Nat) (List.drop (0:Nat) [q0 (q0 (IntKind.u8.wrap (bAt s (q0 q9).toNat - (97:Int))) + (1:Int))])))] = lsI w ∧ [Ob.mk 140 [Fd.c (W.str s), Fd.c (W.int .i64 (q0 ((↑q1 : Int) + (1:Int)))), Fd.c q12, Fd.c q8]] = [rdO s (j:Int) q5 n]) ∧ ((bif bif q2 then q3 else false then q11 else false) = false → False))))) (by kernel_rfl) ?_
 try simp only [imp_self, true_and, Nat.zero_add, Bool.cond_false_right, Bool.and_eq_true, Bool.and_eq_false_imp, decide_eq_true_eq, decide_eq_false_iff_not, Int.not_lt, List.drop_zero, List.take_succ_cons, List.take_zero, Nat.le_refl]
 have hil : i.toNat ≤ (bytesI s).length := by rw [bytesI_length]; have := h.2; omega
 have hsk := (skipP_le (bytesI s) _ i.toNat rfl hil).2
 unfold itemR at e
 rw [itemP] at e
 simp only [skipP_skipP, sees_skip, take_skip]
 obtain ⟨hat, _⟩ := skip_at h
 refine ⟨h, fun g => ?_, fun g0 => ⟨hat, fun g => ?_, fun g1 => ⟨hat, ?_⟩⟩⟩
 · rw [if_pos g] at e
   have hr : rdW 95 n (bytesI s) d (skipP (bytesI s) i.toNat + 1) = wordP n (bytesI s) d (skipP (bytesI s) i.toNat + 1) := rfl
   have e' : endP (bytesI s) 41 (wordP n (bytesI s) d (skipP (bytesI s) i.toNat + 1)) = some (w, j) := e
   rw [hr, e']
   have hlt := (seesP_lt g).1
   rw [bytesI_length] at hlt
   exact ⟨⟨hat, by omega, hn, by omega, rfl⟩, rfl, rfl⟩
 · rw [if_neg (by rw [g0]; simp), if_pos g] at e
   have hr : rdW 143 n (bytesI s) d (skipP (bytesI s) i.toNat + 1) = comP (wordP n (bytesI s) d) (bytesI s) (skipP (bytesI s) i.toNat + 1) := rfl
   have e' : endP (bytesI s) 93 (comP (wordP n (bytesI s) d) (bytesI s) (skipP (bytesI s) i.toNat + 1)) = some (w, j) := e
   rw [hr, e']
   have hlt := (seesP_lt g).1
   rw [bytesI_length] at hlt
   exact ⟨⟨hat, by omega, hn, by omega, rfl⟩, rfl, rfl⟩
 rw [if_neg (by rw [g0]; simp), if_neg (by rw [g1]; simp)] at e
 refine ⟨fun g => ?_, fun g => ?_⟩
 · unfold letP at e
   rw [if_pos g] at e
   cases e
   exact ⟨rfl, rfl⟩
 · have ht : takeP (bytesI s) 49 i.toNat = skipP (bytesI s) i.toNat := by unfold takeP; rw [g]; simp
   unfold letP at e
   rw [if_neg (by rw [g]; simp)] at e
   rw [ht]
   have hl := bytesI_length s
   have hsz := h.1
   generalize skipP (bytesI s) i.toNat = p at *
   split at e
   · rename_i hc
     obtain ⟨c1, c2, c3⟩ := hc
     have hb := byte_get s p
     have w1 : IntKind.i64.wrap ((p : Int) + 1) = (p : Int) + 1 := wrap64 (by omega) (by omega)
     have w2 : IntKind.i64.wrap ((p : Int) + 1 - 1) = (p : Int) := by rw [wrap64 (by omega) (by omega)]; omega
     have hA : IntKind.i64.wrap (IntKind.u8.wrap ((bytesI s).getD p 0 - 97)) = (bytesI s).getD p 0 - 97 := by rw [wrap8 (by omega) (by omega), wrap64 (by omega) (by omega)]
     have hB : IntKind.i64.wrap ((bytesI s).getD p 0 - 97 + 1) = (bytesI s).getD p 0 - 96 := by rw [wrap64 (by omega) (by omega)]; omega
     simp only [w1, w2, Int.toNat_natCast, bAt_get, hA, hB]
     cases e
     exact ⟨fun _ => by omega, fun _ => by omega, fun _ => ⟨by omega, rfl, rfl⟩, fun g4 => by have := g4 (by omega); omega⟩
   · cases e
theorem word_all : ∀ d : Nat, d ≤ 50 → ConOk Tryz.prog 95 (conW wordP d)
 | 0, _ => word_sem (factor_sem item0_sem)
 | d + 1, h => word_sem (factor_sem (itemS_sem (by omega) (word_all d (by omega))))
end Go.Proofs.YtlcpgjjfjgbocaaGreatDoor

namespace Go.Proofs.YtlcpgjjfjgbocaaGreatDoor
open Go.Loom Go.Words
open Go.RowKit
set_option maxRecDepth 100000
theorem recovers_dfr : DfrOk Tryz.prog 94 2 := by
 refine ⟨by kernel_rfl, fun vs w hv => ?_⟩
 obtain ⟨x, y, rfl⟩ : ∃ x y, vs = #[x, y] := by
  rcases vs with ⟨l⟩
  match l, hv with
  | [x, y], _ => exact ⟨x, y, rfl⟩
 exact (recovers_idle x y w).mono fun e u' w' ⟨h1, h2, h3⟩ => ⟨h1, h2, by subst h3; exact Below.refl _ _⟩
noncomputable def gPa : Gam := [(95, conW wordP 50), (96, cBlanks)]
theorem gPa_ok : GamOk Tryz.prog gPa := gamOk_cons (word_all 50 (by decide)) (gamOk_cons cBlanks_ok gamOk_nil)
def dfPa : List { x : FuncId × Nat // DfrOk Tryz.prog x.1 x.2 } := [⟨(94, 2), recovers_dfr⟩]
abbrev okF (w : List Int) : A := .tup [.c (.rd (.int .i64) w), .agg [.int .i64 0, .int .i64 0]]
theorem parse_sem (s : ByteArray) (g : Int) (w : List Int) (hs : s.size ≤ 20000) (hg : RG g) (e : parseP g (bytesI s) = some w) : FnSem Tryz.prog 76 [.p (.c (.str s)), nI g] [] (okF w) [] := by
 refine fnSemD_at (live := []) (fzl := []) (fz := [some dI, none]) dfPa gPa_ok Tryz.func76 (by kernel_rfl) (keep := 0) rfl (by kernel_rfl) 100 ?_
 refine of_eq (q := let q1 := (wordP g (bytesI s) (50:Nat) (0:Nat)); let q2 := decide (g < (1:Int)); let q3 := (W.rd (D.int .i64) (List.take (0:Nat) (List.drop (0:Nat) []))); let q4 := decide ((↑(skipP (bytesI s) (gv q1).snd) : Int) < (s.size:Int)); (q2 = false → q2 = false) ∧ (q2 = false → q2 = false) ∧ ((bif q2 then true else decide ((16:Int) < g)) = true → (0:Nat) ≤ (0:Nat) ∧ packV [V.c q3, V.agg [W.int .i64 (2), W.int .i64 (0)]] = okF w ∧ ([] : List Ob) = []) ∧ ((bif q2 then true else decide ((16:Int) < g)) = false → (decide ((20000:Int) < (s.size:Int)) = true → (0:Nat) ≤ (0:Nat) ∧ packV [V.c q3, V.agg [W.int .i64 (4), W.int .i64 (20000)]] = okF w ∧ ([] : List Ob) = []) ∧ (decide ((20000:Int) < (s.size:Int)) = false → (At s (0:Int) ∧ RG g ∧ (0:Int) = (50:Int) - (↑(50:Nat) : Int) ∧ q1.isSome = true) ∧ At s (↑(gv q1).snd : Int) ∧ (q4 = true → False) ∧ (q4 = false → packV [V.c (W.rd (D.int .i64) (gv q1).fst), V.agg [W.int .i64 (0), W.int .i64 (0)]] = okF w ∧ ([] : List Ob) = [])))) (by kernel_rfl) ?_
 try simp only [imp_self, true_and, and_true, Bool.cond_true_left, Bool.or_eq_true, Bool.or_eq_false_iff, decide_eq_true_eq, decide_eq_false_iff_not, Int.not_lt, List.drop_zero, List.take_zero, Nat.le_refl]
 unfold parseP at e
 cases hv : wordP g (bytesI s) 50 0 with
 | none => rw [hv] at e; cases e
 | some vk =>
 obtain ⟨v, k⟩ := vk
 rw [hv] at e
 dsimp only at e
 obtain ⟨h1, h2⟩ := hg
 obtain ⟨f1, f2⟩ := fine_word 50 0 v k (Nat.zero_le _) hv
 have hl := bytesI_length s
 by_cases hs2 : skipP (bytesI s) k < (bytesI s).length
 · rw [if_pos hs2] at e; cases e
 · rw [if_neg hs2] at e
   cases e
   refine ⟨fun h => by omega, fun _ => ⟨fun h => by omega, fun _ => ⟨⟨⟨by omega, by omega, by omega⟩, ⟨h1, h2⟩, by omega, rfl⟩, at_nat (by omega) f2, fun h => ?_, fun _ => rfl⟩⟩⟩
   exact hs2 (by rw [hl]; have : skipP (bytesI s) k < s.size := by exact_mod_cast h
                 exact this)
def cParse : Con := con2 .str (.int .i64) fun s g => (.p (s.size ≤ 20000 ∧ RG g ∧ (parseP g (bytesI s)).isSome = true), okF ((parseP g (bytesI s)).getD []), [])
theorem cParse_ok : ConOk Tryz.prog 76 cParse := con2_ok (by kernel_rfl) fun s g h => by
 obtain ⟨h1, h2, h3⟩ := h
 obtain ⟨w, e⟩ := Option.isSome_iff_exists.1 h3
 rw [e]
 exact parse_sem s g w h1 h2 e
end Go.Proofs.YtlcpgjjfjgbocaaGreatDoor
