/- Reading words: what the reader reads, in plain terms. -/
import Derived.Test.YthbcgllgmacfdaaDoorWord2
import Derived.Test.YthbcgllgmacfdaaDoorWord0
import Derived.Test.YthbcgllgmacfdaaDoorLoom4
namespace Go.Proofs.YthbcgllgmacfdaaDoor
open Go.Loom Go.Words
set_option maxRecDepth 100000
/-! ### The plain reader -/
def dig (c : Int) : Bool := decide (48 ≤ c) && decide (c ≤ 57)
theorem isdig {c : Int} (h : 48 ≤ c ∧ c ≤ 57) : dig c = true := by simp [dig, h]
theorem dig_range {c : Int} (h : dig c = true) : 48 ≤ c ∧ c ≤ 57 := by
 unfold dig at h
 simpa using h
def skipP (l : List Int) (i : Nat) : Nat := if i < l.length ∧ l.getD i 0 = 32 then skipP l (i + 1) else i
 termination_by l.length - i
 decreasing_by omega
def digP (l : List Int) (i : Nat) : Nat := if i < l.length ∧ dig (l.getD i 0) = true then digP l (i + 1) else i
 termination_by l.length - i
 decreasing_by omega
theorem skipP_yes {l : List Int} {i : Nat} (h : i < l.length ∧ l.getD i 0 = 32) : skipP l i = skipP l (i + 1) := by rw [skipP, if_pos h]
theorem skipP_no {l : List Int} {i : Nat} (h : ¬ (i < l.length ∧ l.getD i 0 = 32)) : skipP l i = i := by rw [skipP, if_neg h]
theorem digP_yes {l : List Int} {i : Nat} (h : i < l.length ∧ dig (l.getD i 0) = true) : digP l i = digP l (i + 1) := by rw [digP, if_pos h]
theorem digP_no {l : List Int} {i : Nat} (h : ¬ (i < l.length ∧ dig (l.getD i 0) = true)) : digP l i = i := by rw [digP, if_neg h]
theorem skipP_le (l : List Int) : ∀ (m i : Nat), m = l.length - i → i ≤ l.length → i ≤ skipP l i ∧ skipP l i ≤ l.length
 | m, i, hm, hi => by
   by_cases h : i < l.length ∧ l.getD i 0 = 32
   · rw [skipP_yes h]
     cases m with
     | zero => omega
     | succ m => have := skipP_le l m (i + 1) (by omega) (by omega); omega
   · rw [skipP_no h]; omega
theorem skipP_stop (l : List Int) : ∀ (m i : Nat), m = l.length - i → ¬ (skipP l i < l.length ∧ l.getD (skipP l i) 0 = 32)
 | m, i, hm => by
   by_cases h : i < l.length ∧ l.getD i 0 = 32
   · rw [skipP_yes h]
     cases m with
     | zero => omega
     | succ m => exact skipP_stop l m (i + 1) (by omega)
   · rw [skipP_no h]; exact h
theorem skipP_skipP (l : List Int) (i : Nat) : skipP l (skipP l i) = skipP l i := skipP_no (skipP_stop l _ i rfl)
theorem digP_le (l : List Int) : ∀ (m i : Nat), m = l.length - i → i ≤ l.length → i ≤ digP l i ∧ digP l i ≤ l.length
 | m, i, hm, hi => by
   by_cases h : i < l.length ∧ dig (l.getD i 0) = true
   · rw [digP_yes h]
     cases m with
     | zero => omega
     | succ m => have := digP_le l m (i + 1) (by omega) (by omega); omega
   · rw [digP_no h]; omega
def seesP (l : List Int) (c : Int) (i : Nat) : Bool := decide (skipP l i < l.length ∧ l.getD (skipP l i) 0 = c)
def takeP (l : List Int) (c : Int) (i : Nat) : Nat := if seesP l c i = true then skipP l i + 1 else skipP l i
def expOk (l : List Int) (k : Nat) : Bool := decide (k < digP l k ∧ digP l k ≤ k + 4 ∧ ¬ (k + 1 < digP l k ∧ l.getD k 0 = 48))
def num (l : List Int) : Int := l.foldl (fun v c => v * 10 + (c - 48)) 0
def expV (l : List Int) (k : Nat) : Int := num ((l.drop k).take (digP l k - k))
abbrev Rdr := Nat → Option (List Int × Nat)
def facP (item : Rdr) (l : List Int) : Rdr := fun i => match item i with
 | none => none
 | some (w, j) => if 4000 < w.length then none else if seesP l 94 j = true then
  (if expOk l (takeP l 45 (takeP l 94 j)) = true then
   (if 4000 < expV l (takeP l 45 (takeP l 94 j)) * w.length then none else some (pw (if seesP l 45 (takeP l 94 j) = true then turnW w else w) (expV l (takeP l 45 (takeP l 94 j))).toNat, digP l (takeP l 45 (takeP l 94 j)))) else none)
   else some (w, takeP l 94 j)
def wLoop (fac : Rdr) (l : List Int) : Nat → List Int → Rdr
 | 0, _, _ => none
 | m + 1, acc, i => match fac (skipP l i) with
   | none => none
   | some (w, j) => if 4000 < (acc ++ w).length then none else if seesP l 42 j = true then wLoop fac l m (acc ++ w) (takeP l 42 j) else some (acc ++ w, takeP l 42 j)
def endP (l : List Int) (c : Int) (r : Option (List Int × Nat)) : Option (List Int × Nat) := match r with
 | none => none
 | some (w, k) => if seesP l c k = true then some (w, takeP l c k) else none
def comP (word : Rdr) (l : List Int) : Rdr := fun i => match endP l 44 (word i) with
 | none => none
 | some (x, k) => match word k with
   | none => none
   | some (y, j) => some (turnW x ++ turnW y ++ x ++ y, j)
def letP (g : Int) (l : List Int) : Rdr := fun i => if seesP l 49 i = true then some ([], takeP l 49 i) else
 if skipP l i < l.length ∧ 97 ≤ l.getD (skipP l i) 0 ∧ l.getD (skipP l i) 0 - 97 < g then some ([l.getD (skipP l i) 0 - 96], skipP l i + 1) else none
def itemP (g : Int) (l : List Int) : Nat → Rdr
 | 0, i => if seesP l 40 i = true ∨ seesP l 91 i = true then none else letP g l i
 | d + 1, i => if seesP l 40 i = true then endP l 41 (wLoop (facP (itemP g l d) l) l (l.length + 1) [] (skipP l i + 1))
  else if seesP l 91 i = true then endP l 93 (comP (wLoop (facP (itemP g l d) l) l (l.length + 1) []) l (skipP l i + 1))
  else letP g l i
def wordP (g : Int) (l : List Int) (d : Nat) : Rdr := wLoop (facP (itemP g l d) l) l (l.length + 1) []
def parseP (g : Int) (l : List Int) : Option (List Int) := match wordP g l 50 0 with
 | none => none
 | some (w, j) => if skipP l j < l.length then none else some w
end Go.Proofs.YthbcgllgmacfdaaDoor

namespace Go.Proofs.YthbcgllgmacfdaaDoor
open Go.Loom Go.Words
set_option maxRecDepth 100000
/-! ### What is seen -/
def decL (x : Nat) : List Int := if x < 10 then [48 + (x : Int)] else [48 + ((x / 10 : Nat) : Int), 48 + ((x % 10 : Nat) : Int)]
/-! ### Texts -/
def runLen (x : Int) : List Int → Nat
 | [] => 0
 | y :: l => if y = x then runLen x l + 1 else 0
theorem runLen_le (x : Int) : ∀ l : List Int, runLen x l ≤ l.length
 | [] => Nat.le_refl _
 | y :: l => by
   have := runLen_le x l
   unfold runLen
   split <;> simp <;> omega
def runsL : List Int → List (List Int)
 | [] => []
 | x :: l => [x, ((runLen x l + 1 : Nat) : Int)] :: runsL (l.drop (runLen x l))
 termination_by l => l.length
 decreasing_by simp; omega
def pieceL (x : Int) (n : Nat) : List Int := (96 + (x.natAbs : Int)) :: (if x < 0 then 94 :: 45 :: decL n else if 1 < n then 94 :: decL n else [])
def pieceY (y : List Int) : List Int := pieceL (y.getD 0 0) (y.getD 1 0).toNat
def joinL : List (List Int) → List Int
 | [] => []
 | [p] => p
 | p :: q :: r => p ++ 42 :: joinL (q :: r)
def textL (a : List Int) : List Int := if a = [] then [49] else joinL ((runsL a).map pieceY)
def GoodY (g : Int) (y : List Int) : Prop := ∃ (x : Int) (n : Nat), y = [x, (n : Int)] ∧ x ≠ 0 ∧ (x.natAbs : Int) ≤ g ∧ 1 ≤ n ∧ n < 100
def GoodW (g : Int) (a : List Int) : Prop := ∀ x ∈ a, x ≠ 0 ∧ (x.natAbs : Int) ≤ g
theorem runs_good {g : Int} : ∀ (n : Nat) (a : List Int), a.length ≤ n → n < 100 → GoodW g a → ∀ y ∈ runsL a, GoodY g y
 | _, [], _, _, _, y, hy => by rw [runsL] at hy; cases hy
 | 0, x :: l, h, _, _, _, _ => by simp at h
 | n + 1, x :: l, h, hn, hg, y, hy => by
   have hl := runLen_le x l
   simp only [List.length_cons] at h
   rw [runsL] at hy
   rcases List.mem_cons.1 hy with rfl | hy
   · obtain ⟨h1, h2⟩ := hg x (by simp)
     exact ⟨x, _, rfl, h1, h2, by omega, by omega⟩
   · exact runs_good n _ (by simp; omega) (by omega) (fun z hz => hg z (by simp [List.mem_of_mem_drop hz])) y hy
theorem runs_ne {a : List Int} (h : a ≠ []) : runsL a ≠ [] := by
 cases a with
 | nil => exact absurd rfl h
 | cons x l => rw [runsL]; simp
/-! ### Reading them -/
end Go.Proofs.YthbcgllgmacfdaaDoor

namespace Go.Proofs.YthbcgllgmacfdaaDoor
open Go.Loom Go.Words
set_option maxRecDepth 100000
theorem bytesI_length (s : ByteArray) : (bytesI s).length = s.size := by simp [bytesI]
theorem bAt_get (s : ByteArray) (i : Nat) : bAt s i = (bytesI s).getD i 0 := by
 unfold bAt bytesI
 rw [List.getD_eq_getElem?_getD, List.getD_eq_getElem?_getD, List.getElem?_map]
 cases s.data.toList[i]? <;> rfl
theorem byte_get (s : ByteArray) (i : Nat) : 0 ≤ (bytesI s).getD i 0 ∧ (bytesI s).getD i 0 < 256 := by
 rw [← bAt_get]
 unfold bAt
 have := (s.data.toList.getD i 0).toNat_lt
 omega
theorem wrap8 {n : Int} (h1 : 0 ≤ n) (h2 : n ≤ 255) : IntKind.u8.wrap n = n := IntWalk.u8_in n ⟨h1, h2⟩
abbrev rdO (s : ByteArray) (i o g : Int) : Ob := ⟨69, [.c (.str s), .c (.int .i64 i), .c (.int .i64 o), .c (.int .i64 g)]⟩
def asRd : Ob → Option (ByteArray × Int × Int × Int)
 | ⟨ty, [.c (.str s), .c (.int k i), .c (.int k' o), .c (.int k'' g)]⟩ => bif Nat.beq ty 69 then (if k = .i64 ∧ k' = .i64 ∧ k'' = .i64 then some (s, i, o, g) else none) else none
 | _ => none
theorem asRd_eq {ob : Ob} {s : ByteArray} {i o g : Int} (e : asRd ob = some (s, i, o, g)) : ob = rdO s i o g := by
 unfold asRd at e
 split at e
 · obtain ⟨hb, e⟩ := Mill.bif_some e
   rw [Nat.beq_eq] at hb
   subst hb
   split at e
   · rename_i h
     obtain ⟨rfl, rfl, rfl⟩ := h
     cases e
     rfl
   · cases e
 · cases e
abbrev pt0 : A := .p (.c (.ptr 0 0))
abbrev u8A (c : Int) : A := .p (.c (.int .u8 c))
def conR (g : ByteArray → Int → Int → Int → Cd × A × List Ob) : Con := { refs := [true], f := fun args objs => match args, objs with
 | [.p (.c (.ptr a b))], [o] => bif Nat.beq a 0 && Nat.beq b 0 then (match asRd o with | some (s, i, o, n) => some (g s i o n) | none => none) else none
 | _, _ => none }
def conRc (g : Int → ByteArray → Int → Int → Int → Cd × A × List Ob) : Con := { refs := [true, false], f := fun args objs => match args, objs with
 | [.p (.c (.ptr a b)), .p (.c (.int .u8 c))], [o] => bif Nat.beq a 0 && Nat.beq b 0 then (match asRd o with | some (s, i, o, n) => some (g c s i o n) | none => none) else none
 | _, _ => none }
theorem conR_ok {f : FuncId} {g : ByteArray → Int → Int → Int → Cd × A × List Ob} (he : enters Tryd.prog f = true) (h : ∀ s i o n, (g s i o n).1 → FnSem Tryd.prog f [pt0] [rdO s i o n] (g s i o n).2.1 (g s i o n).2.2) : ConOk Tryd.prog f (conR g) := by
 refine ⟨he, fun args objs c r objs' e hc => ?_⟩
 simp only [conR] at e
 split at e
 · obtain ⟨hb, e⟩ := Mill.bif_some e
   simp only [Bool.and_eq_true, Nat.beq_eq] at hb
   obtain ⟨rfl, rfl⟩ := hb
   split at e
   · rename_i s i o n hr
     rw [asRd_eq hr]
     have := h s i o n
     injection e with e
     rw [e] at this
     exact this hc
   · cases e
 · cases e
theorem conRc_ok {f : FuncId} {g : Int → ByteArray → Int → Int → Int → Cd × A × List Ob} (he : enters Tryd.prog f = true) (h : ∀ c s i o n, (g c s i o n).1 → FnSem Tryd.prog f [pt0, u8A c] [rdO s i o n] (g c s i o n).2.1 (g c s i o n).2.2) : ConOk Tryd.prog f (conRc g) := by
 refine ⟨he, fun args objs c r objs' e hc => ?_⟩
 simp only [conRc] at e
 split at e
 · rename_i c _
   obtain ⟨hb, e⟩ := Mill.bif_some e
   simp only [Bool.and_eq_true, Nat.beq_eq] at hb
   obtain ⟨rfl, rfl⟩ := hb
   split at e
   · rename_i s i o n hr
     rw [asRd_eq hr]
     have := h c s i o n
     injection e with e
     rw [e] at this
     exact this hc
   · cases e
 · cases e
def At (s : ByteArray) (i : Int) : Prop := s.size ≤ 1000000 ∧ 0 ≤ i ∧ i ≤ s.size
abbrev seesB (c : Int) (s : ByteArray) (i : Int) : A := bB (seesP (bytesI s) c i.toNat)
theorem toNat_cast {i : Int} (h : 0 ≤ i) : ((i.toNat : Nat) : Int) = i := by omega
noncomputable def sBl : Site := mkSite Tryd.prog [] Tryd.f41 1 [([0], [0])]
theorem blanks_loop (s : ByteArray) (hs : s.size ≤ 1000000) (o n : Int) : ∀ (m i : Nat), m = s.size - i → i ≤ s.size →
 AtLoop sBl (Says1 (.tup []) [rdO s (skipP (bytesI s) i) o n]) [0] (fr [(0, pt0)]) (.ofList [⟨69, [.c (.str s), .c (.int .i64 i), .c (.int .i64 o), .c (.int .i64 n)]⟩])
 | m, i, hm, hi => by
   refine atLoop_at gamOk_nil (by kernel_rfl) 100 ?_
   refine of_eq (q := let q1 := decide ((i:Int) < (s.size:Int)); (q1 = true → q1 = true) ∧ (q1 = true → q1 = true) ∧ (q1 = true → q1 = true) ∧ (q1 = true → q1 = true) ∧ (q1 = true → q1 = true) ∧ (q1 = true → q1 = true) ∧ (q1 = true → q1 = true) ∧ (q1 = true → q1 = true) ∧ (q1 = true → (0:Int) ≤ (i:Int) ∧ (i:Int) < (s.size:Int)) ∧ (q1 = true → q1 = true) ∧ (q1 = true → q1 = true) ∧ ((bif q1 then decide (bAt s i = (32:Int)) else false) = true → AtLoop sBl (Says1 (A.tup []) [rdO s (↑(skipP (bytesI s) i) : Int) o n]) [0] (fr [(0, A.p (V.c (W.ptr 0 0)))]) (Sto.ofList [Ob.mk 69 [Fd.c (W.str s), Fd.c (W.int .i64 (IntKind.i64.wrap ((i:Int) + (1:Int)))), Fd.c (W.int .i64 o), Fd.c (W.int .i64 n)]])) ∧ ((bif q1 then decide (bAt s i = (32:Int)) else false) = false → packV [] = A.tup [] ∧ [Ob.mk 69 [Fd.c (W.str s), Fd.c (W.int .i64 (i:Int)), Fd.c (W.int .i64 o), Fd.c (W.int .i64 n)]] = [rdO s (↑(skipP (bytesI s) i) : Int) o n])) (by kernel_rfl) ?_
   try simp only [imp_self, true_and, Bool.cond_false_right, Bool.and_eq_true, Bool.and_eq_false_imp, decide_eq_true_eq, decide_eq_false_iff_not]
   simp only [bAt_get]
   have hl := bytesI_length s
   refine ⟨fun h => by omega, fun h => ?_, fun h => ?_⟩
   · rw [wrap64 (by omega) (by omega), skipP_yes (by omega)]
     cases m with
     | zero => omega
     | succ m => exact blanks_loop s hs o n m (i + 1) (by omega) (by omega)
   · rw [skipP_no (by omega)]
     exact ⟨rfl, rfl⟩
theorem blanks_sem (s : ByteArray) (i : Int) (h : At s i) (o n : Int) : FnSem Tryd.prog 41 [pt0] [rdO s i o n] (.tup []) [rdO s (skipP (bytesI s) i.toNat) o n] := by
 obtain ⟨h1, h2, h3⟩ := h
 refine fnSem_at (live := [([0], [0])]) gamOk_nil Tryd.func41 (by kernel_rfl) (keep := 1) rfl (by kernel_rfl) 100 ?_
 refine of_eq (q := AtLoop (mkSite Tryd.prog [] Tryd.f41 (1:Nat) [([0], [0])]) (Says1 (A.tup []) [rdO s (↑(skipP (bytesI s) i.toNat) : Int) o n]) [0] (fr [(0, A.p (V.c (W.ptr 0 0)))]) (Sto.ofList [Ob.mk 69 [Fd.c (W.str s), Fd.c (W.int .i64 i), Fd.c (W.int .i64 o), Fd.c (W.int .i64 n)]])) (by kernel_rfl) ?_
 have := blanks_loop s h1 o n _ i.toNat rfl (by omega)
 rw [toNat_cast h2] at this
 exact this
def cBlanks : Con := conR fun s i o n => (.p (At s i), .tup [], [rdO s (skipP (bytesI s) i.toNat) o n])
theorem cBlanks_ok : ConOk Tryd.prog 41 cBlanks := conR_ok (by kernel_rfl) fun s i o n h => blanks_sem s i h o n
theorem skip_at {s : ByteArray} {i : Int} (h : At s i) : At s (skipP (bytesI s) i.toNat) ∧ i.toNat ≤ skipP (bytesI s) i.toNat := by
 obtain ⟨h1, h2, h3⟩ := h
 have := skipP_le (bytesI s) _ i.toNat rfl (by rw [bytesI_length]; omega)
 rw [bytesI_length] at this
 exact ⟨⟨h1, by omega, by omega⟩, this.1⟩
noncomputable def gSe : Gam := [(41, cBlanks)]
theorem gSe_ok : GamOk Tryd.prog gSe := gamOk_cons cBlanks_ok gamOk_nil
theorem sees_sem (c : Int) (s : ByteArray) (i o n : Int) (h : At s i) : FnSem Tryd.prog 70 [pt0, u8A c] [rdO s i o n] (seesB c s i) [rdO s (skipP (bytesI s) i.toNat) o n] := by
 refine fnSem_at (live := []) gSe_ok Tryd.func70 (by kernel_rfl) (keep := 1) rfl (by kernel_rfl) 100 ?_
 refine of_eq (q := let q2 := (↑(skipP (bytesI s) i.toNat) : Int); let q1 := decide (q2 < (s.size:Int)); At s i ∧ (q1 = true → q1 = true) ∧ (q1 = true → q1 = true) ∧ (q1 = true → q1 = true) ∧ (q1 = true → q1 = true) ∧ (q1 = true → q1 = true) ∧ (q1 = true → q1 = true) ∧ (q1 = true → q1 = true) ∧ (q1 = true → q1 = true) ∧ (q1 = true → (0:Int) ≤ q2 ∧ q2 < (s.size:Int)) ∧ (q1 = true → q1 = true) ∧ (q1 = true → q1 = true) ∧ (q1 = true → q1 = true) ∧ packV [V.c (W.bool (bif q1 then decide (bAt s (skipP (bytesI s) i.toNat) = c) else false))] = seesB c s i ∧ [Ob.mk 69 [Fd.c (W.str s), Fd.c (W.int .i64 q2), Fd.c (W.int .i64 o), Fd.c (W.int .i64 n)]] = [rdO s q2 o n]) (by kernel_rfl) ?_
 try simp only [imp_self, true_and, and_true, Bool.cond_false_right, decide_eq_true_eq]
 obtain ⟨⟨h1, h2, h3⟩, _⟩ := skip_at h
 refine ⟨h, fun h4 => by omega, ?_⟩
 show A.p (V.c (W.bool _)) = A.p (V.c (W.bool _))
 congr 3
 unfold seesP
 rw [bytesI_length, bAt_get, Bool.eq_iff_iff]
 simp only [Bool.and_eq_true, decide_eq_true_eq]
 omega
def cSees : Con := conRc fun c s i o n => (.p (At s i), seesB c s i, [rdO s (skipP (bytesI s) i.toNat) o n])
theorem cSees_ok : ConOk Tryd.prog 70 cSees := conRc_ok (by kernel_rfl) fun c s i o n h => sees_sem c s i o n h
noncomputable def gTk : Gam := [(70, cSees)]
theorem gTk_ok : GamOk Tryd.prog gTk := gamOk_cons cSees_ok gamOk_nil
theorem seesP_lt {l : List Int} {c : Int} {i : Nat} (h : seesP l c i = true) : skipP l i < l.length ∧ l.getD (skipP l i) 0 = c := by
 unfold seesP at h
 exact of_decide_eq_true h
theorem take_at (c : Int) {s : ByteArray} {i : Int} (h : At s i) : At s (takeP (bytesI s) c i.toNat) := by
 obtain ⟨⟨h1, h2, h3⟩, _⟩ := skip_at h
 unfold takeP
 split
 · rename_i h4
   have := (seesP_lt h4).1
   rw [bytesI_length] at this
   exact ⟨h1, by omega, by omega⟩
 · exact ⟨h1, h2, h3⟩
theorem takes_sem (c : Int) (s : ByteArray) (i o n : Int) (h : At s i) : FnSem Tryd.prog 60 [pt0, u8A c] [rdO s i o n] (seesB c s i) [rdO s (takeP (bytesI s) c i.toNat) o n] := by
 refine fnSem_at (live := []) gTk_ok Tryd.func60 (by kernel_rfl) (keep := 1) rfl (by kernel_rfl) 100 ?_
 refine of_eq (q := At s i ∧ (seesP (bytesI s) c i.toNat = true → packV [V.c (W.bool (seesP (bytesI s) c i.toNat))] = seesB c s i ∧ [Ob.mk 69 [Fd.c (W.str s), Fd.c (W.int .i64 (IntKind.i64.wrap ((↑(skipP (bytesI s) i.toNat) : Int) + (1:Int)))), Fd.c (W.int .i64 o), Fd.c (W.int .i64 n)]] = [rdO s (↑(takeP (bytesI s) c i.toNat) : Int) o n]) ∧ (seesP (bytesI s) c i.toNat = false → packV [V.c (W.bool (seesP (bytesI s) c i.toNat))] = seesB c s i ∧ [Ob.mk 69 [Fd.c (W.str s), Fd.c (W.int .i64 (↑(skipP (bytesI s) i.toNat) : Int)), Fd.c (W.int .i64 o), Fd.c (W.int .i64 n)]] = [rdO s (↑(takeP (bytesI s) c i.toNat) : Int) o n])) (by kernel_rfl) ?_
 obtain ⟨⟨h1, h2, h3⟩, _⟩ := skip_at h
 have h5 := take_at c h
 unfold At at h5
 unfold takeP at h5 ⊢
 refine ⟨h, fun h6 => ⟨rfl, ?_⟩, fun h6 => ⟨rfl, ?_⟩⟩
 · rw [if_pos h6] at h5 ⊢
   rw [wrap64 (by omega) (by omega)]
   rfl
 · rw [if_neg (by rw [h6]; simp)]
def cTakes : Con := conRc fun c s i o n => (.p (At s i), seesB c s i, [rdO s (takeP (bytesI s) c i.toNat) o n])
theorem cTakes_ok : ConOk Tryd.prog 60 cTakes := conRc_ok (by kernel_rfl) fun c s i o n h => takes_sem c s i o n h
noncomputable def gWa : Gam := [(60, cTakes)]
theorem gWa_ok : GamOk Tryd.prog gWa := gamOk_cons cTakes_ok gamOk_nil
theorem wants_sem (c : Int) (s : ByteArray) (i o n : Int) (h : At s i) (hc : seesP (bytesI s) c i.toNat = true) : FnSem Tryd.prog 86 [pt0, u8A c] [rdO s i o n] (.tup []) [rdO s (takeP (bytesI s) c i.toNat) o n] := by
 refine fnSem_at (live := []) gWa_ok Tryd.func86 (by kernel_rfl) (keep := 1) rfl (by kernel_rfl) 100 ?_
 refine of_eq (q := At s i ∧ ((!seesP (bytesI s) c i.toNat) = true → False) ∧ ((!seesP (bytesI s) c i.toNat) = false → packV [] = A.tup [] ∧ [Ob.mk 69 [Fd.c (W.str s), Fd.c (W.int .i64 (↑(takeP (bytesI s) c i.toNat) : Int)), Fd.c (W.int .i64 o), Fd.c (W.int .i64 n)]] = [rdO s (↑(takeP (bytesI s) c i.toNat) : Int) o n])) (by kernel_rfl) ?_
 try simp only [and_true, Bool.not_eq_true', Bool.not_eq_false']
 exact ⟨h, (fun h1 => by rw [hc] at h1; cases h1), fun _ => rfl⟩
def cWants : Con := conRc fun c s i o n => (.p (At s i ∧ seesP (bytesI s) c i.toNat = true), .tup [], [rdO s (takeP (bytesI s) c i.toNat) o n])
theorem cWants_ok : ConOk Tryd.prog 86 cWants := conRc_ok (by kernel_rfl) fun c s i o n h => wants_sem c s i o n h.1 h.2
theorem fits_sem (w : List Int) (k : Int) (s : ByteArray) (i o n : Int) (h : w.length ≤ 4000) : FnSem Tryd.prog 58 [pt0, lsI w, nI k] [rdO s i o n] (lsI w) [rdO s i o n] := by
 refine fnSem_at (live := []) gamOk_nil Tryd.func58 (by kernel_rfl) (keep := 1) rfl (by kernel_rfl) 100 ?_
 refine of_eq (q := (decide ((4000:Int) < (w.length:Int)) = true → False) ∧ (decide ((4000:Int) < (w.length:Int)) = false → packV [V.c (W.rd (D.int .i64) w)] = lsI w ∧ [Ob.mk 69 [Fd.c (W.str s), Fd.c (W.int .i64 i), Fd.c (W.int .i64 o), Fd.c (W.int .i64 n)]] = [rdO s i o n])) (by kernel_rfl) ?_
 try simp only [and_true, decide_eq_true_eq, decide_eq_false_iff_not, Int.not_lt]
 exact ⟨fun h1 => by omega, fun _ => rfl⟩
theorem fitsO_sem (w : List Int) (m : Nat) (k : Int) (s : ByteArray) (i o n : Int) (h : m ≤ 4000 ∧ m ≤ w.length) : FnSem Tryd.prog 58 [pt0, slI 1 m, nI k] [rdO s i o n, obI w] (slI 1 m) [rdO s i o n, obI w] := by
 refine fnSem_at (live := []) gamOk_nil Tryd.func58 (by kernel_rfl) (keep := 2) rfl (by kernel_rfl) 100 ?_
 refine of_eq (q := (decide ((4000:Int) < (m:Int)) = true → False) ∧ (decide ((4000:Int) < (m:Int)) = false → packV [V.c (W.sl ((0:Nat) + (1:Nat)) (0:Nat) m (1:Nat))] = slI (1:Nat) m ∧ [Ob.mk 69 [Fd.c (W.str s), Fd.c (W.int .i64 i), Fd.c (W.int .i64 o), Fd.c (W.int .i64 n)], Ob.mk 3 [Fd.a 0 (D.int .i64) w]] = [rdO s i o n, obI w])) (by kernel_rfl) ?_
 try simp only [and_true, Nat.zero_add, decide_eq_true_eq, decide_eq_false_iff_not, Int.not_lt]
 exact ⟨fun h1 => by omega, fun _ => rfl⟩
def asI : Ob → Option (List Int)
 | ⟨ty, [.a k d l]⟩ => bif Nat.beq ty 3 && Nat.beq k 0 then (if h : d = .int .i64 then some (h ▸ l : List (D.int .i64).ty) else none) else none
 | _ => none
theorem asI_eq {o : Ob} {l : List Int} (e : asI o = some l) : o = obI l := by
 unfold asI at e
 split at e
 · obtain ⟨hb, e⟩ := Mill.bif_some e
   simp only [Bool.and_eq_true, Nat.beq_eq] at hb
   obtain ⟨rfl, rfl⟩ := hb
   split at e
   · rename_i h; subst h; cases e; rfl
   · cases e
 · cases e
def conFits : Con := { refs := [true, true, false], f := fun args objs => match args, objs with
 | [.p (.c (.ptr a b)), .p (.c (.rd (.int .i64) w)), .p (.c (.int .i64 _))], [o] => bif Nat.beq a 0 && Nat.beq b 0 then (match asRd o with | some (s, i, o, n) => some (.p (List.length (α := Int) w ≤ 4000), lsI w, [rdO s i o n]) | none => none) else none
 | [.p (.c (.ptr a b)), .p (.c (.sl x y m z)), .p (.c (.int .i64 _))], [o, o2] => bif Nat.beq a 0 && (Nat.beq b 0 && (Nat.beq x 1 && (Nat.beq y 0 && Nat.beq z 1))) then (match asRd o, asI o2 with | some (s, i, o, n), some w => some (.p (m ≤ 4000 ∧ m ≤ List.length (α := Int) w), slI 1 m, [rdO s i o n, obI w]) | _, _ => none) else none
 | _, _ => none }
theorem conFits_ok : ConOk Tryd.prog 58 conFits := by
 refine ⟨by kernel_rfl, fun args objs c r objs' e hc => ?_⟩
 simp only [conFits] at e
 split at e
 · obtain ⟨hb, e⟩ := Mill.bif_some e
   simp only [Bool.and_eq_true, Nat.beq_eq] at hb
   obtain ⟨rfl, rfl⟩ := hb
   split at e
   · rename_i s i o n hr
     rw [asRd_eq hr]
     cases e
     exact fits_sem _ _ s i o n hc
   · cases e
 · obtain ⟨hb, e⟩ := Mill.bif_some e
   simp only [Bool.and_eq_true, Nat.beq_eq] at hb
   obtain ⟨rfl, rfl, rfl, rfl, rfl⟩ := hb
   split at e
   · rename_i s i o n w hr hw
     rw [asRd_eq hr, asI_eq hw]
     cases e
     exact fitsO_sem _ _ _ s i o n hc
   · cases e
 · cases e
/-! ### Numbers -/
theorem num_snoc (l : List Int) (c : Int) : num (l ++ [c]) = num l * 10 + (c - 48) := by simp [num]
theorem num_range : ∀ (k : Nat) (l : List Int), l.length = k → k ≤ 4 → (∀ c ∈ l, dig c = true) → 0 ≤ num l ∧ num l < 10 ^ k
 | 0, l, hl, _, _ => by
   have := List.length_eq_zero_iff.1 hl
   subst this
   simp [num]
 | k + 1, l, hl, hk, hd => by
   obtain ⟨m, y, rfl⟩ : ∃ m y, l = m ++ [y] := by
    rcases snoc_of (v := l) with h | h
    · subst h; simp at hl
    · exact h
   have h1 := dig_range (hd y (by simp))
   have h2 := num_range k m (by simpa using hl) (by omega) fun c hc => hd c (by simp [hc])
   rw [num_snoc, Int.pow_succ]
   omega
theorem dig_at {s : ByteArray} (hd : ∀ c ∈ bytesI s, dig c = true) {i : Nat} (h : i < s.size) : 48 ≤ (bytesI s).getD i 0 ∧ (bytesI s).getD i 0 ≤ 57 := by
 refine dig_range (hd _ ?_)
 have hi : i < (bytesI s).length := by rw [bytesI_length]; exact h
 rw [List.getD_eq_getElem?_getD, List.getElem?_eq_getElem hi]
 exact List.getElem_mem hi
theorem num_small {s : ByteArray} (hd : ∀ c ∈ bytesI s, dig c = true) (hs : s.size ≤ 4) {i : Nat} (h : i ≤ s.size) : 0 ≤ num ((bytesI s).take i) ∧ num ((bytesI s).take i) < 10000 := by
 have hl := bytesI_length s
 have := num_range i ((bytesI s).take i) (by rw [List.length_take]; omega) (by omega) fun c hc => hd c (List.mem_of_mem_take hc)
 have h2 : (10 : Int) ^ i ≤ 10 ^ 4 := by
  have : i = 0 ∨ i = 1 ∨ i = 2 ∨ i = 3 ∨ i = 4 := by omega
  rcases this with rfl | rfl | rfl | rfl | rfl <;> decide
 omega
noncomputable def sAt : Site := mkSite Tryd.prog [] Tryd.f87 0 [([0, 1, 0, 1, 1, 1, 0, 1, 0, 1, 1], [5, 6, 47, 48, 49])]
theorem atoi_loop (s : ByteArray) (hd : ∀ c ∈ bytesI s, dig c = true) (hs : 1 ≤ s.size ∧ s.size ≤ 4) : ∀ (k i : Nat), k = s.size - i → i ≤ s.size →
 AtLoop sAt (Says1 (.tup [.c (.int .i64 (num (bytesI s))), .c .nilif]) []) [0, 1, 0, 1, 1, 1, 0, 1, 0, 1, 1] (fr [(5, .p (.c (.str s))), (6, nI (num ((bytesI s).take i))), (47, slI 0 s.size), (48, nI s.size), (49, nI i)]) (.ofList [⟨5, [.a 0 (.int .u8) (bytesI s)]⟩])
 | k, i, hk, hi => by
   refine atLoop_at gamOk_nil (by kernel_rfl) 100 ?_
   refine of_eq (q := let q0 := IntKind.i64.wrap; let q1 := ((bytesI s).getD ((0:Nat) + i) (0:Int) - (48:Int)); let q2 := (W.int .i64 (num (bytesI s))); (decide ((i:Int) < (s.size:Int)) = true → ((0:Int) ≤ (i:Int) ∧ (i:Int) < (s.size:Int)) ∧ (0:Nat) + i < (bytesI s).length ∧ (decide ((9:Int) < IntKind.u8.wrap q1) = true → False) ∧ (decide ((9:Int) < IntKind.u8.wrap q1) = false → AtLoop sAt (Says1 (A.tup [V.c q2, V.c W.nilif]) []) [0, 1, 0, 1, 1, 1, 0, 1, 0, 1, 1] (fr [(5, A.p (V.c (W.str s))), (6, nI (q0 (q0 (num (List.take i (bytesI s)) * (10:Int)) + q0 (IntKind.u8.wrap q1)))), (47, A.p (V.c (W.sl 0 0 s.size 1))), (48, nI (s.size:Int)), (49, nI (q0 ((i:Int) + (1:Int))))]) (Sto.ofList [Ob.mk 5 [Fd.a 0 (D.int .u8) (bytesI s)]]))) ∧ (decide ((i:Int) < (s.size:Int)) = false → ((0:Int) ≤ (0:Int) ∧ (0:Int) < (s.size:Int)) ∧ (decide (bAt s (0:Nat) = (45:Int)) = true → packV [V.c (W.int .i64 (q0 ((0:Int) - num (List.take i (bytesI s))))), V.c W.nilif] = A.tup [V.c q2, V.c W.nilif] ∧ ([] : List Ob) = []) ∧ (decide (bAt s (0:Nat) = (45:Int)) = false → packV [V.c (W.int .i64 (num (List.take i (bytesI s)))), V.c W.nilif] = A.tup [V.c q2, V.c W.nilif] ∧ ([] : List Ob) = []))) (by kernel_rfl) ?_
   try simp only [true_and, and_true, Nat.zero_add, decide_eq_true_eq, decide_eq_false_iff_not, Int.not_lt, Int.le_refl]
   have hl := bytesI_length s
   have h0 := dig_at hd (i := 0) (by omega)
   rw [bAt_get]
   refine ⟨fun h => ?_, fun h => ⟨by omega, fun h1 => by omega, fun _ => ?_⟩⟩
   · have h1 := dig_at hd (i := i) (by omega)
     have h2 := num_small hd hs.2 hi
     rw [wrap8 (by omega) (by omega)]
     refine ⟨by omega, by omega, fun h3 => by omega, fun _ => ?_⟩
     rw [wrap64 (n := (bytesI s).getD i 0 - 48) (by omega) (by omega), wrap64 (n := num (List.take i (bytesI s)) * 10) (by omega) (by omega), wrap64 (n := num (List.take i (bytesI s)) * 10 + _) (by omega) (by omega), wrap64 (n := (i : Int) + 1) (by omega) (by omega), ← num_snoc, ← take_snoc (by omega)]
     cases k with
     | zero => omega
     | succ k => exact atoi_loop s hd hs k (i + 1) (by omega) (by omega)
   · rw [List.take_of_length_le (by omega)]; rfl
theorem atoi_sem (s : ByteArray) (hd : ∀ c ∈ bytesI s, dig c = true) (hs : 1 ≤ s.size ∧ s.size ≤ 4) : FnSem Tryd.prog 87 [.p (.c (.str s))] [] (.tup [.c (.int .i64 (num (bytesI s))), .c .nilif]) [] := by
 refine fnSem_at (live := [([0, 1, 0, 1, 1, 1, 0, 1, 0, 1, 1], [5, 6, 47, 48, 49])]) gamOk_nil Tryd.func87 (by kernel_rfl) (keep := 0) rfl (by kernel_rfl) 100 ?_
 refine of_eq (q := let q1 := decide (bAt s (0:Nat) = (45:Int)); let q3 := (s.extract (1:Nat) s.size); let q4 := (s.size:Int); let q5 := ([0, 1, 0, 1, 1, 1, 0, 1, 0, 1, 1], [5, 6, 47, 48, 49]); let q2 := decide ((0:Int) < q4); (q2 = true → q2 = true) ∧ (q2 = true → q2 = true) ∧ ((bif q2 then decide (q4 < (19:Int)) else false) = true → ((0:Int) ≤ (0:Int) ∧ (0:Int) < q4) ∧ (q1 = false → q1 = false) ∧ (q1 = false → (0:Int) ≤ (0:Int) ∧ (0:Int) < q4) ∧ (q1 = false → q1 = false) ∧ (q1 = false → q1 = false) ∧ ((bif q1 then true else decide (bAt s (0:Nat) = (43:Int))) = true → ((0:Int) ≤ (1:Int) ∧ (1:Int) ≤ q4 ∧ q4 ≤ q4) ∧ (decide ((↑q3.size : Int) < (1:Int)) = true → False) ∧ (decide ((↑q3.size : Int) < (1:Int)) = false → AtLoop (mkSite Tryd.prog [] Tryd.f87 (0:Nat) [q5]) (Says1 (A.tup [V.c (W.int .i64 (num (bytesI s))), V.c W.nilif]) []) [0, 1, 0, 1, 1, 1, 0, 1, 0, 1, 1] (fr [(5, A.p (V.c (W.str s))), (6, nI (0)), (47, A.p (V.c (W.sl 0 0 q3.size (1:Nat)))), (48, nI (↑q3.size : Int)), (49, nI (0))]) (Sto.ofList [Ob.mk 5 [Fd.a 0 (D.int .u8) (bytesI q3)]]))) ∧ ((bif q1 then true else decide (bAt s (0:Nat) = (43:Int))) = false → AtLoop (mkSite Tryd.prog [] Tryd.f87 (0:Nat) [q5]) (Says1 (A.tup [V.c (W.int .i64 (num (bytesI s))), V.c W.nilif]) []) [0, 1, 0, 1, 1, 1, 0, 1, 0, 1, 1] (fr [(5, A.p (V.c (W.str s))), (6, nI (0)), (47, A.p (V.c (W.sl 0 0 s.size 1))), (48, nI q4), (49, nI (0))]) (Sto.ofList [Ob.mk 5 [Fd.a 0 (D.int .u8) (bytesI s)]]))) ∧ ((bif q2 then decide (q4 < (19:Int)) else false) = false → False)) (by kernel_rfl) ?_
 try simp only [imp_self, true_and, and_true, Bool.cond_true_left, Bool.cond_false_right, Bool.or_eq_true, Bool.or_eq_false_iff, Bool.and_eq_true, Bool.and_eq_false_imp, decide_eq_true_eq, decide_eq_false_iff_not, Int.not_lt, Int.le_refl]
 have h0 := dig_at hd (i := 0) (by omega)
 rw [bAt_get]
 refine ⟨fun _ => ⟨by omega, fun _ => by omega, fun h => by omega, fun _ => ?_⟩, fun h => by omega⟩
 have := atoi_loop s hd hs s.size 0 (by omega) (by omega)
 exact this
abbrev okS (s : ByteArray) : Prop := (∀ c ∈ bytesI s, dig c = true) ∧ 1 ≤ s.size ∧ s.size ≤ 4
def cAtoi1 : Con := con1 .str fun s => (.p (okS s), .tup [.c (.int .i64 (num (bytesI s))), .c .nilif], [])
theorem cAtoi1_ok : ConOk Tryd.prog 87 cAtoi1 := con1_ok (by kernel_rfl) fun s h => atoi_sem s h.1 h.2
noncomputable def gAto : Gam := [(87, cAtoi1)]
theorem gAto_ok : GamOk Tryd.prog gAto := gamOk_cons cAtoi1_ok gamOk_nil
theorem atoi2_sem (s : ByteArray) (h : okS s) : FnSem Tryd.prog 80 [.p (.c (.str s))] [] (.tup [.c (.int .i64 (num (bytesI s))), .c .nilif]) [] := by
 refine fnSem_at (live := []) gAto_ok Tryd.func80 (by kernel_rfl) (keep := 0) rfl (by kernel_rfl) 100 ?_
 refine of_eq (q := okS s ∧ ((!true) = true → False) ∧ ((!true) = false → packV [V.c (W.int .i64 (num (bytesI s))), V.c W.nilif] = A.tup [V.c (W.int .i64 (num (bytesI s))), V.c W.nilif] ∧ ([] : List Ob) = [])) (by kernel_rfl) ?_
 try simp only [and_true, Bool.not_eq_true', Bool.not_eq_false']
 exact ⟨h, by simp, fun _ => rfl⟩
def cAtoi : Con := con1 .str fun s => (.p (okS s), .tup [.c (.int .i64 (num (bytesI s))), .c .nilif], [])
theorem cAtoi_ok : ConOk Tryd.prog 80 cAtoi := con1_ok (by kernel_rfl) fun s h => atoi2_sem s h
noncomputable def gEx : Gam := [(80, cAtoi)]
theorem gEx_ok : GamOk Tryd.prog gEx := gamOk_cons cAtoi_ok gamOk_nil
theorem digP_all (l : List Int) : ∀ (m i : Nat), m = l.length - i → ∀ k, i ≤ k → k < digP l i → dig (l.getD k 0) = true
 | m, i, hm, k, hk, hk2 => by
   by_cases h : i < l.length ∧ dig (l.getD i 0) = true
   · rw [digP_yes h] at hk2
     rcases Nat.eq_or_lt_of_le hk with rfl | h3
     · exact h.2
     · cases m with
       | zero => omega
       | succ m => exact digP_all l m (i + 1) (by omega) k (by omega) hk2
   · rw [digP_no h] at hk2; omega
noncomputable def sEx : Site := mkSite Tryd.prog gEx Tryd.f69 1 [([0, 0, 1, 1], [0, 3])]
theorem exp_loop (s : ByteArray) (hs : s.size ≤ 1000000) (o n : Int) (f : Nat) (hok : expOk (bytesI s) f = true) : ∀ (m i : Nat), m = s.size - i → i ≤ s.size → f ≤ i → digP (bytesI s) i = digP (bytesI s) f →
 AtLoop sEx (Says1 (nI (expV (bytesI s) f)) [rdO s (digP (bytesI s) f) o n]) [0, 0, 1, 1] (fr [(0, pt0), (3, nI f)]) (.ofList [⟨69, [.c (.str s), .c (.int .i64 i), .c (.int .i64 o), .c (.int .i64 n)]⟩])
 | m, i, hm, hi, hf, hj => by
   refine atLoop_at gEx_ok (by kernel_rfl) 100 ?_
   refine of_eq (q := let q1 := (↑(s.extract f i).size : Int); let q2 := decide ((i:Int) < (s.size:Int)); let q3 := decide ((48:Int) ≤ bAt s i); let q4 := decide (q1 < (1:Int)); let q5 := decide ((4:Int) < q1); let q6 := decide ((1:Int) < q1); (q2 = true → q2 = true) ∧ (q2 = true → q2 = true) ∧ (q2 = true → q2 = true) ∧ (q2 = true → q2 = true) ∧ (q2 = true → q2 = true) ∧ (q2 = true → q2 = true) ∧ (q2 = true → q2 = true) ∧ (q2 = true → q2 = true) ∧ (q2 = true → (0:Int) ≤ (i:Int) ∧ (i:Int) < (s.size:Int)) ∧ (q2 = true → q2 = true) ∧ (q2 = true → q2 = true) ∧ ((bif q2 then q3 else false) = true → (bif q2 then q3 else false) = true) ∧ ((bif q2 then q3 else false) = true → (bif q2 then q3 else false) = true) ∧ ((bif q2 then q3 else false) = true → (bif q2 then q3 else false) = true) ∧ ((bif q2 then q3 else false) = true → (bif q2 then q3 else false) = true) ∧ ((bif q2 then q3 else false) = true → (bif q2 then q3 else false) = true) ∧ ((bif q2 then q3 else false) = true → (bif q2 then q3 else false) = true) ∧ ((bif q2 then q3 else false) = true → (bif q2 then q3 else false) = true) ∧ ((bif q2 then q3 else false) = true → (bif q2 then q3 else false) = true) ∧ ((bif q2 then q3 else false) = true → (0:Int) ≤ (i:Int) ∧ (i:Int) < (s.size:Int)) ∧ ((bif q2 then q3 else false) = true → (bif q2 then q3 else false) = true) ∧ ((bif q2 then q3 else false) = true → (bif q2 then q3 else false) = true) ∧ ((bif bif q2 then q3 else false then decide (bAt s i ≤ (57:Int)) else false) = true → AtLoop sEx (Says1 (nI (expV (bytesI s) f)) [rdO s (↑(digP (bytesI s) f) : Int) o n]) [0, 0, 1, 1] (fr [(0, A.p (V.c (W.ptr 0 0))), (3, nI (f:Int))]) (Sto.ofList [Ob.mk 69 [Fd.c (W.str s), Fd.c (W.int .i64 (IntKind.i64.wrap ((i:Int) + (1:Int)))), Fd.c (W.int .i64 o), Fd.c (W.int .i64 n)]])) ∧ ((bif bif q2 then q3 else false then decide (bAt s i ≤ (57:Int)) else false) = false → ((0:Int) ≤ (f:Int) ∧ (f:Int) ≤ (i:Int) ∧ (i:Int) ≤ (s.size:Int)) ∧ (q4 = false → q4 = false) ∧ (q4 = false → q4 = false) ∧ (q4 = false → q4 = false) ∧ ((bif q4 then true else q5) = false → (bif q4 then true else q5) = false) ∧ ((bif q4 then true else q5) = false → (bif q4 then true else q5) = false) ∧ ((bif q4 then true else q5) = false → (bif q4 then true else q5) = false) ∧ ((bif q4 then true else q5) = false ∧ q6 = true → (bif q4 then true else q5) = false ∧ q6 = true) ∧ ((bif q4 then true else q5) = false ∧ q6 = true → (0:Int) ≤ (0:Int) ∧ (0:Int) < q1) ∧ ((bif q4 then true else q5) = false ∧ q6 = true → (bif q4 then true else q5) = false ∧ q6 = true) ∧ ((bif q4 then true else q5) = false → (bif q4 then true else q5) = false) ∧ ((bif q4 then true else q5) = false → q6 = true → (bif q4 then true else q5) = false ∧ q6 = true) ∧ ((bif q4 then true else q5) = false → (bif q4 then true else q5) = false) ∧ ((bif bif q4 then true else q5 then true else bif q6 then decide (bAt (s.extract f i) (0:Nat) = (48:Int)) else false) = true → False) ∧ ((bif bif q4 then true else q5 then true else bif q6 then decide (bAt (s.extract f i) (0:Nat) = (48:Int)) else false) = false → okS (s.extract f i) ∧ packV [V.c (W.int .i64 (num (bytesI (s.extract f i))))] = nI (expV (bytesI s) f) ∧ [Ob.mk 69 [Fd.c (W.str s), Fd.c (W.int .i64 (i:Int)), Fd.c (W.int .i64 o), Fd.c (W.int .i64 n)]] = [rdO s (↑(digP (bytesI s) f) : Int) o n]))) (by kernel_rfl) ?_
   try simp only [imp_self, true_and, Bool.cond_true_left, Bool.cond_false_right, Bool.or_eq_true, Bool.or_eq_false_iff, Bool.and_eq_true, Bool.and_eq_false_imp, decide_eq_true_eq, decide_eq_false_iff_not, Int.not_lt, Int.not_le, Int.le_refl]
   simp only [bAt_get]
   have hl := bytesI_length s
   refine ⟨fun h => by omega, fun h => by omega, fun h => ?_, fun h => ?_⟩
   · have hd : dig ((bytesI s).getD i 0) = true := isdig ⟨h.1.2, h.2⟩
     rw [wrap64 (by omega) (by omega)]
     cases m with
     | zero => omega
     | succ m => exact exp_loop s hs o n f hok m (i + 1) (by omega) (by omega) (by omega) (by rw [← digP_yes ⟨by omega, hd⟩]; exact hj)
   · have hnd : ¬ (i < (bytesI s).length ∧ dig ((bytesI s).getD i 0) = true) := by
      rintro ⟨h1, h2⟩
      have := dig_range h2
      have := h ⟨by omega, this.1⟩
      omega
     rw [digP_no hnd] at hj
     have hok' := hok
     unfold expOk at hok'
     have ho := of_decide_eq_true hok'
     rw [← hj] at ho
     have hsz : (s.extract f i).size = i - f := by rw [ByteArray.size_extract]; omega
     have hby : bytesI (s.extract f i) = ((bytesI s).drop f).take (i - f) := by
      unfold bytesI
      rw [ByteArray.data_extract, Array.toList_extract, List.extract_eq_take_drop, List.map_take, List.map_drop]
     have hdd : ∀ c ∈ bytesI (s.extract f i), dig c = true := by
      rw [hby]
      intro c hc
      obtain ⟨k, hk, rfl⟩ := List.mem_iff_getElem.1 hc
      rw [List.length_take, List.length_drop] at hk
      rw [List.getElem_take, List.getElem_drop]
      have := digP_all (bytesI s) _ f rfl (f + k) (by omega) (by rw [← hj]; omega)
      rw [List.getD_eq_getElem?_getD, List.getElem?_eq_getElem (by omega)] at this
      exact this
     have h0 : 1 < i - f → (bytesI (s.extract f i)).getD 0 0 ≠ 48 := by
      intro h1 h2
      rw [hby, List.getD_eq_getElem?_getD, List.getElem?_take_of_lt (by omega), List.getElem?_drop, Nat.add_zero, ← List.getD_eq_getElem?_getD] at h2
      exact ho.2.2 ⟨by omega, h2⟩
     rw [hsz]
     refine ⟨by omega, fun _ => by omega, fun _ _ => by omega, fun h1 => ?_, fun h1 => ⟨⟨hdd, by omega, by omega⟩, ?_, ?_⟩⟩
     · rcases h1 with h1 | h1
       · omega
       · exact h0 (by omega) h1.2
     · unfold expV
       rw [← hj, hby]
       rfl
     · rw [← hj]
theorem exponent_sem (s : ByteArray) (i o n : Int) (h : At s i) (hok : expOk (bytesI s) i.toNat = true) : FnSem Tryd.prog 69 [pt0] [rdO s i o n] (nI (expV (bytesI s) i.toNat)) [rdO s (digP (bytesI s) i.toNat) o n] := by
 refine fnSem_at (live := [([0, 0, 1, 1], [0, 3])]) gEx_ok Tryd.func69 (by kernel_rfl) (keep := 1) rfl (by kernel_rfl) 100 ?_
 refine of_eq (q := AtLoop (mkSite Tryd.prog gEx Tryd.f69 (1:Nat) [([0, 0, 1, 1], [0, 3])]) (Says1 (nI (expV (bytesI s) i.toNat)) [rdO s (↑(digP (bytesI s) i.toNat) : Int) o n]) [0, 0, 1, 1] (fr [(0, A.p (V.c (W.ptr 0 0))), (3, nI i)]) (Sto.ofList [Ob.mk 69 [Fd.c (W.str s), Fd.c (W.int .i64 i), Fd.c (W.int .i64 o), Fd.c (W.int .i64 n)]])) (by kernel_rfl) ?_
 obtain ⟨h1, h2, h3⟩ := h
 have := exp_loop s h1 o n i.toNat hok _ i.toNat rfl (by omega) (Nat.le_refl _) rfl
 rw [toNat_cast h2] at this
 exact this
def cExpo : Con := conR fun s i o n => (.p (At s i ∧ expOk (bytesI s) i.toNat = true), nI (expV (bytesI s) i.toNat), [rdO s (digP (bytesI s) i.toNat) o n])
theorem cExpo_ok : ConOk Tryd.prog 69 cExpo := conR_ok (by kernel_rfl) fun s i o n h => exponent_sem s i o n h.1 h.2
end Go.Proofs.YthbcgllgmacfdaaDoor
