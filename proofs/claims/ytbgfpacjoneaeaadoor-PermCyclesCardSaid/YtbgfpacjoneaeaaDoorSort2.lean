/- Sorting numbers, by the program: pivots. -/
import Derived.Test.YtbgfpacjoneaeaaDoorCalls4
import Derived.Test.YtbgfpacjoneaeaaDoorSort1
namespace Go.Proofs.YtbgfpacjoneaeaaDoor.Srt
open Go.Loom Go.Sorts
set_option maxRecDepth 100000
abbrev pt (k : Nat) : A := .p (.c (.ptr k 0))
abbrev fnCmp : A := .p (.c (.func 86 []))
def cmpD (x y : Int) : Int := cmpI y x
theorem cmpD_neg (x y : Int) : cmpD y x = - cmpD x y := by unfold cmpD cmpI; split <;> split <;> omega
theorem cmpD_zero {x y : Int} (h : cmpD x y = 0) : x = y := by
 unfold cmpD cmpI at h
 split at h
 · omega
 · split at h <;> omega
theorem cmpD_trans {a b c : Int} (h : cmpD a b ≤ 0) (g : cmpD b c ≤ 0) : cmpD a c ≤ 0 := by
 have e : ∀ x y, cmpD x y ≤ 0 ↔ y ≤ x := fun x y => by
  unfold cmpD cmpI; split
  · omega
  · split <;> omega
 rw [e] at *; omega
def Fit (_ : Int) : Prop := True
def Sh (l : List Int) : Prop := ∀ w ∈ l, Fit w
theorem Sh.all (l : List Int) : Sh l := fun _ _ => trivial
theorem Sh.get {l : List Int} (_ : Sh l) (i : Nat) : Fit (l.getD i 0) := trivial
theorem Sh.swap {l : List Int} (_ : Sh l) (i k : Nat) : Sh (swapL l i k) := Sh.all _
def cTyc : Con := con2 (.int .i64) (.int .i64) fun x y => (.p (Fit x ∧ Fit y), nI (cmpD x y), [])
theorem cTyc_ok : ConOk Tryd.prog 86 cTyc := con2_ok (by kernel_rfl) fun x y _ => less_sem x y
def ltD (x y : Int) : Bool := decide (cmpD x y < 0)
theorem ltD_ok : LtOk ltD where
 asym := fun x y h => by
  have := cmpD_neg x y
  simp only [ltD, decide_eq_true_eq, decide_eq_false_iff_not] at *; omega
 trans := fun x y z h1 h2 => by
  simp only [ltD, decide_eq_false_iff_not] at *
  have h3 := cmpD_neg x y
  have h4 := cmpD_neg y z
  have h5 := cmpD_neg x z
  have := cmpD_trans (a := x) (b := y) (c := z) (by omega) (by omega)
  omega
theorem ltD_u : ∀ x y, ltD x y = false → ltD y x = false → x = y := fun x y h1 h2 => by
 simp only [ltD, decide_eq_false_iff_not] at *
 have := cmpD_neg x y
 exact cmpD_zero (by omega)
/-! ### Contracts of functions over the list that is sorted -/
def asInts : List A → Option (List Int)
 | [.p (.c (.func f caps))] => bif Nat.beq f 86 && caps.isEmpty then some [] else none
 | x :: xs => match asD (.int .i64) x, asInts xs with | some v, some vs => some (v :: vs) | _, _ => none
 | [] => none
theorem asInts_rel {η : Eta} {Z : Zeta} : ∀ {xs : List A} {v : List Int} {vs : List Value}, asInts xs = some v → LRel (ARel η Z) xs vs → LRel (ARel η Z) (v.map (fun x => nI x) ++ [fnCmp]) vs := by
 intro xs
 induction xs with
 | nil => intro v vs e _; cases e
 | cons x xs ih =>
   intro v vs e h
   unfold asInts at e
   split at e
   · rename_i f caps heq
     cases heq
     obtain ⟨hb, e⟩ := Mill.bif_some e
     simp only [Bool.and_eq_true, Nat.beq_eq, List.isEmpty_iff] at hb
     obtain ⟨rfl, rfl⟩ := hb
     cases e
     exact h
   · rename_i y ys _ hc
     cases hc
     split at e
     · rename_i a b ha hb
       cases e
       cases vs with
       | nil => exact h.elim
       | cons u us => exact ⟨asD_rel ha h.1, ih hb h.2⟩
     · cases e
   · cases e
def conS (f : List Int → List Int → Cd × A × List Int) : Con := { refs := [true], f := fun args objs => match args, objs with
 | .p (.c (.sl a b n z)) :: xs, [o] => bif Nat.beq a 0 && (Nat.beq b 0 && Nat.beq z 1) then (match asRow o, asInts xs with | some l, some v => some (.and (.p (n = l.length)) (f l v).1, (f l v).2.1, [obI (f l v).2.2]) | _, _ => none) else none
 | _, _ => none }
theorem conS_ok {F : FuncId} {f : List Int → List Int → Cd × A × List Int} (he : enters Tryd.prog F = true) (h : ∀ l v, (f l v).1 → FnSem Tryd.prog F (slI 0 l.length :: (v.map (fun x => nI x) ++ [fnCmp])) [obI l] (f l v).2.1 [obI (f l v).2.2]) : ConOk Tryd.prog F (conS f) := by
 refine ⟨he, fun args objs c r objs' e hc => ?_⟩
 simp only [conS] at e
 split at e
 · obtain ⟨hb, e⟩ := Mill.bif_some e
   simp only [Bool.and_eq_true, Nat.beq_eq] at hb
   obtain ⟨rfl, rfl, rfl⟩ := hb
   split at e
   · rename_i l v hr hx
     cases e
     obtain ⟨h1, h2⟩ := hc
     have h1 : _ = List.length l := h1
     subst h1
     rw [asRow_eq hr]
     exact FnSem.args (h l v h2) fun η Z vs hv => match vs, hv with | _ :: _, ⟨a, b⟩ => ⟨a, asInts_rel hx b⟩
   · cases e
 · cases e
/-! ### Two in order; the median of three -/
abbrev obN (s : Int) : Ob := ⟨3, [.c (.int .i64 s)]⟩
def o2 (l : List Int) (a b : Nat) (s : Int) : Nat × Nat × Int := if ltD (l.getD b 0) (l.getD a 0) = true then (b, a, s + 1) else (a, b, s)
noncomputable def gO2 : Gam := [(86, cTyc)]
theorem gO2_ok : GamOk Tryd.prog gO2 := gamOk_cons cTyc_ok gamOk_nil
theorem o2_sem (l : List Int) (a b : Nat) (s : Int) (hs : Sh l) (ha : a < l.length) (hb : b < l.length) (h0 : 0 ≤ s ∧ s ≤ 1000) : FnSem Tryd.prog 132 [lsI l, nI a, nI b, pt 0, fnCmp] [obN s] (.tup [.c (.int .i64 (o2 l a b s).1), .c (.int .i64 (o2 l a b s).2.1)]) [obN (o2 l a b s).2.2] := by
 refine fnSem_at (live := []) gO2_ok Tryd.func132 (by kernel_rfl) (keep := 1) rfl (by kernel_rfl) 100 ?_
 refine of_eq (q := let q1 := decide (cmpD (l.getD b (0:Int)) (l.getD a (0:Int)) < (0:Int)); ((0:Int) ≤ (b:Int) ∧ (b:Int) < (l.length:Int)) ∧ b < l.length ∧ ((0:Int) ≤ (a:Int) ∧ (a:Int) < (l.length:Int)) ∧ a < l.length ∧ (Fit (l.getD b (0:Int)) ∧ Fit (l.getD a (0:Int))) ∧ (q1 = true → packV [V.c (W.int .i64 (b:Int)), V.c (W.int .i64 (a:Int))] = A.tup [V.c (W.int .i64 (↑(o2 l a b s).fst : Int)), V.c (W.int .i64 (↑(o2 l a b s).snd.fst : Int))] ∧ [Ob.mk 3 [Fd.c (W.int .i64 (IntKind.i64.wrap (s + (1:Int))))]] = [obN (o2 l a b s).snd.snd]) ∧ (q1 = false → packV [V.c (W.int .i64 (a:Int)), V.c (W.int .i64 (b:Int))] = A.tup [V.c (W.int .i64 (↑(o2 l a b s).fst : Int)), V.c (W.int .i64 (↑(o2 l a b s).snd.fst : Int))] ∧ [Ob.mk 3 [Fd.c (W.int .i64 s)]] = [obN (o2 l a b s).snd.snd])) (by kernel_rfl) ?_
 try simp only [decide_eq_true_eq, decide_eq_false_iff_not, Int.not_lt]
 refine ⟨by omega, hb, by omega, ha, ⟨hs.get b, hs.get a⟩, fun h => ?_, fun h => ?_⟩
 · have h' : ltD (l.getD b 0) (l.getD a 0) = true := decide_eq_true h
   rw [o2, if_pos h', wrap64 (by omega) (by omega)]; exact ⟨rfl, rfl⟩
 · rw [o2, if_neg (by simp only [ltD, decide_eq_true_eq]; omega)]; exact ⟨rfl, rfl⟩
def asIntsP : List A → Option (List Int)
 | [.p (.c (.ptr a b)), .p (.c (.func f caps))] => bif Nat.beq a 0 && (Nat.beq b 0 && (Nat.beq f 86 && caps.isEmpty)) then some [] else none
 | x :: xs => match asD (.int .i64) x, asIntsP xs with | some v, some vs => some (v :: vs) | _, _ => none
 | [] => none
theorem asIntsP_rel {η : Eta} {Z : Zeta} : ∀ {xs : List A} {v : List Int} {vs : List Value}, asIntsP xs = some v → LRel (ARel η Z) xs vs → LRel (ARel η Z) (v.map (fun x => nI x) ++ [pt 0, fnCmp]) vs := by
 intro xs
 induction xs with
 | nil => intro v vs e _; cases e
 | cons x xs ih =>
   intro v vs e h
   unfold asIntsP at e
   split at e
   · rename_i a b f caps heq
     cases heq
     obtain ⟨hb, e⟩ := Mill.bif_some e
     simp only [Bool.and_eq_true, Nat.beq_eq, List.isEmpty_iff] at hb
     obtain ⟨rfl, rfl, rfl, rfl⟩ := hb
     cases e
     exact h
   · rename_i y ys _ hc
     cases hc
     split at e
     · rename_i a b ha hb
       cases e
       cases vs with
       | nil => exact h.elim
       | cons u us => exact ⟨asD_rel ha h.1, ih hb h.2⟩
     · cases e
   · cases e
def asN : Ob → Option Int
 | ⟨t, [.c (.int .i64 s)]⟩ => bif Nat.beq t 3 then some s else none
 | _ => none
theorem asN_eq {o : Ob} {s : Int} (e : asN o = some s) : o = obN s := by
 unfold asN at e
 split at e
 · obtain ⟨hb, e⟩ := Mill.bif_some e
   have := Nat.eq_of_beq_eq_true hb; subst this
   cases e; rfl
 · cases e
def conO (k : Nat) (f : List Int → List Int → Int → Cd × A × Int) : Con := { refs := false :: (List.replicate k false ++ [true]), f := fun args objs => match args, objs with
 | x :: xs, [o] => (match asD dI x, asIntsP xs, asN o with | some l, some v, some s => some ((f l v s).1, (f l v s).2.1, [obN (f l v s).2.2]) | _, _, _ => none)
 | _, _ => none }
theorem conO_ok {F : FuncId} {k : Nat} {f : List Int → List Int → Int → Cd × A × Int} (he : enters Tryd.prog F = true) (h : ∀ l v s, (f l v s).1 → FnSem Tryd.prog F (lsI l :: (v.map (fun x => nI x) ++ [pt 0, fnCmp])) [obN s] (f l v s).2.1 [obN (f l v s).2.2]) : ConOk Tryd.prog F (conO k f) := by
 refine ⟨he, fun args objs c r objs' e hc => ?_⟩
 simp only [conO] at e
 split at e
 · split at e
   · rename_i l v s hl hx ho
     cases e
     rw [asN_eq ho]
     exact FnSem.args (h l v s hc) fun η Z vs hv => match vs, hv with | _ :: _, ⟨a, b⟩ => ⟨asD_rel hl a, asIntsP_rel hx b⟩
   · cases e
 · cases e
def cO2 : Con := conO 2 fun l v s => match v with
 | [a, b] => (.p (Sh l ∧ (0 ≤ a ∧ a < (l.length : Int)) ∧ (0 ≤ b ∧ b < (l.length : Int)) ∧ 0 ≤ s ∧ s ≤ 1000), .tup [.c (.int .i64 (o2 l a.toNat b.toNat s).1), .c (.int .i64 (o2 l a.toNat b.toNat s).2.1)], (o2 l a.toNat b.toNat s).2.2)
 | _ => (.p False, .tup [], 0)
theorem cO2_ok : ConOk Tryd.prog 132 cO2 := conO_ok (by kernel_rfl) fun l v s h => by
 match v, h with
 | [a, b], ⟨h1, h2, h3, h4⟩ =>
   have := o2_sem l a.toNat b.toNat s h1 (by omega) (by omega) h4
   rw [show ((a.toNat : Nat) : Int) = a by omega, show ((b.toNat : Nat) : Int) = b by omega] at this
   exact this
def med (l : List Int) (a b c : Nat) (s : Int) : Nat × Int :=
 ((o2 l (o2 l a b s).1 (o2 l (o2 l a b s).2.1 c (o2 l a b s).2.2).1 (o2 l (o2 l a b s).2.1 c (o2 l a b s).2.2).2.2).2.1, (o2 l (o2 l a b s).1 (o2 l (o2 l a b s).2.1 c (o2 l a b s).2.2).1 (o2 l (o2 l a b s).2.1 c (o2 l a b s).2.2).2.2).2.2)
theorem o2_in (l : List Int) (a b : Nat) (s : Int) : ((o2 l a b s).1 = a ∧ (o2 l a b s).2.1 = b ∨ (o2 l a b s).1 = b ∧ (o2 l a b s).2.1 = a) ∧ s ≤ (o2 l a b s).2.2 ∧ (o2 l a b s).2.2 ≤ s + 1 := by
 unfold o2
 split
 · exact ⟨.inr ⟨rfl, rfl⟩, by simp only; omega, by simp only; omega⟩
 · exact ⟨.inl ⟨rfl, rfl⟩, by simp only; omega, by simp only; omega⟩
theorem med_in (l : List Int) (a b c : Nat) (s : Int) : ((med l a b c s).1 = a ∨ (med l a b c s).1 = b ∨ (med l a b c s).1 = c) ∧ s ≤ (med l a b c s).2 ∧ (med l a b c s).2 ≤ s + 3 := by
 unfold med
 have h1 := o2_in l a b s
 generalize o2 l a b s = x at *
 have h2 := o2_in l x.2.1 c x.2.2
 generalize o2 l x.2.1 c x.2.2 = y at *
 have h3 := o2_in l x.1 y.1 y.2.2
 generalize o2 l x.1 y.1 y.2.2 = z at *
 simp only
 omega
noncomputable def gMd : Gam := [(132, cO2)]
theorem gMd_ok : GamOk Tryd.prog gMd := gamOk_cons cO2_ok gamOk_nil
theorem med_sem (l : List Int) (a b c : Nat) (s : Int) (hs : Sh l) (ha : a < l.length) (hb : b < l.length) (hc : c < l.length) (h0 : 0 ≤ s ∧ s ≤ 900) : FnSem Tryd.prog 123 [lsI l, nI a, nI b, nI c, pt 0, fnCmp] [obN s] (nI (med l a b c s).1) [obN (med l a b c s).2] := by
 refine fnSem_at (live := []) gMd_ok Tryd.func123 (by kernel_rfl) (keep := 1) rfl (by kernel_rfl) 100 ?_
 refine of_eq (q := let q2 := (l.length:Int); let q3 := (o2 l a b s); let q1 := (o2 l q3.snd.fst c q3.snd.snd); (Sh l ∧ ((0:Int) ≤ (a:Int) ∧ (a:Int) < q2) ∧ ((0:Int) ≤ (b:Int) ∧ (b:Int) < q2) ∧ (0:Int) ≤ s ∧ s ≤ (1000:Int)) ∧ (Sh l ∧ ((0:Int) ≤ (↑q3.snd.fst : Int) ∧ (↑q3.snd.fst : Int) < q2) ∧ ((0:Int) ≤ (c:Int) ∧ (c:Int) < q2) ∧ (0:Int) ≤ q3.snd.snd ∧ q3.snd.snd ≤ (1000:Int)) ∧ (Sh l ∧ ((0:Int) ≤ (↑q3.fst : Int) ∧ (↑q3.fst : Int) < q2) ∧ ((0:Int) ≤ (↑q1.fst : Int) ∧ (↑q1.fst : Int) < q2) ∧ (0:Int) ≤ q1.snd.snd ∧ q1.snd.snd ≤ (1000:Int)) ∧ packV [V.c (W.int .i64 (↑(o2 l q3.fst q1.fst q1.snd.snd).snd.fst : Int))] = nI (↑(med l a b c s).fst : Int) ∧ [Ob.mk 3 [Fd.c (W.int .i64 (o2 l q3.fst q1.fst q1.snd.snd).snd.snd)]] = [obN (med l a b c s).snd]) (by kernel_rfl) ?_
 simp only []
 have h1 := o2_in l a b s
 have h2 := o2_in l (o2 l a b s).2.1 c (o2 l a b s).2.2
 exact ⟨⟨hs, by omega, by omega, by omega, by omega⟩, ⟨hs, by omega, by omega, by omega, by omega⟩, ⟨hs, by omega, by omega, by omega, by omega⟩, rfl, rfl⟩
def cMed : Con := conO 3 fun l v s => match v with
 | [a, b, c] => (.p (Sh l ∧ (0 ≤ a ∧ a < (l.length : Int)) ∧ (0 ≤ b ∧ b < (l.length : Int)) ∧ (0 ≤ c ∧ c < (l.length : Int)) ∧ 0 ≤ s ∧ s ≤ 900), nI (med l a.toNat b.toNat c.toNat s).1, (med l a.toNat b.toNat c.toNat s).2)
 | _ => (.p False, .tup [], 0)
theorem cMed_ok : ConOk Tryd.prog 123 cMed := conO_ok (by kernel_rfl) fun l v s h => by
 match v, h with
 | [a, b, c], ⟨h1, h2, h3, h4, h5⟩ =>
   have := med_sem l a.toNat b.toNat c.toNat s h1 (by omega) (by omega) (by omega) h5
   rw [show ((a.toNat : Nat) : Int) = a by omega, show ((b.toNat : Nat) : Int) = b by omega, show ((c.toNat : Nat) : Int) = c by omega] at this
   exact this
noncomputable def gMa : Gam := [(123, cMed)]
theorem gMa_ok : GamOk Tryd.prog gMa := gamOk_cons cMed_ok gamOk_nil
theorem ma_sem (l : List Int) (a : Nat) (s : Int) (hs : Sh l) (h1 : 1 ≤ a) (ha : a + 1 < l.length) (hl : l.length ≤ 1000) (h0 : 0 ≤ s ∧ s ≤ 900) : FnSem Tryd.prog 122 [lsI l, nI a, pt 0, fnCmp] [obN s] (nI (med l (a - 1) a (a + 1) s).1) [obN (med l (a - 1) a (a + 1) s).2] := by
 refine fnSem_at (live := []) gMa_ok Tryd.func122 (by kernel_rfl) (keep := 1) rfl (by kernel_rfl) 100 ?_
 refine of_eq (q := let q0 := IntKind.i64.wrap; let q1 := (med l (q0 ((a:Int) - (1:Int))).toNat a (q0 ((a:Int) + (1:Int))).toNat s); (Sh l ∧ ((0:Int) ≤ q0 ((a:Int) - (1:Int)) ∧ q0 ((a:Int) - (1:Int)) < (l.length:Int)) ∧ ((0:Int) ≤ (a:Int) ∧ (a:Int) < (l.length:Int)) ∧ ((0:Int) ≤ q0 ((a:Int) + (1:Int)) ∧ q0 ((a:Int) + (1:Int)) < (l.length:Int)) ∧ (0:Int) ≤ s ∧ s ≤ (900:Int)) ∧ packV [V.c (W.int .i64 (↑q1.fst : Int))] = nI (↑(med l (a - (1:Nat)) a (a + (1:Nat)) s).fst : Int) ∧ [Ob.mk 3 [Fd.c (W.int .i64 q1.snd)]] = [obN (med l (a - (1:Nat)) a (a + (1:Nat)) s).snd]) (by kernel_rfl) ?_
 simp only []
 rw [wrap64 (n := (a : Int) - 1) (by omega) (by omega), wrap64 (n := (a : Int) + 1) (by omega) (by omega), show ((a : Int) - 1).toNat = a - 1 by omega, show ((a : Int) + 1).toNat = a + 1 by omega]
 exact ⟨⟨hs, by omega, by omega, by omega, by omega⟩, rfl, rfl⟩
def cMa : Con := conO 1 fun l v s => match v with
 | [a] => (.p (Sh l ∧ (1 ≤ a ∧ a + 1 < (l.length : Int)) ∧ l.length ≤ 1000 ∧ 0 ≤ s ∧ s ≤ 900), nI (med l (a.toNat - 1) a.toNat (a.toNat + 1) s).1, (med l (a.toNat - 1) a.toNat (a.toNat + 1) s).2)
 | _ => (.p False, .tup [], 0)
theorem cMa_ok : ConOk Tryd.prog 122 cMa := conO_ok (by kernel_rfl) fun l v s h => by
 match v, h with
 | [a], ⟨h1, h2, h3, h4⟩ =>
   have := ma_sem l a.toNat s h1 (by omega) (by omega) h3 h4
   rw [show ((a.toNat : Nat) : Int) = a by omega] at this
   exact this
/-! ### The pivot -/
def ch3 (l : List Int) (a n : Nat) : (Nat × Nat × Nat) × Int :=
 if 50 ≤ n then
  (((med l (a + n / 4 - 1) (a + n / 4) (a + n / 4 + 1) 0).1,
    (med l (a + n / 4 * 2 - 1) (a + n / 4 * 2) (a + n / 4 * 2 + 1) (med l (a + n / 4 - 1) (a + n / 4) (a + n / 4 + 1) 0).2).1,
    (med l (a + n / 4 * 3 - 1) (a + n / 4 * 3) (a + n / 4 * 3 + 1) (med l (a + n / 4 * 2 - 1) (a + n / 4 * 2) (a + n / 4 * 2 + 1) (med l (a + n / 4 - 1) (a + n / 4) (a + n / 4 + 1) 0).2).2).1),
   (med l (a + n / 4 * 3 - 1) (a + n / 4 * 3) (a + n / 4 * 3 + 1) (med l (a + n / 4 * 2 - 1) (a + n / 4 * 2) (a + n / 4 * 2 + 1) (med l (a + n / 4 - 1) (a + n / 4) (a + n / 4 + 1) 0).2).2).2)
 else ((a + n / 4, a + n / 4 * 2, a + n / 4 * 3), 0)
def chS (l : List Int) (a b : Nat) : Nat × Int := med l (ch3 l a (b - a)).1.1 (ch3 l a (b - a)).1.2.1 (ch3 l a (b - a)).1.2.2 (ch3 l a (b - a)).2
def chH (s : Int) : Int := if s = 0 then 1 else if s = 12 then 2 else 0
noncomputable def gCp : Gam := [(123, cMed), (122, cMa)]
theorem gCp_ok : GamOk Tryd.prog gCp := gamOk_cons cMed_ok (gamOk_cons cMa_ok gamOk_nil)
theorem cp_sem (l : List Int) (a b : Nat) (hs : Sh l) (h1 : a + 8 ≤ b) (hb : b ≤ l.length) (hl : l.length ≤ 1000) : FnSem Tryd.prog 106 [lsI l, nI a, nI b, fnCmp] [] (.tup [.c (.int .i64 (chS l a b).1), .c (.int .i64 (chH (chS l a b).2))]) [] := by
 refine fnSem_at (live := []) gCp_ok Tryd.func106 (by kernel_rfl) (keep := 0) rfl (by kernel_rfl) 100 ?_
 refine of_eq (q := let q0 := IntKind.i64.wrap; let q3 := ((q0 ((b:Int) - (a:Int))).tdiv (4:Int)); let q7 := ((a:Int) + q0 (q0 q3 * (2:Int))); let q8 := (W.int .i64 (↑(chS l a b).fst : Int)); let q9 := (W.int .i64 (chH (chS l a b).snd)); let q10 := ((a:Int) + q0 (q0 q3 * (1:Int))); let q11 := ((a:Int) + q0 (q0 q3 * (3:Int))); let q12 := (0:Int); let q13 := (l.length:Int); let q14 := ([] : List Ob); let q15 := (W.int .i64 (q0 q7)); let q18 := decide ((50:Int) ≤ q0 ((b:Int) - (a:Int))); let q19 := decide ((8:Int) ≤ q0 ((b:Int) - (a:Int))); let q4 := (med l (q0 q10).toNat (q0 q7).toNat (q0 q11).toNat q12); let q5 := (med l ((q0 q10).toNat - (1:Nat)) (q0 q10).toNat ((q0 q10).toNat + (1:Nat)) q12); let q17 := (W.int .i64 (↑q4.fst : Int)); let q1 := (med l ((q0 q7).toNat - (1:Nat)) (q0 q7).toNat ((q0 q7).toNat + (1:Nat)) q5.snd); let q6 := (med l ((q0 q11).toNat - (1:Nat)) (q0 q11).toNat ((q0 q11).toNat + (1:Nat)) q1.snd); let q2 := (med l q5.fst q1.fst q6.fst q6.snd); let q16 := (W.int .i64 (↑q2.fst : Int)); (4:Int) ≠ q12 ∧ (4:Int) ≠ q12 ∧ (4:Int) ≠ q12 ∧ (q19 = true → (q18 = true → (Sh l ∧ ((1:Int) ≤ q0 q10 ∧ q0 q10 + (1:Int) < q13) ∧ l.length ≤ (1000:Nat) ∧ q12 ≤ q12 ∧ q12 ≤ (900:Int)) ∧ (Sh l ∧ ((1:Int) ≤ q0 q7 ∧ q0 q7 + (1:Int) < q13) ∧ l.length ≤ (1000:Nat) ∧ q12 ≤ q5.snd ∧ q5.snd ≤ (900:Int)) ∧ (Sh l ∧ ((1:Int) ≤ q0 q11 ∧ q0 q11 + (1:Int) < q13) ∧ l.length ≤ (1000:Nat) ∧ q12 ≤ q1.snd ∧ q1.snd ≤ (900:Int)) ∧ (Sh l ∧ (q12 ≤ (↑q5.fst : Int) ∧ (↑q5.fst : Int) < q13) ∧ (q12 ≤ (↑q1.fst : Int) ∧ (↑q1.fst : Int) < q13) ∧ (q12 ≤ (↑q6.fst : Int) ∧ (↑q6.fst : Int) < q13) ∧ q12 ≤ q6.snd ∧ q6.snd ≤ (900:Int)) ∧ (decide (q2.snd = q12) = true → packV [V.c q16, V.c (W.int .i64 (1))] = A.tup [V.c q8, V.c q9] ∧ q14 = []) ∧ (decide (q2.snd = q12) = false → (decide (q2.snd = (12:Int)) = true → packV [V.c q16, V.c (W.int .i64 (2))] = A.tup [V.c q8, V.c q9] ∧ q14 = []) ∧ (decide (q2.snd = (12:Int)) = false → packV [V.c q16, V.c (W.int .i64 (0))] = A.tup [V.c q8, V.c q9] ∧ q14 = []))) ∧ (q18 = false → (Sh l ∧ (q12 ≤ q0 q10 ∧ q0 q10 < q13) ∧ (q12 ≤ q0 q7 ∧ q0 q7 < q13) ∧ (q12 ≤ q0 q11 ∧ q0 q11 < q13) ∧ q12 ≤ q12 ∧ q12 ≤ (900:Int)) ∧ (decide (q4.snd = q12) = true → packV [V.c q17, V.c (W.int .i64 (1))] = A.tup [V.c q8, V.c q9] ∧ q14 = []) ∧ (decide (q4.snd = q12) = false → (decide (q4.snd = (12:Int)) = true → packV [V.c q17, V.c (W.int .i64 (2))] = A.tup [V.c q8, V.c q9] ∧ q14 = []) ∧ (decide (q4.snd = (12:Int)) = false → packV [V.c q17, V.c (W.int .i64 (0))] = A.tup [V.c q8, V.c q9] ∧ q14 = [])))) ∧ (q19 = false → (decide (q12 = q12) = true → packV [V.c q15, V.c (W.int .i64 (1))] = A.tup [V.c q8, V.c q9] ∧ q14 = []) ∧ (decide (q12 = q12) = false → (decide (q12 = (12:Int)) = true → packV [V.c q15, V.c (W.int .i64 (2))] = A.tup [V.c q8, V.c q9] ∧ q14 = []) ∧ (decide (q12 = (12:Int)) = false → packV [V.c q15, V.c (W.int .i64 (0))] = A.tup [V.c q8, V.c q9] ∧ q14 = [])))) (by kernel_rfl) ?_
 try simp only [true_and, and_true, decide_eq_true_eq, decide_eq_false_iff_not, Int.not_le, Int.le_refl, ne_eq, Int.reduceEq, not_false_eq_true]
 obtain ⟨n, rfl⟩ : ∃ n, b = a + n := ⟨b - a, by omega⟩
 have e1 : IntKind.i64.wrap (((a + n : Nat) : Int) - (a : Int)) = (n : Int) := by rw [wrap64 (by omega) (by omega)]; omega
 have e2 : IntKind.i64.wrap ((n : Int).tdiv 4) = ((n / 4 : Nat) : Int) := by
  rw [show (n : Int).tdiv 4 = ((n / 4 : Nat) : Int) from (Int.tdiv_eq_ediv_of_nonneg (by omega)).trans (by omega), wrap64 (by omega) (by omega)]
 have e3 : IntKind.i64.wrap ((a : Int) + IntKind.i64.wrap (((n / 4 : Nat) : Int) * 1)) = ((a + n / 4 : Nat) : Int) := by
  rw [wrap64 (n := ((n / 4 : Nat) : Int) * 1) (by omega) (by omega), wrap64 (by omega) (by omega)]; omega
 have e4 : IntKind.i64.wrap ((a : Int) + IntKind.i64.wrap (((n / 4 : Nat) : Int) * 2)) = ((a + n / 4 * 2 : Nat) : Int) := by
  rw [wrap64 (n := ((n / 4 : Nat) : Int) * 2) (by omega) (by omega), wrap64 (by omega) (by omega)]; omega
 have e5 : IntKind.i64.wrap ((a : Int) + IntKind.i64.wrap (((n / 4 : Nat) : Int) * 3)) = ((a + n / 4 * 3 : Nat) : Int) := by
  rw [wrap64 (n := ((n / 4 : Nat) : Int) * 3) (by omega) (by omega), wrap64 (by omega) (by omega)]; omega
 simp only [e1, e2, e3, e4, e5, Int.toNat_natCast]
 refine ⟨fun h8 => ⟨fun h50 => ?_, fun h50 => ?_⟩, fun h8 => ?_⟩
 · have hn : 50 ≤ n := by omega
   simp only [chS, ch3, Nat.add_sub_cancel_left, if_pos hn]
   have c1 := med_in l (a + n / 4 - 1) (a + n / 4) (a + n / 4 + 1) 0
   generalize med l (a + n / 4 - 1) (a + n / 4) (a + n / 4 + 1) 0 = x1 at *
   have c2 := med_in l (a + n / 4 * 2 - 1) (a + n / 4 * 2) (a + n / 4 * 2 + 1) x1.2
   generalize med l (a + n / 4 * 2 - 1) (a + n / 4 * 2) (a + n / 4 * 2 + 1) x1.2 = x2 at *
   have c3 := med_in l (a + n / 4 * 3 - 1) (a + n / 4 * 3) (a + n / 4 * 3 + 1) x2.2
   generalize med l (a + n / 4 * 3 - 1) (a + n / 4 * 3) (a + n / 4 * 3 + 1) x2.2 = x3 at *
   generalize med l x1.1 x2.1 x3.1 x3.2 = y
   refine ⟨⟨hs, by omega, hl, by omega⟩, ⟨hs, by omega, hl, by omega⟩, ⟨hs, by omega, hl, by omega⟩, ⟨hs, by omega, by omega, by omega, by omega⟩, fun h => ?_, fun h => ⟨fun h2 => ?_, fun h2 => ?_⟩⟩
   · rw [chH, if_pos h]; rfl
   · rw [chH, if_neg h, if_pos h2]; rfl
   · rw [chH, if_neg h, if_neg h2]; rfl
 · have hn : ¬ 50 ≤ n := by omega
   simp only [chS, ch3, Nat.add_sub_cancel_left, if_neg hn]
   generalize med l (a + n / 4) (a + n / 4 * 2) (a + n / 4 * 3) 0 = y
   refine ⟨⟨hs, by omega, by omega, by omega, by omega⟩, fun h => ?_, fun h => ⟨fun h2 => ?_, fun h2 => ?_⟩⟩
   · rw [chH, if_pos h]; rfl
   · rw [chH, if_neg h, if_pos h2]; rfl
   · rw [chH, if_neg h, if_neg h2]; rfl
 · omega
theorem chS_in (l : List Int) {a b : Nat} (h : a + 8 ≤ b) : a ≤ (chS l a b).1 ∧ (chS l a b).1 < b := by
 obtain ⟨n, rfl⟩ : ∃ n, b = a + n := ⟨b - a, by omega⟩
 unfold chS ch3
 rw [Nat.add_sub_cancel_left]
 split
 · have c1 := med_in l (a + n / 4 - 1) (a + n / 4) (a + n / 4 + 1) 0
   generalize med l (a + n / 4 - 1) (a + n / 4) (a + n / 4 + 1) 0 = x1 at *
   have c2 := med_in l (a + n / 4 * 2 - 1) (a + n / 4 * 2) (a + n / 4 * 2 + 1) x1.2
   generalize med l (a + n / 4 * 2 - 1) (a + n / 4 * 2) (a + n / 4 * 2 + 1) x1.2 = x2 at *
   have c3 := med_in l (a + n / 4 * 3 - 1) (a + n / 4 * 3) (a + n / 4 * 3 + 1) x2.2
   generalize med l (a + n / 4 * 3 - 1) (a + n / 4 * 3) (a + n / 4 * 3 + 1) x2.2 = x3 at *
   have c4 := med_in l x1.1 x2.1 x3.1 x3.2
   simp only
   omega
 · have c4 := med_in l (a + n / 4) (a + n / 4 * 2) (a + n / 4 * 3) 0
   simp only
   omega
def cCp : Con := { refs := [], f := fun args objs => match args, objs with
 | x :: xs, [] => (match asD dI x, asInts xs with | some l, some [a, b] => some (.p (Sh l ∧ 0 ≤ a ∧ a + 8 ≤ b ∧ b ≤ (List.length (α := Int) l : Int) ∧ List.length (α := Int) l ≤ 1000), .tup [.c (.int .i64 (chS l a.toNat b.toNat).1), .c (.int .i64 (chH (chS l a.toNat b.toNat).2))], []) | _, _ => none)
 | _, _ => none }
theorem cCp_ok : ConOk Tryd.prog 106 cCp := by
 refine ⟨by kernel_rfl, fun args objs c r objs' e hc => ?_⟩
 simp only [cCp] at e
 split at e
 · split at e
   · rename_i l a b hl hx
     cases e
     obtain ⟨h1, h2, h3, h4, h5⟩ := hc
     have := cp_sem l a.toNat b.toNat h1 (by omega) (by omega) h5
     rw [show ((a.toNat : Nat) : Int) = a by omega, show ((b.toNat : Nat) : Int) = b by omega] at this
     exact this.args fun η Z vs hv => match vs, hv with | _ :: _, ⟨p, q⟩ => ⟨asD_rel hl p, asInts_rel hx q⟩
   · cases e
 · cases e
end Go.Proofs.YtbgfpacjoneaeaaDoor.Srt

namespace Go.Proofs.YtbgfpacjoneaeaaDoor.Srt
open Go.Loom Go.Sorts
set_option maxRecDepth 100000
abbrev obX (s : Int) : Ob := ⟨142, [.c (.int .u64 s)]⟩
def nx1 (s : Int) : Int := IntKind.u64.wrap (BitVec.ofInt 64 s ^^^ BitVec.ofInt 64 (IntKind.u64.wrap (s * 2 ^ 13))).toNat
def nx2 (s : Int) : Int := IntKind.u64.wrap (BitVec.ofInt 64 s ^^^ BitVec.ofInt 64 (s.fdiv (2 ^ 7))).toNat
def nx3 (s : Int) : Int := IntKind.u64.wrap (BitVec.ofInt 64 s ^^^ BitVec.ofInt 64 (IntKind.u64.wrap (s * 2 ^ 17))).toNat
def nx (s : Int) : Int := nx3 (nx2 (nx1 s))
theorem nx_sem (s : Int) : FnSem Tryd.prog 121 [pt 0] [obX s] (.p (.c (.int .u64 (nx s)))) [obX (nx s)] := by
 refine fnSem_at (live := []) gamOk_nil Tryd.func121 (by kernel_rfl) (keep := 1) rfl (by kernel_rfl) 100 ?_
 refine of_eq (q := let q1 := (↑(BitVec.ofInt (64:Nat) (IntKind.u64.wrap (↑(BitVec.ofInt (64:Nat) s ^^^ BitVec.ofInt (64:Nat) (IntKind.u64.wrap (s * (2:Int) ^ (13:Nat)))).toNat : Int)) ^^^ BitVec.ofInt (64:Nat) ((IntKind.u64.wrap (↑(BitVec.ofInt (64:Nat) s ^^^ BitVec.ofInt (64:Nat) (IntKind.u64.wrap (s * (2:Int) ^ (13:Nat)))).toNat : Int)).fdiv ((2:Int) ^ (7:Nat)))).toNat : Int); let q2 := (W.int .u64 (IntKind.u64.wrap (↑(BitVec.ofInt (64:Nat) (IntKind.u64.wrap q1) ^^^ BitVec.ofInt (64:Nat) (IntKind.u64.wrap (IntKind.u64.wrap q1 * (2:Int) ^ (17:Nat)))).toNat : Int))); (0:Int) ≤ (13:Int) ∧ (0:Int) ≤ (7:Int) ∧ (0:Int) ≤ (17:Int) ∧ packV [V.c q2] = A.p (V.c (W.int .u64 (nx s))) ∧ [Ob.mk 142 [Fd.c q2]] = [obX (nx s)]) (by kernel_rfl) ?_
 simp only []
 exact ⟨by omega, by omega, by omega, rfl, rfl⟩
def cNx : Con := { refs := [true], f := fun args objs => match args, objs with
 | [.p (.c (.ptr a b))], [⟨t, [.c (.int .u64 s)]⟩] => bif Nat.beq a 0 && (Nat.beq b 0 && Nat.beq t 142) then some (.t, .p (.c (.int .u64 (nx s))), [obX (nx s)]) else none
 | _, _ => none }
theorem cNx_ok : ConOk Tryd.prog 121 cNx := by
 refine ⟨by kernel_rfl, fun args objs c r objs' e hc => ?_⟩
 simp only [cNx] at e
 split at e
 · obtain ⟨hb, e⟩ := Mill.bif_some e
   simp only [Bool.and_eq_true, Nat.beq_eq] at hb
   obtain ⟨rfl, rfl, rfl⟩ := hb
   cases e
   exact nx_sem _
 · cases e
/-! ### The length of a number in bits -/
def bitsN (n : Nat) : Int := if n < 1 then 0 else if n < 2 then 1 else if n < 4 then 2 else if n < 8 then 3 else if n < 16 then 4 else if n < 32 then 5 else if n < 64 then 6 else 7
theorem len64_sem (n : Nat) (h : n < 128) : FnSem Tryd.prog 112 [.p (.c (.int .u64 n))] [] (nI (bitsN n)) [] := by
 refine fnSem_at (live := []) gamOk_nil Tryd.func112 (by kernel_rfl) (keep := 0) rfl (by kernel_rfl) 100 ?_
 refine of_eq (q := let q0 := IntKind.i64.wrap; let q1 := (ByteArray.mk (([(0 : UInt8), (1 : UInt8), (2 : UInt8), (2 : UInt8), (3 : UInt8), (3 : UInt8), (3 : UInt8), (3 : UInt8), (4 : UInt8), (4 : UInt8), (4 : UInt8), (4 : UInt8), (4 : UInt8), (4 : UInt8), (4 : UInt8), (4 : UInt8), (5 : UInt8), (5 : UInt8), (5 : UInt8), (5 : UInt8), (5 : UInt8), (5 : UInt8), (5 : UInt8), (5 : UInt8), (5 : UInt8), (5 : UInt8), (5 : UInt8), (5 : UInt8), (5 : UInt8), (5 : UInt8), (5 : UInt8), (5 : UInt8), (6 : UInt8), (6 : UInt8), (6 : UInt8), (6 : UInt8), (6 : UInt8), (6 : UInt8), (6 : UInt8), (6 : UInt8), (6 : UInt8), (6 : UInt8), (6 : UInt8), (6 : UInt8), (6 : UInt8), (6 : UInt8), (6 : UInt8), (6 : UInt8), (6 : UInt8), (6 : UInt8), (6 : UInt8), (6 : UInt8), (6 : UInt8), (6 : UInt8), (6 : UInt8), (6 : UInt8), (6 : UInt8), (6 : UInt8), (6 : UInt8), (6 : UInt8), (6 : UInt8), (6 : UInt8), (6 : UInt8), (6 : UInt8)].append [(7 : UInt8), (7 : UInt8), (7 : UInt8), (7 : UInt8), (7 : UInt8), (7 : UInt8), (7 : UInt8), (7 : UInt8), (7 : UInt8), (7 : UInt8), (7 : UInt8), (7 : UInt8), (7 : UInt8), (7 : UInt8), (7 : UInt8), (7 : UInt8), (7 : UInt8), (7 : UInt8), (7 : UInt8), (7 : UInt8), (7 : UInt8), (7 : UInt8), (7 : UInt8), (7 : UInt8), (7 : UInt8), (7 : UInt8), (7 : UInt8), (7 : UInt8), (7 : UInt8), (7 : UInt8), (7 : UInt8), (7 : UInt8), (7 : UInt8), (7 : UInt8), (7 : UInt8), (7 : UInt8), (7 : UInt8), (7 : UInt8), (7 : UInt8), (7 : UInt8), (7 : UInt8), (7 : UInt8), (7 : UInt8), (7 : UInt8), (7 : UInt8), (7 : UInt8), (7 : UInt8), (7 : UInt8), (7 : UInt8), (7 : UInt8), (7 : UInt8), (7 : UInt8), (7 : UInt8), (7 : UInt8), (7 : UInt8), (7 : UInt8), (7 : UInt8), (7 : UInt8), (7 : UInt8), (7 : UInt8), (7 : UInt8), (7 : UInt8), (7 : UInt8), (7 : UInt8)]).append ([(8 : UInt8), (8 : UInt8), (8 : UInt8), (8 : UInt8), (8 : UInt8), (8 : UInt8), (8 : UInt8), (8 : UInt8), (8 : UInt8), (8 : UInt8), (8 : UInt8), (8 : UInt8), (8 : UInt8), (8 : UInt8), (8 : UInt8), (8 : UInt8), (8 : UInt8), (8 : UInt8), (8 : UInt8), (8 : UInt8), (8 : UInt8), (8 : UInt8), (8 : UInt8), (8 : UInt8), (8 : UInt8), (8 : UInt8), (8 : UInt8), (8 : UInt8), (8 : UInt8), (8 : UInt8), (8 : UInt8), (8 : UInt8), (8 : UInt8), (8 : UInt8), (8 : UInt8), (8 : UInt8), (8 : UInt8), (8 : UInt8), (8 : UInt8), (8 : UInt8), (8 : UInt8), (8 : UInt8), (8 : UInt8), (8 : UInt8), (8 : UInt8), (8 : UInt8), (8 : UInt8), (8 : UInt8), (8 : UInt8), (8 : UInt8), (8 : UInt8), (8 : UInt8), (8 : UInt8), (8 : UInt8), (8 : UInt8), (8 : UInt8), (8 : UInt8), (8 : UInt8), (8 : UInt8), (8 : UInt8), (8 : UInt8), (8 : UInt8), (8 : UInt8), (8 : UInt8)].append [(8 : UInt8), (8 : UInt8), (8 : UInt8), (8 : UInt8), (8 : UInt8), (8 : UInt8), (8 : UInt8), (8 : UInt8), (8 : UInt8), (8 : UInt8), (8 : UInt8), (8 : UInt8), (8 : UInt8), (8 : UInt8), (8 : UInt8), (8 : UInt8), (8 : UInt8), (8 : UInt8), (8 : UInt8), (8 : UInt8), (8 : UInt8), (8 : UInt8), (8 : UInt8), (8 : UInt8), (8 : UInt8), (8 : UInt8), (8 : UInt8), (8 : UInt8), (8 : UInt8), (8 : UInt8), (8 : UInt8), (8 : UInt8), (8 : UInt8), (8 : UInt8), (8 : UInt8), (8 : UInt8), (8 : UInt8), (8 : UInt8), (8 : UInt8), (8 : UInt8), (8 : UInt8), (8 : UInt8), (8 : UInt8), (8 : UInt8), (8 : UInt8), (8 : UInt8), (8 : UInt8), (8 : UInt8), (8 : UInt8), (8 : UInt8), (8 : UInt8), (8 : UInt8), (8 : UInt8), (8 : UInt8), (8 : UInt8), (8 : UInt8), (8 : UInt8), (8 : UInt8), (8 : UInt8), (8 : UInt8), (8 : UInt8), (8 : UInt8), (8 : UInt8), (8 : UInt8)])).toArray); let q3 := ((2:Int) ^ (16:Nat)); let q4 := ((2:Int) ^ (8:Nat)); let q5 := (↑(256:Nat) : Int); let q6 := (n:Int); let q7 := (0:Int); let q8 := ([] : List Ob); let q9 := ((2:Int) ^ (32:Nat)); let q10 := (256:Int); let q2 := (q6.fdiv q9); (decide ((4294967296:Int) ≤ q6) = true → q7 ≤ (32:Int) ∧ (decide ((65536:Int) ≤ q6.fdiv q9) = true → q7 ≤ (16:Int) ∧ (decide (q10 ≤ q2.fdiv q3) = true → q7 ≤ (8:Int) ∧ (q7 ≤ IntKind.u8.wrap ((q2.fdiv q3).fdiv q4) ∧ IntKind.u8.wrap ((q2.fdiv q3).fdiv q4) < q5) ∧ packV [V.c (W.int .i64 (q0 (q0 (q0 ((32:Int) + (16:Int)) + (8:Int)) + q0 (bAt q1 (IntKind.u8.wrap ((q2.fdiv q3).fdiv q4)).toNat))))] = nI (bitsN n) ∧ q8 = []) ∧ (decide (q10 ≤ q2.fdiv q3) = false → (q7 ≤ IntKind.u8.wrap (q2.fdiv q3) ∧ IntKind.u8.wrap (q2.fdiv q3) < q5) ∧ packV [V.c (W.int .i64 (q0 (q0 ((32:Int) + (16:Int)) + q0 (bAt q1 (IntKind.u8.wrap (q2.fdiv q3)).toNat))))] = nI (bitsN n) ∧ q8 = [])) ∧ (decide ((65536:Int) ≤ q6.fdiv q9) = false → (decide (q10 ≤ q6.fdiv q9) = true → q7 ≤ (8:Int) ∧ (q7 ≤ IntKind.u8.wrap (q2.fdiv q4) ∧ IntKind.u8.wrap (q2.fdiv q4) < q5) ∧ packV [V.c (W.int .i64 (q0 (q0 ((32:Int) + (8:Int)) + q0 (bAt q1 (IntKind.u8.wrap (q2.fdiv q4)).toNat))))] = nI (bitsN n) ∧ q8 = []) ∧ (decide (q10 ≤ q6.fdiv q9) = false → (q7 ≤ IntKind.u8.wrap q2 ∧ IntKind.u8.wrap q2 < q5) ∧ packV [V.c (W.int .i64 (q0 ((32:Int) + q0 (bAt q1 (IntKind.u8.wrap q2).toNat))))] = nI (bitsN n) ∧ q8 = []))) ∧ (decide ((4294967296:Int) ≤ q6) = false → (decide ((65536:Int) ≤ q6) = true → q7 ≤ (16:Int) ∧ (decide (q10 ≤ q6.fdiv q3) = true → q7 ≤ (8:Int) ∧ (q7 ≤ IntKind.u8.wrap ((q6.fdiv q3).fdiv q4) ∧ IntKind.u8.wrap ((q6.fdiv q3).fdiv q4) < q5) ∧ packV [V.c (W.int .i64 (q0 (q0 (q0 (q7 + (16:Int)) + (8:Int)) + q0 (bAt q1 (IntKind.u8.wrap ((q6.fdiv q3).fdiv q4)).toNat))))] = nI (bitsN n) ∧ q8 = []) ∧ (decide (q10 ≤ q6.fdiv q3) = false → (q7 ≤ IntKind.u8.wrap (q6.fdiv q3) ∧ IntKind.u8.wrap (q6.fdiv q3) < q5) ∧ packV [V.c (W.int .i64 (q0 (q0 (q7 + (16:Int)) + q0 (bAt q1 (IntKind.u8.wrap (q6.fdiv q3)).toNat))))] = nI (bitsN n) ∧ q8 = [])) ∧ (decide ((65536:Int) ≤ q6) = false → (decide (q10 ≤ q6) = true → q7 ≤ (8:Int) ∧ (q7 ≤ IntKind.u8.wrap (q6.fdiv q4) ∧ IntKind.u8.wrap (q6.fdiv q4) < q5) ∧ packV [V.c (W.int .i64 (q0 (q0 (q7 + (8:Int)) + q0 (bAt q1 (IntKind.u8.wrap (q6.fdiv q4)).toNat))))] = nI (bitsN n) ∧ q8 = []) ∧ (decide (q10 ≤ q6) = false → (q7 ≤ IntKind.u8.wrap q6 ∧ IntKind.u8.wrap q6 < q5) ∧ packV [V.c (W.int .i64 (q0 (q7 + q0 (bAt q1 (IntKind.u8.wrap q6).toNat))))] = nI (bitsN n) ∧ q8 = [])))) (by kernel_rfl) ?_
 try simp only [and_true, decide_eq_true_eq, decide_eq_false_iff_not, Int.not_le]
 have e : IntKind.u8.wrap (n : Int) = n := IntWalk.u8_in n ⟨by omega, by omega⟩
 refine ⟨fun h => by omega, fun _ => ⟨fun h => by omega, fun _ => ⟨fun h => by omega, fun _ => ⟨by omega, ?_⟩⟩⟩⟩
 rw [e, Int.toNat_natCast]
 refine congrArg (fun x => packV [V.c (W.int .i64 x)]) ?_
 clear e
 revert h n
 decide +kernel
def cLen64 : Con := con1 (.int .u64) fun n => (.p (0 ≤ (show Int from n) ∧ (show Int from n) < 128), nI (bitsN (show Int from n).toNat), [])
theorem len64_semI (n : Int) (h : 0 ≤ n ∧ n < 128) : FnSem Tryd.prog 112 [.p (.c (.int .u64 n))] [] (nI (bitsN n.toNat)) [] := by
 have := len64_sem n.toNat (by omega)
 rwa [show ((n.toNat : Nat) : Int) = n by omega] at this
theorem cLen64_ok : ConOk Tryd.prog 112 cLen64 := con1_ok (by kernel_rfl) fun n h => len64_semI n h
noncomputable def gLen : Gam := [(112, cLen64)]
theorem gLen_ok : GamOk Tryd.prog gLen := gamOk_cons cLen64_ok gamOk_nil
theorem len_sem (n : Int) (h : 0 ≤ n ∧ n < 128) : FnSem Tryd.prog 96 [.p (.c (.int .u64 n))] [] (nI (bitsN n.toNat)) [] := by
 refine fnSem_at (live := []) gLen_ok Tryd.func96 (by kernel_rfl) (keep := 0) rfl (by kernel_rfl) 100 ?_
 refine of_eq (q := ((0:Int) ≤ n ∧ n < (128:Int)) ∧ packV [V.c (W.int .i64 (bitsN n.toNat))] = nI (bitsN n.toNat) ∧ ([] : List Ob) = []) (by kernel_rfl) ?_
 try simp only [and_true]
 exact ⟨h, rfl⟩
def cLen : Con := con1 (.int .u64) fun n => (.p (0 ≤ (show Int from n) ∧ (show Int from n) < 128), nI (bitsN (show Int from n).toNat), [])
theorem cLen_ok : ConOk Tryd.prog 96 cLen := con1_ok (by kernel_rfl) fun n h => len_sem n h
noncomputable def gNp : Gam := [(96, cLen)]
theorem gNp_ok : GamOk Tryd.prog gNp := gamOk_cons cLen_ok gamOk_nil
def np (n : Nat) : Int := 2 ^ (bitsN n).toNat
theorem np_in : ∀ n : Nat, n < 128 → 8 ≤ n → 0 < np n ∧ np n ≤ 2 * (n : Int) ∧ 0 ≤ bitsN n ∧ np n ≤ 128 ∧ IntKind.u64.wrap (1 * 2 ^ (min (bitsN n).toNat 64)) = np n := by decide +kernel
theorem np_sem (n : Nat) (h8 : 8 ≤ n) (h : n < 128) : FnSem Tryd.prog 120 [nI n] [] (.p (.c (.int .u64 (np n)))) [] := by
 refine fnSem_at (live := []) gNp_ok Tryd.func120 (by kernel_rfl) (keep := 0) rfl (by kernel_rfl) 100 ?_
 refine of_eq (q := ((0:Int) ≤ IntKind.u64.wrap (n:Int) ∧ IntKind.u64.wrap (n:Int) < (128:Int)) ∧ (0:Int) ≤ bitsN (IntKind.u64.wrap (n:Int)).toNat ∧ packV [V.c (W.int .u64 (IntKind.u64.wrap ((1:Int) * (2:Int) ^ min (bitsN (IntKind.u64.wrap (n:Int)).toNat).toNat (64:Nat))))] = A.p (V.c (W.int .u64 (np n))) ∧ ([] : List Ob) = []) (by kernel_rfl) ?_
 try simp only [and_true]
 obtain ⟨h1, h2, h3, h4, h5⟩ := np_in n h h8
 have e : IntKind.u64.wrap (n : Int) = n := IntWalk.u64_in n ⟨by omega, by omega⟩
 rw [e, Int.toNat_natCast, h5]
 exact ⟨by omega, h3, rfl⟩
def cNp : Con := con1 (.int .i64) fun n => (.p (8 ≤ (show Int from n) ∧ (show Int from n) < 128), .p (.c (.int .u64 (np (show Int from n).toNat))), [])
theorem np_semI (n : Int) (h : 8 ≤ n ∧ n < 128) : FnSem Tryd.prog 120 [nI n] [] (.p (.c (.int .u64 (np n.toNat)))) [] := by
 have := np_sem n.toNat (by omega) (by omega)
 rwa [show ((n.toNat : Nat) : Int) = n by omega] at this
theorem cNp_ok : ConOk Tryd.prog 120 cNp := con1_ok (by kernel_rfl) fun n h => np_semI n h
/-! ### Three swaps at random -/
def oth (n : Nat) (r : Int) : Nat := ((BitVec.ofInt 64 r &&& BitVec.ofInt 64 (np n - 1)).toNat) % n
def brkG (a n : Nat) : Nat → Nat → Int → List Int → List Int
 | 0, _, _, l => l
 | m + 1, x, s, l => brkG a n m (x + 1) (nx s) (sw 0 l x (a + oth n (nx s)))
theorem and_in {n : Nat} (h8 : 8 ≤ n) (hn : n < 128) (r : Int) : ((BitVec.ofInt 64 r &&& BitVec.ofInt 64 (np n - 1)).toNat : Int) < np n := by
 obtain ⟨h1, h2, h3, h4, _⟩ := np_in n hn h8
 have e : (BitVec.ofInt 64 (np n - 1)).toNat = (np n - 1).toNat := by
  rw [BitVec.toNat_ofInt, Int.emod_eq_of_lt (by omega) (by omega)]
 rw [BitVec.toNat_and, e]
 have := Nat.and_le_right (n := (BitVec.ofInt 64 r).toNat) (m := (np n - 1).toNat)
 omega
theorem oth_in {n : Nat} (h8 : 8 ≤ n) (hn : n < 128) (r : Int) : oth n r < n ∧ (n ≤ (BitVec.ofInt 64 r &&& BitVec.ofInt 64 (np n - 1)).toNat → (BitVec.ofInt 64 r &&& BitVec.ofInt 64 (np n - 1)).toNat = n + oth n r) ∧ ((BitVec.ofInt 64 r &&& BitVec.ofInt 64 (np n - 1)).toNat < n → (BitVec.ofInt 64 r &&& BitVec.ofInt 64 (np n - 1)).toNat = oth n r) := by
 have h1 := and_in h8 hn r
 obtain ⟨_, h2, _, _, _⟩ := np_in n hn h8
 unfold oth
 generalize (BitVec.ofInt 64 r &&& BitVec.ofInt 64 (np n - 1)).toNat = A at *
 refine ⟨Nat.mod_lt _ (by omega), fun h => ?_, fun h => (Nat.mod_eq_of_lt h).symm⟩
 rw [Nat.mod_eq_sub_mod h, Nat.mod_eq_of_lt (by omega)]; omega
noncomputable def gBk : Gam := [(120, cNp), (121, cNx)]
theorem gBk_ok : GamOk Tryd.prog gBk := gamOk_cons cNp_ok (gamOk_cons cNx_ok gamOk_nil)
abbrev liveBk : List (List Nat × List Nat) := [([0, 1, 1, 1, 0, 1, 1], [0, 1, 8, 9, 10, 11])]
noncomputable def sBk : Site := mkSite Tryd.prog gBk Tryd.f105 1 liveBk
theorem bk_loop (a n : Nat) (R : List Int) (h8 : 8 ≤ n) (hn : n < 128) : ∀ (m x : Nat) (s : Int) (l : List Int), a + n ≤ l.length → l.length ≤ 1000 → m + x = a + n / 4 * 2 + 2 → a + n / 4 * 2 - 1 ≤ x → R = brkG a n m x s l →
 AtLoop sBk (Says1 (.tup []) [obI R]) [0, 1, 1, 1, 0, 1, 1] (fr [(0, slI 0 l.length), (1, nI a), (8, nI n), (9, pt 1), (10, .p (.c (.int .u64 (np n)))), (11, nI x)]) (.ofList [obI l, obX s])
 | m, x, s, l, hl, hl2, hm, hx, hr => by
   refine atLoop_at gBk_ok (by kernel_rfl) 100 ?_
   refine of_eq (q := let q0 := IntKind.i64.wrap; let q1 := (IntKind.u64.wrap (↑(BitVec.ofInt (64:Nat) (nx s) &&& BitVec.ofInt (64:Nat) (IntKind.u64.wrap (np n - (1:Int)))).toNat : Int)); let q2 := ((a:Int) + q0 (q0 q1 - (n:Int))); let q3 := ((a:Int) + q0 q1); let q4 := (fr [(0, slI 0 l.length), (1, nI (a:Int)), (8, nI (n:Int)), (9, pt 1), (10, A.p (V.c (W.int .u64 (np n)))), (11, nI (q0 ((x:Int) + (1:Int))))]); let q5 := decide ((x:Int) ≤ q0 (q0 ((a:Int) + q0 (q0 ((n:Int).tdiv (4:Int)) * (2:Int))) + (1:Int))); let q6 := (0:Nat); let q7 := (l.length:Int); let q8 := (0:Int); let q9 := (q0 q2); let q10 := (q0 q3); (4:Int) ≠ q8 ∧ (q5 = true → (decide ((n:Int) ≤ q0 q1) = true → (q8 ≤ q0 q2 ∧ q0 q2 < q7) ∧ q6 + q9.toNat < l.length ∧ (q8 ≤ (x:Int) ∧ (x:Int) < q7) ∧ q6 + x < l.length ∧ (q8 ≤ (x:Int) ∧ (x:Int) < q7) ∧ q6 + x < l.length ∧ (q8 ≤ q0 q2 ∧ q0 q2 < q7) ∧ q6 + q9.toNat < (l.set (q6 + x) (l.getD (q6 + q9.toNat) q8)).length ∧ AtLoop sBk (Says1 (A.tup []) [obI R]) [0, 1, 1, 1, 0, 1, 1] q4 (Sto.ofList [obI ((l.set (q6 + x) (l.getD (q6 + q9.toNat) q8)).set (q6 + q9.toNat) (l.getD (q6 + x) q8)), Ob.mk 142 [Fd.c (W.int .u64 (nx s))]])) ∧ (decide ((n:Int) ≤ q0 q1) = false → (q8 ≤ q0 q3 ∧ q0 q3 < q7) ∧ q6 + q10.toNat < l.length ∧ (q8 ≤ (x:Int) ∧ (x:Int) < q7) ∧ q6 + x < l.length ∧ (q8 ≤ (x:Int) ∧ (x:Int) < q7) ∧ q6 + x < l.length ∧ (q8 ≤ q0 q3 ∧ q0 q3 < q7) ∧ q6 + q10.toNat < (l.set (q6 + x) (l.getD (q6 + q10.toNat) q8)).length ∧ AtLoop sBk (Says1 (A.tup []) [obI R]) [0, 1, 1, 1, 0, 1, 1] q4 (Sto.ofList [obI ((l.set (q6 + x) (l.getD (q6 + q10.toNat) q8)).set (q6 + q10.toNat) (l.getD (q6 + x) q8)), Ob.mk 142 [Fd.c (W.int .u64 (nx s))]]))) ∧ (q5 = false → packV [] = A.tup [] ∧ [obI l] = [obI R])) (by kernel_rfl) ?_
   try simp only [true_and, Nat.zero_add, decide_eq_true_eq, decide_eq_false_iff_not, Int.not_le, ne_eq, Int.reduceEq, not_false_eq_true]
   obtain ⟨h1, h2, h3, h4, _⟩ := np_in n hn h8
   have e1 : IntKind.u64.wrap (np n - 1) = np n - 1 := IntWalk.u64_in _ ⟨by omega, by omega⟩
   have e2 : IntKind.i64.wrap ((n : Int).tdiv 4) = ((n / 4 : Nat) : Int) := by
    rw [show (n : Int).tdiv 4 = ((n / 4 : Nat) : Int) from (Int.tdiv_eq_ediv_of_nonneg (by omega)).trans (by omega), wrap64 (by omega) (by omega)]
   have e4 : IntKind.i64.wrap (IntKind.i64.wrap ((a : Int) + IntKind.i64.wrap (((n / 4 : Nat) : Int) * 2)) + 1) = ((a + n / 4 * 2 + 1 : Nat) : Int) := by
    rw [wrap64 (n := ((n / 4 : Nat) : Int) * 2) (by omega) (by omega), wrap64 (n := (a : Int) + ((n / 4 : Nat) : Int) * 2) (by omega) (by omega), wrap64 (by omega) (by omega)]; omega
   have hA := and_in h8 hn (nx s)
   obtain ⟨o1, o2, o3⟩ := oth_in h8 hn (nx s)
   have hB : ∀ l' : List Int, R = brkG a n m x s l' → True := fun _ _ => trivial
   simp only [e1, e2, e4]
   have next : ∀ k, m = k + 1 → AtLoop sBk (Says1 (.tup []) [obI R]) [0, 1, 1, 1, 0, 1, 1] (fr [(0, slI 0 l.length), (1, nI a), (8, nI n), (9, pt 1), (10, .p (.c (.int .u64 (np n)))), (11, nI ((x + 1 : Nat) : Int))]) (.ofList [obI (sw 0 l x (a + oth n (nx s))), obX (nx s)]) := fun k hk => by
    subst hk
    have := bk_loop a n R h8 hn k (x + 1) (nx s) (sw 0 l x (a + oth n (nx s))) (by rw [sw_len]; omega) (by rw [sw_len]; omega) (by omega) (by omega) hr
    rwa [sw_len] at this
   clear hB
   revert hA o1 o2 o3 next
   generalize (BitVec.ofInt 64 (nx s) &&& BitVec.ofInt 64 (np n - 1)).toNat = A
   generalize oth n (nx s) = o
   intro hA o1 o2 o3 next
   have e5 : IntKind.u64.wrap (A : Int) = A := IntWalk.u64_in _ ⟨by omega, by omega⟩
   have e6 : IntKind.i64.wrap (A : Int) = A := wrap64 (by omega) (by omega)
   rw [e5, e6]
   have e7 : IntKind.i64.wrap ((x : Int) + 1) = ((x + 1 : Nat) : Int) := by rw [wrap64 (by omega) (by omega)]; omega
   refine ⟨fun hxx => ⟨fun hnA => ?_, fun hnA => ?_⟩, fun hxx => ?_⟩
   · have e8 : IntKind.i64.wrap ((a : Int) + IntKind.i64.wrap ((A : Int) - (n : Int))) = ((a + o : Nat) : Int) := by
      have := o2 (by omega)
      rw [wrap64 (n := (A : Int) - (n : Int)) (by omega) (by omega), wrap64 (by omega) (by omega)]; omega
     rw [e8, e7, Int.toNat_natCast]
     exact ⟨by omega, by omega, by omega, by omega, by omega, by omega, by omega, by rw [List.length_set]; omega, next (m - 1) (by omega)⟩
   · have e8 : IntKind.i64.wrap ((a : Int) + (A : Int)) = ((a + o : Nat) : Int) := by
      have := o3 (by omega)
      rw [wrap64 (by omega) (by omega)]; omega
     rw [e8, e7, Int.toNat_natCast]
     exact ⟨by omega, by omega, by omega, by omega, by omega, by omega, by omega, by rw [List.length_set]; omega, next (m - 1) (by omega)⟩
   · have : m = 0 := by omega
     subst this
     rw [hr]; exact ⟨rfl, rfl⟩
termination_by m => m
decreasing_by omega
def brk (a b : Nat) (l : List Int) : List Int := brkG a (b - a) 3 (a + (b - a) / 4 * 2 - 1) ((b - a : Nat) : Int) l
theorem bk_sem (l : List Int) (a b : Nat) (h8 : a + 8 ≤ b) (hb : b ≤ l.length) (hn : b - a < 128) (hl : l.length ≤ 1000) : FnSem Tryd.prog 105 [slI 0 l.length, nI a, nI b, fnCmp] [obI l] (.tup []) [obI (brk a b l)] := by
 refine fnSem_at (live := liveBk) gBk_ok Tryd.func105 (by kernel_rfl) (keep := 1) rfl (by kernel_rfl) 100 ?_
 refine of_eq (q := let q0 := IntKind.i64.wrap; let q1 := ((b:Int) - (a:Int)); let q2 := (q0 q1); (decide ((8:Int) ≤ q0 q1) = true → ((8:Int) ≤ q0 q1 ∧ q0 q1 < (128:Int)) ∧ (4:Int) ≠ (0:Int) ∧ AtLoop (mkSite Tryd.prog gBk Tryd.f105 (1:Nat) liveBk) (Says1 (A.tup []) [obI (brk a b l)]) [0, 1, 1, 1, 0, 1, 1] (fr [(0, slI 0 l.length), (1, nI (a:Int)), (8, nI q2), (9, pt 1), (10, A.p (V.c (W.int .u64 (np q2.toNat)))), (11, nI (q0 (q0 ((a:Int) + q0 (q0 (q2.tdiv (4:Int)) * (2:Int))) - (1:Int))))]) (Sto.ofList [obI l, Ob.mk 142 [Fd.c (W.int .u64 (IntKind.u64.wrap q2))]])) ∧ (decide ((8:Int) ≤ q0 q1) = false → packV [] = A.tup [] ∧ [obI l] = [obI (brk a b l)])) (by kernel_rfl) ?_
 try simp only [true_and, decide_eq_true_eq, decide_eq_false_iff_not, Int.not_le, ne_eq, Int.reduceEq, not_false_eq_true]
 have e1 : IntKind.i64.wrap ((b : Int) - (a : Int)) = ((b - a : Nat) : Int) := by rw [wrap64 (by omega) (by omega)]; omega
 rw [e1, Int.toNat_natCast]
 have e2 : IntKind.i64.wrap (((b - a : Nat) : Int).tdiv 4) = (((b - a) / 4 : Nat) : Int) := by
  rw [show ((b - a : Nat) : Int).tdiv 4 = (((b - a) / 4 : Nat) : Int) from (Int.tdiv_eq_ediv_of_nonneg (by omega)).trans (by omega), wrap64 (by omega) (by omega)]
 have e4 : IntKind.i64.wrap (IntKind.i64.wrap ((a : Int) + IntKind.i64.wrap ((((b - a) / 4 : Nat) : Int) * 2)) - 1) = ((a + (b - a) / 4 * 2 - 1 : Nat) : Int) := by
  rw [wrap64 (n := (((b - a) / 4 : Nat) : Int) * 2) (by omega) (by omega), wrap64 (n := (a : Int) + (((b - a) / 4 : Nat) : Int) * 2) (by omega) (by omega), wrap64 (by omega) (by omega)]; omega
 have e5 : IntKind.u64.wrap ((b - a : Nat) : Int) = ((b - a : Nat) : Int) := IntWalk.u64_in _ ⟨by omega, by omega⟩
 rw [e2, e4, e5]
 exact ⟨fun _ => ⟨by omega, bk_loop a (b - a) _ (by omega) hn 3 _ _ l (by omega) hl (by omega) (Nat.le_refl _) rfl⟩, fun h => by omega⟩
theorem brkG_rp {a n : Nat} (h8 : 8 ≤ n) (hn : n < 128) : ∀ (m x : Nat) (s : Int) (l : List Int), a + n ≤ l.length → a ≤ x → x + m ≤ a + n → RP 0 a (a + n) l (brkG a n m x s l)
 | 0, _, _, _, _, _, _ => .refl _ _ _ _
 | m + 1, x, s, l, hl, h1, h2 => by
   have o1 := (oth_in h8 hn (nx s)).1
   rw [brkG]
   exact (RP.sw 0 (by omega) (by omega) hl).trans (brkG_rp h8 hn m (x + 1) (nx s) _ (by rw [sw_len]; exact hl) (by omega) (by omega))
theorem brk_rp {a b : Nat} {l : List Int} (h8 : a + 8 ≤ b) (hb : b ≤ l.length) (hn : b - a < 128) : RP 0 a b l (brk a b l) := by
 have := brkG_rp (a := a) (n := b - a) (by omega) hn 3 (a + (b - a) / 4 * 2 - 1) ((b - a : Nat) : Int) l (by omega) (by omega) (by omega)
 rwa [show a + (b - a) = b by omega] at this
def cBk : Con := conS fun l v => match v with
 | [a, b] => (.p (0 ≤ a ∧ a + 8 ≤ b ∧ b ≤ (l.length : Int) ∧ b - a < 128 ∧ l.length ≤ 1000), .tup [], brk a.toNat b.toNat l)
 | _ => (.p False, .tup [], l)
theorem cBk_ok : ConOk Tryd.prog 105 cBk := conS_ok (by kernel_rfl) fun l v h => by
 match v, h with
 | [a, b], ⟨h1, h2, h3, h4, h5⟩ =>
   have := bk_sem l a.toNat b.toNat (by omega) (by omega) (by omega) h5
   rw [show ((a.toNat : Nat) : Int) = a by omega, show ((b.toNat : Nat) : Int) = b by omega] at this
   exact this
/-! ### A range turned over -/
def revG : Nat → Nat → Nat → List Int → List Int
 | 0, _, _, l => l
 | m + 1, i, j, l => if i < j then revG m (i + 1) (j - 1) (sw 0 l i j) else l
noncomputable def sRv : Site := mkSite Tryd.prog [] Tryd.f107 1 [([0, 1, 1], [0, 8, 9])]
theorem rv_loop (R : List Int) : ∀ (m i j : Nat) (l : List Int), j ≤ i + m → j < l.length → l.length ≤ 1000 → i ≤ l.length → R = revG m i j l →
 AtLoop sRv (Says1 (.tup []) [obI R]) [0, 1, 1] (fr [(0, slI 0 l.length), (8, nI i), (9, nI j)]) (.ofList [obI l])
 | m, i, j, l, hm, hj, hl, hi, hr => by
   refine atLoop_at gamOk_nil (by kernel_rfl) 100 ?_
   refine of_eq (q := let q1 := (l.set ((0:Nat) + i) (l.getD ((0:Nat) + j) (0:Int))); (decide ((i:Int) < (j:Int)) = true → ((0:Int) ≤ (j:Int) ∧ (j:Int) < (l.length:Int)) ∧ (0:Nat) + j < l.length ∧ ((0:Int) ≤ (i:Int) ∧ (i:Int) < (l.length:Int)) ∧ (0:Nat) + i < l.length ∧ ((0:Int) ≤ (i:Int) ∧ (i:Int) < (l.length:Int)) ∧ (0:Nat) + i < l.length ∧ ((0:Int) ≤ (j:Int) ∧ (j:Int) < (l.length:Int)) ∧ (0:Nat) + j < q1.length ∧ AtLoop sRv (Says1 (A.tup []) [obI R]) [0, 1, 1] (fr [(0, slI 0 l.length), (8, nI (IntKind.i64.wrap ((i:Int) + (1:Int)))), (9, nI (IntKind.i64.wrap ((j:Int) - (1:Int))))]) (Sto.ofList [obI (q1.set ((0:Nat) + j) (l.getD ((0:Nat) + i) (0:Int)))])) ∧ (decide ((i:Int) < (j:Int)) = false → packV [] = A.tup [] ∧ [obI l] = [obI R])) (by kernel_rfl) ?_
   try simp only [Nat.zero_add, decide_eq_true_eq, decide_eq_false_iff_not, Int.not_lt]
   refine ⟨fun h => ⟨by omega, hj, by omega, by omega, by omega, by omega, by omega, by rw [List.length_set]; exact hj, ?_⟩, fun h => ?_⟩
   · cases m with
     | zero => omega
     | succ m =>
       rw [revG, if_pos (by omega)] at hr
       rw [show IntKind.i64.wrap ((i : Int) + 1) = ((i + 1 : Nat) : Int) by rw [wrap64 (by omega) (by omega)]; omega, show IntKind.i64.wrap ((j : Int) - 1) = ((j - 1 : Nat) : Int) by rw [wrap64 (by omega) (by omega)]; omega]
       have := rv_loop R m (i + 1) (j - 1) (sw 0 l i j) (by omega) (by rw [sw_len]; omega) (by rw [sw_len]; exact hl) (by rw [sw_len]; omega) hr
       rwa [sw_len] at this
   · have : R = l := by
      cases m with
      | zero => exact hr
      | succ m => rw [hr, revG, if_neg (by omega)]
     rw [this]; exact ⟨rfl, rfl⟩
def rev (a b : Nat) (l : List Int) : List Int := revG (b - a) a (b - 1) l
theorem rv_sem (l : List Int) (a b : Nat) (hab : a < b) (hb : b ≤ l.length) (hl : l.length ≤ 1000) : FnSem Tryd.prog 107 [slI 0 l.length, nI a, nI b, fnCmp] [obI l] (.tup []) [obI (rev a b l)] := by
 refine fnSem_at (live := [([0, 1, 1], [0, 8, 9])]) gamOk_nil Tryd.func107 (by kernel_rfl) (keep := 1) rfl (by kernel_rfl) 100 ?_
 refine of_eq (q := AtLoop (mkSite Tryd.prog [] Tryd.f107 (1:Nat) [([0, 1, 1], [0, 8, 9])]) (Says1 (A.tup []) [obI (rev a b l)]) [0, 1, 1] (fr [(0, slI 0 l.length), (8, nI (a:Int)), (9, nI (IntKind.i64.wrap ((b:Int) - (1:Int))))]) (Sto.ofList [obI l])) (by kernel_rfl) ?_
 rw [show IntKind.i64.wrap ((b : Int) - 1) = ((b - 1 : Nat) : Int) by rw [wrap64 (by omega) (by omega)]; omega]
 exact rv_loop _ (b - a) a (b - 1) l (by omega) (by omega) hl (by omega) rfl
theorem revG_rp {a b : Nat} : ∀ (m i j : Nat) (l : List Int), a ≤ i → j < b → b ≤ l.length → RP 0 a b l (revG m i j l)
 | 0, _, _, _, _, _, _ => .refl _ _ _ _
 | m + 1, i, j, l, h1, h2, hb => by
   rw [revG]
   split
   · exact (RP.sw 0 (by omega) (by omega) hb).trans (revG_rp m (i + 1) (j - 1) _ (by omega) (by omega) (by rw [sw_len]; exact hb))
   · exact .refl _ _ _ _
theorem rev_rp {a b : Nat} {l : List Int} (hab : a < b) (hb : b ≤ l.length) : RP 0 a b l (rev a b l) := revG_rp _ _ _ _ (Nat.le_refl _) (by omega) hb
def cRv : Con := conS fun l v => match v with
 | [a, b] => (.p (0 ≤ a ∧ a < b ∧ b ≤ (l.length : Int) ∧ l.length ≤ 1000), .tup [], rev a.toNat b.toNat l)
 | _ => (.p False, .tup [], l)
theorem cRv_ok : ConOk Tryd.prog 107 cRv := conS_ok (by kernel_rfl) fun l v h => by
 match v, h with
 | [a, b], ⟨h1, h2, h3, h4⟩ =>
   have := rv_sem l a.toNat b.toNat (by omega) (by omega) h4
   rw [show ((a.toNat : Nat) : Int) = a by omega, show ((b.toNat : Nat) : Int) = b by omega] at this
   exact this
end Go.Proofs.YtbgfpacjoneaeaaDoor.Srt
