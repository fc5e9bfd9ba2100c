/- Words put in for letters: a product's image is the product of the images. -/
import Derived.Test.YthbcgllgmacfdaaDoorWord5
import Derived.Test.YthbcgllgmacfdaaDoorRead2
import Derived.Test.YthbcgllgmacfdaaDoorText1
import Derived.Test.YthbcgllgmacfdaaDoorLoom4
namespace Go.Proofs.YthbcgllgmacfdaaDoor
open Go.Loom Go.Words
set_option maxRecDepth 100000
/-! ### Images in a list of the caller's own -/
abbrev obLL (xs : List (List Int)) : Ob := ⟨24, [.a 0 (.sl (.int .i64)) xs]⟩
noncomputable def sSubK : Site := mkSiteF Tryd.prog gSub Tryd.f7 1 [(psS, [1, 7, 17, 18, 19])] [(psS, [(7, dI)])] [some dI]
theorem subK_loop (w : List Int) (xs : List (List Int)) (h : SubOk w xs) (ho : w.any (outL xs.length) = false) (r : List Int × Int) : ∀ (k i : Nat) (o : List Int), k = w.length - i → i ≤ w.length → All64 o → o.length ≤ 60 * i → endS (subW xs o (w.drop i)) = r →
 AtLoop sSubK (Says1 (.tup [.c (.rd (.int .i64) r.1), .c (.int .i64 r.2)]) [obLL xs]) psS (fr [(1, slI 0 xs.length), (7, lsI o), (17, lsI w), (18, nI w.length), (19, nI i)]) (.ofList [obLL xs])
 | k, i, o, hk, hi, hao, hol, hr => by
   refine atLoop_at gSub_ok (by kernel_rfl) 100 ?_
   refine of_eq (q := let q2 := (W.rd (D.int .i64) r.fst); let q3 := (sz (w.getD i (0:Int)) - (1:Int)); let q4 := (W.int .i64 r.snd); let q5 := (Sto.ofList [Ob.mk 24 [Fd.a 0 (D.int .i64).sl xs]]); let q1 := (xs.getD ((0:Nat) + (IntKind.u64.wrap q3).toNat) []); (decide ((i:Int) < (w.length:Int)) = true → ((0:Int) ≤ (i:Int) ∧ (i:Int) < (w.length:Int)) ∧ i < w.length ∧ ((0:Int) ≤ IntKind.u64.wrap q3 ∧ IntKind.u64.wrap q3 < (xs.length:Int)) ∧ (0:Nat) + (IntKind.u64.wrap q3).toNat < xs.length ∧ (decide (w.getD i (0:Int) < (0:Int)) = true → q1.length ≤ (1000000:Nat) ∧ (Ok5 o ∧ Ok5 (turnW q1)) ∧ AtLoop sSubK (Says1 (A.tup [V.c q2, V.c q4]) [obLL xs]) [0, 1, 0, 1, 1, 1, 1] (fr [(1, A.p (V.c (W.sl 0 0 xs.length 1))), (7, lsI (red (o.append (turnW q1)))), (17, lsI w), (18, nI (w.length:Int)), (19, nI (IntKind.i64.wrap ((i:Int) + (1:Int))))]) q5) ∧ (decide (w.getD i (0:Int) < (0:Int)) = false → (Ok5 o ∧ Ok5 q1) ∧ AtLoop sSubK (Says1 (A.tup [V.c q2, V.c q4]) [obLL xs]) [0, 1, 0, 1, 1, 1, 1] (fr [(1, A.p (V.c (W.sl 0 0 xs.length 1))), (7, lsI (red (o.append q1))), (17, lsI w), (18, nI (w.length:Int)), (19, nI (IntKind.i64.wrap ((i:Int) + (1:Int))))]) q5)) ∧ (decide ((i:Int) < (w.length:Int)) = false → (decide ((4000:Int) < (o.length:Int)) = true → (0:Nat) ≤ (0:Nat) ∧ packV [V.c (W.rd (D.int .i64) (List.take (0:Nat) (List.drop (0:Nat) []))), V.c (W.int .i64 (4))] = A.tup [V.c q2, V.c q4] ∧ [Ob.mk 24 [Fd.a 0 (D.int .i64).sl xs]] = [obLL xs]) ∧ (decide ((4000:Int) < (o.length:Int)) = false → packV [V.c (W.rd (D.int .i64) o), V.c (W.int .i64 (0))] = A.tup [V.c q2, V.c q4] ∧ [Ob.mk 24 [Fd.a 0 (D.int .i64).sl xs]] = [obLL xs]))) (by kernel_rfl) ?_
   try simp only [true_and, and_true, Nat.zero_add, decide_eq_true_eq, decide_eq_false_iff_not, Int.not_lt, List.drop_zero, List.take_zero, Nat.le_refl]
   have hlen := h.len
   have hmany := h.many
   rw [wrap64 (n := (i : Int) + 1) (by omega) (by omega)]
   refine ⟨fun g => ?_, fun g => ?_⟩
   · have hil : i < w.length := by omega
     obtain ⟨hx0, hx1, hx2⟩ := h.letter ho hil
     have hw : IntKind.u64.wrap (sz (w.getD i 0) - 1) = (((w.getD i 0).natAbs - 1 : Nat) : Int) := by
      rw [hx1, wrapU64 (by omega) (by omega)]; omega
     rw [hw, Int.toNat_natCast]
     obtain ⟨ok1, ok2⟩ := h.ok ((w.getD i 0).natAbs - 1)
     have okO : Ok5 o := ⟨hao, by omega⟩
     have hst := red_step xs o (w.getD i 0) h hao
     rw [getD_lt hil, subW] at hr
     refine ⟨by omega, hil, by omega, by omega, fun g1 => ⟨by have := (h.get ((w.getD i 0).natAbs - 1)).2; omega, ⟨okO, ok2⟩, ?_⟩, fun g1 => ⟨⟨okO, ok1⟩, ?_⟩⟩
     · rw [imgOf, if_pos g1] at hst hr
       cases k with
       | zero => omega
       | succ k => exact subK_loop w xs h ho r k (i + 1) _ (by omega) (by omega) hst.1 (Nat.le_trans hst.2 (by omega)) hr
     · rw [imgOf, if_neg (by omega)] at hst hr
       cases k with
       | zero => omega
       | succ k => exact subK_loop w xs h ho r k (i + 1) _ (by omega) (by omega) hst.1 (Nat.le_trans hst.2 (by omega)) hr
   · rw [List.drop_eq_nil_of_le (by omega), subW] at hr
     subst hr
     refine ⟨fun g1 => ?_, fun g1 => ?_⟩
     · rw [endS, if_pos (by omega)]; rfl
     · rw [endS, if_neg (by omega)]; rfl
theorem substK_sem (w : List Int) (xs : List (List Int)) (h : SubOk w xs) : FnSem Tryd.prog 7 [lsI w, slI 0 xs.length] [obLL xs] (.tup [.c (.rd (.int .i64) (substR w xs).1), .c (.int .i64 (substR w xs).2)]) [obLL xs] := by
 refine fnSemF_at (live := [(psS, [1, 7, 17, 18, 19])]) (fzl := [(psS, [(7, dI)])]) (fz := [some dI]) gSub_ok Tryd.func7 (by kernel_rfl) (keep := 1) rfl (by kernel_rfl) 100 ?_
 refine of_eq (q := w.length ≤ (1000000:Nat) ∧ (w.any (outL (IntKind.u64.wrap (xs.length:Int))) = true → (0:Nat) ≤ (0:Nat) ∧ packV [V.c (W.rd (D.int .i64) (List.take (0:Nat) (List.drop (0:Nat) []))), V.c (W.int .i64 (2))] = A.tup [V.c (W.rd (D.int .i64) (substR w xs).fst), V.c (W.int .i64 (substR w xs).snd)] ∧ [Ob.mk 24 [Fd.a 0 (D.int .i64).sl xs]] = [obLL xs]) ∧ (w.any (outL (IntKind.u64.wrap (xs.length:Int))) = false → (0:Nat) ≤ (0:Nat) ∧ AtLoop (mkSiteF Tryd.prog gSub Tryd.f7 (1:Nat) [(psS, [1, 7, 17, 18, 19])] [(psS, [(7, dI)])] [some dI]) (Says1 (A.tup [V.c (W.rd (D.int .i64) (substR w xs).fst), V.c (W.int .i64 (substR w xs).snd)]) [obLL xs]) [0, 1, 0, 1, 1, 1, 1] (fr [(1, A.p (V.c (W.sl 0 0 xs.length 1))), (7, lsI (List.take (0:Nat) (List.drop (0:Nat) []))), (17, lsI w), (18, nI (w.length:Int)), (19, nI (0))]) (Sto.ofList [Ob.mk 24 [Fd.a 0 (D.int .i64).sl xs]]))) (by kernel_rfl) ?_
 try simp only [true_and, and_true, List.drop_zero, List.take_zero, Nat.le_refl]
 have hlen := h.len
 have hmany := h.many
 rw [wrapU64 (n := (xs.length : Int)) (by omega) (by omega)]
 refine ⟨by omega, fun g => ?_, fun g => ?_⟩
 · rw [substR, if_pos g]; rfl
 · refine subK_loop w xs h g _ w.length 0 [] (by omega) (by omega) (fun x hx => by simp at hx) (by simp) ?_
   rw [substR, if_neg (by rw [g]; simp)]; rfl
def asLL : Ob → Option (List (List Int))
 | ⟨ty, [.a k d l]⟩ => bif Nat.beq ty 24 && Nat.beq k 0 then (if h : d = .sl (.int .i64) then some (h ▸ l : List (D.sl (.int .i64)).ty) else none) else none
 | _ => none
theorem asLL_eq {o : Ob} {l : List (List Int)} (e : asLL o = some l) : o = obLL l := by
 unfold asLL at e
 split at e
 · obtain ⟨hb, e⟩ := Mill.bif_some e
   simp only [Bool.and_eq_true, Nat.beq_eq] at hb
   obtain ⟨rfl, rfl⟩ := hb
   split at e
   · rename_i h; subst h; cases e; rfl
   · cases e
 · cases e
def imgs (φ : Int → List Int) : List Int → List Int
 | [] => []
 | x :: w => φ x ++ imgs φ w
theorem imgs_app (φ : Int → List Int) (u v : List Int) : imgs φ (u ++ v) = imgs φ u ++ imgs φ v := by
 induction u with
 | nil => rfl
 | cons x u ih => rw [List.cons_append, imgs, imgs, ih, List.append_assoc]
def Good (φ : Int → List Int) : Prop := ∀ x, x ≠ 0 → Eqv (φ x ++ φ (-x)) []
theorem imgs_run {φ : Int → List Int} (h : Good φ) : ∀ w r, Eqv (imgs φ (run r w).reverse) (imgs φ (r.reverse ++ w))
 | [], r => by rw [run_nil, List.append_nil]; exact Eqv.refl _
 | x :: w, r => by
   rw [run_cons]
   refine (imgs_run h w (act x r)).trans ?_
   cases r with
   | nil => exact Eqv.refl _
   | cons y l =>
     rw [act_cons]
     split
     · rename_i ho
       obtain ⟨h0, h1⟩ := opp_true.1 ho
       subst h1
       simp only [List.reverse_cons, List.append_assoc, List.singleton_append]
       rw [imgs_app, imgs_app, imgs, imgs, ← List.append_assoc (φ y)]
       exact ((Eqv.refl _).app ((h y h0).app (Eqv.refl _))).symm
     · simp only [List.reverse_cons, List.append_assoc, List.cons_append, List.nil_append]
       exact Eqv.refl _
theorem imgs_red {φ : Int → List Int} (h : Good φ) (w : List Int) : Eqv (imgs φ (red w)) (imgs φ w) := by
 have := imgs_run h w []
 rwa [List.reverse_nil, List.nil_append] at this
theorem subW_eq (xs : List (List Int)) : ∀ (w o : List Int), Rd o → subW xs o w = red (o ++ imgs (imgOf xs) w)
 | [], o, h => by rw [subW, imgs, List.append_nil, red_of_rd h]
 | x :: w, o, h => by
   rw [subW, subW_eq xs w _ (red_rd _), imgs]
   refine Eqv.red_eq ?_
   rw [← List.append_assoc]
   exact (eqv_red _).app (Eqv.refl _)
def Im4 (xs : List (List Int)) : Prop := xs.length = 4 ∧ ∀ u ∈ xs, S4 12 u
theorem Im4.get {xs : List (List Int)} (h : Im4 xs) (i : Nat) : S4 12 (xs.getD i []) := by
 rw [List.getD_eq_getElem?_getD]
 cases e : xs[i]? with
 | none => exact ⟨fun x hx => by simp at hx, by simp⟩
 | some u => exact h.2 u (List.mem_of_getElem? e)
theorem Im4.good {xs : List (List Int)} (h : Im4 xs) : Good (imgOf xs) := by
 intro x hx
 unfold imgOf
 have hg := h.get (x.natAbs - 1)
 rw [show (-x).natAbs = x.natAbs by omega, hg.tw]
 by_cases hn : x < 0
 · rw [if_pos hn, if_neg (by omega)]
   exact eqv_turn' hg.nz
 · rw [if_neg hn, if_pos (by omega)]
   exact eqv_turn hg.nz
theorem out4 {w : List Int} (h : W4 w) : w.any (outL ((4 : Nat) : Int)) = false := by
 rw [List.any_eq_false]
 intro x hx
 obtain ⟨h1, h2, h3⟩ := h x hx
 have := sz_abs (h.all x hx)
 simp only [outL, Bool.or_eq_true, decide_eq_true_eq]
 omega
theorem imgs_len {xs : List (List Int)} (h : Im4 xs) : ∀ w : List Int, (imgs (imgOf xs) w).length ≤ 12 * w.length ∧ W4 (imgs (imgOf xs) w)
 | [] => ⟨by simp [imgs], fun x hx => by simp [imgs] at hx⟩
 | x :: w => by
   obtain ⟨h1, h2⟩ := imgs_len h w
   have hg := h.get (x.natAbs - 1)
   have hi : S4 12 (imgOf xs x) := by
    unfold imgOf
    split
    · exact hg.turn
    · exact hg
   rw [imgs]
   refine ⟨?_, hi.1.app h2⟩
   have := hi.2
   simp only [List.length_append, List.length_cons]
   omega
theorem subst4 {xs : List (List Int)} (h : Im4 xs) {w : List Int} (hw : S4 100 w) : substR w xs = (red (imgs (imgOf xs) w), 0) ∧ S4 1200 (red (imgs (imgOf xs) w)) ∧ SubOk w xs := by
 obtain ⟨h1, h2⟩ := imgs_len h w
 have h3 := hw.2
 have hs : S4 1200 (red (imgs (imgOf xs) w)) := S4.red ⟨h2, by omega⟩
 refine ⟨?_, hs, ⟨hw.1.all, by omega, by rw [h.1]; omega, fun u hu => ⟨(h.2 u hu).1.all, by have := (h.2 u hu).2; omega⟩⟩⟩
 unfold substR
 rw [h.1, out4 hw.1, if_neg (by simp), subW_eq xs w [] trivial, List.nil_append]
 unfold endS
 rw [if_neg (by have := hs.2; omega)]
theorem hom4 {xs : List (List Int)} (h : Im4 xs) (a b : List Int) : red (red (imgs (imgOf xs) a) ++ red (imgs (imgOf xs) b)) = red (imgs (imgOf xs) (red (a ++ b))) := by
 refine Eqv.red_eq (((eqv_red _).app (eqv_red _)).trans ?_)
 rw [← imgs_app]
 exact (imgs_red h.good (a ++ b)).symm
theorem sub4_sem (w : List Int) (xs : List (List Int)) (h : Im4 xs ∧ S4 100 w) : FnSem Tryd.prog 7 [lsI w, slI 0 4] [obLL xs] (.tup [.c (.rd (.int .i64) (red (imgs (imgOf xs) w))), .c (.int .i64 0)]) [obLL xs] := by
 obtain ⟨e, _, h3⟩ := subst4 h.1 h.2
 have := substK_sem w xs h3
 rw [e, h.1.1] at this
 exact this
def cSub4 : Con := { refs := [false, true], f := fun args objs => match args, objs with
 | [x, .p (.c (.sl a b n k))], [o] => bif Nat.beq a 0 && (Nat.beq b 0 && (Nat.beq n 4 && Nat.beq k 1)) then (match asD dI x, asLL o with | some w, some xs => some (.p (Im4 xs ∧ S4 100 w), .tup [.c (.rd (.int .i64) (red (imgs (imgOf xs) w))), .c (.int .i64 0)], [obLL xs]) | _, _ => none) else none
 | _, _ => none }
theorem cSub4_ok : ConOk Tryd.prog 7 cSub4 := by
 refine ⟨by kernel_rfl, fun args objs c r objs' e hc => ?_⟩
 simp only [cSub4] at e
 split at e
 · obtain ⟨hb, e⟩ := Mill.bif_some e
   simp only [Bool.and_eq_true, Nat.beq_eq] at hb
   obtain ⟨rfl, rfl, rfl, rfl⟩ := hb
   split at e
   · rename_i w xs hw ho
     cases e
     rw [asLL_eq ho]
     exact (sub4_sem w xs hc).args fun η Z vs h => by
      cases vs with
      | nil => exact h.elim
      | cons v vs => exact ⟨asD_rel hw h.1, h.2⟩
   · cases e
 · cases e
end Go.Proofs.YthbcgllgmacfdaaDoor

namespace Go.Proofs.YthbcgllgmacfdaaDoor
open Go.Loom Go.Words
set_option maxRecDepth 100000
/-! ### Numbers as text, readings -/
theorem wrap32 {n : Int} (h1 : -2147483648 ≤ n) (h2 : n ≤ 2147483647) : IntKind.i32.wrap n = n := by rw [IntKind.wrap_i32]; omega
theorem dec_lo (n : Nat) (h : n < 10) : packI [48 + (n : Int)] = decT n := by
 revert n
 decide +kernel
theorem dec1_sem (n : Int) (h : 0 ≤ n ∧ n < 10) : FnSem Tryd.prog 15 [nI n] [] (stT (decT n.toNat)) [] := by
 refine fnSem_at (live := []) gamOk_nil Tryd.func15 (by kernel_rfl) (keep := 0) rfl (by kernel_rfl) 100 ?_
 refine of_eq (q := (decide (n < (10:Int)) = true → packV [V.c (W.str (Utf8.encode (IntKind.i32.wrap (IntKind.i64.wrap ((48:Int) + n)))))] = stT (decT n.toNat) ∧ ([] : List Ob) = []) ∧ (decide (n < (10:Int)) = false → (10:Int) ≠ (0:Int) ∧ False)) (by kernel_rfl) ?_
 try simp only [true_and, and_true, decide_eq_true_eq, decide_eq_false_iff_not, Int.not_lt, ne_eq, Int.reduceEq, not_false_eq_true]
 refine ⟨fun _ => ?_, fun h2 => by omega⟩
 have := dec_lo n.toNat (by omega)
 rw [show ((n.toNat : Nat) : Int) = n by omega] at this
 rw [wrap64 (by omega) (by omega), wrap32 (by omega) (by omega), enc1 (by omega), this]; rfl
def cDec1 : Con := con1 (.int .i64) fun n => (.p (0 ≤ (show Int from n) ∧ (show Int from n) < 10), stT (decT (show Int from n).toNat), [])
theorem cDec1_ok : ConOk Tryd.prog 15 cDec1 := con1_ok (by kernel_rfl) fun n h => dec1_sem n h
noncomputable def gRe : Gam := [(14, cParse), (9, cSameT)]
theorem gRe_ok : GamOk Tryd.prog gRe := gamOk_cons cParse_ok (gamOk_cons cSameT_ok gamOk_nil)
theorem reads_sem (s : ByteArray) (g : Int) (w : List Int) (hs : s.size ≤ 20000) (hg : RG g) (hw : w.length ≤ 1000000) (e : parseP g (bytesI s) = some w) : FnSem Tryd.prog 13 [stT s, nI g, lsI w] [] (bB true) [] := by
 refine fnSem_at (live := []) gRe_ok Tryd.func13 (by kernel_rfl) (keep := 0) rfl (by kernel_rfl) 100 ?_
 refine of_eq (q := let q1 := decide ((0:Int) = (0:Int)); let q2 := (q1 && (q1 && true)); (s.size ≤ (20000:Nat) ∧ RG g ∧ (parseP g (bytesI s)).isSome = true) ∧ (q2 = true → q2 = true) ∧ (q2 = true → q2 = true) ∧ (q2 = true → (parseP g (bytesI s)).getD [] = w ∧ ((parseP g (bytesI s)).getD []).length ≤ (1000000000:Nat)) ∧ (q2 = true → q2 = true) ∧ packV [V.c (W.bool (bif q1 && (q1 && true) then true else false))] = bB true ∧ ([] : List Ob) = []) (by kernel_rfl) ?_
 try simp only [imp_self, true_and, and_true, Bool.cond_false_right, Bool.and_eq_true, decide_eq_true_eq]
 rw [e]
 exact ⟨⟨hs, hg, rfl⟩, fun _ => ⟨rfl, by show w.length ≤ _; omega⟩, rfl⟩
def cReads : Con := con3 .str (.int .i64) dI fun s g w => (.p (s.size ≤ 20000 ∧ RG g ∧ List.length (α := Int) w ≤ 1000000 ∧ parseP g (bytesI s) = some (show List Int from w)), bB true, [])
theorem cReads_ok : ConOk Tryd.prog 13 cReads := con3_ok (by kernel_rfl) fun s g w h => reads_sem s g w h.1 h.2.1 h.2.2.1 h.2.2.2
noncomputable def gSm : Gam := [(9, cSameT)]
theorem gSm_ok : GamOk Tryd.prog gSm := gamOk_cons cSameT_ok gamOk_nil
theorem samew_sem (a b : List Int) (h : a = b ∧ a.length ≤ 1000000000) : FnSem Tryd.prog 18 [lsI a, lsI b] [] (bB true) [] := by
 refine fnSem_at (live := []) gSm_ok Tryd.func18 (by kernel_rfl) (keep := 0) rfl (by kernel_rfl) 100 ?_
 refine of_eq (q := (a = b ∧ a.length ≤ (1000000000:Nat)) ∧ packV [V.c (W.bool true)] = bB true ∧ ([] : List Ob) = []) (by kernel_rfl) ?_
 try simp only [and_true]
 exact ⟨h, rfl⟩
def cSm : Con := con2 dI dI fun a b => (.p ((show List Int from a) = b ∧ List.length (α := Int) a ≤ 1000000000), bB true, [])
theorem cSm_ok : ConOk Tryd.prog 18 cSm := con2_ok (by kernel_rfl) fun a b h => samew_sem a b h
noncomputable def gLv : Gam := [(10, cText), (16, cRed), (8, cMul), (18, cSm), (13, cReads), (23, cCmp)]
theorem gLv_ok : GamOk Tryd.prog gLv := gamOk_cons cText_ok (gamOk_cons cRed_ok (gamOk_cons cMul_ok (gamOk_cons cSm_ok (gamOk_cons cReads_ok (gamOk_cons cCmp_ok gamOk_nil)))))
theorem lives_sem : FnSem Tryd.prog 5 [] [] (bB true) [] := by
 refine fnSem_at (live := []) gLv_ok Tryd.func5 (by kernel_rfl) (keep := 0) rfl (by kernel_rfl) 100 ?_
 refine of_eq (q := let q2 := (0:Nat); let q4 := (2:Nat); let q5 := (1:Int); let q1 := decide (textS (List.take (6:Nat) (List.drop q2 [q5, q5, q5, (-2 : Int), (3:Int), (-3 : Int)])) = ByteArray.mk #[(97 : UInt8), (94 : UInt8), (51 : UInt8), (42 : UInt8), (98 : UInt8), (94 : UInt8), (45 : UInt8), (49 : UInt8), (42 : UInt8), (99 : UInt8), (42 : UInt8), (99 : UInt8), (94 : UInt8), (45 : UInt8), (49 : UInt8)]); let q3 := (List.take (5:Nat) (List.drop q2 [q5, (2:Int), (-2 : Int), (-1 : Int), (3:Int)])); q2 + (6:Nat) ≤ (6:Nat) ∧ (GoodW (16:Int) (List.take (6:Nat) (List.drop q2 [q5, q5, q5, (-2 : Int), (3:Int), (-3 : Int)])) ∧ (6:Nat) < (100:Nat)) ∧ q2 + (5:Nat) ≤ (5:Nat) ∧ (All64 q3 ∧ (5:Nat) ≤ (1000000:Nat)) ∧ q2 + (1:Nat) ≤ (1:Nat) ∧ (red q3 = List.take (1:Nat) (List.drop q2 [(3:Int)]) ∧ (1:Nat) ≤ (1000000000:Nat)) ∧ (true = true → q2 + q4 ≤ q4 ∧ q2 + q4 ≤ q4 ∧ (Ok5 (List.take q4 (List.drop q2 [q5, (2:Int)])) ∧ Ok5 (List.take q4 (List.drop q2 [(-2 : Int), q5]))) ∧ q2 + q4 ≤ q4 ∧ (red ((List.take q4 (List.drop q2 [q5, (2:Int)])).append (List.take q4 (List.drop q2 [(-2 : Int), q5]))) = List.take q4 (List.drop q2 [q5, q5]) ∧ q4 ≤ (1000000000:Nat)) ∧ (true = true → true = true) ∧ (true = true → true = true) ∧ ((bif true then q1 else false) = true → (bif true then q1 else false) = true) ∧ ((bif true then q1 else false) = true → (bif true then q1 else false) = true) ∧ ((bif bif true then q1 else false then decide ((0:Int) = (0:Int)) else false) = true → q2 + (6:Nat) ≤ (6:Nat) ∧ ((14:Nat) ≤ (20000:Nat) ∧ RG (3:Int) ∧ (6:Nat) ≤ (1000000:Nat) ∧ parseP (3:Int) (bytesI (ByteArray.mk #[(97 : UInt8), (42 : UInt8), (98 : UInt8), (94 : UInt8), (45 : UInt8), (49 : UInt8), (42 : UInt8), (40 : UInt8), (97 : UInt8), (42 : UInt8), (99 : UInt8), (41 : UInt8), (94 : UInt8), (50 : UInt8)])) = some (List.take (6:Nat) (List.drop q2 [q5, (-2 : Int), q5, (3:Int), q5, (3:Int)]))) ∧ (true = true → q2 + (1:Nat) ≤ (1:Nat) ∧ q2 + q4 ≤ q4 ∧ ((1:Nat) ≤ (1000000:Nat) ∧ q4 ≤ (1000000:Nat)) ∧ packV [V.c (W.bool (decide (cmpW (List.take (1:Nat) (List.drop q2 [(2:Int)])) (List.take q4 (List.drop q2 [q5, q5])) = (-1 : Int))))] = bB true ∧ ([] : List Ob) = []) ∧ (true = !true → packV [V.c (W.bool false)] = bB true ∧ ([] : List Ob) = [])) ∧ ((bif bif true then q1 else false then decide ((0:Int) = (0:Int)) else false) = !true → packV [V.c (W.bool false)] = bB true ∧ ([] : List Ob) = [])) ∧ (true = !true → packV [V.c (W.bool false)] = bB true ∧ ([] : List Ob) = [])) (by kernel_rfl) ?_
 try simp only [imp_self, true_and, and_true, Nat.zero_add, Bool.cond_false_right, Bool.and_eq_true, decide_eq_true_eq, List.drop_zero, List.take_succ_cons, List.take_zero, Nat.le_refl]
 have e1 : textS [1, 1, 1, -2, 3, -3] = ⟨#[97, 94, 51, 42, 98, 94, 45, 49, 42, 99, 42, 99, 94, 45, 49]⟩ := by decide +kernel
 have e2 : parseP 3 (bytesI ⟨#[97, 42, 98, 94, 45, 49, 42, 40, 97, 42, 99, 41, 94, 50]⟩) = some [1, -2, 1, 3, 1, 3] := by decide +kernel
 have w4 : ∀ l : List Int, (∀ x ∈ l, -4 ≤ x ∧ x ≤ 4) → All64 l := fun l h x hx => ⟨by have := h x hx; omega, by have := h x hx; omega⟩
 refine ⟨⟨fun x hx => ?_, by omega⟩, ⟨w4 _ (by decide), by omega⟩, ⟨by decide +kernel, by omega⟩, fun _ => ⟨⟨⟨w4 _ (by decide), by decide⟩, ⟨w4 _ (by decide), by decide⟩⟩, ⟨by decide +kernel, by omega⟩, fun _ => ⟨⟨by omega, ⟨by decide, by decide⟩, by omega, e2⟩, fun _ => ⟨by omega, by rfl⟩, fun h => by cases h⟩, fun h => ?_⟩, fun h => by cases h⟩
 · revert x; decide
 · rw [e1] at h; simp at h
def cLives : Con := con0 (.t, bB true, [])
theorem cLives_ok : ConOk Tryd.prog 5 cLives := con0_ok (by kernel_rfl) fun _ => lives_sem
/-! ### The law -/
noncomputable def gLaw : Gam := [(5, cLives), (6, cLet), (7, cSub4), (8, cMul), (9, cSameT), (10, cText), (11, cPick), (12, cPow4), (13, cReads), (14, cParse), (15, cDec1), (16, cRed), (17, cComm)]
theorem gLaw_ok : GamOk Tryd.prog gLaw := gamOk_cons cLives_ok (gamOk_cons cLet_ok (gamOk_cons cSub4_ok (gamOk_cons cMul_ok (gamOk_cons cSameT_ok (gamOk_cons cText_ok (gamOk_cons cPick_ok (gamOk_cons cPow4_ok (gamOk_cons cReads_ok (gamOk_cons cParse_ok (gamOk_cons cDec1_ok (gamOk_cons cRed_ok (gamOk_cons cComm_ok gamOk_nil))))))))))))
set_option maxHeartbeats 4000000 in
theorem law_sem (l m im : List Int) (n : Int) : FnSem Tryd.prog 3 [lsI l, lsI m, lsI im, nI n] [] (bB true) [] := by
 refine fnSem_at (live := []) gLaw_ok Tryd.func3 (by kernel_rfl) (keep := 0) rfl (by kernel_rfl) 100 ?_
 refine of_eq (q := let q0 := IntKind.i64.wrap; let q1 := decide ((0:Int) = (0:Int)); let q6 := (q1 && true); let q8 := decide ((30:Int) < (l.length:Int)); let q10 := (List.map letter l); let q13 := decide ((30:Int) < (m.length:Int)); let q15 := (List.map letter m); let q16 := (9223372036854775807:Nat); let q19 := (im.length:Int); let q20 := (1000000:Nat); let q4 := (q19.tdiv (4:Int)); let q5 := (ByteArray.mk #[(91 : UInt8)] ++ textS q10 ++ ByteArray.mk #[(44 : UInt8)] ++ textS q15 ++ ByteArray.mk #[(93 : UInt8)]); let q7 := (ByteArray.mk #[(40 : UInt8)] ++ textS q10 ++ ByteArray.mk #[(41 : UInt8), (94 : UInt8)] ++ decT (n % (9:Int)).toNat); let q14 := (List.drop (0:Nat) (List.take (q0 q4).toNat im)); let q17 := ((parseP (4:Int) (bytesI q7)).getD []); let q18 := ((parseP (4:Int) (bytesI q5)).getD []); let q21 := ((2:Int) * q0 q4); let q22 := ((3:Int) * q0 q4); let q2 := decide ((↑q17.length : Int) = q0 (n % (9:Int) * (↑q10.length : Int))); let q9 := (List.drop (q0 q21).toNat (List.take (q0 q22).toNat im)); let q11 := (List.drop (q0 q4).toNat (List.take (q0 q21).toNat im)); let q12 := (List.drop (q0 q22).toNat (List.take im.length im)); let q3 := (imgOf [List.map letter q14, List.map letter q11, List.map letter q9, List.map letter q12]); ((!true) = true → packV [V.c (W.bool false)] = bB true ∧ ([] : List Ob) = []) ∧ ((!true) = false → (q8 = false → q8 = false) ∧ (q8 = false → q8 = false) ∧ (q8 = false → q8 = false) ∧ ((bif q8 then true else q13) = false → (bif q8 then true else q13) = false) ∧ ((bif q8 then true else q13) = false → (bif q8 then true else q13) = false) ∧ ((bif q8 then true else q13) = false → (bif q8 then true else q13) = false) ∧ ((bif bif q8 then true else q13 then true else decide ((30:Int) < q19)) = true → packV [V.c (W.bool true)] = bB true ∧ ([] : List Ob) = []) ∧ ((bif bif q8 then true else q13 then true else decide ((30:Int) < q19)) = false → l.length ≤ q20 ∧ m.length ≤ q20 ∧ (4:Int) ≠ (0:Int) ∧ ((0:Int) ≤ (0:Int) ∧ (0:Int) ≤ q0 q4 ∧ q0 q4 ≤ q19) ∧ q14.length ≤ q20 ∧ ((0:Int) ≤ q0 q4 ∧ q0 q4 ≤ q0 q21 ∧ q0 q21 ≤ q19) ∧ q11.length ≤ q20 ∧ ((0:Int) ≤ q0 q21 ∧ q0 q21 ≤ q0 q22 ∧ q0 q22 ≤ q19) ∧ q9.length ≤ q20 ∧ ((0:Int) ≤ q0 q22 ∧ q0 q22 ≤ q19 ∧ q19 ≤ q19) ∧ q12.length ≤ q20 ∧ (Im4 [List.map letter q14, List.map letter q11, List.map letter q9, List.map letter q12] ∧ S4 (100:Nat) q10) ∧ (Im4 [List.map letter q14, List.map letter q11, List.map letter q9, List.map letter q12] ∧ S4 (100:Nat) q15) ∧ (Ok5 q10 ∧ Ok5 q15) ∧ (Im4 [List.map letter q14, List.map letter q11, List.map letter q9, List.map letter q12] ∧ S4 (100:Nat) (red (q10.append q15))) ∧ ((!q1) = false → (!q1) = false) ∧ ((!q1) = false → (!q1) = false) ∧ ((bif !q1 then true else !q1) = false → (bif !q1 then true else !q1) = false) ∧ ((bif !q1 then true else !q1) = false → (bif !q1 then true else !q1) = false) ∧ ((bif bif !q1 then true else !q1 then true else !q1) = false → (bif bif !q1 then true else !q1 then true else !q1) = false) ∧ ((bif bif !q1 then true else !q1 then true else !q1) = false → (bif bif !q1 then true else !q1 then true else !q1) = false) ∧ ((bif bif !q1 then true else !q1 then true else !q1) = false → Ok5 (red (imgs q3 q10)) ∧ Ok5 (red (imgs q3 q15))) ∧ ((bif bif !q1 then true else !q1 then true else !q1) = false → (bif bif !q1 then true else !q1 then true else !q1) = false) ∧ ((bif bif !q1 then true else !q1 then true else !q1) = false → (bif bif !q1 then true else !q1 then true else !q1) = false) ∧ ((bif bif !q1 then true else !q1 then true else !q1) = false → red ((red (imgs q3 q10)).append (red (imgs q3 q15))) = red (imgs q3 (red (q10.append q15))) ∧ (red ((red (imgs q3 q10)).append (red (imgs q3 q15)))).length ≤ (1000000000:Nat)) ∧ ((bif bif !q1 then true else !q1 then true else !q1) = false → (bif bif !q1 then true else !q1 then true else !q1) = false) ∧ ((bif bif !q1 then true else !q1 then true else !q1) = false → (bif bif !q1 then true else !q1 then true else !q1) = false) ∧ ((bif bif bif !q1 then true else !q1 then true else !q1 then true else !true) = true → packV [V.c (W.bool false)] = bB true ∧ ([] : List Ob) = []) ∧ ((bif bif bif !q1 then true else !q1 then true else !q1 then true else !true) = false → (GoodW (16:Int) q10 ∧ q10.length < (100:Nat)) ∧ (GoodW (16:Int) q15 ∧ q15.length < (100:Nat)) ∧ ((1:Int) ≤ (9:Int) ∧ (9:Int) ≤ (4611686018427387904:Int)) ∧ (S4 (40:Nat) q10 ∧ (-20 : Int) ≤ n % (9:Int) ∧ n % (9:Int) ≤ (20:Int)) ∧ ((!q1) = false → (!q1) = false) ∧ ((!q1) = false → (!q1) = false) ∧ ((bif !q1 then true else !q1) = false → (bif !q1 then true else !q1) = false) ∧ ((bif !q1 then true else !q1) = false → (bif !q1 then true else !q1) = false) ∧ ((bif bif !q1 then true else !q1 then true else !q1) = false → (bif bif !q1 then true else !q1 then true else !q1) = false) ∧ ((bif bif !q1 then true else !q1 then true else !q1) = false → (bif bif !q1 then true else !q1 then true else !q1) = false) ∧ ((bif bif !q1 then true else !q1 then true else !q1) = false → (textS q10).size ≤ (20000:Nat) ∧ RG (4:Int) ∧ q10.length ≤ q20 ∧ parseP (4:Int) (bytesI (textS q10)) = some q10) ∧ ((bif bif !q1 then true else !q1 then true else !q1) = false → (bif bif !q1 then true else !q1 then true else !q1) = false) ∧ ((bif bif !q1 then true else !q1 then true else !q1) = false → (bif bif !q1 then true else !q1 then true else !q1) = false) ∧ ((bif bif bif !q1 then true else !q1 then true else !q1 then true else !true) = true → packV [V.c (W.bool false)] = bB true ∧ ([] : List Ob) = []) ∧ ((bif bif bif !q1 then true else !q1 then true else !q1 then true else !true) = false → (1:Nat) + (textS q10).size ≤ q16 ∧ (ByteArray.mk #[(40 : UInt8)] ++ textS q10).size + (2:Nat) ≤ q16 ∧ ((0:Int) ≤ n % (9:Int) ∧ n % (9:Int) < (10:Int)) ∧ (ByteArray.mk #[(40 : UInt8)] ++ textS q10 ++ ByteArray.mk #[(41 : UInt8), (94 : UInt8)]).size + (decT (n % (9:Int)).toNat).size ≤ q16 ∧ (q7.size ≤ (20000:Nat) ∧ RG (4:Int) ∧ (parseP (4:Int) (bytesI q7)).isSome = true) ∧ (1:Nat) + (textS q10).size ≤ q16 ∧ (ByteArray.mk #[(91 : UInt8)] ++ textS q10).size + (1:Nat) ≤ q16 ∧ (ByteArray.mk #[(91 : UInt8)] ++ textS q10 ++ ByteArray.mk #[(44 : UInt8)]).size + (textS q15).size ≤ q16 ∧ (ByteArray.mk #[(91 : UInt8)] ++ textS q10 ++ ByteArray.mk #[(44 : UInt8)] ++ textS q15).size + (1:Nat) ≤ q16 ∧ (q5.size ≤ (20000:Nat) ∧ RG (4:Int) ∧ (parseP (4:Int) (bytesI q5)).isSome = true) ∧ ((q1 && q6) = true → (q1 && q6) = true) ∧ ((q1 && q6) = true → (q1 && q6) = true) ∧ ((q1 && q6) = true → (q1 && q6) = true) ∧ ((bif q1 && q6 then q1 && q6 else false) = true → (bif q1 && q6 then q1 && q6 else false) = true) ∧ ((bif q1 && q6 then q1 && q6 else false) = true → (bif q1 && q6 then q1 && q6 else false) = true) ∧ ((bif q1 && q6 then q1 && q6 else false) = true → (bif q1 && q6 then q1 && q6 else false) = true) ∧ ((bif q1 && q6 then q1 && q6 else false) = true → (bif q1 && q6 then q1 && q6 else false) = true) ∧ ((bif q1 && q6 then q1 && q6 else false) = true → (bif q1 && q6 then q1 && q6 else false) = true) ∧ ((bif q1 && q6 then q1 && q6 else false) = true → (bif q1 && q6 then q1 && q6 else false) = true) ∧ ((bif q1 && q6 then q1 && q6 else false) = true → (bif q1 && q6 then q1 && q6 else false) = true) ∧ ((bif bif q1 && q6 then q1 && q6 else false then q2 else false) = true → (bif bif q1 && q6 then q1 && q6 else false then q2 else false) = true) ∧ ((bif bif q1 && q6 then q1 && q6 else false then q2 else false) = true → All64 q17 ∧ q17.length ≤ q20) ∧ ((bif bif q1 && q6 then q1 && q6 else false then q2 else false) = true → (bif bif q1 && q6 then q1 && q6 else false then q2 else false) = true) ∧ ((bif bif q1 && q6 then q1 && q6 else false then q2 else false) = true → (bif bif q1 && q6 then q1 && q6 else false then q2 else false) = true) ∧ ((bif bif q1 && q6 then q1 && q6 else false then q2 else false) = true → red q17 = power q10 (n % (9:Int)) ∧ (red q17).length ≤ (1000000000:Nat)) ∧ ((bif bif q1 && q6 then q1 && q6 else false then q2 else false) = true → (bif bif q1 && q6 then q1 && q6 else false then q2 else false) = true) ∧ ((bif bif bif q1 && q6 then q1 && q6 else false then q2 else false then true else false) = true → (bif bif bif q1 && q6 then q1 && q6 else false then q2 else false then true else false) = true) ∧ ((bif bif bif q1 && q6 then q1 && q6 else false then q2 else false then true else false) = true → All64 q18 ∧ q18.length ≤ q20) ∧ ((bif bif bif q1 && q6 then q1 && q6 else false then q2 else false then true else false) = true → (bif bif bif q1 && q6 then q1 && q6 else false then q2 else false then true else false) = true) ∧ ((bif bif bif q1 && q6 then q1 && q6 else false then q2 else false then true else false) = true → (bif bif bif q1 && q6 then q1 && q6 else false then q2 else false then true else false) = true) ∧ ((bif bif bif q1 && q6 then q1 && q6 else false then q2 else false then true else false) = true → Ok5 q10 ∧ Ok5 q15) ∧ ((bif bif bif q1 && q6 then q1 && q6 else false then q2 else false then true else false) = true → (bif bif bif q1 && q6 then q1 && q6 else false then q2 else false then true else false) = true) ∧ ((bif bif bif q1 && q6 then q1 && q6 else false then q2 else false then true else false) = true → (bif bif bif q1 && q6 then q1 && q6 else false then q2 else false then true else false) = true) ∧ ((bif bif bif q1 && q6 then q1 && q6 else false then q2 else false then true else false) = true → red q18 = red (turnW q10 ++ turnW q15 ++ List.map letter l ++ List.map letter m) ∧ (red q18).length ≤ (1000000000:Nat)) ∧ ((bif bif bif q1 && q6 then q1 && q6 else false then q2 else false then true else false) = true → (bif bif bif q1 && q6 then q1 && q6 else false then q2 else false then true else false) = true) ∧ packV [V.c (W.bool (bif bif bif bif q1 && q6 then q1 && q6 else false then q2 else false then true else false then true else false))] = bB true ∧ ([] : List Ob) = []))))) (by kernel_rfl) ?_
 try simp only [imp_self, true_and, and_true, Bool.cond_true_left, Bool.cond_false_right, Bool.or_eq_true, Bool.or_eq_false_iff, Bool.and_eq_true, Bool.not_eq_true', Bool.not_eq_false', decide_eq_true_eq, decide_eq_false_iff_not, Int.not_lt, List.drop_zero, List.take_length, Int.le_refl, ne_eq, Int.reduceEq, not_false_eq_true]
 refine ⟨(fun h => nomatch h), fun _ => ⟨fun _ => rfl, fun h => ?_⟩⟩
 have ek : IntKind.i64.wrap ((im.length : Int).tdiv 4) = ((im.length / 4 : Nat) : Int) := by
  rw [Int.tdiv_eq_ediv_of_nonneg (by omega), wrap64 (by omega) (by omega)]; omega
 have hk : 4 * (im.length / 4) ≤ im.length := by omega
 have hk4 : im.length ≤ 4 * (im.length / 4) + 3 := by omega
 rw [ek]
 generalize im.length / 4 = k at hk hk4
 have e2 : IntKind.i64.wrap (2 * (k : Int)) = ((2 * k : Nat) : Int) := by rw [wrap64 (by omega) (by omega)]; omega
 have e3 : IntKind.i64.wrap (3 * (k : Int)) = ((3 * k : Nat) : Int) := by rw [wrap64 (by omega) (by omega)]; omega
 simp only [e2, e3, Int.toNat_natCast, List.append_eq]
 have hIm : Im4 [List.map letter (List.take k im), List.map letter (List.drop k (List.take (2 * k) im)), List.map letter (List.drop (2 * k) (List.take (3 * k) im)), List.map letter (List.drop (3 * k) im)] := by
  refine ⟨rfl, fun u hu => ?_⟩
  simp only [List.mem_cons, List.not_mem_nil, or_false] at hu
  rcases hu with rfl | rfl | rfl | rfl
  · exact ⟨W4.letters _, by simp; omega⟩
  · exact ⟨W4.letters _, by simp; omega⟩
  · exact ⟨W4.letters _, by simp; omega⟩
  · exact ⟨W4.letters _, by simp; omega⟩
 refine ⟨by omega, by omega, by omega, by simp; omega, by omega, by simp; omega, by omega, by simp; omega, by omega, by simp; omega, ?_⟩
 generalize [List.map letter (List.take k im), List.map letter (List.drop k (List.take (2 * k) im)), List.map letter (List.drop (2 * k) (List.take (3 * k) im)), List.map letter (List.drop (3 * k) im)] = xs at hIm
 have sa : S4 30 (List.map letter l) := ⟨W4.letters l, by simp; omega⟩
 have sb : S4 30 (List.map letter m) := ⟨W4.letters m, by simp; omega⟩
 clear h ek hk hk4 e2 e3
 generalize List.map letter l = a at sa
 generalize List.map letter m = b at sb
 have m1 := Int.emod_nonneg n (b := 9) (by omega)
 have m2 := Int.emod_lt_of_pos n (show (0 : Int) < 9 by omega)
 generalize n % 9 = q' at m1 m2
 obtain ⟨q, rfl⟩ := Int.eq_ofNat_of_zero_le m1
 clear m1
 have hq : q < 9 := by omega
 clear m2
 have ga : GoodW 16 a := fun x hx => by have := sa.1 x hx; omega
 have gb : GoodW 16 b := fun x hx => by have := sb.1 x hx; omega
 have ga4 : GoodW 4 a := fun x hx => by have := sa.1 x hx; omega
 have gb4 : GoodW 4 b := fun x hx => by have := sb.1 x hx; omega
 have la : a.length < 100 := by have := sa.2; omega
 have lb : b.length < 100 := by have := sb.2; omega
 have za := textS_size (g := 16) (Int.le_refl _) ga la
 have zb := textS_size (g := 16) (Int.le_refl _) gb lb
 have zd := decT_size q (by omega)
 have ta := textS_bytes (g := 16) (Int.le_refl _) ga la
 have tb := textS_bytes (g := 16) (Int.le_refl _) gb lb
 have P1 : parseP 4 (bytesI (textS a)) = some a := by rw [ta]; exact parse_text (by decide) ga4 la
 have P2 : parseP 4 (bytesI (⟨#[40]⟩ ++ textS a ++ ⟨#[41, 94]⟩ ++ decT q)) = some (pw a q) := by
  have e : bytesI (⟨#[40]⟩ ++ textS a ++ ⟨#[41, 94]⟩ ++ decT q) = 40 :: (textL a ++ (41 :: 94 :: decL q)) := by
   rw [bytesI_app, bytesI_app, bytesI_app, ta, decT_bytes q (by omega), List.append_assoc, List.append_assoc]; rfl
  rw [e]
  exact parse_pow (by decide) ga4 la q (by omega)
 have P3 : parseP 4 (bytesI (⟨#[91]⟩ ++ textS a ++ ⟨#[44]⟩ ++ textS b ++ ⟨#[93]⟩)) = some (turnW a ++ turnW b ++ a ++ b) := by
  have e : bytesI (⟨#[91]⟩ ++ textS a ++ ⟨#[44]⟩ ++ textS b ++ ⟨#[93]⟩) = 91 :: (textL a ++ (44 :: (textL b ++ [93]))) := by
   rw [bytesI_app, bytesI_app, bytesI_app, bytesI_app, ta, tb, List.append_assoc, List.append_assoc, List.append_assoc]; rfl
  rw [e]
  exact parse_com (by decide) ga4 la gb4 lb
 have z1 : (⟨#[40]⟩ ++ textS a : ByteArray).size = 1 + (textS a).size := by rw [ByteArray.size_append]; rfl
 have z2 : (⟨#[40]⟩ ++ textS a ++ ⟨#[41, 94]⟩ : ByteArray).size = 1 + (textS a).size + 2 := by rw [ByteArray.size_append, z1]; rfl
 have z3 : (⟨#[40]⟩ ++ textS a ++ ⟨#[41, 94]⟩ ++ decT q : ByteArray).size = 1 + (textS a).size + 2 + (decT q).size := by rw [ByteArray.size_append, z2]
 have y1 : (⟨#[91]⟩ ++ textS a : ByteArray).size = 1 + (textS a).size := by rw [ByteArray.size_append]; rfl
 have y2 : (⟨#[91]⟩ ++ textS a ++ ⟨#[44]⟩ : ByteArray).size = 1 + (textS a).size + 1 := by rw [ByteArray.size_append, y1]; rfl
 have y3 : (⟨#[91]⟩ ++ textS a ++ ⟨#[44]⟩ ++ textS b : ByteArray).size = 1 + (textS a).size + 1 + (textS b).size := by rw [ByteArray.size_append, y2]
 have y4 : (⟨#[91]⟩ ++ textS a ++ ⟨#[44]⟩ ++ textS b ++ ⟨#[93]⟩ : ByteArray).size = 1 + (textS a).size + 1 + (textS b).size + 1 := by rw [ByteArray.size_append, y3]; rfl
 have hm : q * a.length ≤ 8 * 30 := Nat.mul_le_mul (by omega) sa.2
 have hmi : ((q * a.length : Nat) : Int) = (q : Int) * (a.length : Int) := by simp
 have hw : IntKind.i64.wrap ((q : Int) * (a.length : Int)) = ((q * a.length : Nat) : Int) := by rw [← hmi, wrap64 (by omega) (by omega)]
 have hpl : (pw a q).length = q * a.length := pw_length a q
 have hpw : red (pw a q) = power a q := by
  obtain ⟨h1, h2⟩ := power_ok sa.nz (q : Int)
  unfold gp at h2
  rw [if_neg (by omega), Int.natAbs_natCast] at h2
  rw [← h2.red_eq, red_of_rd h1]
 have sab : S4 60 (a ++ b) := ⟨sa.1.app sb.1, by have := sa.2; have := sb.2; rw [List.length_append]; omega⟩
 obtain ⟨_, x1, _⟩ := subst4 hIm (w := a) ⟨sa.1, by omega⟩
 obtain ⟨_, x2, _⟩ := subst4 hIm (w := b) ⟨sb.1, by omega⟩
 have x3 : S4 2400 (red (red (imgs (imgOf xs) a) ++ red (imgs (imgOf xs) b))) := (x1.app x2).red
 have hpA : S4 240 (pw a q) := by
  refine ⟨?_, by omega⟩
  have : ∀ k, W4 (pw a k) := by
   intro k
   induction k with
   | zero => intro y hy; simp [pw] at hy
   | succ k ih => exact sa.1.app ih
  exact this q
 have sc : S4 120 (turnW a ++ turnW b ++ a ++ b) := ⟨((sa.turn.1.app sb.turn.1).app sa.1).app sb.1, by have := sa.2; have := sb.2; simp [turnW_length]; omega⟩
 simp only [P1, P2, P3, hw, Int.toNat_natCast, Option.isSome_some, Option.getD_some]
 refine ⟨⟨hIm, sa.1, by have := sa.2; omega⟩, ⟨hIm, sb.1, by have := sb.2; omega⟩, ⟨sa.ok, sb.ok⟩, ⟨hIm, sab.red.1, by have := sab.red.2; omega⟩, fun _ => ⟨x1.ok, x2.ok⟩, fun _ => ⟨hom4 hIm a b, by have := x3.2; omega⟩, fun h => by simp at h, fun _ => ⟨⟨ga, la⟩, ⟨gb, lb⟩, by decide, ⟨⟨sa.1, by have := sa.2; omega⟩, by omega, by omega⟩, fun _ => ⟨by omega, by unfold RG; omega, by omega, trivial⟩, fun h => by simp at h, fun _ => ?_⟩⟩
 refine ⟨by omega, by omega, by omega, by omega, ⟨by omega, by unfold RG; omega, trivial⟩, by omega, by omega, by omega, by omega, ⟨by omega, by unfold RG; omega, trivial⟩, fun _ => ⟨hpA.1.all, by omega⟩, fun _ => ⟨hpw, by have := hpA.red.2; omega⟩, fun _ => ⟨sc.1.all, by have := sc.2; omega⟩, fun _ => ⟨sa.ok, sb.ok⟩, fun _ => ⟨trivial, by have := sc.red.2; omega⟩, ?_⟩
 rw [hpl, decide_eq_true rfl]
 rfl
theorem back_all : ForArgs (fun args => FnSem Tryd.prog 3 args [] (dat .bool true) []) [.sl (.int .i64), .sl (.int .i64), .sl (.int .i64), .int .i64] [] :=
 fun l _ m _ im _ n _ => law_sem l m im n
end Go.Proofs.YthbcgllgmacfdaaDoor
