/- strings.Builder in the walk by values: what copyCheck does to an object that begins with its block. -/
import Derived.Test.YtbgfpacjoneaeaaDoorLoom4
import Derived.Shelf.Strings.Builder1
import Derived.Test.YtbgfpacjoneaeaaDoorText1
import Derived.Test.YtbgfpacjoneaeaaDoorCalls1
namespace Go.Loom
open Go.RowKit Go.Shelf Go.Proofs
open Go.Mill (T)
variable {P : Program} {ρ : Ren}
theorem liesAt_head {e : TypeId} {k : Nat} (hk : P.cellsOf e = k) (h0 : k ≠ 0) (count : Nat) (hn : 1 ≤ count) : liesAt P P.depth e count 0 e 1 = true := by
 have hd : P.depth = (2 * (P.types.size + Made.depth) + 1) + 1 := rfl
 rw [hd]
 simp only [liesAt, Bool.or_eq_true]
 left
 rw [hd]
 simp [rowAt, hk, h0, sameLayout, hn]
set_option maxHeartbeats 1000000 in
set_option maxRecDepth 100000 in
theorem copyCheck_fresh (L : Lays.n240 P ρ) (X : Builder.X72 P ρ) (hk : P.cellsOf (ρ.t 72) = 2) (b n : Nat) (hn : 2 ≤ n) (w : World) (h0 : w.cell? ⟨b, 0, none⟩ = some (.pointer none)) (hsh : w.shape? b = some ((ρ.t 72), n)) (hfz : w.frozen? ⟨b, 0, none⟩ = false) :
 Calls P (ρ.f 240) #[.pointer (some ⟨b, 0, none⟩)] w fun e w' => e = .returned (.tuple #[]) ∧ w' = w.setCell ⟨b, 0, none⟩ (.pointer (some ⟨b, 0, none⟩)) := by
 obtain ⟨j, hj, hjs⟩ := Option.map_eq_some_iff.1 X.sizeBuilder
 have mixed := L.mixed
 have t72 := L.t72; have a72 := L.a72; have z72 := L.z72; have v72 := L.v72; have u72 := run_underlying L.t72
 have t70 := L.t70; have a70 := L.a70; have z70 := L.z70; have v70 := L.v70; have u70 := run_underlying L.t70
 have t9 := L.t9; have a9 := L.a9; have z9 := L.z9; have v9 := L.v9; have u9 := run_underlying L.t9
 have t4 := L.t4; have a4 := L.a4; have z4 := L.z4; have v4 := L.v4; have u4 := run_underlying L.t4
 have t164 := L.t164; have a164 := L.a164; have z164 := L.z164; have v164 := L.v164; have u164 := run_underlying L.t164
 go_enter L.f240, Body.n240_ntmps ρ
 go_wp2
 rw [Lib.run_to_unsafe w ⟨b, 0, none⟩ L.t70 L.t164 hj (by rw [hjs]; decide) hsh (show 0 < n by omega)]
 simp only [Result.andThen]
 rw [Oper.upon_value]
 go_wp2
 rw [run_callFunc_extern L.f276 (by kernel_rfl) (by kernel_rfl) (by kernel_rfl) (e := Extern.AbiNoEscape.same) (by kernel_rfl)]
 rw [Lib.run_noEscape]
 simp only [Result.andThen]
 rw [Oper.upon_value]
 go_wp2
 rw [Lib.run_from_unsafe w ⟨b, 0, none⟩ L.t164 L.t70 hj hsh (liesAt_head hk (by decide) _ (by rw [hk]; omega))]
 simp only [Result.andThen]
 rw [Oper.upon_value]
 go_wp2
 go_end0
 exact ⟨rfl, rfl⟩
theorem copyCheck_sem (L : Lays.n240 P ρ) (X : Builder.X72 P ρ) (hk : P.cellsOf (ρ.t 72) = 2) (x : W) (rest : List Ob) :
 FnSem P (ρ.f 240) [.p (.c (.ptr 0 0))] (⟨ρ.t 72, [.c (.ba 0), .c x]⟩ :: rest) (.tup []) (⟨ρ.t 72, [.c (.ba 0), .c x]⟩ :: rest) := by
 intro base η Z w vs R hvs
 match vs, hvs with
 | [v], ⟨h1, _⟩ =>
   obtain ⟨_, p, hp, rfl⟩ := h1
   have hp : η 0 = some p := hp
   have ho : (Sto.ofList (⟨ρ.t 72, [.c (.ba 0), .c x]⟩ :: rest)).get 0 = some ⟨ρ.t 72, [.c (.ba 0), .c x]⟩ := by rw [Sto.get_ofList]; rfl
   obtain ⟨hb, hz, Li⟩ := R.objs 0 _ p ho hp
   have hm : ¬ (Ob.mk (ρ.t 72) [.c (.ba 0), .c x]).isM := by simp [Ob.isM, Ob.cells, Fd.cells]
   obtain ⟨c, fz, c1, c2, c3, c4⟩ := Li.there hm
   have hroom := Li.size hm
   have hroom : 2 ≤ p.room := hroom
   obtain ⟨v0, hv0, hr0, ho0⟩ := c3 0 (.ba 0) rfl
   obtain ⟨p', hp', hoff, hsel⟩ := hr0
   have : p' = p := Option.some.inj (hp'.symm.trans hp)
   subst this
   rw [hoff] at hv0 c2
   have hcell : w.cell? ⟨p'.block, 0, none⟩ = some v0 := by simpa [World.cell?, c1] using hv0
   have hsh : w.shape? p'.block = some (ρ.t 72, c.size) := by simp [World.shape?, c1]
   have hfz : w.frozen? ⟨p'.block, 0, none⟩ = false := by
    have := c4 0 (by omega) (by omega)
    simp only [World.frozen?, c1]
    simpa using this
   have e0 : (Value.pointer (some ⟨p'.block, p'.off + (0, 0).2, none⟩)) = .pointer (some ⟨p'.block, 0, none⟩) := by rw [hoff]; rfl
   rw [e0]
   rcases hsel with rfl | rfl
   · refine (callsIn_wide.2 (copyCheck_fresh L X hk p'.block c.size (by omega) w hcell hsh hfz)).mono ?_
     rintro e w' ⟨rfl, rfl⟩
     obtain ⟨hst, g⟩ := R.store (P := P) ho hp hm (off := 0) (cs := [.ba 0]) (vs := [.pointer (some ⟨p'.block, 0, none⟩)]) ⟨⟨p', hp, hoff, .inr rfl⟩, trivial⟩ (by intro v hv; simp at hv; subst hv; rfl) (by show 0 + 1 ≤ 2; omega) (o' := ⟨ρ.t 72, [.c (.ba 0), .c x]⟩) rfl rfl
     have hw : w.setCells p'.block (p'.off + 0) [.pointer (some ⟨p'.block, 0, none⟩)] = w.setCell ⟨p'.block, 0, none⟩ (.pointer (some ⟨p'.block, 0, none⟩)) := by rw [hoff]; rfl
     rw [hw] at g
     have hal : ((Sto.ofList (⟨ρ.t 72, [.c (.ba 0), .c x]⟩ :: rest)).put 0 ⟨ρ.t 72, [.c (.ba 0), .c x]⟩).Alike (.ofList (⟨ρ.t 72, [.c (.ba 0), .c x]⟩ :: rest)) := by
      refine ⟨⟨rfl, rfl⟩, fun n => ?_⟩
      rw [Sto.get_put, ho]
      by_cases h : n = 0
      · subst h; rw [if_pos rfl, ho]; exact ⟨rfl, rfl⟩
      · rw [if_neg h]
        cases (Sto.ofList (⟨ρ.t 72, [.c (.ba 0), .c x]⟩ :: rest)).get n with
        | none => trivial
        | some o => exact ⟨rfl, rfl⟩
     have m := g.up.alike hal
     exact ⟨.tuple #[], η, Z, rfl, ⟨fun _ _ _ h => h, m.st, m.step⟩, [], rfl, trivial⟩
   · refine (callsIn_wide.2 (Any.Builder_copyCheck_used L X p'.block w hcell)).mono ?_
     rintro e w' ⟨rfl, rfl⟩
     exact ⟨.tuple #[], η, Z, rfl, ⟨fun _ _ _ h => h, R, Step.refl _ _ _ _⟩, [], rfl, trivial⟩
end Go.Loom

namespace Go.Proofs.YtbgfpacjoneaeaaDoor
open Go.Loom
set_option maxRecDepth 100000
def ren240 : Go.Shelf.Ren := ⟨fun | 240 => 89 | 276 => 98 | n => n, fun | 9 => 9 | 4 => 4 | 0 => 0 | 20 => 20 | 72 => 88 | 70 => 85 | 37 => 86 | 164 => 118 | 5 => 5 | 80 => 97 | n => n, fun | n => n⟩
theorem lays240 : Go.Proofs.Lays.n240 Tryd.prog ren240 := {
 mixed := by kernel_rfl
 f240 := Tryd.func89.trans (congrArg some (by kernel_rfl))
 f276 := Tryd.func98.trans (congrArg some (by kernel_rfl))
 t0 := Tryd.underlying0
 a0 := Tryd.isAgg0
 z0 := Tryd.sizeOf0
 v0 := Tryd.zeroValue0
 t4 := Tryd.underlying4
 a4 := Tryd.isAgg4
 z4 := Tryd.sizeOf4
 v4 := Tryd.zeroValue4
 t9 := Tryd.underlying9
 a9 := Tryd.isAgg9
 z9 := Tryd.sizeOf9
 v9 := Tryd.zeroValue9
 t20 := Tryd.underlying20
 a20 := Tryd.isAgg20
 z20 := Tryd.sizeOf20
 v20 := Tryd.zeroValue20
 t70 := Tryd.underlying85
 a70 := Tryd.isAgg85
 z70 := Tryd.sizeOf85
 v70 := Tryd.zeroValue85
 t72 := Tryd.underlying88
 a72 := Tryd.isAgg88
 z72 := Tryd.sizeOf88
 v72 := Tryd.zeroValue88
 t164 := Tryd.underlying118
 a164 := Tryd.isAgg118
 z164 := Tryd.sizeOf118
 v164 := Tryd.zeroValue118 }
theorem x72 : Go.Proofs.Builder.X72 Tryd.prog ren240 := { sizeBuilder := by kernel_rfl, liesBuilder := by kernel_rfl }
abbrev obB (n : Nat) : Ob := ⟨88, [.c (.ba 0), .c (.sl 1 0 n 1)]⟩
abbrev obU (l : List Int) : Ob := ⟨5, [.a 0 (.int .u8) l]⟩
def cCc : Con := { refs := [true], f := fun args objs => match args, objs with
 | [.p (.c (.ptr a b))], (⟨t, [.c (.ba n), .c x]⟩ :: rest) => bif Nat.beq a 0 && (Nat.beq b 0 && (Nat.beq n 0 && Nat.beq t 88)) then some (.t, .tup [], (⟨t, [.c (.ba n), .c x]⟩ :: rest)) else none
 | _, _ => none }
theorem cCc_ok : ConOk Tryd.prog 89 cCc := by
 refine ⟨by kernel_rfl, fun args objs c r objs' e hc => ?_⟩
 simp only [cCc] at e
 split at e
 · obtain ⟨hb, e⟩ := Mill.bif_some e
   simp only [Bool.and_eq_true, Nat.beq_eq] at hb
   obtain ⟨rfl, rfl, rfl, rfl⟩ := hb
   cases e
   exact copyCheck_sem lays240 x72 (by kernel_rfl) _ _
 · cases e
def asU : Ob → Option (List Int)
 | ⟨ty, [.a k d l]⟩ => bif Nat.beq ty 5 && Nat.beq k 0 then (if h : d = .int .u8 then some (h ▸ l : List (D.int .u8).ty) else none) else none
 | _ => none
theorem asU_eq {o : Ob} {l : List Int} (e : asU o = some l) : o = obU l := by
 unfold asU at e
 split at e
 · obtain ⟨hb, e⟩ := Mill.bif_some e
   simp only [Bool.and_eq_true, Nat.beq_eq] at hb
   obtain ⟨rfl, rfl⟩ := hb
   split at e
   · rename_i h; subst h; cases e; rfl
   · cases e
 · cases e
def asB : Ob → Option Nat
 | ⟨ty, [.c (.ba a), .c (.sl b c n z)]⟩ => bif Nat.beq ty 88 && (Nat.beq a 0 && (Nat.beq b 1 && (Nat.beq c 0 && Nat.beq z 1))) then some n else none
 | _ => none
theorem asB_eq {o : Ob} {n : Nat} (e : asB o = some n) : o = obB n := by
 unfold asB at e
 split at e
 · obtain ⟨hb, e⟩ := Mill.bif_some e
   simp only [Bool.and_eq_true, Nat.beq_eq] at hb
   obtain ⟨rfl, rfl, rfl, rfl, rfl⟩ := hb
   cases e; rfl
 · cases e
theorem bytesI_len (s : ByteArray) : (bytesI s).length = s.size := by simp [bytesI]
noncomputable def gWs : Gam := [(89, cCc)]
theorem gWs_ok : GamOk Tryd.prog gWs := gamOk_cons cCc_ok gamOk_nil
theorem ws_sem (l : List Int) (s : ByteArray) (h : l.length + s.size ≤ 1000000) : FnSemK Tryd.prog 71 1 [pt 0, .p (.c (.str s))] [obB l.length, obU l] (.tup [.c (.int .i64 s.size), .c .nilif]) [obB (l.length + s.size), obU (l ++ bytesI s)] := by
 refine fnSemK_at (live := []) (fzl := []) (fz := []) gWs_ok Tryd.func71 (by kernel_rfl) 1 (by kernel_rfl) 100 ?_
 refine of_eq (q := ((0:Nat) + l.length ≤ l.length ∧ (l.length + (bytesI s).length) * (1:Nat) ≤ (140737488355328:Nat)) ∧ packV [V.c (W.int .i64 (s.size:Int)), V.c W.nilif] = A.tup [V.c (W.int .i64 (s.size:Int)), V.c W.nilif] ∧ [Ob.mk 88 [Fd.c (W.ba (0:Nat)), Fd.c (W.sl ((0:Nat) + (1:Nat)) (0:Nat) (l.length + (bytesI s).length) (1:Nat))], Ob.mk 5 [Fd.a 0 (D.int .u8) (List.take l.length (List.drop (0:Nat) l) ++ bytesI s)]] = [obB (l.length + s.size), obU (l ++ bytesI s)]) (by kernel_rfl) ?_
 try simp only [true_and, Nat.zero_add, Nat.mul_one, List.drop_zero, List.take_length, Nat.le_refl]
 rw [bytesI_len]
 exact ⟨by omega, rfl, rfl⟩
theorem bs_sem (l : List Int) (h0 : 0 < l.length) (h : l.length ≤ 1000000) : FnSemK Tryd.prog 74 0 [pt 0] [obB l.length, obU l] (.p (.c (.str (packI l)))) [] := by
 refine fnSemK_at (live := []) (fzl := []) (fz := []) gWs_ok Tryd.func74 (by kernel_rfl) 0 (by kernel_rfl) 100 ?_
 refine of_eq (q := (0:Nat) < l.length ∧ ((0:Int) < (l.length:Int) ∧ (↑(0:Nat) : Int) + (l.length:Int) ≤ (l.length:Int) ∧ (l.length:Int) ≤ (9223372036854775807:Int)) ∧ packV [V.c (W.str (packI (List.take l.length (List.drop (0:Nat) l))))] = A.p (V.c (W.str (packI l))) ∧ ([] : List Ob) = []) (by kernel_rfl) ?_
 try simp only [and_true, List.drop_zero, List.take_length]
 exact ⟨h0, by omega, rfl⟩
def cWs : Con := { refs := [true, false], keep := some 1, f := fun args objs => match args, objs with
 | [.p (.c (.ptr a b)), x], [o, u] => bif Nat.beq a 0 && Nat.beq b 0 then (match asB o, asU u, asD .str x with | some n, some l, some s => some (.p (n = l.length ∧ l.length + s.size ≤ 1000000), .tup [.c (.int .i64 s.size), .c .nilif], [obB (l.length + s.size), obU (l ++ bytesI s)]) | _, _, _ => none) else none
 | _, _ => none }
theorem cWs_ok : ConOk Tryd.prog 71 cWs := by
 refine ⟨by kernel_rfl, fun args objs c r objs' e hc => ?_⟩
 simp only [cWs] at e
 split at e
 · obtain ⟨hb, e⟩ := Mill.bif_some e
   simp only [Bool.and_eq_true, Nat.beq_eq] at hb
   obtain ⟨rfl, rfl⟩ := hb
   split at e
   · rename_i n l s ho hu hx
     cases e
     obtain ⟨rfl, h2⟩ := hc
     rw [asB_eq ho, asU_eq hu]
     intro base η Z w vs R hv
     refine ws_sem l s h2 base η Z w vs R ?_
     match vs, hv with
     | [u, v], ⟨h1, h2, h3⟩ => exact ⟨h1, asD_rel hx h2, h3⟩
   · cases e
 · cases e
def cBs : Con := { refs := [true], keep := some 0, f := fun args objs => match args, objs with
 | [.p (.c (.ptr a b))], [o, u] => bif Nat.beq a 0 && Nat.beq b 0 then (match asB o, asU u with | some n, some l => some (.p (n = l.length ∧ 0 < l.length ∧ l.length ≤ 1000000), .p (.c (.str (packI l))), []) | _, _ => none) else none
 | _, _ => none }
theorem cBs_ok : ConOk Tryd.prog 74 cBs := by
 refine ⟨by kernel_rfl, fun args objs c r objs' e hc => ?_⟩
 simp only [cBs] at e
 split at e
 · obtain ⟨hb, e⟩ := Mill.bif_some e
   simp only [Bool.and_eq_true, Nat.beq_eq] at hb
   obtain ⟨rfl, rfl⟩ := hb
   split at e
   · rename_i n l ho hu
     cases e
     obtain ⟨rfl, h2, h3⟩ := hc
     rw [asB_eq ho, asU_eq hu]
     exact bs_sem l h2 h3
   · cases e
 · cases e
end Go.Proofs.YtbgfpacjoneaeaaDoor

namespace Go.Proofs.YtbgfpacjoneaeaaDoor
open Go.Loom
set_option maxRecDepth 100000
def decT (n : Nat) : ByteArray := if n < 10 then ⟨#[UInt8.ofNat (48 + n)]⟩ else ⟨#[UInt8.ofNat (48 + n / 10), UInt8.ofNat (48 + n % 10)]⟩
theorem small_sem (n : Nat) (h : n < 100) : FnSem Tryd.prog 113 [nI n] [] (.p (.c (.str (decT n)))) [] := by
 refine fnSem_at (live := []) gamOk_nil Tryd.func113 (by kernel_rfl) (keep := 0) rfl (by kernel_rfl) 100 ?_
 refine of_eq (q := let q0 := IntKind.i64.wrap; let q1 := (48 : UInt8); let q2 := (49 : UInt8); let q3 := (50 : UInt8); let q4 := (51 : UInt8); let q5 := (52 : UInt8); let q6 := (53 : UInt8); let q7 := (54 : UInt8); let q8 := (55 : UInt8); let q9 := (56 : UInt8); let q10 := (57 : UInt8); let q11 := (q0 ((n:Int) * (2:Int)) + (2:Int)); (decide ((n:Int) < (10:Int)) = true → ((0:Int) ≤ (n:Int) ∧ (n:Int) ≤ q0 ((n:Int) + (1:Int)) ∧ q0 ((n:Int) + (1:Int)) ≤ (↑(36:Nat) : Int)) ∧ packV [V.c (W.str ((ByteArray.mk #[q1, q2, q3, q4, q5, q6, q7, q8, q9, q10, (97 : UInt8), (98 : UInt8), (99 : UInt8), (100 : UInt8), (101 : UInt8), (102 : UInt8), (103 : UInt8), (104 : UInt8), (105 : UInt8), (106 : UInt8), (107 : UInt8), (108 : UInt8), (109 : UInt8), (110 : UInt8), (111 : UInt8), (112 : UInt8), (113 : UInt8), (114 : UInt8), (115 : UInt8), (116 : UInt8), (117 : UInt8), (118 : UInt8), (119 : UInt8), (120 : UInt8), (121 : UInt8), (122 : UInt8)]).extract n (q0 ((n:Int) + (1:Int))).toNat))] = A.p (V.c (W.str (decT n))) ∧ ([] : List Ob) = []) ∧ (decide ((n:Int) < (10:Int)) = false → ((0:Int) ≤ q0 ((n:Int) * (2:Int)) ∧ q0 ((n:Int) * (2:Int)) ≤ q0 q11 ∧ q0 q11 ≤ (↑(200:Nat) : Int)) ∧ packV [V.c (W.str ((ByteArray.mk (([q1, q1, q1, q2, q1, q3, q1, q4, q1, q5, q1, q6, q1, q7, q1, q8, q1, q9, q1, q10, q2, q1, q2, q2, q2, q3, q2, q4, q2, q5, q2, q6, q2, q7, q2, q8, q2, q9, q2, q10, q3, q1, q3, q2, q3, q3, q3, q4, q3, q5].append [q3, q6, q3, q7, q3, q8, q3, q9, q3, q10, q4, q1, q4, q2, q4, q3, q4, q4, q4, q5, q4, q6, q4, q7, q4, q8, q4, q9, q4, q10, q5, q1, q5, q2, q5, q3, q5, q4, q5, q5, q5, q6, q5, q7, q5, q8, q5, q9, q5, q10]).append ([q6, q1, q6, q2, q6, q3, q6, q4, q6, q5, q6, q6, q6, q7, q6, q8, q6, q9, q6, q10, q7, q1, q7, q2, q7, q3, q7, q4, q7, q5, q7, q6, q7, q7, q7, q8, q7, q9, q7, q10, q8, q1, q8, q2, q8, q3, q8, q4, q8, q5].append [q8, q6, q8, q7, q8, q8, q8, q9, q8, q10, q9, q1, q9, q2, q9, q3, q9, q4, q9, q5, q9, q6, q9, q7, q9, q8, q9, q9, q9, q10, q10, q1, q10, q2, q10, q3, q10, q4, q10, q5, q10, q6, q10, q7, q10, q8, q10, q9, q10, q10])).toArray).extract (q0 ((n:Int) * (2:Int))).toNat (q0 q11).toNat))] = A.p (V.c (W.str (decT n))) ∧ ([] : List Ob) = [])) (by kernel_rfl) ?_
 try simp only [and_true, decide_eq_true_eq, decide_eq_false_iff_not, Int.not_lt]
 rw [wrap64 (n := (n : Int) + 1) (by omega) (by omega), wrap64 (n := (n : Int) * 2) (by omega) (by omega), wrap64 (n := (n : Int) * 2 + 2) (by omega) (by omega), show ((n : Int) + 1).toNat = n + 1 by omega, show ((n : Int) * 2).toNat = n * 2 by omega, show ((n : Int) * 2 + 2).toNat = n * 2 + 2 by omega]
 refine ⟨fun hn => ⟨by omega, congrArg (fun s => A.p (V.c (W.str s))) ?_⟩, fun hn => ⟨by omega, congrArg (fun s => A.p (V.c (W.str s))) ?_⟩⟩
 · revert n
   decide +kernel
 · revert n
   decide +kernel
theorem small_semI (n : Int) (h : 0 ≤ n ∧ n < 100) : FnSem Tryd.prog 113 [nI n] [] (.p (.c (.str (decT n.toNat)))) [] := by
 have := small_sem n.toNat (by omega)
 rwa [show ((n.toNat : Nat) : Int) = n by omega] at this
def cSmall : Con := con1 (.int .i64) fun n => (.p (0 ≤ (show Int from n) ∧ (show Int from n) < 100), .p (.c (.str (decT (show Int from n).toNat))), [])
theorem cSmall_ok : ConOk Tryd.prog 113 cSmall := con1_ok (by kernel_rfl) fun n h => small_semI n h
noncomputable def gFi : Gam := [(113, cSmall)]
theorem gFi_ok : GamOk Tryd.prog gFi := gamOk_cons cSmall_ok gamOk_nil
theorem fi_sem (n : Int) (h : 0 ≤ n ∧ n < 100) : FnSem Tryd.prog 99 [nI n, nI 10] [] (.p (.c (.str (decT n.toNat)))) [] := by
 refine fnSem_at (live := []) gFi_ok Tryd.func99 (by kernel_rfl) (keep := 0) rfl (by kernel_rfl) 100 ?_
 refine of_eq (q := let q1 := decide ((0:Int) ≤ n); (decide ((10:Int) = (10:Int)) = true → (q1 = true → q1 = true) ∧ (q1 = true → q1 = true) ∧ ((bif q1 then decide (n < (100:Int)) else false) = true → ((0:Int) ≤ n ∧ n < (100:Int)) ∧ packV [V.c (W.str (decT n.toNat))] = A.p (V.c (W.str (decT n.toNat))) ∧ ([] : List Ob) = []) ∧ ((bif q1 then decide (n < (100:Int)) else false) = false → (decide (n < (0:Int)) = true → False) ∧ (decide (n < (0:Int)) = false → False))) ∧ (decide ((10:Int) = (10:Int)) = false → False)) (by kernel_rfl) ?_
 try simp only [imp_self, true_and, and_true, Bool.cond_false_right, Bool.and_eq_true, Bool.and_eq_false_imp, decide_eq_true_eq, decide_eq_false_iff_not, Int.not_lt]
 exact ⟨fun _ => ⟨fun _ => ⟨h, rfl⟩, fun g => by have := g h.1; omega⟩, fun g => absurd trivial g⟩
def cFi : Con := con2 (.int .i64) (.int .i64) fun n b => (.p ((show Int from b) = 10 ∧ 0 ≤ (show Int from n) ∧ (show Int from n) < 100), .p (.c (.str (decT (show Int from n).toNat))), [])
theorem cFi_ok : ConOk Tryd.prog 99 cFi := con2_ok (by kernel_rfl) fun n b h => by
 obtain ⟨rfl, h2⟩ := h
 exact fi_sem n h2
noncomputable def gIt : Gam := [(99, cFi)]
theorem gIt_ok : GamOk Tryd.prog gIt := gamOk_cons cFi_ok gamOk_nil
theorem it1_sem (n : Int) (h : 0 ≤ n ∧ n < 100) : FnSem Tryd.prog 90 [nI n] [] (.p (.c (.str (decT n.toNat)))) [] := by
 refine fnSem_at (live := []) gIt_ok Tryd.func90 (by kernel_rfl) (keep := 0) rfl (by kernel_rfl) 100 ?_
 refine of_eq (q := ((10:Int) = (10:Int) ∧ (0:Int) ≤ n ∧ n < (100:Int)) ∧ packV [V.c (W.str (decT n.toNat))] = A.p (V.c (W.str (decT n.toNat))) ∧ ([] : List Ob) = []) (by kernel_rfl) ?_
 try simp only [true_and, and_true]
 exact ⟨h, rfl⟩
def cIt1 : Con := con1 (.int .i64) fun n => (.p (0 ≤ (show Int from n) ∧ (show Int from n) < 100), .p (.c (.str (decT (show Int from n).toNat))), [])
theorem cIt1_ok : ConOk Tryd.prog 90 cIt1 := con1_ok (by kernel_rfl) fun n h => it1_sem n h
noncomputable def gIt2 : Gam := [(90, cIt1)]
theorem gIt2_ok : GamOk Tryd.prog gIt2 := gamOk_cons cIt1_ok gamOk_nil
theorem itoa_sem (n : Int) (h : 0 ≤ n ∧ n < 100) : FnSem Tryd.prog 72 [nI n] [] (.p (.c (.str (decT n.toNat)))) [] := by
 refine fnSem_at (live := []) gIt2_ok Tryd.func72 (by kernel_rfl) (keep := 0) rfl (by kernel_rfl) 100 ?_
 refine of_eq (q := ((0:Int) ≤ n ∧ n < (100:Int)) ∧ packV [V.c (W.str (decT n.toNat))] = A.p (V.c (W.str (decT n.toNat))) ∧ ([] : List Ob) = []) (by kernel_rfl) ?_
 try simp only [and_true]
 exact ⟨h, rfl⟩
def cItoa : Con := con1 (.int .i64) fun n => (.p (0 ≤ (show Int from n) ∧ (show Int from n) < 100), .p (.c (.str (decT (show Int from n).toNat))), [])
theorem cItoa_ok : ConOk Tryd.prog 72 cItoa := con1_ok (by kernel_rfl) fun n h => itoa_sem n h
end Go.Proofs.YtbgfpacjoneaeaaDoor

namespace Go.Proofs.YtbgfpacjoneaeaaDoor
open Go.Loom
set_option maxRecDepth 100000
/-! ### A builder's length -/
theorem bl_sem (n : Nat) (l : List Int) : FnSem Tryd.prog 73 [pt 0] [obB n, obU l] (nI n) [obB n, obU l] := by
 refine fnSem_at (live := []) gamOk_nil Tryd.func73 (by kernel_rfl) (keep := 2) rfl (by kernel_rfl) 100 ?_
 refine of_eq (q := packV [V.c (W.int .i64 (n:Int))] = nI (n:Int) ∧ [Ob.mk 88 [Fd.c (W.ba (0:Nat)), Fd.c (W.sl ((0:Nat) + (1:Nat)) (0:Nat) n (1:Nat))], Ob.mk 5 [Fd.a 0 (D.int .u8) l]] = [obB n, obU l]) (by kernel_rfl) ?_
 try simp only [and_true, Nat.zero_add]
 rfl
def cBl : Con := { refs := [true], f := fun args objs => match args, objs with
 | [.p (.c (.ptr a b))], [o, u] => bif Nat.beq a 0 && Nat.beq b 0 then (match asB o, asU u with | some n, some l => some (.t, nI n, [obB n, obU l]) | _, _ => none) else none
 | _, _ => none }
theorem cBl_ok : ConOk Tryd.prog 73 cBl := by
 refine ⟨by kernel_rfl, fun args objs c r objs' e hc => ?_⟩
 simp only [cBl] at e
 split at e
 · obtain ⟨hb, e⟩ := Mill.bif_some e
   simp only [Bool.and_eq_true, Nat.beq_eq] at hb
   obtain ⟨rfl, rfl⟩ := hb
   split at e
   · rename_i n l ho hu
     cases e
     rw [asB_eq ho, asU_eq hu]
     exact bl_sem n l
   · cases e
 · cases e
/-! ### The text -/
def opS : ByteArray := ⟨#[40]⟩
def spS : ByteArray := ⟨#[32]⟩
def clS : ByteArray := ⟨#[41]⟩
def wP (s : ByteArray) : List Int → List Int
 | [] => bytesI clS
 | x :: c => bytesI (s ++ decT x.toNat) ++ wP spS c
def wA : List (List Int) → List Int
 | [] => []
 | c :: l => if c.length = 1 then wA l else wP opS c ++ wA l
noncomputable def gTx : Gam := [(59, cFirst), (70, cCycles), (71, cWs), (73, cBl), (74, cBs), (72, cItoa)]
theorem gTx_ok : GamOk Tryd.prog gTx := gamOk_cons cFirst_ok (gamOk_cons cCycles_ok (gamOk_cons cWs_ok (gamOk_cons cBl_ok (gamOk_cons cBs_ok (gamOk_cons cItoa_ok gamOk_nil)))))
abbrev liveTx : List (List Nat × List Nat) := [([0, 1, 0, 1, 1, 1], [5, 17]), ([0, 1, 0, 1, 1, 0, 1, 0, 1, 0, 1, 1, 1], [5, 7, 22, 23, 24])]
noncomputable def sTx : Site := mkSite Tryd.prog gTx Tryd.f22 0 liveTx
def txR (R : List Int) : ByteArray := if R = [] then ⟨#[40, 41]⟩ else packI R
noncomputable abbrev frT0 : Fr := renF (idK 1) (fr [(5, pt 0)]) (sTx.live [0, 1, 0, 1, 1, 1])
noncomputable abbrev finTx (R : List Int) (ys : List (List Int)) : Mill.X → Fr → Sto → Prop := finBody sTx (Says1 (txt (txR R) 0) []) [0, 1, 0, 1, 1, 1] (.sl (.int .i64)) ys frT0
noncomputable abbrev frTx (s : ByteArray) (c : List Int) (k : Nat) : Fr := fr [(5, pt 0), (7, sT s), (22, lsI c), (23, nI c.length), (24, nI k)]
theorem tx_in (R : List Int) (hR : R.length ≤ 100000) (ys : List (List Int)) (c : List Int) (hx : ∀ x ∈ c, 0 ≤ x ∧ x < 100) (hc : c.length ≤ 100000)
 (hout : ∀ l, R = l ++ wA ys → AtYield sTx (Says1 (txt (txR R) 0) []) [0, 1, 0, 1, 1, 1] (.sl (.int .i64)) ys (fr [(5, pt 0)]) (.ofList [obB l.length, obU l])) :
 ∀ (m k : Nat) (s : ByteArray) (l : List Int), m + k = c.length → s.size ≤ 10 → R = l ++ (wP s (c.drop k) ++ wA ys) →
 AtLoopR sTx (rangeBody sTx [0, 1, 0, 1, 1, 1]) 1 (finTx R ys) [0, 1, 0, 1, 1, 0] (frTx s c k) (.ofList [obB l.length, obU l])
 | m, k, s, l, hm, hs, hl => by
   refine atLoopR_at gTx_ok [1, 0, 1, 0, 1, 1, 1] (by kernel_rfl) 100 ?_
   refine of_eq (q := let q1 := (s ++ decT (c.getD k (0:Int)).toNat); (decide ((k:Int) < (c.length:Int)) = true → ((0:Int) ≤ (k:Int) ∧ (k:Int) < (c.length:Int)) ∧ k < c.length ∧ ((0:Int) ≤ c.getD k (0:Int) ∧ c.getD k (0:Int) < (100:Int)) ∧ s.size + (decT (c.getD k (0:Int)).toNat).size ≤ (9223372036854775807:Nat) ∧ (l.length = l.length ∧ l.length + q1.size ≤ (1000000:Nat)) ∧ AtLoopR sTx (rangeBody sTx [0, 1, 0, 1, 1, 1]) (1:Nat) (finTx R ys) [0, 1, 0, 1, 1, 0] (fr [(5, pt 0), (7, A.p (V.c (W.str (ByteArray.mk #[(32 : UInt8)])))), (22, lsI c), (23, nI (c.length:Int)), (24, nI (IntKind.i64.wrap ((k:Int) + (1:Int))))]) (Sto.ofList [Ob.mk 88 [Fd.c (W.ba (0:Nat)), Fd.c (W.sl 1 0 (l.length + q1.size) (1:Nat))], Ob.mk 5 [Fd.a 0 (D.int .u8) (l ++ bytesI q1)]])) ∧ (decide ((k:Int) < (c.length:Int)) = false → (l.length = l.length ∧ l.length + (1:Nat) ≤ (1000000:Nat)) ∧ AtYield sTx (Says1 (txt (txR R) (0:Int)) []) [0, 1, 0, 1, 1, 1] (D.int .i64).sl ys (fr [(5, pt 0)]) (Sto.ofList [Ob.mk 88 [Fd.c (W.ba (0:Nat)), Fd.c (W.sl 1 0 (l.length + (1:Nat)) 1)], Ob.mk 5 [Fd.a 0 (D.int .u8) (l ++ bytesI (ByteArray.mk #[(41 : UInt8)]))]]))) (by kernel_rfl) ?_
   try simp only [true_and, decide_eq_true_eq, decide_eq_false_iff_not, Int.not_lt]
   rcases Nat.lt_or_ge k c.length with hk | hk
   · rw [getD_lt hk, wP, List.append_assoc, ← List.append_assoc l] at hl
     have hxk := hx _ (getD_mem hk)
     have hR2 := congrArg List.length hl
     rw [List.length_append, List.length_append, bytesI_length] at hR2
     have hsz := ByteArray.size_append (a := s) (b := decT (c.getD k 0).toNat)
     refine ⟨fun _ => ⟨by omega, by omega, hxk, by omega, by omega, ?_⟩, fun h => by omega⟩
     rw [wrap64 (by omega) (by omega)]
     cases m with
     | zero => omega
     | succ m =>
       have := tx_in R hR ys c hx hc hout m (k + 1) spS (l ++ bytesI (s ++ decT (c.getD k 0).toNat)) (by omega) (by decide) hl
       rw [List.length_append, bytesI_length] at this
       exact this
   · rw [List.drop_eq_nil_of_le hk, wP, ← List.append_assoc] at hl
     have hR2 := congrArg List.length hl
     rw [List.length_append, List.length_append, bytesI_length] at hR2
     have h1 : clS.size = 1 := by decide
     refine ⟨fun h => by omega, fun _ => ⟨by omega, ?_⟩⟩
     have := hout (l ++ bytesI clS) hl
     rw [List.length_append, bytesI_length, h1] at this
     exact this
theorem tx_rng (R : List Int) (hR : R.length ≤ 100000) : ∀ (ys : List (List Int)) (l : List Int), R = l ++ wA ys → (∀ c ∈ ys, c.length ≤ 100000 ∧ ∀ x ∈ c, 0 ≤ x ∧ x < 100) →
 AtYield sTx (Says1 (txt (txR R) 0) []) [0, 1, 0, 1, 1, 1] (.sl (.int .i64)) ys (fr [(5, pt 0)]) (.ofList [obB l.length, obU l])
 | [], l, h, _ => by
   refine atYield_nil gTx_ok rfl 100 ?_
   refine of_eq (q := (decide ((l.length:Int) = (0:Int)) = true → packV [V.c (W.str (ByteArray.mk #[(40 : UInt8), (41 : UInt8)])), V.c (W.int .i64 (0))] = txt (txR R) (0:Int) ∧ ([] : List Ob) = []) ∧ (decide ((l.length:Int) = (0:Int)) = false → (l.length = l.length ∧ (0:Nat) < l.length ∧ l.length ≤ (1000000:Nat)) ∧ packV [V.c (W.str (packI l)), V.c (W.int .i64 (0))] = txt (txR R) (0:Int) ∧ ([] : List Ob) = [])) (by kernel_rfl) ?_
   try simp only [true_and, and_true, decide_eq_true_eq, decide_eq_false_iff_not]
   rw [wA, List.append_nil] at h
   subst h
   unfold txR
   refine ⟨fun h => ?_, fun h => ⟨⟨by omega, by omega⟩, ?_⟩⟩
   · rw [if_pos (List.eq_nil_of_length_eq_zero (by omega))]; rfl
   · rw [if_neg (by rintro rfl; exact h rfl)]; rfl
 | c :: ys, l, h, hx => by
   refine atYield_consK gTx_ok 1 (by kernel_rfl) 100 ?_
   refine of_eq (q := let q1 := (Sto.ofList [Ob.mk 88 [Fd.c (W.ba (0:Nat)), Fd.c (W.sl 1 0 l.length 1)], Ob.mk 5 [Fd.a 0 (D.int .u8) l]]); (decide ((c.length:Int) = (1:Int)) = true → AtYield sTx (Says1 (txt (txR R) (0:Int)) []) [0, 1, 0, 1, 1, 1] (D.int .i64).sl ys (fr [(5, pt 0)]) q1) ∧ (decide ((c.length:Int) = (1:Int)) = false → AtLoopR sTx (rangeBody sTx [0, 1, 0, 1, 1, 1]) (1:Nat) (finBody sTx (Says1 (txt (txR R) (0:Int)) []) [0, 1, 0, 1, 1, 1] (D.int .i64).sl ys (renF (idK (1:Nat)) (fr [(5, pt (0:Nat))]) (sTx.live [0, 1, 0, 1, 1, 1]))) [0, 1, 0, 1, 1, 0] (fr [(5, pt 0), (7, A.p (V.c (W.str (ByteArray.mk #[(40 : UInt8)])))), (22, lsI c), (23, nI (c.length:Int)), (24, nI (0))]) q1)) (by kernel_rfl) ?_
   try simp only [decide_eq_true_eq, decide_eq_false_iff_not]
   have ih := fun l h => tx_rng R hR ys l h (fun d hd => hx d (by simp [hd]))
   obtain ⟨h1, h2⟩ := hx c (by simp)
   rw [wA] at h
   refine ⟨fun h3 => ?_, fun h3 => ?_⟩
   · rw [if_pos (by omega)] at h
     exact ih l h
   · rw [if_neg (by omega)] at h
     exact tx_in R hR ys c h2 h1 ih c.length 0 opS l (by omega) (by decide) h
theorem decT_size (x : Nat) (h : x < 100) : (decT x).size ≤ 2 := by
 revert x
 decide +kernel
theorem wP_len : ∀ (c : List Int) (s : ByteArray), s.size = 1 → (∀ x ∈ c, 0 ≤ x ∧ x < 100) → (wP s c).length ≤ 3 * c.length + 1
 | [], s, _, _ => by rw [wP, bytesI_length]; decide
 | x :: c, s, hs, h => by
   have h1 := h x (by simp)
   have h2 := wP_len c spS (by decide) fun y hy => h y (by simp [hy])
   have h3 := decT_size x.toNat (by omega)
   rw [wP, List.length_append, bytesI_length, ByteArray.size_append, List.length_cons]
   omega
theorem wA_len : ∀ (l : List (List Int)), (∀ c ∈ l, ∀ x ∈ c, 0 ≤ x ∧ x < 100) → (wA l).length ≤ 3 * tot l + l.length
 | [], _ => by simp [wA]
 | c :: l, h => by
   have h1 := wA_len l fun d hd => h d (by simp [hd])
   have h2 := wP_len c opS (by decide) (h c (by simp))
   rw [wA, tot, List.length_cons]
   split
   · omega
   · rw [List.length_append]; omega
theorem ptx_sem (a : List Int) : FnSem Tryd.prog 22 [lsI a] [] (txt (if checkE a = 0 then txR (wA (cyclesL a)) else ⟨#[]⟩) (checkE a)) [] := by
 refine fnSem_at (live := liveTx) gTx_ok Tryd.func22 (by kernel_rfl) (keep := 0) rfl (by kernel_rfl) 100 ?_
 refine of_eq (q := let q1 := (List.take (1:Nat) (List.drop (0:Nat) [a])); (0:Nat) + (1:Nat) ≤ (1:Nat) ∧ (1:Nat) ≤ (1000000:Nat) ∧ ((!decide (firstE q1 = (0:Int))) = true → packV [V.c (W.str (ByteArray.mk #[])), V.c (W.int .i64 (firstE q1))] = txt (if checkE a = (0:Int) then txR (wA (cyclesL a)) else ByteArray.mk #[]) (checkE a) ∧ ([] : List Ob) = []) ∧ ((!decide (firstE q1 = (0:Int))) = false → AtRange (mkSite Tryd.prog gTx Tryd.f22 (0:Nat) liveTx) (Says1 (txt (if checkE a = (0:Int) then txR (wA (cyclesL a)) else ByteArray.mk #[]) (checkE a)) []) [0, 1, 0, 1, 1, 1] (fr [(5, pt 0), (17, A.p (V.c (W.func 88 [(1, (0:Nat))])))]) (Sto.ofList [Ob.mk 88 [Fd.c (W.ba (0:Nat)), Fd.c (W.sl 2 0 0 1)], Ob.mk 24 [Fd.c (W.rd (D.int .i64) a)], Ob.mk 5 [Fd.a 0 (D.int .u8) []]]))) (by kernel_rfl) ?_
 try simp only [true_and, and_true, Nat.zero_add, Bool.not_eq_true', Bool.not_eq_false', decide_eq_true_eq, decide_eq_false_iff_not, List.drop_zero, List.take_succ_cons, List.take_zero, Nat.le_refl]
 rw [first_one]
 refine ⟨by omega, fun h => ?_, fun h => ?_⟩
 · rw [if_neg h]; rfl
 · obtain ⟨_, h2, h3, h4⟩ := check_into h
   have k := cyc_many h
   have C := cyclesL_ok h3
   have ht := C.tot
   have hr : ∀ c ∈ cyclesL a, ∀ x ∈ c, 0 ≤ x ∧ x < 100 := fun c hc x hx => by have := C.rng c hc x hx; omega
   have hw := wA_len (cyclesL a) hr
   rw [if_pos h, h]
   refine atRange_at rfl (by kernel_rfl) (cycles_iter a h2 h4) (tx_rng _ (by omega) (cyclesL a) [] rfl fun c hc => ⟨?_, hr c hc⟩)
   have := tot_mem hc
   omega
end Go.Proofs.YtbgfpacjoneaeaaDoor
