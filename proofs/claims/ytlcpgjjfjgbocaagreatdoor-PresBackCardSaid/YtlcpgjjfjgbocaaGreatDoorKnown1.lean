/- reads() and writes() of the presentations return true in every world, by the verified evaluator with a contract for strings.Join. -/
import Derived.Test.YtlcpgjjfjgbocaaGreatDoorShelf1
import Derived.Test.YtlcpgjjfjgbocaaGreatDoorAwake1
import Derived.Test.YtlcpgjjfjgbocaaGreatDoorMillX
namespace Go.Proofs.YtlcpgjjfjgbocaaGreatDoor
open Go.RowKit Go.Mill
noncomputable def strsE (l : List CV) : Option (List ByteArray) := List.rec (some []) (fun x _ ih => match x with | .str s => (match ih with | some r => some (s :: r) | none => none) | _ => none) l
noncomputable def joinC (args : List AV) (h : H) : Option AV :=
 match args with
 | [.p (.c (.slice id off len cap _ _)), .p (.c (.str sep))] => match rdL h id off len with
   | some l => match strsE l with
     | some xs => bif Nat.blt 0 len && (Nat.ble len cap && (Nat.ble len 1000 && Nat.ble (Lib.join (xs.map (·.data.toList)) sep.data.toList).length 1000000)) then some (.p (.c (.str ⟨(Lib.join (xs.map (·.data.toList)) sep.data.toList).toArray⟩))) else none
     | none => none
   | none => none
 | _ => none
theorem strsE_cons {x : CV} {l : List CV} : strsE (x :: l) = match x with | .str s => (match strsE l with | some r => some (s :: r) | none => none) | _ => none := rfl
theorem strsE_rel {ρ : Rho} : ∀ {l : List CV} {xs : List ByteArray} {vs : List Value}, strsE l = some xs → LRel (CRel ρ) l vs → vs = xs.map Value.string
 | [], xs, vs, e, h => by
   cases e
   cases vs with
   | nil => rfl
   | cons _ _ => exact h.elim
 | x :: l, xs, vs, e, h => by
   cases vs with
   | nil => exact h.elim
   | cons v vs =>
     rw [strsE_cons] at e
     split at e
     · rename_i s
       split at e
       · rename_i r hr
         cases e
         have h1 : v = .string s := h.1
         rw [h1, strsE_rel hr h.2]; rfl
       · cases e
     · cases e
theorem join_con {args : List AV} {h : H} {r : AV} (e : joinC args h = some r) (base : Nat) (ρ : Rho) (w : World) (vs : List Value) (R : Rel base ρ h w) (hvs : LRel (ARel ρ) args vs) :
 CallsIn Fence.wide 0 Tryz.prog 23 vs.toArray w fun e w' => ∃ u, e = .returned u ∧ ARel ρ r u ∧ Below w.heap.size w w' := by
 unfold joinC at e
 split at e
 · rename_i id off len cap ex sz sep
   split at e
   · rename_i l hl
     split at e
     · rename_i xs hxs
       obtain ⟨hb, e⟩ := bif_some e
       cases e
       simp only [Bool.and_eq_true, Nat.ble_eq, Nat.blt_eq] at hb
       match vs, hvs with
       | [a, b], hv =>
         obtain ⟨p, c, hp, rfl, hc, _⟩ := hv.1
         have hb' : b = .string sep := hv.2.1
         subst hb'
         obtain ⟨p', us, hp', hus, hul, hcell⟩ := rdL_rel R hl hb.1
         rw [hp] at hp'; cases hp'
         have hu := strsE_rel hxs hus
         subst hu
         simp only [List.length_map] at hul
         subst hul
         exact (callsIn_wide.2 (Tryz.strings_Join p.block (p.off + off) c xs sep w (fun j x hj => hcell j _ (by simp [hj])) (R.lt _ _ hp) (by omega) (by omega) (by omega))).mono fun e w' ⟨he, hB⟩ => ⟨_, he, rfl, hB⟩
     · cases e
   · cases e
 · cases e
set_option maxRecDepth 1000000
noncomputable def E1 : Env := { P := Tryz.prog, same := [89], memo := [], con := [(23, joinC)] }
theorem con_join {E : Env} (hP : E.P = Tryz.prog) (hc : E.con = [(23, joinC)]) : ∀ (f : FuncId) (args : List AV) (h : H) (r : AV), conE E.con f args h = some r → ∀ (base : Nat) (ρ : Rho) (w : World) (vs : List Value), Rel base ρ h w → LRel (ARel ρ) args vs →
 CallsIn Fence.wide 0 E.P f vs.toArray w fun e w' => ∃ u, e = .returned u ∧ ARel ρ r u ∧ Below w.heap.size w w' := by
 intro f args h r e base ρ w vs R hvs
 rw [hc] at e
 rw [hP]
 have e' : (bif Nat.beq 23 f then (match joinC args h with | some r => some r | none => none) else none) = some r := e
 obtain ⟨hf, e'⟩ := bif_some e'
 have hf := Nat.eq_of_beq_eq_true hf
 subst hf
 split at e'
 · rename_i r' hr; cases e'; exact join_con hr base ρ w vs R hvs
 · cases e'
theorem E1_ok : EnvOk E1 := ⟨names_of names, sameN, memo_nil, con_join rfl rfl, fun f args h h' e => by cases e⟩
theorem reads_eval : saysTrue (ev E1 40000 (.call 19 []) h0) = true := by kernel_rfl
theorem reads_true (w : World) : Calls Tryz.prog 19 #[] w fun e w' => e = .returned (.bool true) ∧ Below w.heap.size w w' := calls_true E1_ok reads_eval w
end Go.Proofs.YtlcpgjjfjgbocaaGreatDoor
