/- The walk by values, second part: operations that write; calls by contracts. It holds for every program and every world, under the hypotheses that each theorem names. -/
import Derived.Test.YtemmkdncplbhnaaGreatDoorLoom1
import Derived.RangeFuncCalls
import Derived.Test.YtemmkdncplbhnaaGreatDoorMillR
namespace Go.Loom
open Go.RowKit
open Go.Mill (T)

section
variable {P : Program} {base n : Nat} {η : Eta} {Z : Zeta} {S : Sto} {w : World} {F : Fr} {a : Act}
def packI (l : List Int) : ByteArray := ⟨(l.map fun n => UInt8.ofNat n.toNat).toArray⟩
end
end Go.Loom

namespace Go.Loom
open Go.RowKit
open Go.Mill (T)

/-! ### Kinds of data by type -/
def dOf (P : Program) : Nat → TypeId → Option D
 | 0, _ => none
 | k + 1, t => match P.underlying t with
   | some (.int k) => some (.int k)
   | some .bool => some .bool
   | some .string => some .str
   | some (.slice el) => match dOf P k el with | some d => some (.sl d) | none => none
   | _ => none
def fdsOf (P : Program) : Nat → TypeId → Option (List Fd)
 | 0, _ => none
 | k + 1, t => match P.underlying t with
   | some (.struct fs) => fs.toList.foldr (fun f r => match fdsOf P k f.type, r with | some a, some b => some (a ++ b) | _, _ => none) (some [])
   | some (.array n el) => match dOf P 4 el with | some d => some [.a n d (List.replicate n d.zero)] | none => none
   | some _ => match zeroW P t with | some z => some [.c z] | none => none
   | none => none
def zsB : List W → List Value → Bool
 | [], [] => true
 | x :: l, v :: m => isZ x v && zsB l m
 | _, _ => false
/-! ### Parts put in place -/
def fdPut : List Fd → Nat → Fd → Option (List Fd)
 | [], _, _ => none
 | .c x :: fs, k, f => match k with
   | 0 => some (f :: fs)
   | k + 1 => match fdPut fs k f with | some r => some (.c x :: r) | none => none
 | .a n d l :: fs, k, f => match k with
   | 0 => some (f :: fs)
   | k + 1 => bif Nat.blt (k + 1) n then none else match fdPut fs (k + 1 - n) f with | some r => some (.a n d l :: r) | none => none
 | .m _ _ _ :: _, _, _ => none
def putCs (fs : List Fd) (off : Nat) : List W → Option (Cd × List Fd)
 | [] => some (.t, fs)
 | y :: cs => match fdGet fs off with
   | some (c, .c _) => match fdPut fs off (.c y) with
     | some fs' => match putCs fs' (off + 1) cs with
       | some (c', r) => some (.and c c', r)
       | none => none
     | none => none
   | _ => none
/-! ### Values as plain data; own lists are frozen by it -/
def Fd.list (d : D) : List Fd → Option (List d.ty)
 | [.a _ d' l] => if h : d' = d then some (h ▸ l) else none
 | _ => none
noncomputable def frz0 (S : Sto) : (d : D) → W → Option (Cd × d.ty × Sto)
 | .sl e, .sl m off len sz => bif Nat.beq sz 1 then match S.get m with
  | some o => match Fd.list e o.fs with
    | some l => some (.p (off + len ≤ l.length), ((l.drop off).take len : List e.ty), S.del m)
    | none => none
  | none => none
   else none
 | d, x => match d.of x with | some y => some (.t, y, S) | none => none
section
variable {P : Program} {base n : Nat} {η : Eta} {Z : Zeta} {S : Sto} {w : World} {F : Fr} {a : Act}
def Fd.hole : List Fd → Option ((d : D) × (List d.ty × W × List d.ty))
 | [.a k d l, .c x, .a k' d' l'] => bif Nat.beq k 1 && Nat.beq k' 1 then (if h : d' = d then some ⟨d, l, x, h ▸ l'⟩ else none) else none
 | _ => none
noncomputable def shut (S : Sto) (m : Nat) : Option (Cd × Sto) := match S.getC m with
 | some o => match Fd.hole o.fs with
   | some ⟨d, l, x, l'⟩ => match frz0 S d x with
     | some (c, y, S1) => match S1.get m with
       | some _ => some (c, S1.put m ⟨o.ty, [.a 1 d (l ++ y :: l')]⟩)
       | none => none
     | none => none
   | none => none
 | none => none
noncomputable def frz (S : Sto) (d : D) (x : W) : Option (Cd × d.ty × Sto) :=
 match frz0 S d x with
 | some r => some r
 | none => match x with
   | .sl m off len sz => match shut S m with
     | some (c, S1) => match frz0 S1 d (.sl m off len sz) with
       | some (c', y, S2) => some (.and c c', y, S2.del m)
       | none => none
     | none => none
   | _ => none
end
noncomputable def frzs (S : Sto) (d : D) : List V → Option (Cd × List d.ty × Sto)
 | [] => some (.t, [], S)
 | .c x :: l => match frz S d x with
   | some (c, y, S1) => match frzs S1 d l with
     | some (c', ys, S2) => some (.and c c', y :: ys, S2)
     | none => none
   | none => none
 | _ => none
def bytesI (s : ByteArray) : List Int := s.data.toList.map fun b => (b.toNat : Int)
def strD : (d : D) → ByteArray → Option (Cd × List d.ty)
 | .int .u8, s => some (.t, bytesI s)
 | _, _ => none
noncomputable def srcD (S : Sto) (d : D) (x : W) : Option (Cd × List d.ty) :=
 match x with
 | .nil => some (.t, [])
 | .rd d' l => if h : d' = d then some (.t, h ▸ l) else none
 | .sl m off len sz => bif Nat.beq sz 1 then match S.get m with
  | some o => match Fd.list d o.fs with
    | some l => some (.p (off + len ≤ l.length), (l.drop off).take len)
    | none => none
  | none => none
   else none
 | .str s => strD d s
 | _ => none

/-! ### The operations -/
def D.same : (d : D) → W → Option d.ty
 | .int k, .int k' n => if k' = k then some n else none
 | .bool, .bool b => some b
 | .str, .str s => some s
 | _, _ => none
def takeD (d : D) : Nat → List W → Option (List d.ty × List W)
 | 0, l => some ([], l)
 | n + 1, x :: l => match d.same x, takeD d n l with | some y, some (ys, r) => some (y :: ys, r) | _, _ => none
 | _ + 1, [] => none
def regroup : List Fd → List W → Option (List Fd)
 | [], [] => some []
 | .c _ :: fs, x :: l => match regroup fs l with | some r => some (.c x :: r) | none => none
 | .a n d _ :: fs, l => match takeD d n l with
   | some (ys, r) => (match regroup fs r with | some q => some (.a n d ys :: q) | none => none)
   | none => none
 | _, _ => none
def boxFds (fs : Option (List Fd)) (l : List W) : List Fd :=
 match fs with
 | some fs => (match regroup fs l with | some r => r | none => l.map .c)
 | none => l.map .c
/-! ### Maps -/
def D.keyEq : (d : D) → d.ty → d.ty → Bool
 | .int _, a, b => decide ((show Int from a) = b)
 | .str, a, b => decide ((show ByteArray from a) = b)
 | _, _, _ => false
def mput (kd vd : D) (k : kd.ty) (v : vd.ty) : List (kd.ty × vd.ty) → List (kd.ty × vd.ty)
 | [] => [(k, v)]
 | (k', v') :: l => bif kd.keyEq k k' then (k, v) :: l else (k', v') :: mput kd vd k v l
def mgetO (kd vd : D) (k : kd.ty) : List (kd.ty × vd.ty) → Option vd.ty
 | [] => none
 | (k', v') :: l => bif kd.keyEq k k' then some v' else mgetO kd vd k l
def mget (kd vd : D) (l : List (kd.ty × vd.ty)) (k : kd.ty) : vd.ty := match mgetO kd vd k l with | some v => v | none => vd.zero
def mhas (kd vd : D) (l : List (kd.ty × vd.ty)) (k : kd.ty) : Bool := (mgetO kd vd k l).isSome
inductive L where
 | mkmap (ty : TypeId) (kd vd : D)
 | mput (kd vd : D) (m k v : Opd)
 | mget (kd vd : D) (m k : Opd) (ok : Bool)
 | alloc (ty : TypeId) (fs : List Fd)
 | allocB (ty el : TypeId)
 | ustr (el : TypeId) (x n : Opd)
 | nil (el : TypeId) (d : D)
 | box (ty : TypeId) (fs : Option (List Fd)) (x : Opd)
 | store (n : Nat) (x v : Opd)
 | make (el : TypeId) (bytes : Nat) (d : D) (l c : Opd)
 | lit (el : TypeId) (sz : Nat) (d : Option D) (parts : List Opd)
 | append (el : TypeId) (bytes : Nat) (d : D) (x y : Opd)
 | zeros (el : TypeId) (bytes : Nat) (d : D) (x y : Opd)
 | copy (d : D) (x y : Opd)
 | clear (d : D) (x : Opd)
 | s2b (el : TypeId) (x : Opd)
 | b2s (x : Opd)
def allSz (sz : Nat) : List V → Bool
 | [] => true
 | v :: l => Nat.beq v.cells.length sz && allSz sz l
def spl {α : Type} (l : List α) (off : Nat) (ys : List α) : List α := l.take off ++ ys ++ l.drop (off + ys.length)
noncomputable def litV (S : Sto) (d : Option D) (vs : List V) : Option (Cd × List Fd × Sto) :=
 match d with
 | some d => match frzs S d vs with
   | some (c, ys, S1) => some (c, [.a 0 d ys], S1)
   | none => some (.t, (vs.flatMap V.cells).map .c, S)
 | none => some (.t, (vs.flatMap V.cells).map .c, S)
noncomputable def opn (S : Sto) (m i : Nat) (y : W) : Option (Cd × Sto) := match S.getC m with
 | some o => match o.fs with
   | [.a k d l] => bif Nat.beq k 1 then some (.p (i < l.length), S.put m ⟨o.ty, [.a 1 d (l.take i), .c y, .a 1 d (l.drop (i + 1))]⟩) else none
   | _ => none
 | none => none
noncomputable def again (S : Sto) (m i : Nat) (y : W) : Option (Cd × Sto) := match S.getC m with
 | some o => match Fd.hole o.fs with
   | some ⟨d, l, .sl k _ _ _, l'⟩ => match S.get k with
     | none => some (.p (i = l.length), S.put m ⟨o.ty, [.a 1 d l, .c y, .a 1 d l']⟩)
     | some _ => none
   | _ => none
 | none => none
noncomputable def puth (S : Sto) (m i : Nat) (y : W) : Option (Cd × Sto) := match y with
 | .sl _ _ _ _ => match opn S m i y with
   | some r => some r
   | none => match again S m i y with
     | some r => some r
     | none => match shut S m with
       | some (c, S1) => match opn S1 m i y with
         | some (c', S') => some (.and c c', S')
         | none => none
       | none => none
 | _ => none
def D.isSl : D → Bool
 | .sl _ => true
 | _ => false
def Ob.ents (kd vd : D) (o : Ob) : Option (List (kd.ty × vd.ty)) := match o.fs with
 | [.m kd' vd' l] => if h : kd' = kd ∧ vd' = vd then some (h.1 ▸ h.2 ▸ l) else none
 | _ => none
theorem Ob.ents_fs {kd vd : D} {o : Ob} {l : List (kd.ty × vd.ty)} (h : o.ents kd vd = some l) : o.fs = [.m kd vd l] := by
 unfold Ob.ents at h
 split at h
 · rename_i kd' vd' l' hfs
   split at h
   · rename_i hd
     obtain ⟨rfl, rfl⟩ := hd
     cases h; exact hfs
   · cases h
 · cases h
noncomputable def lev (F : Fr) (S : Sto) : L → Option (Cd × A × Sto)
 | .mkmap ty kd vd => some (.t, .p (.c (.mp S.next)), S.add ⟨ty, [.m kd vd []]⟩)
 | .mput kd vd m k v => match evC F m, evC F k, evC F v with
   | some (p, .mp n), some (q, x), some (r, y) => match kd.of x, frz S vd y with
     | some k, some (c, z, S1) => match S1.get n with
       | some o => match o.ents kd vd with
         | some l => some (.and p (.and q (.and r c)), .tup [], S1.put n ⟨o.ty, [.m kd vd (Loom.mput kd vd k z l)]⟩)
         | none => none
       | none => none
     | _, _ => none
   | _, _, _ => none
 | .mget kd vd m k ok => match evC F m, evC F k with
   | some (p, .mp n), some (q, x) => match kd.of x, S.get n with
     | some k, some o => match o.ents kd vd with
       | some l => bif ok
         then some (.and p q, .tup [.c (vd.w (Loom.mget kd vd l k)), .c (.bool (mhas kd vd l k))], S)
         else some (.and p q, .p (.c (vd.w (Loom.mget kd vd l k))), S)
       | none => none
     | _, _ => none
   | _, _ => none
 | .alloc ty fs => some (.t, .p (.c (.ptr S.next 0)), S.add ⟨ty, fs⟩)
 | .allocB ty el => some (.t, .p (.c (.ptr S.next 0)), (S.add ⟨ty, [.c (.ba S.next), .c (.sl (S.next + 1) 0 0 1)]⟩).add ⟨el, [.a 0 (.int .u8) []]⟩)
 | .ustr el x n => match evC F x, evI F n with
   | some (p, .pe m off i), some (q, _, k) => match S.get m with
     | some o => bif Nat.beq off 0 && Nat.beq o.ty el then match Fd.list (.int .u8) o.fs with
      | some l => some (.and p (.and q (.p (0 < k ∧ i + k ≤ l.length ∧ k ≤ 9223372036854775807))), .p (.c (.str (packI ((l.drop i).take k.toNat)))), S.del m)
      | none => none
       else none
     | none => none
   | _, _ => none
 | .nil el d => some (.t, .p (.c (.sl S.next 0 0 1)), S.add ⟨el, [.a 0 d []]⟩)
 | .box ty fs x => match evV F x with
   | some (p, v) => some (p, .p (.c (.ptr S.next 0)), S.add ⟨ty, boxFds fs v.cells⟩)
   | none => none
 | .store n x v => match evC F x, evV F v with
   | some (p, .ptr m off), some (q, v) => bif Nat.beq v.cells.length n then match S.getC m with
    | some o => match putCs o.fs off v.cells with
      | some (c, fs') => some (.and p (.and q c), .tup [], S.put m ⟨o.ty, fs'⟩)
      | none => none
    | none => none
     else none
   | some (p, .pe m off i), some (q, .c y) => bif Nat.beq n 1 then match (bif Nat.beq off 0 then puth S m i y else none) with
     | some (c, S1) => some (.and p (.and q c), .tup [], S1)
     | none => match S.getC m with
       | some o => match fdGet o.fs off with
         | some (c, .a k d l) => match frz S d y with
           | some (c2, z, S1) => match S1.get m, fdPut o.fs off (.a k d (l.set i z)) with
             | some _, some fs' => some (.and p (.and q (.and c (.and c2 (.p (i < l.length))))), .tup [], S1.put m ⟨o.ty, fs'⟩)
             | _, _ => none
           | none => none
         | _ => none
       | none => none
     else none
   | _, _ => none
 | .make el bytes d l c => match evI F l, evI F c with
   | some (p, _, l), some (q, _, c) => bif d.isSl
     then some (.and p (.and q (.p (0 ≤ l ∧ l ≤ c ∧ (bytes : Int) * c ≤ 140737488355328))), .p (.c (.sl S.next 0 l.toNat 1)), S.add ⟨el, [.a 1 d (List.replicate c.toNat d.zero)]⟩)
     else some (.and p (.and q (.p (0 ≤ l ∧ l ≤ c ∧ (bytes : Int) * c ≤ 140737488355328))), .p (.c (.sl S.next 0 l.toNat 1)), S.add ⟨el, [.a 0 d (List.replicate c.toNat d.zero)]⟩)
   | _, _ => none
 | .lit el sz d parts => match evParts F parts with
   | some (p, vs) => bif allSz sz vs then match litV S d vs with
    | some (c, fs, S1) => some (.and p c, .p (.c (.sl S1.next 0 parts.length sz)), S1.add ⟨el, fs⟩)
    | none => none
     else none
   | none => none
 | .zeros el bytes d x y => match evC F x, evI F y with
   | some (p, .nil), some (q, _, n) => some (.and p (.and q (.p (0 < n ∧ (bytes : Int) * n ≤ 140737488355328))), .p (.c (.sl S.next 0 n.toNat 1)), S.add ⟨el, [.a 0 d (List.replicate n.toNat d.zero)]⟩)
   | _, _ => none
 | .append el bytes d x y => match evC F y with
   | some (p, y) => match srcD S d y with
     | some (q, ys) => match evC F x with
       | some (r, .nil) => some (.and p (.and q (.and r (.p (ys.length * bytes ≤ 140737488355328)))), .p (.c (.sl S.next 0 ys.length 1)), S.add ⟨el, [.a 0 d ys]⟩)
       | some (r, .sl n off len sz) => bif Nat.beq sz 1 then match S.get n with
        | some o => bif Nat.beq o.ty el then match Fd.list d o.fs with
         | some l => some (.and p (.and q (.and r (.p (off + len ≤ l.length ∧ (len + ys.length) * bytes ≤ 140737488355328)))), .p (.c (.sl S.next 0 (len + ys.length) 1)), (S.del n).add ⟨el, [.a 0 d ((l.drop off).take len ++ ys)]⟩)
         | none => none
          else none
        | none => none
         else none
       | _ => none
     | none => none
   | none => none
 | .copy d x y => match evC F y with
   | some (p, y) => match srcD S d y with
     | some (q, ys) => match evC F x with
       | some (r, .sl n off len sz) => bif Nat.beq sz 1 then match S.get n with
        | some o => match Fd.list d o.fs with
          | some l => some (.and p (.and q (.and r (.p (off + len ≤ l.length)))), .p (.c (.int .i64 ((Nat.min ys.length len : Nat) : Int))), S.put n ⟨o.ty, [.a 0 d (spl l off (ys.take len))]⟩)
          | none => none
        | none => none
         else none
       | _ => none
     | none => none
   | none => none
 | .clear d x => match evC F x with
   | some (p, .sl n off len sz) => bif Nat.beq sz 1 then match S.get n with
    | some o => match Fd.list d o.fs with
      | some l => some (.and p (.p (off + len ≤ l.length)), .tup [], S.put n ⟨o.ty, [.a 0 d (spl l off (List.replicate len d.zero))]⟩)
      | none => none
    | none => none
     else none
   | _ => none
 | .s2b el x => match evS F x with
   | some (p, s) => some (p, .p (.c (.sl S.next 0 s.size 1)), S.add ⟨el, [.a 0 (.int .u8) (bytesI s)]⟩)
   | none => none
 | .b2s x => match evC F x with
   | some (p, y) => match y with
     | .str _ => none
     | y => match srcD S (.int .u8) y with
       | some (q, l) => some (.and p q, .p (.c (.str (packI l))), S)
       | none => none
   | none => none

/-! ### From the machine's operations -/
def keyTy : TypeDesc → D → Bool
 | .int k, .int k' => decide (k = k')
 | .string, .str => true
 | _, _ => false
def mapD (P : Program) (t : TypeId) : Option (D × D) := match P.underlying t with
 | some (.map kt et) => match P.underlying kt, dOf P 4 kt, P.info? et, dOf P 4 et with
   | some td, some kd, some i, some vd => match i.zero with
     | some z => if keyTy td kd = true ∧ isZ (vd.w vd.zero) z = true then some (kd, vd) else none
     | none => none
   | _, _, _, _ => none
 | _ => none
def bldEl (P : Program) (t : TypeId) : Option TypeId := match P.underlying t with
 | some (.struct ⟨[f, g]⟩) => match P.underlying f.type, P.underlying g.type, P.info? t with
   | some (.pointer t'), some (.slice el), some i => match P.underlying el, i.zero with
     | some (.int .u8), some z => if t' = t ∧ zsB [.nilptr, .nil] z.cells.toList = true then some el else none
     | _, _ => none
   | _, _, _ => none
 | _ => none
def trL (P : Program) (o : Oper) : Option L :=
 match o.op with
 | .makeMap t none => match mapD P t with | some (kd, vd) => some (.mkmap t kd vd) | none => none
 | .mapUpdate t m k v => match mapD P t, opd m, opd k, opd v with | some (kd, vd), some m, some k, some v => some (.mput kd vd m k v) | _, _, _, _ => none
 | .lookup t m k ok => match mapD P t, opd m, opd k with | some (kd, vd), some m, some k => some (.mget kd vd m k ok) | _, _, _ => none
 | .assign (.const (.slice none 0 0)) => match P.underlying o.type with
   | some (.slice el) => match dOf P 4 el with | some d => some (.nil el d) | none => none
   | _ => none
 | .move (.const (.slice none 0 0)) => match P.underlying o.type with
   | some (.slice el) => match dOf P 4 el with | some d => some (.nil el d) | none => none
   | _ => none
 | .alloc t => match bldEl P t with
   | some el => some (.allocB t el)
   | none => match fdsOf P 8 t, P.info? t with
     | some fs, some i => match i.zero with
       | some z => if zsB (fs.flatMap Fd.cells) z.cells.toList then some (.alloc t fs) else none
       | none => none
     | _, _ => none
 | .call { callee := .builtin .unsafeString, args := ⟨[x, y]⟩, argTypes := ⟨[pt, _]⟩ } => match P.underlying pt, opd x, opd y with
   | some (.pointer el), some x, some y => if P.cellsOf el = 1 then some (.ustr el x y) else none
   | _, _, _ => none
 | .box t x => match opd x with | some x => some (.box t (fdsOf P 8 t) x) | none => none
 | .store t x v => match szOf P t, opd x, opd v with | some n, some x, some v => if n = 0 then none else some (.store n x v) | _, _, _ => none
 | .makeSlice t l c => match P.underlying t, opd l, opd c with
   | some (.slice el), some l, some c => match P.info? el, dOf P 4 el with
     | some i, some d => match i.zero with
       | some z => if i.size = 1 ∧ 1 ≤ i.bytes ∧ isZ (d.w d.zero) z = true then some (.make el i.bytes d l c) else none
       | none => none
     | _, _ => none
   | _, _, _ => none
 | .buildSlice t len parts => match P.underlying t with
   | some (.slice el) => match szOf P el, inTurn 0 parts.toList, zeroWs P el with
     | some n, some ps, some z => if n ≠ 0 ∧ ps.length = len ∧ len * n ≤ 16777216 ∧ z.length = n then some (.lit el n (if n = 1 then dOf P 4 el else none) ps) else none
     | _, _, _ => none
   | _ => none
 | .call { callee := .builtin .append, args := ⟨[x, y]⟩, argTypes := ⟨[t, ts]⟩ } => match P.underlying t, opd x, opd y with
   | some (.slice el), some x, some y => match P.info? el, zeroWs P el, dOf P 4 el with
     | some i, some z, some d => match P.underlying ts with
       | some (.slice _) => if i.size = 1 ∧ z.length = 1 ∧ 1 ≤ i.bytes then some (.append el i.bytes d x y) else none
       | some .string => if i.size = 1 ∧ z.length = 1 ∧ 1 ≤ i.bytes then some (.append el i.bytes d x y) else none
       | some (.int _) => match i.zero with
         | some zv => if i.size = 1 ∧ 1 ≤ i.bytes ∧ isZ (d.w d.zero) zv = true then some (.zeros el i.bytes d x y) else none
         | none => none
       | _ => none
     | _, _, _ => none
   | _, _, _ => none
 | .call { callee := .builtin .copy, args := ⟨[x, y]⟩, argTypes := ⟨[t, _]⟩ } => match P.underlying t, opd x, opd y with
   | some (.slice el), some x, some y => match szOf P el, dOf P 4 el with | some n, some d => if n = 1 then some (.copy d x y) else none | _, _ => none
   | _, _, _ => none
 | .call { callee := .builtin .clear, args := ⟨[x]⟩, argTypes := ⟨[t]⟩ } => match P.underlying t, opd x with
   | some (.slice el), some x => match P.info? el, dOf P 4 el with
     | some i, some d => match i.zero with
       | some z => if isZ (d.w d.zero) z = true then some (.clear d x) else none
       | none => none
     | _, _ => none
   | _, _ => none
 | .convert s d x => match P.underlying s, P.underlying d, opd x with
   | some .string, some (.slice el), some x => match P.underlying el with | some (.int .u8) => some (.s2b el x) | _ => none
   | some (.slice el), some .string, some x => match P.underlying el with | some (.int .u8) => some (.b2s x) | _ => none
   | _, _, _ => none
 | _ => none
end Go.Loom

namespace Go.Loom
open Go.RowKit
open Go.Mill (T)

section
variable {P : Program} {base n : Nat} {η : Eta} {Z : Zeta} {S : Sto} {w : World} {F : Fr} {a : Act}
theorem Good.run {s s' : Sem Next} {v : A} {S' : Sto} (h : s.run P w = s'.run P w) (g : Good P base η Z S w s' v S') : Good P base η Z S w s v S' := by
 unfold Good at g ⊢
 rw [h]; exact g
/-! ### Maps -/
def EntsRel (Z : Zeta) (kd vd : D) : List (kd.ty × vd.ty) → List MapEntry → Prop
 | [], [] => True
 | (k, v) :: l, e :: es => DRel Z kd k e.key ∧ DRel Z vd v e.val ∧ EntsRel Z kd vd l es
 | _, _ => False
theorem entsRel_iff {kd vd : D} : ∀ {l : List (kd.ty × vd.ty)} {es : List MapEntry}, EntRel η Z (entW kd vd l) es ↔ EntsRel Z kd vd l es
 | [], [] => by simp [entW, EntRel, EntsRel]
 | [], _ :: _ => by simp [entW, EntRel, EntsRel]
 | (_, _) :: _, [] => by simp [entW, EntRel, EntsRel]
 | (k, v) :: l, e :: es => by
   simp only [entW, EntRel, EntsRel, D.w_wrel, entsRel_iff (l := l)]
   exact ⟨fun ⟨⟨_, a⟩, ⟨_, b⟩, c⟩ => ⟨a, b, c⟩, fun ⟨a, b, c⟩ => ⟨⟨D.w_live _ _, a⟩, ⟨D.w_live _ _, b⟩, c⟩⟩
theorem St.ents (R : St base η Z S w) {n : Nat} {o : Ob} {kd vd : D} {l : List (kd.ty × vd.ty)} (ho : S.get n = some o) (hl : o.ents kd vd = some l) {u : Value} (hu : WRel η Z (.mp n) u) :
 ∃ p es clock, η n = some p ∧ u = .map (some p.block) ∧ base ≤ p.block ∧ Z p.block = none ∧ w.heap[p.block]? = some (.map es clock) ∧ EntsRel Z kd vd l es.toList := by
 obtain ⟨p, hp, rfl⟩ := hu
 obtain ⟨h1, h2, L⟩ := R.objs n o p ho hp
 have hfs := Ob.ents_fs hl
 have hcl : o.cells = .mh :: entW kd vd l := by unfold Ob.cells; rw [hfs]; simp [Fd.cells]
 obtain ⟨es, k, h3, h4⟩ := L.maps (by unfold Ob.isM; rw [hcl]; rfl)
 rw [hcl] at h4
 exact ⟨p, es, k, hp, rfl, h1, h2, h3, entsRel_iff.1 h4⟩
set_option maxHeartbeats 1000000 in
/-! ### Builders; bytes as a text -/
theorem St.other {w' : World} (R : St base η Z S w) {b : Nat} (hfree : ∀ n o p, S.get n = some o → η n = some p → p.block ≠ b) (hz : Z b = none) (hother : ∀ k, k ≠ b → w'.heap[k]? = w.heap[k]?) (hsz : w'.heap.size = w.heap.size) : St base η Z S w' := by
 refine ⟨fun n o p h1 h2 => ?_, R.ghost, R.known, R.inj, fun k c hk => ?_, R.fresh, by rw [hsz]; exact R.basele⟩
 · obtain ⟨a1, a2, L⟩ := R.objs n o p h1 h2
   exact ⟨a1, a2, L.mono (Eta.le.refl _) (Zeta.le.refl _) (hother _ (hfree n o p h1 h2))⟩
 · obtain ⟨ty, fz, e⟩ := R.zs k c hk
   exact ⟨ty, fz, (hother k (fun hh => by subst hh; rw [hz] at hk; cases hk)).trans e⟩
end
end Go.Loom

namespace Go.Loom
open Go.RowKit
open Go.Mill (T)

/-! ### Stores by place -/
def enumO (k : Nat) : List Ob → List (Nat × Ob)
 | [] => []
 | o :: l => (k, o) :: enumO (k + 1) l
def Sto.ofList (l : List Ob) : Sto := { next := l.length, objs := enumO 0 l }
theorem find_enum : ∀ (l : List Ob) (k n : Nat), find (enumO k l) n = if n < k then none else l[n - k]?
 | [], k, n => by simp [enumO, find]
 | o :: l, k, n => by
   simp only [enumO, find]
   by_cases h : k = n
   · subst h; simp
   · rw [if_neg h, find_enum l (k + 1) n]
     by_cases h1 : n < k
     · rw [if_pos (by omega), if_pos h1]
     · rw [if_neg (by omega), if_neg h1]
       have : n - k = (n - (k + 1)) + 1 := by omega
       rw [this]; simp
theorem Sto.get_ofList (l : List Ob) (n : Nat) : (Sto.ofList l).get n = l[n]? := by
 show find (enumO 0 l) n = _
 rw [find_enum]; simp

/-! ### Names turned -/
def renCaps (g : Nat → Option Nat) : List (Nat × Nat) → Option (List (Nat × Nat))
 | [] => some []
 | (n, o) :: l => match g n, renCaps g l with | some m, some r => some ((m, o) :: r) | _, _ => none
def W.ren (g : Nat → Option Nat) : W → Option W
 | .ptr n off => match g n with | some m => some (.ptr m off) | none => none
 | .pe n off i => match g n with | some m => some (.pe m off i) | none => none
 | .sl n off len sz => match g n with | some m => some (.sl m off len sz) | none => none
 | .func f caps => match renCaps g caps with | some r => some (.func f r) | none => none
 | .yield l => some (.yield l)
 | .dead => none
 | .mp n => match g n with | some m => some (.mp m) | none => none
 | .ba n => match g n with | some m => some (.ba m) | none => none
 | .meth f n off => match g n with | some m => some (.meth f m off) | none => none
 | x => some x
def renWs (g : Nat → Option Nat) : List W → Option (List W)
 | [] => some []
 | x :: l => match x.ren g, renWs g l with | some y, some r => some (y :: r) | _, _ => none
def V.ren (g : Nat → Option Nat) : V → Option V
 | .c x => match x.ren g with | some y => some (.c y) | none => none
 | .agg cs => match renWs g cs with | some r => some (.agg r) | none => none
def renVs (g : Nat → Option Nat) : List V → Option (List V)
 | [] => some []
 | x :: l => match x.ren g, renVs g l with | some y, some r => some (y :: r) | _, _ => none
def A.ren (g : Nat → Option Nat) : A → Option A
 | .p v => match v.ren g with | some y => some (.p y) | none => none
 | .tup vs => match renVs g vs with | some r => some (.tup r) | none => none
 | .cond _ _ => none
 | .dec b => some (.dec b)
def Fd.ren (g : Nat → Option Nat) : Fd → Option Fd
 | .c x => match x.ren g with | some y => some (.c y) | none => none
 | .a n d l => some (.a n d l)
 | .m kd vd l => some (.m kd vd l)
def renFs (g : Nat → Option Nat) : List Fd → Option (List Fd)
 | [] => some []
 | x :: l => match x.ren g, renFs g l with | some y, some r => some (y :: r) | _, _ => none
def Ob.ren (g : Nat → Option Nat) (o : Ob) : Option Ob := match renFs g o.fs with | some fs => some ⟨o.ty, fs⟩ | none => none
def renObs (g : Nat → Option Nat) : List Ob → Option (List Ob)
 | [] => some []
 | x :: l => match x.ren g, renObs g l with | some y, some r => some (y :: r) | _, _ => none
def W.zfree : W → Bool
 | .ro _ _ | .rp _ _ | .rd _ _ | .re _ _ _ => false
 | _ => true
def D.plain : D → Bool
 | .sl _ => false
 | _ => true
def V.zfree : V → Bool
 | .c x => x.zfree
 | .agg cs => cs.all W.zfree
def A.zfree : A → Bool
 | .p v => v.zfree
 | .tup vs => vs.all V.zfree
 | .cond _ _ => false
 | .dec _ => true
def Fd.zfree : Fd → Bool
 | .c x => x.zfree
 | .a _ d _ => d.plain
 | .m kd vd _ => kd.plain && vd.plain
def Ob.zfree (o : Ob) : Bool := o.fs.all Fd.zfree

section
variable {η η' : Eta} {Z Z' : Zeta} {g : Nat → Option Nat}
structure Turn (g : Nat → Option Nat) (η : Eta) (Z : Zeta) (η' : Eta) (Z' : Zeta) : Prop where
 names : ∀ n m, g n = some m → ∀ p, η n = some p → η' m = some p
theorem caps_ren (h : ∀ n m, g n = some m → ∀ p, η n = some p → η' m = some p) : ∀ {caps r : List (Nat × Nat)} {vs : List Value}, renCaps g caps = some r → LRel (PtrRel η) caps vs → LRel (PtrRel η') r vs
 | [], r, vs, e, hl => by simp only [renCaps] at e; cases e; cases vs with | nil => trivial | cons _ _ => exact hl.elim
 | (n, o) :: l, r, vs, e, hl => by
   simp only [renCaps] at e
   split at e
   · rename_i m r' hm hr
     cases e
     cases vs with
     | nil => exact hl.elim
     | cons v vs =>
       obtain ⟨⟨p, hp, hv⟩, hl⟩ := hl
       exact ⟨⟨p, h n m hm p hp, hv⟩, caps_ren h hr hl⟩
   · cases e
theorem W.ren_rel (h : ∀ n m, g n = some m → ∀ p, η n = some p → η' m = some p) {x y : W} (hz : x.zfree = true ∨ Z.le Z') (e : x.ren g = some y) {v : Value} (r : WRel η Z x v) : WRel η' Z' y v := by
 have frozen : ∀ x : W, x.zfree = false → x.ren g = some x := by intro x hx; cases x <;> simp_all [W.zfree, W.ren]
 cases x with
 | ptr n off =>
   simp only [W.ren] at e
   split at e
   · rename_i m hm; cases e; obtain ⟨p, hp, hv⟩ := r; exact ⟨p, h n m hm p hp, hv⟩
   · cases e
 | pe n off i =>
   simp only [W.ren] at e
   split at e
   · rename_i m hm; cases e; obtain ⟨p, hp, hv⟩ := r; exact ⟨p, h n m hm p hp, hv⟩
   · cases e
 | sl n off len sz =>
   simp only [W.ren] at e
   split at e
   · rename_i m hm; cases e
     rcases r with r | ⟨p, c, a, hp, r⟩
     · exact .inl r
     · exact .inr ⟨p, c, a, h n m hm p hp, r⟩
   · cases e
 | func f caps =>
   simp only [W.ren] at e
   split at e
   · rename_i r' hr; cases e
     obtain ⟨vs, hv, hl⟩ := r
     exact ⟨vs, hv, caps_ren h hr hl⟩
   · cases e
 | yield l => cases e; exact r
 | dead => cases e
 | mh => cases e; exact r
 | mp n =>
   simp only [W.ren] at e
   split at e
   · rename_i m hm; cases e; obtain ⟨p, hp, hv⟩ := r; exact ⟨p, h n m hm p hp, hv⟩
   · cases e
 | ba n =>
   simp only [W.ren] at e
   split at e
   · rename_i m hm; cases e; obtain ⟨p, hp, hv⟩ := r; exact ⟨p, h n m hm p hp, hv⟩
   · cases e
 | meth f n off =>
   simp only [W.ren] at e
   split at e
   · rename_i m hm; cases e; obtain ⟨u, hu, p, hp, hv⟩ := r; exact ⟨u, hu, p, h n m hm p hp, hv⟩
   · cases e
 | bool b => cases e; exact r
 | int k n => cases e; exact r
 | str s => cases e; exact r
 | nilptr => cases e; exact r
 | nil => cases e; exact r
 | nilfunc => cases e; exact r
 | nilif => cases e; exact r
 | ro _ _ => cases e; rcases hz with hz | hz; cases hz; exact FRel.mono hz r
 | rp _ _ => cases e; rcases hz with hz | hz; cases hz; exact FRel.mono hz r
 | rd _ _ => cases e; rcases hz with hz | hz; cases hz; exact FRel.mono hz r
 | re _ _ _ => cases e; rcases hz with hz | hz; cases hz; exact FRel.mono hz r
theorem W.ren_live {x y : W} (e : x.ren g = some y) : y ≠ .dead := by
 cases x <;> simp only [W.ren] at e <;> first
  | (cases e; done)
  | (cases e; simp; done)
  | (split at e <;> cases e; simp)
theorem W.ren_mh {x : W} (e : x.ren g = some .mh) : x = .mh := by
 cases x <;> simp only [W.ren] at e <;> first
  | rfl
  | (cases e; done)
  | (split at e <;> cases e)
theorem renWs_rel (h : ∀ n m, g n = some m → ∀ p, η n = some p → η' m = some p) : ∀ {l r : List W} {vs : List Value}, (l.all W.zfree = true ∨ Z.le Z') → renWs g l = some r → LRel (WRel η Z) l vs → LRel (WRel η' Z') r vs ∧ ∀ x ∈ r, x ≠ .dead
 | [], r, vs, _, e, hl => by simp only [renWs] at e; cases e; cases vs with | nil => exact ⟨trivial, by simp⟩ | cons _ _ => exact hl.elim
 | x :: l, r, vs, hz, e, hl => by
   simp only [renWs] at e
   split at e
   · rename_i y r' hy hr
     cases e
     cases vs with
     | nil => exact hl.elim
     | cons v vs =>
       simp only [List.all_cons, Bool.and_eq_true] at hz
       obtain ⟨a, b⟩ := renWs_rel h (hz.imp (·.2) id) hr hl.2
       refine ⟨⟨W.ren_rel h (hz.imp (·.1) id) hy hl.1, a⟩, fun z hz' => ?_⟩
       rcases List.mem_cons.1 hz' with rfl | hz'
       · exact W.ren_live hy
       · exact b z hz'
   · cases e
theorem V.ren_rel (h : ∀ n m, g n = some m → ∀ p, η n = some p → η' m = some p) {x y : V} (hz : x.zfree = true ∨ Z.le Z') (e : x.ren g = some y) {v : Value} (r : VRel η Z x v) : VRel η' Z' y v := by
 cases x with
 | c x =>
   simp only [V.ren] at e
   split at e
   · rename_i y' hy; cases e; exact ⟨W.ren_live hy, W.ren_rel h hz hy r.2⟩
   · cases e
 | agg cs =>
   simp only [V.ren] at e
   split at e
   · rename_i r' hr; cases e
     obtain ⟨vs, hv, _, hl⟩ := r
     obtain ⟨a, b⟩ := renWs_rel h hz hr hl
     exact ⟨vs, hv, b, a⟩
   · cases e
theorem renVs_rel (h : ∀ n m, g n = some m → ∀ p, η n = some p → η' m = some p) : ∀ {l r : List V} {vs : List Value}, (l.all V.zfree = true ∨ Z.le Z') → renVs g l = some r → LRel (VRel η Z) l vs → LRel (VRel η' Z') r vs
 | [], r, vs, _, e, hl => by simp only [renVs] at e; cases e; cases vs with | nil => trivial | cons _ _ => exact hl.elim
 | x :: l, r, vs, hz, e, hl => by
   simp only [renVs] at e
   split at e
   · rename_i y r' hy hr
     cases e
     cases vs with
     | nil => exact hl.elim
     | cons v vs =>
       simp only [List.all_cons, Bool.and_eq_true] at hz
       exact ⟨V.ren_rel h (hz.imp (·.1) id) hy hl.1, renVs_rel h (hz.imp (·.2) id) hr hl.2⟩
   · cases e
theorem A.ren_rel (h : ∀ n m, g n = some m → ∀ p, η n = some p → η' m = some p) {x y : A} (hz : x.zfree = true ∨ Z.le Z') (e : x.ren g = some y) {v : Value} (r : ARel η Z x v) : ARel η' Z' y v := by
 cases x with
 | p x =>
   simp only [A.ren] at e
   split at e
   · rename_i y' hy; cases e; exact V.ren_rel h hz hy r
   · cases e
 | tup vs =>
   simp only [A.ren] at e
   split at e
   · rename_i r' hr; cases e
     obtain ⟨us, hv, hl⟩ := r
     exact ⟨us, hv, renVs_rel h hz hr hl⟩
   · cases e
 | cond _ _ => cases e
 | dec b => cases e; exact r
theorem D.w_ren (d : D) (y : d.ty) : (d.w y).ren g = some (d.w y) := by cases d <;> rfl
theorem D.w_zfree {d : D} (h : d.plain = true) (y : d.ty) : (d.w y).zfree = true := by cases d <;> first | rfl | cases h
theorem entW_ren {kd vd : D} : ∀ {l : List (kd.ty × vd.ty)} {i : Nat} {z : W}, (entW kd vd l)[i]? = some z → z.ren g = some z ∧ (kd.plain = true → vd.plain = true → z.zfree = true)
 | [], i, z, h => by simp [entW] at h
 | (k, v) :: l, 0, z, h => by simp [entW] at h; subst h; exact ⟨D.w_ren _ _, fun h1 _ => D.w_zfree h1 _⟩
 | (k, v) :: l, 1, z, h => by simp [entW] at h; subst h; exact ⟨D.w_ren _ _, fun _ h2 => D.w_zfree h2 _⟩
 | (k, v) :: l, i + 2, z, h => entW_ren (l := l) (i := i) (by simpa [entW] using h)
theorem renFs_cells : ∀ {fs r : List Fd}, renFs g fs = some r → (r.flatMap Fd.cells).length = (fs.flatMap Fd.cells).length ∧ ∀ (i : Nat) y, (r.flatMap Fd.cells)[i]? = some y → ∃ x, (fs.flatMap Fd.cells)[i]? = some x ∧ x.ren g = some y ∧ (fs.all Fd.zfree = true → x.zfree = true)
 | [], r, e => by simp only [renFs] at e; cases e; exact ⟨rfl, by simp⟩
 | f :: fs, r, e => by
   simp only [renFs] at e
   split at e
   · rename_i f' r' hf hr
     cases e
     obtain ⟨h1, h2⟩ := renFs_cells hr
     have h3 : f'.cells.length = f.cells.length ∧ ∀ (i : Nat) y, f'.cells[i]? = some y → ∃ x, f.cells[i]? = some x ∧ x.ren g = some y ∧ (f.zfree = true → x.zfree = true) := by
      cases f with
      | c x =>
        simp only [Fd.ren] at hf
        split at hf
        · rename_i y hy
          cases hf
          refine ⟨rfl, fun i z hz => ?_⟩
          cases i with
          | zero => simp [Fd.cells] at hz ⊢; subst hz; exact ⟨hy, fun h => h⟩
          | succ i => simp [Fd.cells] at hz
        · cases hf
      | a n d l =>
        simp only [Fd.ren] at hf
        cases hf
        refine ⟨rfl, fun i z hz => ⟨z, hz, ?_, ?_⟩⟩
        · simp only [Fd.cells, List.getElem?_map] at hz
          cases hh : l[i]? with
          | none => rw [hh] at hz; cases hz
          | some y => rw [hh] at hz; cases hz; exact D.w_ren _ _
        · intro hp
          simp only [Fd.cells, List.getElem?_map] at hz
          cases hh : l[i]? with
          | none => rw [hh] at hz; cases hz
          | some y => rw [hh] at hz; cases hz; exact D.w_zfree hp _
      | m kd vd l =>
        simp only [Fd.ren] at hf
        cases hf
        refine ⟨rfl, fun i z hz => ⟨z, hz, ?_⟩⟩
        cases i with
        | zero => simp [Fd.cells] at hz; subst hz; exact ⟨rfl, fun _ => rfl⟩
        | succ i =>
          have hz' : (entW kd vd l)[i]? = some z := by simpa [Fd.cells] using hz
          obtain ⟨h5, h6⟩ := entW_ren (g := g) hz'
          exact ⟨h5, fun hp => by simp only [Fd.zfree, Bool.and_eq_true] at hp; exact h6 hp.1 hp.2⟩
     simp only [List.flatMap_cons, List.length_append, List.all_cons, Bool.and_eq_true]
     refine ⟨by omega, fun i y hy => ?_⟩
     by_cases hi : i < f'.cells.length
     · rw [List.getElem?_append_left hi] at hy
       rw [List.getElem?_append_left (by omega)]
       obtain ⟨x, a, b, c⟩ := h3.2 i y hy
       exact ⟨x, a, b, fun hh => c hh.1⟩
     · rw [List.getElem?_append_right (by omega)] at hy
       rw [List.getElem?_append_right (by omega), ← h3.1]
       obtain ⟨x, a, b, c⟩ := h2 _ y hy
       exact ⟨x, a, b, fun hh => c hh.2⟩
   · cases e
theorem Ob.ren_cells {o o' : Ob} (e : o.ren g = some o') : o'.ty = o.ty ∧ o'.cells.length = o.cells.length ∧ ∀ (i : Nat) y, o'.cells[i]? = some y → ∃ x, o.cells[i]? = some x ∧ x.ren g = some y ∧ (o.zfree = true → x.zfree = true) := by
 unfold Ob.ren at e
 split at e
 · rename_i fs hfs
   cases e
   obtain ⟨a, b⟩ := renFs_cells hfs
   exact ⟨rfl, a, b⟩
 · cases e
theorem Lies.ren (h : ∀ n m, g n = some m → ∀ p, η n = some p → η' m = some p) {o o' : Ob} (hz : o.zfree = true ∨ Z.le Z') (e : o.ren g = some o') {p : Place} {w : World} (L : Lies η Z o p w) : Lies η' Z' o' p w := by
 obtain ⟨e1, e2, e3⟩ := Ob.ren_cells e
 have hi1 : o'.isM → o.isM := fun hm => by
  obtain ⟨x, hx, hxy, _⟩ := e3 0 _ hm
  rw [W.ren_mh hxy] at hx; exact hx
 have hi2 : o.isM → o'.isM := fun hm => by
  have h0 : 0 < o'.cells.length := by rw [e2]; exact (List.getElem?_eq_some_iff.1 hm).1
  obtain ⟨x, hx, hxy, _⟩ := e3 0 _ (List.getElem?_eq_getElem h0)
  have : x = .mh := Option.some.inj (hx.symm.trans hm)
  subst this
  have : o'.cells[0] = .mh := (Option.some.inj hxy).symm
  show o'.cells[0]? = some .mh
  rw [List.getElem?_eq_getElem h0, this]
 refine ⟨fun hm => ?_, fun hm => by rw [e2]; exact L.size fun h => hm (hi2 h), fun hm => ?_⟩
 · obtain ⟨c, fz, a, b, d, f⟩ := L.there fun h => hm (hi2 h)
   refine ⟨c, fz, by rw [e1]; exact a, b, fun i y hy => ?_, f⟩
   obtain ⟨x, hx, hxy, hzf⟩ := e3 i y hy
   obtain ⟨v, hv, hr, h1⟩ := d i x hx
   exact ⟨v, hv, W.ren_rel h (hz.imp hzf id) hxy hr, h1⟩
 · obtain ⟨es, k, a, b⟩ := L.maps (hi1 hm)
   refine ⟨es, k, a, EntRel.map (g := fun x y => x.ren g = some y ∧ (o.zfree = true → x.zfree = true)) (fun x y v hxy hr => ⟨W.ren_live hxy.1, W.ren_rel h (hz.imp hxy.2 id) hxy.1 hr⟩) (by simp [e2]) (fun i y hy => ?_) b⟩
   rw [← List.drop_one, List.getElem?_drop] at hy
   obtain ⟨x, hx, hxy, hzf⟩ := e3 _ y hy
   exact ⟨x, by rw [← List.drop_one, List.getElem?_drop]; exact hx, hxy, hzf⟩
end
theorem renObs_get {g : Nat → Option Nat} : ∀ {l r : List Ob}, renObs g l = some r → r.length = l.length ∧ ∀ (i : Nat) o', r[i]? = some o' → ∃ o, l[i]? = some o ∧ o.ren g = some o'
 | [], r, e => by simp only [renObs] at e; cases e; exact ⟨rfl, by simp⟩
 | x :: l, r, e => by
   simp only [renObs] at e
   split at e
   · rename_i y r' hy hr
     cases e
     obtain ⟨a, b⟩ := renObs_get hr
     refine ⟨by simp [a], fun i o' ho => ?_⟩
     cases i with
     | zero => simp at ho; subst ho; exact ⟨x, rfl, hy⟩
     | succ i => simp at ho ⊢; exact b i o' ho
   · cases e

/-! ### What a call does -/
structure MovesK (keep base : Nat) (η : Eta) (Z : Zeta) (S : Sto) (w : World) (η' : Eta) (Z' : Zeta) (S' : Sto) (w' : World) : Prop where
 le : ∀ n p, n < keep → η n = some p → η' n = some p
 st : St base η' Z' S' w'
 step : Step η Z S w η' Z' S' w'
def FnSemK (P : Program) (f : FuncId) (keep : Nat) (args : List A) (objs : List Ob) (r : A) (objs' : List Ob) : Prop :=
 ∀ base η Z w vs, St base η Z (.ofList objs) w → LRel (ARel η Z) args vs → CallsIn Fence.wide 0 P f vs.toArray w fun e w' => ∃ u η' Z', e = .returned u ∧ MovesK keep base η Z (.ofList objs) w η' Z' (.ofList objs') w' ∧ ARel η' Z' r u
def FnSem (P : Program) (f : FuncId) (args : List A) (objs : List Ob) (r : A) (objs' : List Ob) : Prop := FnSemK P f objs.length args objs r objs'
end Go.Loom

namespace Go.Loom
open Go.RowKit
open Go.Mill (T)

def idxOf : List Nat → Nat → Option Nat
 | [], _ => none
 | x :: l, n => if x = n then some 0 else match idxOf l n with | some i => some (i + 1) | none => none
theorem idxOf_get : ∀ {l : List Nat} {n i : Nat}, idxOf l n = some i → l[i]? = some n
 | [], _, _, e => by cases e
 | x :: l, n, i, e => by
   simp only [idxOf] at e
   split at e
   · rename_i h; cases e; subst h; rfl
   · split at e
     · rename_i j hj; cases e; simpa using idxOf_get hj
     · cases e
def upN (rs : List Nat) (nx : Nat) (i : Nat) : Option Nat := if i < rs.length then rs[i]? else some (nx + (i - rs.length))
def putAll (S : Sto) : List Nat → List Ob → Sto
 | n :: rs, o :: os => putAll (S.put n o) rs os
 | _, _ => S
def addAll (S : Sto) : List Ob → Sto
 | [] => S
 | o :: os => addAll (S.add o) os
def Sto.back (S : Sto) (rs : List Nat) (os : List Ob) : Sto := addAll (putAll S rs (os.take rs.length)) (os.drop rs.length)
def objsOf (S : Sto) : List Nat → Option (List Ob)
 | [] => some []
 | n :: l => match S.get n, objsOf S l with | some o, some r => some (o :: r) | _, _ => none
theorem objsOf_get : ∀ {S : Sto} {rs : List Nat} {l : List Ob}, objsOf S rs = some l → l.length = rs.length ∧ ∀ (i : Nat) n, rs[i]? = some n → ∃ o, S.get n = some o ∧ l[i]? = some o
 | S, [], l, e => by simp only [objsOf] at e; cases e; exact ⟨rfl, by simp⟩
 | S, k :: rs, l, e => by
   simp only [objsOf] at e
   split at e
   · rename_i o r ho hr
     cases e
     obtain ⟨a, b⟩ := objsOf_get hr
     refine ⟨by simp [a], fun i n hi => ?_⟩
     cases i with
     | zero => simp at hi; subst hi; exact ⟨o, ho, rfl⟩
     | succ i => simpa using b i n (by simpa using hi)
   · cases e

def dels (S : Sto) : List Nat → Sto
 | [] => S
 | m :: ms => dels (S.del m) ms
section
variable {P : Program}
def etaOf (η : Eta) (rs : List Nat) : Eta := fun i => match rs[i]? with | some n => η n | none => none
end
end Go.Loom

namespace Go.Loom
open Go.RowKit
open Go.Mill (T)

structure Con where
 refs : List Bool
 keep : Option Nat := none
 f : List A → List Ob → Option (Cd × A × List Ob)
abbrev Gam := List (FuncId × Con)
def look : Gam → FuncId → Option Con
 | [], _ => none
 | (g, c) :: l, f => bif Nat.beq g f then some c else look l f
def enters (P : Program) (f : FuncId) : Bool := match P.funcs[f]? with | some fn => fn.body.isSome && !(fn.name == "runtime.NumGoroutine") | none => false
structure ConOk (P : Program) (f : FuncId) (con : Con) : Prop where
 enters : enters P f = true
 sem : ∀ args objs c r objs', con.f args objs = some (c, r, objs') → c → FnSemK P f (con.keep.getD objs.length) args objs r objs'
def GamOk (P : Program) (Γ : Gam) : Prop := ∀ f con, look Γ f = some con → ConOk P f con
/-! ### Arguments by value -/
noncomputable def viewW (S : Sto) : W → Option (Cd × W × List Nat)
 | .sl m off len sz => bif Nat.beq sz 1 then match S.get m with
  | some o => match o.fs with
    | [.a _ d l] => some (.p (off + len ≤ l.length), .rd d ((l.drop off).take len), [m])
    | _ => none
  | none => none
   else none
 | x => bif x.clean then some (.t, x, []) else none
noncomputable def viewWs (S : Sto) : List W → Option (Cd × List W × List Nat)
 | [] => some (.t, [], [])
 | x :: l => match viewW S x, viewWs S l with | some (c, y, ms), some (c', ys, ms') => some (.and c c', y :: ys, ms ++ ms') | _, _ => none
noncomputable def viewV (S : Sto) : V → Option (Cd × V × List Nat)
 | .c x => match viewW S x with | some (c, y, ms) => some (c, .c y, ms) | none => none
 | .agg cs => match viewWs S cs with | some (c, ys, ms) => some (c, .agg ys, ms) | none => none
noncomputable def conv1 (S : Sto) : List Bool → List V → Option (Cd × List V × List Nat)
 | _, [] => some (.t, [], [])
 | true :: bs, v :: vs => match conv1 S bs vs with | some (c, ys, ms) => some (c, v :: ys, ms) | none => none
 | false :: bs, v :: vs => match viewV S v, conv1 S bs vs with | some (c, y, ms), some (c', ys, ms') => some (.and c c', y :: ys, ms ++ ms') | _, _ => none
 | [], v :: vs => match viewV S v, conv1 S [] vs with | some (c, y, ms), some (c', ys, ms') => some (.and c c', y :: ys, ms ++ ms') | _, _ => none
def Sees (η : Eta) (S : Sto) (w : World) (ms : List Nat) (Z' : Zeta) : Prop := ∀ m ∈ ms, ∀ o p, S.get m = some o → η m = some p → ¬ o.isM → ∃ c ty fz, w.heap[p.block]? = some (.cells c ty fz) ∧ Z' p.block = some c
section
variable {P : Program} {base : Nat} {η : Eta} {Z Z' : Zeta} {S : Sto} {w : World}
theorem Sees.left {ms ms' : List Nat} (h : Sees η S w (ms ++ ms') Z') : Sees η S w ms Z' := fun m hm => h m (by simp [hm])
theorem Sees.right {ms ms' : List Nat} (h : Sees η S w (ms ++ ms') Z') : Sees η S w ms' Z' := fun m hm => h m (by simp [hm])
end

/-! ### A call -/
def W.names : W → List Nat
 | .ptr n _ => [n]
 | .pe n _ _ => [n]
 | .sl n _ _ _ => [n]
 | .func _ caps => caps.map (·.1)
 | .mp n => [n]
 | .ba n => [n]
 | .meth _ n _ => [n]
 | _ => []
def V.names : V → List Nat
 | .c x => x.names
 | .agg cs => cs.flatMap W.names
def addN (l : List Nat) (n : Nat) : List Nat := bif l.any (Nat.beq n ·) then l else l ++ [n]
def refNames : List Bool → List V → List Nat → List Nat
 | true :: bs, v :: vs, acc => refNames bs vs (v.names.foldl addN acc)
 | false :: bs, _ :: vs, acc => refNames bs vs acc
 | _, _, acc => acc
def Fd.names : Fd → List Nat
 | .c x => x.names
 | .a _ _ _ => []
 | .m _ _ _ => []
def closeN (S : Sto) : Nat → List Nat → List Nat
 | 0, rs => rs
 | k + 1, rs => closeN S k (rs.foldl (fun acc n => match S.get n with | some o => (o.fs.flatMap Fd.names).foldl addN acc | none => acc) rs)
def nodupB : List Nat → Bool
 | [] => true
 | x :: l => !(l.any (Nat.beq x ·)) && nodupB l
def disjB (ms rs : List Nat) : Bool := ms.all fun m => !(rs.any (Nat.beq m ·))
noncomputable def callV (Γ : Gam) (S : Sto) (g : FuncId) (args : List V) : Option (Cd × A × Sto × Bool) :=
 match look Γ g with
 | some con =>
   match conv1 S con.refs args with
   | some (c1, args1, ms) =>
     let rs := closeN S 2 (refNames con.refs args [])
     bif nodupB rs && disjB ms rs then
      match objsOf S rs with
      | some objsS => match renObs (idxOf rs) objsS, renVs (idxOf rs) args1 with
        | some objs0, some args0 => match con.f (args0.map A.p) objs0 with
          | some (c2, r0, objs1) =>
            let k := con.keep.getD rs.length
            bif Nat.ble k rs.length && Nat.ble k objs1.length then
             match r0.ren (upN (rs.take k) S.next), renObs (upN (rs.take k) S.next) objs1 with
             | some r, some objs2 => some (.and c1 c2, r, (dels (bif ms.isEmpty || (r0.zfree && objs1.all Ob.zfree) then S else dels S ms) (rs.drop k)).back (rs.take k) objs2, rs.isEmpty && (objs1.isEmpty && (ms.isEmpty || (r0.zfree && objs1.all Ob.zfree))))
             | _, _ => none
            else none
          | none => none
        | _, _ => none
      | none => none
     else none
   | none => none
 | none => none
section
variable {P : Program} {S : Sto}
end
end Go.Loom

namespace Go.Loom
open Go.RowKit
open Go.Mill (T WF)

inductive O where
 | q (q : Q)
 | l (l : L)
 | call (f : Opd) (args : List Opd)
 | isn (neg : Bool) (x : Opd)
structure Op1 where
 dst : Option Nat
 guard : Option (Nat × Bool)
 o : O
def trN (P : Program) (o : Op) : Option O :=
 match o with
 | .binOp .eql t x (.const (.slice none 0 0)) _ => match P.underlying t with | some (.slice _) => (opd x).map (.isn false) | _ => none
 | .binOp .neq t x (.const (.slice none 0 0)) _ => match P.underlying t with | some (.slice _) => (opd x).map (.isn true) | _ => none
 | _ => none
def trO (P : Program) (sq : Bool) (o : Oper) : Option O :=
 match o.op with
 | .call { callee := .value x, args, .. } => match opd x, opds args.toList with | some f, some l => some (.call f l) | _, _ => none
 | _ => match trN P o.op with | some k => some k | none => bif sq then (match trL P o with | some l => some (.l l) | none => match trQ P o.op with | some q => some (.q q) | none => none)
   else (match trQ P o.op with | some q => some (.q q) | none => bif Mill.loudOp o.op then (match trL P o with | some l => some (.l l) | none => none) else none)
def trG (ops : Array Oper) (o : Oper) : Option (Option (Nat × Bool)) :=
 match o.guard with
 | none => some none
 | some (j, want) => match (ops[j]?).bind (·.dst) with | some d => some (some (d, want)) | none => none
def dstB (nt : Nat) : Option Nat → Bool
 | none => true
 | some d => Nat.blt d nt
def trOp (P : Program) (sq : Bool) (nt : Nat) (ops : Array Oper) (o : Oper) : Option Op1 :=
 match trG ops o, trO P sq o with
 | some g, some k => bif dstB nt o.dst then some ⟨o.dst, g, k⟩ else none
 | _, _ => none
def trOps (P : Program) (sq : Bool) (nt : Nat) (ops : Array Oper) : List Oper → Option (List Op1)
 | [] => some []
 | o :: l => match trOp P sq nt ops o, trOps P sq nt ops l with | some x, some r => some (x :: r) | _, _ => none

/-! ### What an operation answers -/
inductive R1 where
 | pure (c : Cd) (v : A)
 | eff (c : Cd) (v : A) (S : Sto)
noncomputable def movA (F : Fr) : Opd → Option A
 | .tmp t => match F.get t with | some (.p v) => some (.p v) | some (.dec b) => some (.dec b) | some (.tup vs) => some (.tup vs) | _ => none
 | .w (.bool b) => some (.dec b)
 | .w x => some (.p (.c x))
 | .agg cs => some (.p (.agg cs))
noncomputable def known (F : Fr) : Opd → Option Bool
 | .tmp t => match F.get t with | some (.dec b) => some b | _ => none
 | .w (.bool b) => some b
 | _ => none
noncomputable def qA (F : Fr) (S : Sto) (q : Q) : Option (Cd × A) :=
 match q with
 | .move x => match movA F x with
   | some v => some (.t, v)
   | none => match evV F x with | some (c, v) => some (c, .p v) | none => none
 | .pick b x y => match known F b with
   | some true => match movA F x with | some v => some (.t, v) | none => none
   | some false => match movA F y with | some v => some (.t, v) | none => none
   | none => match qev F S (.pick b x y) with | some (c, v) => some (c, .p v) | none => none
 | .not x => match known F x with
   | some b => some (.t, .dec (!b))
   | none => match qev F S (.not x) with | some (c, v) => some (c, .p v) | none => none
 | q => match qev F S q with | some (c, v) => some (c, .p v) | none => none
noncomputable def ev1 (Γ : Gam) (F : Fr) (S : Sto) : O → Option R1
 | .q q => match qA F S q with | some (c, v) => some (.pure c v) | none => none
 | .l l => match lev F S l with
   | some (c, v, S') => match l with
     | .b2s _ => some (.pure c v)
     | _ => some (.eff c v S')
   | none => none
 | .call f args => match evC F f, evParts F args with
   | some (p, .func g caps), some (q, vs) => match callV Γ S g (vs ++ caps.map fun x => .c (.ptr x.1 x.2)) with
     | some (c, r, S', b) => bif b then some (.pure (.and p (.and q c)) r) else some (.eff (.and p (.and q c)) r S')
     | none => none
   | some (p, .meth g n off), some (q, vs) => match callV Γ S g (.c (.ptr n off) :: vs) with
     | some (c, r, S', b) => bif b then some (.pure (.and p (.and q c)) r) else some (.eff (.and p (.and q c)) r S')
     | none => none
   | _, _ => none
 | .isn _ _ => none
noncomputable def nilE (F : Fr) : O → Option (Cd × (Bool → Prop))
 | .isn neg x => match evC F x with
   | some (c, .nil) => some (c, fun b => b = !neg)
   | some (c, .sl _ _ len _) => some (c, fun b => (b = !neg) → len = 0)
   | some (c, .rd _ l) => some (c, fun b => (b = !neg) → l = [])
   | _ => none
 | _ => none

section
variable {P : Program} {base nt : Nat} {η : Eta} {Z : Zeta} {S : Sto} {w : World} {F : Fr} {a : Act}
theorem trN_isn {o : Op} {k : O} (h : trN P o = some k) : ∃ neg x, k = .isn neg x := by
 unfold trN at h
 split at h
 · split at h
   · cases hx : opd _ with
     | none => rw [hx] at h; cases h
     | some y => rw [hx] at h; cases h; exact ⟨_, _, rfl⟩
   · cases h
 · split at h
   · cases hx : opd _ with
     | none => rw [hx] at h; cases h
     | some y => rw [hx] at h; cases h; exact ⟨_, _, rfl⟩
   · cases h
 · cases h
end
end Go.Loom

namespace Go.Loom
open Go.RowKit
open Go.Mill (T WF)

section
variable {P : Program} {base nt : Nat} {η : Eta} {Z : Zeta} {S : Sto} {w : World} {F : Fr} {a : Act}
def NextOk (base : Nat) (η : Eta) (Z : Zeta) (S : Sto) (w : World) (v : A) (S' : Sto) (o : Oper) (a : Act) (next : Act → World → Prop) : Prop :=
 ∀ u w' η' Z', Moves base η Z S w η' Z' S' w' → ARel η' Z' v u → next (a.put o.dst u) w'
def R1.cd : R1 → Cd
 | .pure c _ => c
 | .eff c _ _ => c
def R1.v : R1 → A
 | .pure _ v => v
 | .eff _ v _ => v
def R1.st (S : Sto) : R1 → Sto
 | .pure _ _ => S
 | .eff _ _ S' => S'
end

/-! ### Guards -/
inductive Gd where
 | run
 | skip
 | cond (g : Prop)
 | bool (d : Nat) (b want : Bool)
noncomputable def guardE (F : Fr) : Option (Nat × Bool) → Option Gd
 | none => some .run
 | some (d, want) => match F.get d with
   | some (.dec b) => bif b == want then some .run else some .skip
   | some (.p (.c (.bool b))) => some (.bool d b want)
   | some (.cond c (.c (.bool b))) => some (.cond (c ∧ b = want))
   | some (.tup []) => some .skip
   | _ => none
noncomputable def setD (F : Fr) : Option Nat → A → Fr
 | none, _ => F
 | some d, v => Mill.T.set F d v
section
variable {P : Program} {base nt : Nat} {η : Eta} {Z : Zeta} {S : Sto} {w : World} {F : Fr} {a : Act}
end

/-! ### Small things -/
section
variable {P : Program} {base nt : Nat} {η : Eta} {Z : Zeta} {S : Sto} {w : World} {F : Fr} {a : Act}
theorem trOp_parts {sq : Bool} {ops : Array Oper} {o : Oper} {x : Op1} (h : trOp P sq nt ops o = some x) : x.dst = o.dst ∧ trG ops o = some x.guard ∧ trO P sq o = some x.o ∧ dstB nt o.dst = true := by
 unfold trOp at h
 split at h
 · rename_i g k hg hk
   obtain ⟨hd, h⟩ := Mill.bif_some h
   cases h
   exact ⟨rfl, hg, hk, hd⟩
 · cases h
theorem put_defers (a : Act) (dst : Option Nat) (u : Value) : (a.put dst u).defers = a.defers := by cases dst <;> rfl
end
end Go.Loom
