/- The walk by values, first part: values, stores, operations. It holds for every program and every world, under the hypotheses that each theorem names. -/
import Derived.Test.YtemmkdncplbhnaaGreatDoorMillA
import Derived.Test.YtemmkdncplbhnaaGreatDoorMillO
namespace Go.Loom
open Go.RowKit
open Go.Mill (T)

/-! ### Values -/
inductive D where
 | int (k : IntKind)
 | bool
 | str
 | sl (d : D)
def D.dec : (a b : D) → Decidable (a = b)
 | .int k, .int k' => if h : k = k' then isTrue (by rw [h]) else isFalse (fun e => by cases e; exact h rfl)
 | .bool, .bool => isTrue rfl
 | .str, .str => isTrue rfl
 | .sl a, .sl b => match D.dec a b with
   | isTrue h => isTrue (by rw [h])
   | isFalse h => isFalse (fun e => by cases e; exact h rfl)
 | .int _, .bool => isFalse (fun e => by cases e)
 | .int _, .str => isFalse (fun e => by cases e)
 | .int _, .sl _ => isFalse (fun e => by cases e)
 | .bool, .int _ => isFalse (fun e => by cases e)
 | .bool, .str => isFalse (fun e => by cases e)
 | .bool, .sl _ => isFalse (fun e => by cases e)
 | .str, .int _ => isFalse (fun e => by cases e)
 | .str, .bool => isFalse (fun e => by cases e)
 | .str, .sl _ => isFalse (fun e => by cases e)
 | .sl _, .int _ => isFalse (fun e => by cases e)
 | .sl _, .bool => isFalse (fun e => by cases e)
 | .sl _, .str => isFalse (fun e => by cases e)
instance : DecidableEq D := D.dec
abbrev D.ty : D → Type
 | .int _ => Int
 | .bool => Bool
 | .str => ByteArray
 | .sl d => List d.ty
def D.zero : (d : D) → d.ty
 | .int _ => (0 : Int)
 | .bool => false
 | .str => ⟨#[]⟩
 | .sl d => ([] : List d.ty)
inductive W where
 | bool (b : Bool)
 | int (k : IntKind) (n : Int)
 | str (s : ByteArray)
 | nilptr
 | ptr (n off : Nat)
 | pe (n off i : Nat)
 | nil
 | sl (n off len sz : Nat)
 | ro (sz : Nat) (cs : List W)
 | rp (cs : List W) (off : Nat)
 | rd (d : D) (l : List d.ty)
 | re (d : D) (l : List d.ty) (i : Nat)
 | nilfunc
 | func (f : FuncId) (caps : List (Nat × Nat))
 | yield (l : Nat)
 | nilif
 | dead
 | mp (n : Nat)
 | mh
 | ba (n : Nat)
 | meth (f : FuncId) (n off : Nat)
inductive V where
 | c (x : W)
 | agg (cs : List W)
inductive A where
 | p (v : V)
 | tup (vs : List V)
 | cond (c : Prop) (v : V)
 | dec (b : Bool)
structure Place where
 block : Nat
 off : Nat
 room : Nat
abbrev Eta := Nat → Option Place
abbrev Zeta := Nat → Option (Array Value)
def Eta.le (η η' : Eta) : Prop := ∀ n p, η n = some p → η' n = some p
def Zeta.le (Z Z' : Zeta) : Prop := ∀ b c, Z b = some c → Z' b = some c
theorem Eta.le.refl (η : Eta) : η.le η := fun _ _ h => h
theorem Eta.le.trans {a b c : Eta} (h : a.le b) (k : b.le c) : a.le c := fun n p e => k n p (h n p e)
theorem Zeta.le.refl (Z : Zeta) : Z.le Z := fun _ _ h => h
theorem Zeta.le.trans {a b c : Zeta} (h : a.le b) (k : b.le c) : a.le c := fun n p e => k n p (h n p e)

/-! ### Frozen values: no names in them -/
def DRel (Z : Zeta) : (d : D) → d.ty → Value → Prop
 | .int k, n, v => v = .int k n
 | .bool, b, v => v = .bool b
 | .str, s, v => v = .string s
 | .sl d, l, v => ∃ a len c, v = .slice a len c ∧ List.length (α := d.ty) l = len ∧ len ≤ c ∧ (l = [] ∨ ∃ b off cells, a = some ⟨b, off, none⟩ ∧ Z b = some cells ∧ ∀ (i : Nat) (x : d.ty), (show List d.ty from l)[i]? = some x → ∃ u, cells[off + i]? = some u ∧ DRel Z d x u)
def DsRel (Z : Zeta) (d : D) (cells : Array Value) (o : Nat) (l : List d.ty) : Prop := ∀ (i : Nat) (x : d.ty), l[i]? = some x → ∃ u, cells[o + i]? = some u ∧ DRel Z d x u
theorem DRel.mono {Z Z' : Zeta} (h : Z.le Z') : ∀ (d : D) {x : d.ty} {v : Value}, DRel Z d x v → DRel Z' d x v
 | .int _, _, _, e => e
 | .bool, _, _, e => e
 | .str, _, _, e => e
 | .sl d, l, v, ⟨a, len, c, h1, h2, h3, h4⟩ => by
   refine ⟨a, len, c, h1, h2, h3, ?_⟩
   rcases h4 with h4 | ⟨b, off, cells, h4, h5, h6⟩
   · exact .inl h4
   · exact .inr ⟨b, off, cells, h4, h _ _ h5, fun i x hx => let ⟨u, a, b⟩ := h6 i x hx; ⟨u, a, DRel.mono h d b⟩⟩
theorem DsRel.mono {Z Z' : Zeta} (h : Z.le Z') {d : D} {cells : Array Value} {o : Nat} {l : List d.ty} (r : DsRel Z d cells o l) : DsRel Z' d cells o l :=
 fun i x hx => let ⟨u, a, b⟩ := r i x hx; ⟨u, a, DRel.mono h d b⟩
theorem DsRel.drop {Z : Zeta} {d : D} {cells : Array Value} {o : Nat} {l : List d.ty} (r : DsRel Z d cells o l) (k : Nat) : DsRel Z d cells (o + k) (l.drop k) := by
 intro i x hx
 rw [List.getElem?_drop] at hx
 obtain ⟨u, a, b⟩ := r _ _ hx
 exact ⟨u, by rw [← a]; congr 1; omega, b⟩
theorem DsRel.take {Z : Zeta} {d : D} {cells : Array Value} {o : Nat} {l : List d.ty} (r : DsRel Z d cells o l) (k : Nat) : DsRel Z d cells o (l.take k) := by
 intro i x hx
 rw [List.getElem?_take] at hx
 split at hx
 · exact r _ _ hx
 · cases hx
theorem DRel.one {Z : Zeta} : ∀ (d : D) {x : d.ty} {v : Value}, DRel Z d x v → v.oneCell' = true
 | .int _, _, _, e => by simp only [DRel] at e; subst e; rfl
 | .bool, _, _, e => by simp only [DRel] at e; subst e; rfl
 | .str, _, _, e => by simp only [DRel] at e; subst e; rfl
 | .sl _, _, _, ⟨_, _, _, h, _⟩ => by subst h; rfl
mutual
def FRel (Z : Zeta) : W → Value → Prop
 | .bool b, v => v = .bool b
 | .int k n, v => v = .int k n
 | .str s, v => v = .string s
 | .nilptr, v => v = .pointer none
 | .nil, v => v = .slice none 0 0
 | .ro sz cs, v => ∃ a len c, v = .slice a len c ∧ cs.length = len * sz ∧ len ≤ c ∧ (cs = [] ∨ ∃ b off cells, a = some ⟨b, off, none⟩ ∧ Z b = some cells ∧ FsRel Z cells off cs)
 | .rp cs off, v => ∃ b o cells, v = .pointer (some ⟨b, o + off, none⟩) ∧ Z b = some cells ∧ FsRel Z cells o cs
 | .rd d l, v => DRel Z (.sl d) l v
 | .re d l i, v => ∃ b o cells, v = .pointer (some ⟨b, o + i, none⟩) ∧ Z b = some cells ∧ DsRel Z d cells o l
 | .nilfunc, v => v = .nilFunc
 | .func f caps, v => caps = [] ∧ v = .func (.func f) #[] #[]
 | .nilif, v => v = .nilIface
 | .ptr _ _, _ => False
 | .pe _ _ _, _ => False
 | .sl _ _ _ _, _ => False
 | .yield _, _ => False
 | .dead, _ => False
 | .mp _, _ => False
 | .mh, _ => False
 | .ba _, _ => False
 | .meth _ _ _, _ => False
def FsRel (Z : Zeta) (cells : Array Value) : Nat → List W → Prop
 | _, [] => True
 | o, x :: l => (∃ u, cells[o]? = some u ∧ FRel Z x u) ∧ FsRel Z cells (o + 1) l
end
mutual
theorem FRel.mono {Z Z' : Zeta} (h : Z.le Z') : ∀ {x : W} {v : Value}, FRel Z x v → FRel Z' x v
 | .bool _, _, e => by simpa only [FRel] using e
 | .int _ _, _, e => by simpa only [FRel] using e
 | .str _, _, e => by simpa only [FRel] using e
 | .nilptr, _, e => by simpa only [FRel] using e
 | .nil, _, e => by simpa only [FRel] using e
 | .ro sz cs, v, e => by
   simp only [FRel] at e ⊢
   obtain ⟨a, len, c, h1, h2, h3, h4⟩ := e
   refine ⟨a, len, c, h1, h2, h3, ?_⟩
   rcases h4 with h4 | ⟨b, off, cells, h4, h5, h6⟩
   · exact .inl h4
   · exact .inr ⟨b, off, cells, h4, h _ _ h5, FsRel.mono h h6⟩
 | .rp cs off, v, e => by
   simp only [FRel] at e ⊢
   obtain ⟨b, o, cells, h1, h2, h3⟩ := e
   exact ⟨b, o, cells, h1, h _ _ h2, FsRel.mono h h3⟩
 | .rd d l, v, e => by
   simp only [FRel] at e ⊢
   exact DRel.mono h _ e
 | .re d l i, v, e => by
   simp only [FRel] at e ⊢
   obtain ⟨b, o, cells, h1, h2, h3⟩ := e
   exact ⟨b, o, cells, h1, h _ _ h2, h3.mono h⟩
 | .pe _ _ _, _, e => by simp only [FRel] at e
 | .nilfunc, _, e => by simpa only [FRel] using e
 | .func _ _, _, e => by simpa only [FRel] using e
 | .nilif, _, e => by simpa only [FRel] using e
 | .ptr _ _, _, e => by simp only [FRel] at e
 | .sl _ _ _ _, _, e => by simp only [FRel] at e
 | .yield _, _, e => by simp only [FRel] at e
 | .dead, _, e => by simp only [FRel] at e
 | .mp _, _, e => by simp only [FRel] at e
 | .mh, _, e => by simp only [FRel] at e
 | .ba _, _, e => by simp only [FRel] at e
 | .meth _ _ _, _, e => by simp only [FRel] at e
theorem FsRel.mono {Z Z' : Zeta} (h : Z.le Z') {cells : Array Value} : ∀ {o : Nat} {l : List W}, FsRel Z cells o l → FsRel Z' cells o l
 | _, [], _ => by simp only [FsRel]
 | o, x :: l, e => by
   simp only [FsRel] at e ⊢
   obtain ⟨⟨u, h1, h2⟩, h3⟩ := e
   exact ⟨⟨u, h1, FRel.mono h h2⟩, FsRel.mono h h3⟩
end
theorem FsRel.get {Z : Zeta} {cells : Array Value} : ∀ {l : List W} {o : Nat}, FsRel Z cells o l → ∀ {i : Nat} {x : W}, l[i]? = some x → ∃ u, cells[o + i]? = some u ∧ FRel Z x u
 | [], _, _, i, x, e => by simp at e
 | y :: l, o, h, 0, x, e => by
   simp only [FsRel] at h
   simp at e; subst e; exact h.1
 | y :: l, o, h, i + 1, x, e => by
   simp only [FsRel] at h
   obtain ⟨u, a, b⟩ := FsRel.get h.2 (i := i) (x := x) (by simpa using e)
   exact ⟨u, by rw [← a]; congr 1; omega, b⟩
theorem FsRel.of_get {Z : Zeta} {cells : Array Value} : ∀ {l : List W} {o : Nat}, (∀ i x, l[i]? = some x → ∃ u, cells[o + i]? = some u ∧ FRel Z x u) → FsRel Z cells o l
 | [], _, _ => by simp only [FsRel]
 | y :: l, o, h => by
   simp only [FsRel]
   refine ⟨by simpa using h 0 y rfl, FsRel.of_get fun i x e => ?_⟩
   obtain ⟨u, a, b⟩ := h (i + 1) x (by simpa using e)
   exact ⟨u, by rw [← a]; congr 1; omega, b⟩
theorem FsRel.drop {Z : Zeta} {cells : Array Value} {l : List W} {o : Nat} (h : FsRel Z cells o l) (k : Nat) : FsRel Z cells (o + k) (l.drop k) := by
 refine FsRel.of_get fun i x e => ?_
 obtain ⟨u, a, b⟩ := h.get (i := k + i) (x := x) (by simpa using e)
 exact ⟨u, by rw [← a]; congr 1; omega, b⟩
theorem FsRel.take {Z : Zeta} {cells : Array Value} {l : List W} {o : Nat} (h : FsRel Z cells o l) (k : Nat) : FsRel Z cells o (l.take k) := by
 refine FsRel.of_get fun i x e => ?_
 rw [List.getElem?_take] at e
 split at e
 · exact h.get e
 · cases e

/-! ### Values at large -/
def PtrRel (η : Eta) (a : Nat × Nat) (v : Value) : Prop := ∃ p, η a.1 = some p ∧ v = .pointer (some ⟨p.block, p.off + a.2, none⟩)
def LRel {α β : Type} (R : α → β → Prop) : List α → List β → Prop
 | [], [] => True
 | a :: l, b :: m => R a b ∧ LRel R l m
 | _, _ => False
theorem LRel.mono {α β : Type} {R R' : α → β → Prop} (h : ∀ a b, R a b → R' a b) : ∀ {l : List α} {m : List β}, LRel R l m → LRel R' l m
 | [], [], _ => trivial
 | _ :: _, _ :: _, ⟨x, y⟩ => ⟨h _ _ x, LRel.mono h y⟩
theorem LRel.length {α β : Type} {R : α → β → Prop} : ∀ {l : List α} {m : List β}, LRel R l m → l.length = m.length
 | [], [], _ => rfl
 | _ :: _, _ :: _, ⟨_, y⟩ => by simp [LRel.length y]
theorem LRel.append {α β : Type} {R : α → β → Prop} : ∀ {l l' : List α} {m m' : List β}, LRel R l m → LRel R l' m' → LRel R (l ++ l') (m ++ m')
 | [], _, [], _, _, h => h
 | _ :: _, _, _ :: _, _, ⟨x, y⟩, h => ⟨x, LRel.append y h⟩
theorem LRel.get {α β : Type} {R : α → β → Prop} : ∀ {l : List α} {m : List β}, LRel R l m → ∀ {i : Nat} {x : α}, l[i]? = some x → ∃ y, m[i]? = some y ∧ R x y
 | a :: l, b :: m, ⟨x, y⟩, 0, _, e => by simp at e; subst e; exact ⟨b, rfl, x⟩
 | a :: l, b :: m, ⟨x, y⟩, i + 1, _, e => by simp at e ⊢; exact LRel.get y e
theorem LRel.of_get {α β : Type} {R : α → β → Prop} : ∀ {l : List α} {m : List β}, l.length = m.length → (∀ (i : Nat) x y, l[i]? = some x → m[i]? = some y → R x y) → LRel R l m
 | [], [], _, _ => trivial
 | a :: l, b :: m, h, k => ⟨k 0 a b rfl rfl, LRel.of_get (by simpa using h) fun i x y e f => k (i + 1) x y (by simpa using e) (by simpa using f)⟩
 | [], b :: m, h, _ => by simp at h
 | a :: l, [], h, _ => by simp at h
theorem LRel.set {α β : Type} {R : α → β → Prop} : ∀ {l : List α} {m : List β}, LRel R l m → ∀ {i : Nat} {x : α} {y : β}, R x y → LRel R (l.set i x) (m.set i y)
 | [], [], _, _, _, _, _ => trivial
 | _ :: _, _ :: _, ⟨_, t⟩, 0, _, _, h => ⟨h, t⟩
 | _ :: _, _ :: _, ⟨s, t⟩, _ + 1, _, _, h => ⟨s, LRel.set t h⟩

def WRel (η : Eta) (Z : Zeta) : W → Value → Prop
 | .ptr n off, v => PtrRel η (n, off) v
 | .pe n off i, v => PtrRel η (n, off + i) v
 | .sl n off len sz, v => (len = 0 ∧ v = .slice none 0 0) ∨ ∃ p c a, η n = some p ∧ v = .slice (some a) len c ∧ len ≤ c ∧ off + c * sz ≤ p.room ∧ (c = 0 ∨ a = ⟨p.block, p.off + off, none⟩)
 | .func f caps, v => ∃ vs, v = .func (.func f) #[] vs.toArray ∧ LRel (PtrRel η) caps vs
 | .yield l, v => v = .func (.yield l) #[] #[]
 | .dead, _ => True
 | .mp n, v => ∃ p, η n = some p ∧ v = .map (some p.block)
 | .ba n, v => ∃ p, η n = some p ∧ p.off = 0 ∧ (v = .pointer none ∨ v = .pointer (some ⟨p.block, 0, none⟩))
 | .meth f n off, v => ∃ u, v = .func (.func f) #[u] #[] ∧ PtrRel η (n, off) u
 | x, v => FRel Z x v
theorem PtrRel.mono {η η' : Eta} (h : η.le η') {a : Nat × Nat} {v : Value} : PtrRel η a v → PtrRel η' a v := fun ⟨p, e, f⟩ => ⟨p, h _ _ e, f⟩
theorem WRel.mono {η η' : Eta} {Z Z' : Zeta} (h : η.le η') (hz : Z.le Z') : ∀ {x : W} {v : Value}, WRel η Z x v → WRel η' Z' x v
 | .ptr _ _, _, e => PtrRel.mono h e
 | .pe _ _ _, _, e => PtrRel.mono h e
 | .sl _ _ _ _, _, .inl e => .inl e
 | .sl _ _ _ _, _, .inr ⟨p, c, a, e, r⟩ => .inr ⟨p, c, a, h _ _ e, r⟩
 | .func _ _, _, ⟨vs, e, r⟩ => ⟨vs, e, r.mono fun _ _ => PtrRel.mono h⟩
 | .yield _, _, e => e
 | .dead, _, _ => trivial
 | .mp _, _, ⟨p, e, r⟩ => ⟨p, h _ _ e, r⟩
 | .ba _, _, ⟨p, e, r⟩ => ⟨p, h _ _ e, r⟩
 | .meth _ _ _, _, ⟨u, e, r⟩ => ⟨u, e, PtrRel.mono h r⟩
 | .bool _, _, e | .int _ _, _, e | .str _, _, e | .nilptr, _, e | .nil, _, e | .ro _ _, _, e | .rp _ _, _, e | .rd _ _, _, e | .re _ _ _, _, e | .nilfunc, _, e | .nilif, _, e | .mh, _, e => FRel.mono hz e
theorem FRel.wrel {η : Eta} {Z : Zeta} : ∀ {x : W} {v : Value}, FRel Z x v → WRel η Z x v
 | .bool _, _, e | .int _ _, _, e | .str _, _, e | .nilptr, _, e | .nil, _, e | .ro _ _, _, e | .rp _ _, _, e | .rd _ _, _, e | .re _ _ _, _, e | .nilfunc, _, e | .nilif, _, e => e
 | .func f caps, v, e => by
   simp only [FRel] at e
   obtain ⟨rfl, rfl⟩ := e
   exact ⟨[], rfl, trivial⟩
 | .ptr _ _, _, e => by simp only [FRel] at e
 | .pe _ _ _, _, e => by simp only [FRel] at e
 | .sl _ _ _ _, _, e => by simp only [FRel] at e
 | .yield _, _, e => by simp only [FRel] at e
 | .dead, _, e => by simp only [FRel] at e
 | .mp _, _, e => by simp only [FRel] at e
 | .mh, _, e => by simp only [FRel] at e
 | .ba _, _, e => by simp only [FRel] at e
 | .meth _ _ _, _, e => by simp only [FRel] at e
def W.clean : W → Bool
 | .ptr _ _ | .pe _ _ _ | .sl _ _ _ _ | .yield _ | .dead | .mp _ | .mh | .ba _ | .meth _ _ _ => false
 | .func _ caps => caps.isEmpty
 | _ => true
def D.w : (d : D) → d.ty → W
 | .int k, n => .int k n
 | .bool, b => .bool b
 | .str, s => .str s
 | .sl d, l => .rd d l
theorem D.w_wrel {η : Eta} {Z : Zeta} : ∀ (d : D) {x : d.ty} {v : Value}, WRel η Z (d.w x) v ↔ DRel Z d x v
 | .int _, _, _ => by simp only [D.w, WRel, FRel, DRel]
 | .bool, _, _ => by simp only [D.w, WRel, FRel, DRel]
 | .str, _, _ => by simp only [D.w, WRel, FRel, DRel]
 | .sl _, _, _ => by simp only [D.w, WRel, FRel]
theorem D.w_live : ∀ (d : D) (x : d.ty), d.w x ≠ .dead
 | .int _, _ => by simp [D.w]
 | .bool, _ => by simp [D.w]
 | .str, _ => by simp [D.w]
 | .sl _, _ => by simp [D.w]
def D.of : (d : D) → W → Option d.ty
 | .int k, .int k' n => if k' = k then some n else none
 | .bool, .bool b => some b
 | .str, .str s => some s
 | .sl d, .rd d' l => if h : d' = d then some (h ▸ l) else none
 | .sl d, .nil => some ([] : List d.ty)
 | _, _ => none
def VRel (η : Eta) (Z : Zeta) : V → Value → Prop
 | .c x, v => x ≠ .dead ∧ WRel η Z x v
 | .agg cs, v => ∃ vs, v = .agg vs.toArray ∧ (∀ x ∈ cs, x ≠ .dead) ∧ LRel (WRel η Z) cs vs
def ARel (η : Eta) (Z : Zeta) : A → Value → Prop
 | .p x, v => VRel η Z x v
 | .tup xs, v => ∃ vs, v = .tuple vs.toArray ∧ LRel (VRel η Z) xs vs
 | .cond c x, v => (c → VRel η Z x v) ∧ (¬ c → v = undef)
 | .dec b, v => v = .bool b
theorem VRel.mono {η η' : Eta} {Z Z' : Zeta} (h : η.le η') (hz : Z.le Z') : ∀ {x : V} {v : Value}, VRel η Z x v → VRel η' Z' x v
 | .c _, _, ⟨n, e⟩ => ⟨n, WRel.mono h hz e⟩
 | .agg _, _, ⟨vs, e, n, r⟩ => ⟨vs, e, n, r.mono fun _ _ => WRel.mono h hz⟩
theorem ARel.mono {η η' : Eta} {Z Z' : Zeta} (h : η.le η') (hz : Z.le Z') : ∀ {x : A} {v : Value}, ARel η Z x v → ARel η' Z' x v
 | .p _, _, e => VRel.mono h hz e
 | .tup _, _, ⟨vs, e, r⟩ => ⟨vs, e, r.mono fun _ _ => VRel.mono h hz⟩
 | .cond _ _, _, e => ⟨fun hc => VRel.mono h hz (e.1 hc), e.2⟩
 | .dec _, _, e => e
end Go.Loom

namespace Go.Loom
open Go.RowKit
open Go.Mill (T)

/-! ### Frames -/
abbrev Fr := T A
def FrRel (n : Nat) (η : Eta) (Z : Zeta) (F : Fr) (tmps : Array Value) : Prop := tmps.size = n ∧ ∀ i x, F.get i = some x → ∃ v, tmps[i]? = some v ∧ ARel η Z x v
theorem FrRel.mono {n : Nat} {η η' : Eta} {Z Z' : Zeta} (h : η.le η') (hz : Z.le Z') {F : Fr} {tmps : Array Value} (r : FrRel n η Z F tmps) : FrRel n η' Z' F tmps :=
 ⟨r.1, fun i x e => let ⟨v, a, b⟩ := r.2 i x e; ⟨v, a, ARel.mono h hz b⟩⟩
theorem FrRel.set {n : Nat} {η : Eta} {Z : Zeta} {F : Fr} {tmps : Array Value} (r : FrRel n η Z F tmps) {i : Nat} {x : A} {v : Value} (hi : i < n) (h : ARel η Z x v) :
 FrRel n η Z (F.set i x) (tmps.setIfInBounds i v) := by
 refine ⟨by simpa using r.1, fun j y e => ?_⟩
 rw [T.get_set] at e
 by_cases hj : j = i
 · subst hj
   rw [if_pos rfl] at e
   cases e
   exact ⟨v, by rw [Array.getElem?_setIfInBounds_self_of_lt (by rw [r.1]; exact hi)], h⟩
 · rw [if_neg hj] at e
   obtain ⟨u, a, b⟩ := r.2 j y e
   exact ⟨u, by rw [Array.getElem?_setIfInBounds_ne (by omega)]; exact a, b⟩

/-! ### The store -/
inductive Fd where
 | c (x : W)
 | a (n : Nat) (d : D) (l : List d.ty)
 | m (kd vd : D) (l : List (kd.ty × vd.ty))
def entW (kd vd : D) : List (kd.ty × vd.ty) → List W
 | [] => []
 | (k, v) :: l => kd.w k :: vd.w v :: entW kd vd l
def Fd.cells : Fd → List W
 | .c x => [x]
 | .a _ d l => l.map d.w
 | .m kd vd l => .mh :: entW kd vd l
structure Ob where
 ty : TypeId
 fs : List Fd
def Ob.cells (o : Ob) : List W := o.fs.flatMap Fd.cells
def Ob.of (ty : TypeId) (cs : List W) : Ob := ⟨ty, cs.map .c⟩
theorem flat_c (cs : List W) : (cs.map Fd.c).flatMap Fd.cells = cs := by
 induction cs with
 | nil => rfl
 | cons x cs ih => simp [Fd.cells, ih]
@[simp] theorem Ob.of_cells (ty : TypeId) (cs : List W) : (Ob.of ty cs).cells = cs := flat_c cs
@[simp] theorem Ob.of_ty (ty : TypeId) (cs : List W) : (Ob.of ty cs).ty = ty := rfl
structure Gh where
 l : Nat
 d : D
 ys : List d.ty
 two : Bool := false
structure Sto where
 next : Nat
 objs : List (Nat × Ob)
 ghost : Option Gh := none
def find (l : List (Nat × Ob)) (n : Nat) : Option Ob :=
 match l with
 | [] => none
 | (k, o) :: l => if k = n then some o else find l n
def Sto.get (S : Sto) (n : Nat) : Option Ob := find S.objs n
def put (l : List (Nat × Ob)) (n : Nat) (o : Ob) : List (Nat × Ob) :=
 match l with
 | [] => []
 | (k, x) :: l => if k = n then (k, o) :: l else (k, x) :: put l n o
def del (l : List (Nat × Ob)) (n : Nat) : List (Nat × Ob) :=
 match l with
 | [] => []
 | (k, x) :: l => if k = n then del l n else (k, x) :: del l n
def Sto.put (S : Sto) (n : Nat) (o : Ob) : Sto := { S with objs := Loom.put S.objs n o }
def Sto.del (S : Sto) (n : Nat) : Sto := { S with objs := Loom.del S.objs n }
def Sto.add (S : Sto) (o : Ob) : Sto := { S with next := S.next + 1, objs := S.objs ++ [(S.next, o)] }
theorem find_put {l : List (Nat × Ob)} {n m : Nat} {o : Ob} : find (put l n o) m = if m = n then (find l n).map (fun _ => o) else find l m := by
 induction l with
 | nil => simp [put, find]
 | cons x l ih =>
   obtain ⟨k, x⟩ := x
   simp only [put]
   by_cases hk : k = n
   · subst hk
     rw [if_pos rfl]
     simp only [find]
     by_cases hm : m = k
     · subst hm; simp
     · rw [if_neg (by omega), if_neg hm, if_neg (by omega)]
   · rw [if_neg hk]
     simp only [find, ih]
     by_cases hm : m = n
     · subst hm; rw [if_neg hk, if_pos rfl, if_pos rfl, if_neg hk]
     · rw [if_neg hm, if_neg hm]
theorem find_del {l : List (Nat × Ob)} {n m : Nat} : find (del l n) m = if m = n then none else find l m := by
 induction l with
 | nil => simp [del, find]
 | cons x l ih =>
   obtain ⟨k, x⟩ := x
   simp only [del]
   by_cases hk : k = n
   · subst hk
     rw [if_pos rfl, ih]
     simp only [find]
     by_cases hm : m = k
     · rw [if_pos hm, if_pos hm]
     · rw [if_neg hm, if_neg hm, if_neg (by omega)]
   · rw [if_neg hk]
     simp only [find, ih]
     by_cases hm : m = n
     · subst hm; rw [if_neg hk, if_pos rfl, if_pos rfl]
     · rw [if_neg hm, if_neg hm]
theorem find_append {l l' : List (Nat × Ob)} {m : Nat} : find (l ++ l') m = match find l m with | some o => some o | none => find l' m := by
 induction l with
 | nil => simp [find]
 | cons x l ih =>
   obtain ⟨k, x⟩ := x
   simp only [List.cons_append, find]
   by_cases hk : k = m
   · rw [if_pos hk, if_pos hk]
   · rw [if_neg hk, if_neg hk, ih]
theorem Sto.get_put {S : Sto} {n m : Nat} {o : Ob} : (S.put n o).get m = if m = n then (S.get n).map (fun _ => o) else S.get m := find_put
theorem Sto.get_del {S : Sto} {n m : Nat} : (S.del n).get m = if m = n then none else S.get m := find_del

def Ob.isM (o : Ob) : Prop := o.cells[0]? = some .mh
def EntRel (η : Eta) (Z : Zeta) : List W → List MapEntry → Prop
 | [], [] => True
 | k :: v :: l, e :: es => (k ≠ .dead ∧ WRel η Z k e.key) ∧ (v ≠ .dead ∧ WRel η Z v e.val) ∧ EntRel η Z l es
 | _, _ => False
theorem EntRel.map {η η' : Eta} {Z Z' : Zeta} {g : W → W → Prop} (h : ∀ x y v, g x y → WRel η Z x v → y ≠ .dead ∧ WRel η' Z' y v) : ∀ {l l' : List W} {es : List MapEntry}, l'.length = l.length → (∀ (i : Nat) y, l'[i]? = some y → ∃ x, l[i]? = some x ∧ g x y) → EntRel η Z l es → EntRel η' Z' l' es
 | [], [], [], _, _, _ => trivial
 | k :: v :: l, [], _, e, _, _ => by simp at e
 | k :: v :: l, [_], _, e, _, _ => by simp at e
 | k :: v :: l, k' :: v' :: l', e :: es, hl, hg, ⟨⟨_, h1⟩, ⟨_, h2⟩, h3⟩ => by
   obtain ⟨x, hx, gx⟩ := hg 0 k' rfl
   obtain ⟨y, hy, gy⟩ := hg 1 v' rfl
   cases hx; cases hy
   exact ⟨h _ _ _ gx h1, h _ _ _ gy h2, EntRel.map h (by simpa using hl) (fun i y hy => by simpa using hg (i + 2) y (by simpa using hy)) h3⟩
 | [_], _, _, _, _, h => by simp [EntRel] at h
theorem EntRel.mono {η η' : Eta} {Z Z' : Zeta} (h : η.le η') (hz : Z.le Z') : ∀ {l : List W} {es : List MapEntry}, EntRel η Z l es → EntRel η' Z' l es
 | [], [], _ => trivial
 | _ :: _ :: _, _ :: _, ⟨⟨a, b⟩, ⟨c, d⟩, e⟩ => ⟨⟨a, b.mono h hz⟩, ⟨c, d.mono h hz⟩, EntRel.mono h hz e⟩
 | [_], _, h => by simp [EntRel] at h
structure Lies (η : Eta) (Z : Zeta) (o : Ob) (p : Place) (w : World) : Prop where
 there : ¬ o.isM → ∃ c fz, w.heap[p.block]? = some (.cells c o.ty fz) ∧ p.off + p.room ≤ c.size ∧ (∀ (i : Nat) x, o.cells[i]? = some x → ∃ v, c[p.off + i]? = some v ∧ WRel η Z x v ∧ v.oneCell' = true) ∧
  (∀ k, p.off ≤ k → k < c.size → ¬ (fz.1 ≤ k ∧ k < fz.2))
 size : ¬ o.isM → o.cells.length ≤ p.room
 maps : o.isM → ∃ es clock, w.heap[p.block]? = some (.map es clock) ∧ EntRel η Z o.cells.tail es.toList
def dataO : Obj → Bool
 | .cells _ _ _ => true
 | .map _ _ => true
 | _ => false
theorem Lies.data {η : Eta} {Z : Zeta} {o : Ob} {p : Place} {w : World} (L : Lies η Z o p w) : ∃ ob, w.heap[p.block]? = some ob ∧ dataO ob = true := by
 by_cases h : o.isM
 · obtain ⟨es, k, e, _⟩ := L.maps h; exact ⟨_, e, rfl⟩
 · obtain ⟨c, fz, e, _⟩ := L.there h; exact ⟨_, e, rfl⟩
structure St (base : Nat) (η : Eta) (Z : Zeta) (S : Sto) (w : World) : Prop where
 objs : ∀ n o p, S.get n = some o → η n = some p → base ≤ p.block ∧ Z p.block = none ∧ Lies η Z o p w
 ghost : ∀ n o, S.get n = some o → η n = none → o.cells = []
 known : ∀ n o, S.get n = some o → n < S.next
 inj : ∀ n n' o o' p p', S.get n = some o → S.get n' = some o' → n ≠ n' → η n = some p → η n' = some p' → p.block ≠ p'.block
 zs : ∀ b cs, Z b = some cs → ∃ ty fz, w.heap[b]? = some (.cells cs ty fz)
 fresh : ∀ n, S.next ≤ n → η n = none
 basele : base ≤ w.heap.size
theorem St.lt {base : Nat} {η : Eta} {Z : Zeta} {S : Sto} {w : World} (R : St base η Z S w) {n : Nat} {p : Place} (h : η n = some p) : n < S.next := by
 rcases Nat.lt_or_ge n S.next with k | k
 · exact k
 · rw [R.fresh n k] at h; cases h
theorem heap_lt {w : World} {b : Nat} {o : Obj} (h : w.heap[b]? = some o) : b < w.heap.size := by
 rcases Nat.lt_or_ge b w.heap.size with k | k
 · exact k
 · rw [Array.getElem?_eq_none k] at h; cases h
theorem St.block_lt {base : Nat} {η : Eta} {Z : Zeta} {S : Sto} {w : World} (R : St base η Z S w) {n : Nat} {o : Ob} {p : Place} (h : S.get n = some o) (hp : η n = some p) : p.block < w.heap.size := by
 obtain ⟨_, _, L⟩ := R.objs n o p h hp
 obtain ⟨c, hc, _⟩ := L.data
 exact heap_lt hc
theorem St.z_lt {base : Nat} {η : Eta} {Z : Zeta} {S : Sto} {w : World} (R : St base η Z S w) {b : Nat} {c : Array Value} (h : Z b = some c) : b < w.heap.size := by
 obtain ⟨ty, fz, e⟩ := R.zs b c h; exact heap_lt e

/-! ### What a step may do -/
def Own (η : Eta) (S : Sto) (b : Nat) : Prop := ∃ n o p, S.get n = some o ∧ η n = some p ∧ p.block = b
structure Step (η : Eta) (Z : Zeta) (S : Sto) (w : World) (η' : Eta) (Z' : Zeta) (S' : Sto) (w' : World) : Prop where
 os : w'.os = w.os
 tape : w'.tape = w.tape
 output : w'.output = w.output
 size : w.heap.size ≤ w'.heap.size
 block : ∀ b, b < w.heap.size → ¬ Own η S b → w'.heap[b]? = w.heap[b]?
 own : ∀ b, Own η' S' b → Own η S b ∨ w.heap.size ≤ b
 zle : Z.le Z'
 znew : ∀ b c, Z' b = some c → Z b = some c ∨ Own η S b ∨ w.heap.size ≤ b
 gh : S'.ghost = S.ghost
theorem Step.refl (η : Eta) (Z : Zeta) (S : Sto) (w : World) : Step η Z S w η Z S w :=
 ⟨rfl, rfl, rfl, Nat.le_refl _, fun _ _ _ => rfl, fun _ h => .inl h, Zeta.le.refl _, fun _ _ h => .inl h, rfl⟩
theorem Step.trans {η η1 η2 : Eta} {Z Z1 Z2 : Zeta} {S S1 S2 : Sto} {w w1 w2 : World} (h : Step η Z S w η1 Z1 S1 w1) (k : Step η1 Z1 S1 w1 η2 Z2 S2 w2) : Step η Z S w η2 Z2 S2 w2 where
 os := k.os.trans h.os
 tape := k.tape.trans h.tape
 output := k.output.trans h.output
 size := Nat.le_trans h.size k.size
 block := fun b hb ho => (k.block b (Nat.lt_of_lt_of_le hb h.size) (fun ho' => by
  rcases h.own b ho' with hh | hh
  · exact ho hh
  · omega)).trans (h.block b hb ho)
 own := fun b ho => by
  rcases k.own b ho with hh | hh
  · exact h.own b hh
  · exact .inr (Nat.le_trans h.size hh)
 zle := h.zle.trans k.zle
 znew := fun b c hc => by
  rcases k.znew b c hc with hh | hh | hh
  · exact h.znew b c hh
  · exact .inr (h.own b hh)
  · exact .inr (.inr (Nat.le_trans h.size hh))
 gh := k.gh.trans h.gh

structure Goes (base : Nat) (η : Eta) (Z : Zeta) (S : Sto) (w : World) (η' : Eta) (S' : Sto) (w' : World) : Prop where
 le : η.le η'
 st : St base η' Z S' w'
 step : Step η Z S w η' Z S' w'
theorem Goes.refl {base : Nat} {η : Eta} {Z : Zeta} {S : Sto} {w : World} (R : St base η Z S w) : Goes base η Z S w η S w := ⟨Eta.le.refl _, R, Step.refl _ _ _ _⟩

/-! ### A new object -/
def Eta.add (η : Eta) (n : Nat) (p : Place) : Eta := fun i => if i = n then some p else η i
theorem Eta.add_self {η : Eta} {n : Nat} {p : Place} : (η.add n p) n = some p := by unfold Eta.add; rw [if_pos rfl]
theorem Eta.add_ne {η : Eta} {n m : Nat} {p : Place} (h : m ≠ n) : (η.add n p) m = η m := by unfold Eta.add; rw [if_neg h]
theorem Eta.le_add {η : Eta} {n : Nat} {p : Place} (h : η n = none) : η.le (η.add n p) := by
 intro i q e
 unfold Eta.add
 by_cases hi : i = n
 · subst hi; rw [h] at e; cases e
 · rw [if_neg hi]; exact e
theorem Lies.mono {η η' : Eta} {Z Z' : Zeta} {o : Ob} {p : Place} {w w' : World} (h : η.le η') (hz : Z.le Z') (L : Lies η Z o p w) (e : w'.heap[p.block]? = w.heap[p.block]?) : Lies η' Z' o p w' := by
 refine ⟨fun hm => ?_, L.size, fun hm => ?_⟩
 · obtain ⟨c, fz, h1, h2, h3, h4⟩ := L.there hm
   exact ⟨c, fz, e.trans h1, h2, fun i x hx => let ⟨v, a, b, d⟩ := h3 i x hx; ⟨v, a, b.mono h hz, d⟩, h4⟩
 · obtain ⟨es, k, h1, h2⟩ := L.maps hm
   exact ⟨es, k, e.trans h1, h2.mono h hz⟩
theorem Sto.get_add {S : Sto} {o : Ob} {m : Nat} (h : S.get S.next = none) : (S.add o).get m = if m = S.next then some o else S.get m := by
 show find (S.objs ++ [(S.next, o)]) m = _
 rw [find_append]
 by_cases hm : m = S.next
 · subst hm
   have : find S.objs S.next = none := h
   rw [this, if_pos rfl]
   simp [find]
 · rw [if_neg hm]
   show (match find S.objs m with | some o => some o | none => find [(S.next, o)] m) = find S.objs m
   cases e : find S.objs m with
   | some x => rfl
   | none => simp only [find]; rw [if_neg (by omega)]
theorem St.get_next {base : Nat} {η : Eta} {Z : Zeta} {S : Sto} {w : World} (R : St base η Z S w) : S.get S.next = none := by
 cases e : S.get S.next with
 | none => rfl
 | some o =>
   exact absurd (R.known _ _ e) (Nat.lt_irrefl _)
theorem St.push {base : Nat} {η : Eta} {Z : Zeta} {S : Sto} {w w' : World} (R : St base η Z S w) (o : Ob) (ob : Obj) (room : Nat) (hw : w'.heap = w.heap.push ob) (hos : w'.os = w.os) (htape : w'.tape = w.tape) (hout : w'.output = w.output)
 (hL : ∀ η', η.le η' → Lies η' Z o ⟨w.heap.size, 0, room⟩ w') :
 Goes base η Z S w (η.add S.next ⟨w.heap.size, 0, room⟩) (S.add o) w' ∧ (η.add S.next ⟨w.heap.size, 0, room⟩) S.next = some ⟨w.heap.size, 0, room⟩ := by
 have hfr := R.fresh S.next (Nat.le_refl _)
 have hle : η.le (η.add S.next ⟨w.heap.size, 0, room⟩) := Eta.le_add hfr
 have hget : ∀ m, (S.add o).get m = if m = S.next then some o else S.get m := fun m => Sto.get_add R.get_next
 have hold : ∀ b, b < w.heap.size → w'.heap[b]? = w.heap[b]? := fun b hb => by rw [hw, Array.getElem?_push, if_neg (by omega)]
 refine ⟨⟨hle, ⟨?_, ?_, ?_, ?_, ?_, ?_, ?_⟩, ⟨hos, htape, hout, by rw [hw]; simp, fun b hb _ => hold b hb, ?_, Zeta.le.refl _, fun _ _ h => .inl h, rfl⟩⟩, Eta.add_self⟩
 · intro n x q hx hq
   rw [hget] at hx
   by_cases hn : n = S.next
   · subst hn
     rw [if_pos rfl] at hx; cases hx
     rw [Eta.add_self] at hq; cases hq
     refine ⟨R.basele, ?_, hL _ hle⟩
     cases e : Z w.heap.size with
     | none => rfl
     | some cs => have := R.z_lt e; omega
   · rw [if_neg hn] at hx
     rw [Eta.add_ne hn] at hq
     obtain ⟨hb, hz, L⟩ := R.objs n x q hx hq
     exact ⟨hb, hz, L.mono hle (Zeta.le.refl _) (hold _ (R.block_lt hx hq))⟩
 · intro n x hx hq
   rw [hget] at hx
   by_cases hn : n = S.next
   · subst hn
     rw [Eta.add_self] at hq; cases hq
   · rw [if_neg hn] at hx
     rw [Eta.add_ne hn] at hq
     exact R.ghost n x hx hq
 · intro n x hx
   show n < S.next + 1
   rw [hget] at hx
   by_cases hn : n = S.next
   · omega
   · rw [if_neg hn] at hx
     have := R.known n x hx
     omega
 · intro n n' x x' p p' hx hx' hne hp hp'
   rw [hget] at hx hx'
   by_cases hn : n = S.next
   · subst hn
     rw [Eta.add_self] at hp; cases hp
     rw [if_neg (Ne.symm hne)] at hx'
     rw [Eta.add_ne (Ne.symm hne)] at hp'
     have := R.block_lt hx' hp'
     show w.heap.size ≠ _
     omega
   · rw [if_neg hn] at hx
     rw [Eta.add_ne hn] at hp
     by_cases hn' : n' = S.next
     · subst hn'
       rw [Eta.add_self] at hp'; cases hp'
       have := R.block_lt hx hp
       show _ ≠ w.heap.size
       omega
     · rw [if_neg hn'] at hx'
       rw [Eta.add_ne hn'] at hp'
       exact R.inj n n' x x' p p' hx hx' hne hp hp'
 · intro b cs hb
   obtain ⟨ty, fz, e⟩ := R.zs b cs hb
   exact ⟨ty, fz, (hold b (heap_lt e)).trans e⟩
 · intro n hn
   rw [Eta.add_ne (by have : (S.add o).next = S.next + 1 := rfl; omega)]
   exact R.fresh n (by have : (S.add o).next = S.next + 1 := rfl; omega)
 · rw [hw]; have := R.basele; simp; omega
 · rintro b ⟨n, x, p, hx, hp, rfl⟩
   rw [hget] at hx
   by_cases hn : n = S.next
   · subst hn
     rw [Eta.add_self] at hp; cases hp
     exact .inr (Nat.le_refl _)
   · rw [if_neg hn] at hx
     rw [Eta.add_ne hn] at hp
     exact .inl ⟨n, x, p, hx, hp, rfl⟩

theorem St.new {base : Nat} {η : Eta} {Z : Zeta} {S : Sto} {w w' : World} (R : St base η Z S w) (o : Ob) (c : Array Value) {fz : Nat × Nat} (hw : w'.heap = w.heap.push (.cells c o.ty fz)) (hos : w'.os = w.os) (htape : w'.tape = w.tape) (hout : w'.output = w.output)
 (hlen : o.cells.length ≤ c.size) (hc : ∀ (i : Nat) x, o.cells[i]? = some x → ∃ v, c[i]? = some v ∧ WRel η Z x v ∧ v.oneCell' = true) (hfz : ∀ k, k < c.size → ¬ (fz.1 ≤ k ∧ k < fz.2)) :
 Goes base η Z S w (η.add S.next ⟨w.heap.size, 0, c.size⟩) (S.add o) w' ∧ (η.add S.next ⟨w.heap.size, 0, c.size⟩) S.next = some ⟨w.heap.size, 0, c.size⟩ := by
 refine R.push o (.cells c o.ty fz) c.size hw hos htape hout fun η' hle => ⟨fun _ => ⟨c, fz, by simp [hw], by simp, ?_, ?_⟩, fun _ => hlen, fun hm => ?_⟩
 · intro i x hx
   obtain ⟨v, a, b, d⟩ := hc i x hx
   exact ⟨v, by simpa using a, b.mono hle (Zeta.le.refl _), d⟩
 · intro k _ hk; exact hfz k hk
 · obtain ⟨v, _, b, _⟩ := hc 0 _ hm
   simp only [WRel, FRel] at b
/-! ### Objects that are no maps -/
def W.okC : W → Bool
 | .mh => false
 | _ => true
def Fd.okF : Fd → Bool
 | .c x => x.okC
 | .a _ _ _ => true
 | .m _ _ _ => false
def okFs : List Fd → Bool
 | [] => true
 | f :: fs => f.okF && okFs fs
def Sto.getC (S : Sto) (n : Nat) : Option Ob := match S.get n with
 | some o => bif okFs o.fs then some o else none
 | none => none
/-! ### Reading and writing an object -/
theorem St.read {base : Nat} {η : Eta} {Z : Zeta} {S : Sto} {w : World} (R : St base η Z S w) {n : Nat} {o : Ob} {p : Place} (h : S.get n = some o) (hp : η n = some p) (hm : ¬ o.isM) {i : Nat} {x : W} (hx : o.cells[i]? = some x) :
 ∃ v, w.cell? ⟨p.block, p.off + i, none⟩ = some v ∧ WRel η Z x v ∧ v.oneCell' = true := by
 obtain ⟨_, _, L⟩ := R.objs n o p h hp
 obtain ⟨c, fz, hc, _, hv, _⟩ := L.there hm
 obtain ⟨v, a, b, d⟩ := hv i x hx
 exact ⟨v, by simp [World.cell?, hc, a], b, d⟩
theorem St.write {base : Nat} {η : Eta} {Z : Zeta} {S : Sto} {w w' : World} (R : St base η Z S w) {n : Nat} {o : Ob} {p : Place} (h : S.get n = some o) (hp : η n = some p) {o' : Ob}
 (hos : w'.os = w.os) (htape : w'.tape = w.tape) (hout : w'.output = w.output) (hsz : w'.heap.size = w.heap.size) (hother : ∀ b, b ≠ p.block → w'.heap[b]? = w.heap[b]?)
 (L' : Lies η Z o' p w') : Goes base η Z S w η (S.put n o') w' := by
 have hget : ∀ m, (S.put n o').get m = if m = n then some o' else S.get m := fun m => by rw [Sto.get_put, h]; rfl
 have hown : ∀ b, Own η (S.put n o') b → Own η S b := by
  rintro b ⟨m, x, q, hx, hq, rfl⟩
  rw [hget] at hx
  by_cases hm : m = n
  · subst hm; exact ⟨m, o, q, h, hq, rfl⟩
  · rw [if_neg hm] at hx; exact ⟨m, x, q, hx, hq, rfl⟩
 refine ⟨Eta.le.refl _, ⟨?_, ?_, ?_, ?_, ?_, R.fresh, by rw [hsz]; exact R.basele⟩, ⟨hos, htape, hout, by omega, ?_, fun b hb => .inl (hown b hb), Zeta.le.refl _, fun _ _ hh => .inl hh, rfl⟩⟩
 · intro m x q hx hq
   rw [hget] at hx
   by_cases hm : m = n
   · subst hm
     rw [if_pos rfl] at hx; cases hx
     rw [hp] at hq; cases hq
     obtain ⟨hb, hz, _⟩ := R.objs m o p h hp
     exact ⟨hb, hz, L'⟩
   · rw [if_neg hm] at hx
     obtain ⟨hb, hz, L⟩ := R.objs m x q hx hq
     exact ⟨hb, hz, L.mono (Eta.le.refl _) (Zeta.le.refl _) (hother _ (R.inj m n x o q p hx h hm hq hp))⟩
 · intro m x hx hq
   rw [hget] at hx
   by_cases hm : m = n
   · subst hm; rw [hp] at hq; cases hq
   · rw [if_neg hm] at hx; exact R.ghost m x hx hq
 · intro m x hx
   show m < S.next
   rw [hget] at hx
   by_cases hm : m = n
   · subst hm; exact R.known m o h
   · rw [if_neg hm] at hx; exact R.known m x hx
 · intro m m' x x' q q' hx hx' hne hq hq'
   rw [hget] at hx hx'
   have f : ∀ k y, (if k = n then some (o' : Ob) else S.get k) = some y → ∃ z, S.get k = some z := by
    intro k y hy
    by_cases hk : k = n
    · subst hk; exact ⟨o, h⟩
    · rw [if_neg hk] at hy; exact ⟨y, hy⟩
   obtain ⟨z, hz⟩ := f m x hx
   obtain ⟨z', hz'⟩ := f m' x' hx'
   exact R.inj m m' z z' q q' hz hz' hne hq hq'
 · intro b c hb
   obtain ⟨ty, fz, e⟩ := R.zs b c hb
   obtain ⟨_, hz, _⟩ := R.objs n o p h hp
   exact ⟨ty, fz, (hother b (fun e => by rw [e, hz] at hb; cases hb)).trans e⟩
 · intro b _ ho
   exact hother b fun e => ho ⟨n, o, p, h, hp, e.symm⟩
end Go.Loom

namespace Go.Loom
open Go.RowKit
open Go.Mill (T)

/-! ### Types -/
def aggB (P : Program) (t : TypeId) : Option Bool := match P.underlying t with | some (.struct _) => some true | some (.array _ _) => some true | some _ => some false | none => none
def szOf (P : Program) (t : TypeId) : Option Nat := match P.info? t with | some i => some i.size | none => none
theorem szOf_run {P : Program} {t : TypeId} {n : Nat} (e : szOf P t = some n) (w : World) : (sizeOf t).run P w = .ok n w := by
 unfold szOf at e
 split at e
 · rename_i i hi; cases e; simp [sizeOf, typeInfo, hi]
 · cases e

/-! ### Constants -/
def ofW : Value → Option W
 | .bool b => some (.bool b)
 | .int k n => some (.int k n)
 | .string s => some (.str s)
 | .pointer none => some .nilptr
 | .slice none 0 0 => some .nil
 | .nilFunc => some .nilfunc
 | .nilIface => some .nilif
 | _ => none
theorem ofW_rel {Z : Zeta} {v : Value} {x : W} (e : ofW v = some x) : FRel Z x v ∧ x ≠ .dead ∧ v.oneCell' = true := by
 unfold ofW at e
 split at e <;> cases e <;> simp [FRel, Value.oneCell']
def ofWs : List Value → Option (List W)
 | [] => some []
 | v :: l => match ofW v with | some x => (match ofWs l with | some r => some (x :: r) | none => none) | none => none
theorem ofWs_rel {η : Eta} {Z : Zeta} : ∀ {l : List Value} {xs : List W}, ofWs l = some xs → LRel (WRel η Z) xs l ∧ (∀ x ∈ xs, x ≠ .dead) ∧ (∀ v ∈ l, v.oneCell' = true)
 | [], xs, e => by cases e; exact ⟨trivial, by simp, by simp⟩
 | v :: l, xs, e => by
   simp only [ofWs] at e
   split at e
   · rename_i x hx
     split at e
     · rename_i r hr
       cases e
       obtain ⟨a, b, c⟩ := ofWs_rel (η := η) (Z := Z) hr
       obtain ⟨d, f, g⟩ := ofW_rel (Z := Z) hx
       refine ⟨⟨d.wrel, a⟩, ?_, ?_⟩
       · intro y hy; rcases List.mem_cons.1 hy with rfl | hy
         · exact f
         · exact b y hy
       · intro y hy; rcases List.mem_cons.1 hy with rfl | hy
         · exact g
         · exact c y hy
     · cases e
   · cases e
def ofV : Value → Option V
 | .agg cs => match ofWs cs.toList with | some xs => some (.agg xs) | none => none
 | v => match ofW v with | some x => some (.c x) | none => none
theorem ofV_rel {η : Eta} {Z : Zeta} {v : Value} {x : V} (e : ofV v = some x) : VRel η Z x v := by
 unfold ofV at e
 split at e
 · rename_i cs
   split at e
   · rename_i xs hxs
     cases e
     obtain ⟨a, b, _⟩ := ofWs_rel (η := η) (Z := Z) hxs
     exact ⟨cs.toList, by simp, b, a⟩
   · cases e
 · split at e
   · rename_i x hx
     cases e
     obtain ⟨a, b, _⟩ := ofW_rel (Z := Z) hx
     exact ⟨b, a.wrel⟩
   · cases e

/-! ### Conditions -/
inductive Cd where
 | t
 | p (c : Prop)
 | and (a b : Cd)
 | imp (g : Prop) (c : Cd)
def Cd.holds : Cd → Prop
 | .t => True
 | .p c => c
 | .and a b => a.holds ∧ b.holds
 | .imp g c => g → c.holds
instance : CoeSort Cd Prop := ⟨Cd.holds⟩
def Cd.list : Cd → List Prop
 | .t => []
 | .p c => [c]
 | .and a b => a.list ++ b.list
 | .imp g c => c.list.map (g → ·)
def allP : List Prop → Prop → Prop
 | [], k => k
 | p :: l, k => p ∧ allP l k
/-! ### Operands -/
inductive Opd where
 | tmp (t : Nat)
 | w (x : W)
 | agg (cs : List W)
def opd : Operand → Option Opd
 | .tmp t => some (.tmp t)
 | .const v => match ofV v with | some (.c x) => some (.w x) | some (.agg cs) => some (.agg cs) | none => none
 | .global _ => none
 | .func f => some (.w (.func f []))
noncomputable def evV (F : Fr) : Opd → Option (Cd × V)
 | .tmp t => match F.get t with | some (.p v) => some (.t, v) | some (.cond c v) => some (.p c, v) | some (.dec b) => some (.t, .c (.bool b)) | _ => none
 | .w x => some (.t, .c x)
 | .agg cs => some (.t, .agg cs)
theorem evV_rel {n : Nat} {η : Eta} {Z : Zeta} {F : Fr} {a : Act} (R : FrRel n η Z F a.tmps) {x' : Operand} {x : Opd} (hx : opd x' = some x) {c : Cd} {v : V} (e : evV F x = some (c, v)) (hc : c) : VRel η Z v (a.eval x') := by
 cases x' with
 | tmp t =>
   cases hx
   simp only [evV] at e
   split at e
   · rename_i v' hv
     cases e
     obtain ⟨u, hu, hr⟩ := R.2 t _ hv
     simpa [Act.eval, Array.getD_eq_getD_getElem?, hu, ARel] using hr
   · rename_i c' v' hv
     cases e
     obtain ⟨u, hu, hr⟩ := R.2 t _ hv
     simpa [Act.eval, Array.getD_eq_getD_getElem?, hu] using hr.1 hc
   · rename_i b hv
     cases e
     obtain ⟨u, hu, hr⟩ := R.2 t _ hv
     have hr' : u = .bool b := hr
     subst hr'
     have : a.eval (.tmp t) = .bool b := by simp [Act.eval, Array.getD_eq_getD_getElem?, hu]
     rw [this]
     exact ⟨by simp, by simp [WRel, FRel]⟩
   · cases e
 | const u =>
   simp only [opd] at hx
   split at hx
   · rename_i y hy; cases hx; cases e; exact ofV_rel hy
   · rename_i cs hy; cases hx; cases e; exact ofV_rel hy
   · cases hx
 | global g => cases hx
 | func f =>
   cases hx
   cases e
   exact ⟨by simp, [], rfl, trivial⟩
noncomputable def evC (F : Fr) (x : Opd) : Option (Cd × W) := match evV F x with | some (c, .c v) => some (c, v) | _ => none
theorem evC_rel {n : Nat} {η : Eta} {Z : Zeta} {F : Fr} {a : Act} (R : FrRel n η Z F a.tmps) {x' : Operand} {x : Opd} (hx : opd x' = some x) {c : Cd} {v : W} (e : evC F x = some (c, v)) (hc : c) : v ≠ .dead ∧ WRel η Z v (a.eval x') := by
 unfold evC at e
 split at e
 · rename_i c' v' h; cases e; exact evV_rel R hx h hc
 · cases e
noncomputable def evI (F : Fr) (x : Opd) : Option (Cd × IntKind × Int) := match evV F x with | some (c, .c (.int k n)) => some (c, k, n) | _ => none
theorem evI_rel {n : Nat} {η : Eta} {Z : Zeta} {F : Fr} {a : Act} (R : FrRel n η Z F a.tmps) {x' : Operand} {x : Opd} (hx : opd x' = some x) {c : Cd} {k : IntKind} {i : Int} (e : evI F x = some (c, k, i)) (hc : c) : a.eval x' = .int k i := by
 unfold evI at e
 split at e
 · rename_i c' k' n' h
   cases e
   have := (evV_rel R hx h hc).2
   simpa [WRel, FRel] using this
 · cases e
noncomputable def evB (F : Fr) (x : Opd) : Option (Cd × Bool) := match evV F x with | some (c, .c (.bool b)) => some (c, b) | _ => none
theorem evB_rel {n : Nat} {η : Eta} {Z : Zeta} {F : Fr} {a : Act} (R : FrRel n η Z F a.tmps) {x' : Operand} {x : Opd} (hx : opd x' = some x) {c : Cd} {b : Bool} (e : evB F x = some (c, b)) (hc : c) : a.eval x' = .bool b := by
 unfold evB at e
 split at e
 · rename_i c' b' h
   cases e
   have := (evV_rel R hx h hc).2
   simpa [WRel, FRel] using this
 · cases e
noncomputable def evS (F : Fr) (x : Opd) : Option (Cd × ByteArray) := match evV F x with | some (c, .c (.str s)) => some (c, s) | _ => none
end Go.Loom

namespace Go.Loom
open Go.RowKit
open Go.Mill (T)

def V.cells : V → List W
 | .c x => [x]
 | .agg cs => cs
def zeroWs (P : Program) (t : TypeId) : Option (List W) := match P.info? t with | some i => (match i.zero with | some z => ofWs z.cells.toList | none => none) | none => none
/-! ### Literals of structs -/
def putW (l : List W) (off : Nat) : List W → List W
 | [] => l
 | c :: cs => putW (l.set off c) (off + 1) cs
noncomputable def evBuild (F : Fr) : List W → List (Nat × Nat × Opd) → Option (Cd × List W)
 | cs, [] => some (.t, cs)
 | cs, (off, n, x) :: r => match evV F x with
   | some (p, v) => bif Nat.beq v.cells.length n && Nat.ble (off + n) cs.length then (match evBuild F (putW cs off v.cells) r with | some (q, out) => some (.and p q, out) | none => none) else none
   | none => none
def plcs (P : Program) : List Field → Option (List (Nat × Nat))
 | [] => some []
 | f :: l => match szOf P f.type, plcs P l with | some n, some r => some ((f.offset, n) :: r) | _, _ => none
def parts3 (pl : Nat → Option (Nat × Nat)) : List (Nat × Operand) → Option (List (Nat × Nat × Opd))
 | [] => some []
 | (i, x) :: l => match pl i, opd x, parts3 pl l with | some (o, n), some y, some r => some ((o, n, y) :: r) | _, _, _ => none
/-! ### Equal structs of plain fields -/
def eqD : D → W → W → Option Bool
 | .int _, .int k a, .int k' b => if k = k' then some (decide (a = b)) else none
 | .bool, .bool a, .bool b => some (a == b)
 | _, _, _ => none
def eqAt (xs ys : List W) : List (Nat × D) → Option Bool
 | [] => some true
 | (o, d) :: l => match xs[o]?, ys[o]? with
   | some x, some y => (match eqD d x y, eqAt xs ys l with | some b, some r => some (b && r) | _, _ => none)
   | _, _ => none
def kindD : TypeDesc → Option D
 | .int k => some (.int k)
 | .bool => some .bool
 | .string => some .str
 | _ => none
def plainFs (P : Program) : List Field → Option (List (Nat × D))
 | [] => some []
 | f :: l => if f.name = "_" then none else match P.underlying f.type with
   | some u => (match kindD u, plainFs P l with | some d, some r => some ((f.offset, d) :: r) | _, _ => none)
   | none => none

inductive Q where
 | move (x : Opd)
 | pick (c x y : Opd)
 | load (d : W) (x : Opd)
 | loadN (n : Nat) (x : Opd)
 | nilCheck (x : Opd)
 | ibin (op : BinOp) (x y : Opd)
 | idiv (op : BinOp) (x y : Opd)
 | shift (op : BinOp) (x y : Opd)
 | icmp (op : BinOp) (x y : Opd)
 | scmp (op : BinOp) (x y : Opd)
 | scat (x y : Opd)
 | beq (op : BinOp) (x y : Opd)
 | peq (neg : Bool) (x y : Opd)
 | ieq (neg : Bool) (x : Opd)
 | sdata (x : Opd)
 | neg (x : Opd)
 | not (x : Opd)
 | conv (k : IntKind) (x : Opd)
 | rune (x : Opd)
 | text (x : Opd)
 | slen (x : Opd)
 | llen (sz : Nat) (x : Opd)
 | ncap (x : Opd)
 | alen (n : Nat)
 | min (x y : Opd)
 | max (x y : Opd)
 | min3 (x y z : Opd)
 | max3 (x y z : Opd)
 | index (x i : Opd)
 | field (off : Nat) (d : W) (x : Opd)
 | fieldN (off n : Nat) (x : Opd)
 | fieldAddr (off : Nat) (x : Opd)
 | indexAddr (sz : Nat) (x i : Opd)
 | aindexAddr (len sz : Nat) (x i : Opd)
 | slice (sz : Nat) (x : Opd) (lo hi : Option Opd)
 | sslice (x : Opd) (lo hi : Option Opd)
 | extract (i : Nat) (x : Opd)
 | func (f : FuncId) (caps : List Opd)
 | mval (f : FuncId) (x : Opd)
 | build (z : List W) (parts : List (Nat × Nat × Opd))
 | aeq (op : BinOp) (l : List (Nat × D)) (x y : Opd)

def iop (op : BinOp) (k : IntKind) (a b : Int) : Int :=
 match op with
 | .add => k.wrap (a + b)
 | .sub => k.wrap (a - b)
 | .mul => k.wrap (a * b)
 | .and => k.wrap (BitVec.ofInt k.bits a &&& BitVec.ofInt k.bits b).toNat
 | .or => k.wrap (BitVec.ofInt k.bits a ||| BitVec.ofInt k.bits b).toNat
 | .xor => k.wrap (BitVec.ofInt k.bits a ^^^ BitVec.ofInt k.bits b).toNat
 | .andNot => k.wrap (BitVec.ofInt k.bits a &&& ~~~ (BitVec.ofInt k.bits b)).toNat
 | _ => 0
def ibinOk : BinOp → Bool
 | .add | .sub | .mul | .and | .or | .xor | .andNot => true
 | _ => false
def idivOp (op : BinOp) (k : IntKind) (a b : Int) : Int :=
 match op with
 | .quo => k.wrap (a.tdiv b)
 | _ => a.tmod b
def shiftOp (op : BinOp) (k : IntKind) (a b : Int) : Int :=
 match op with
 | .shl => k.wrap (a * 2 ^ (Min.min b.toNat k.bits))
 | _ => a.fdiv (2 ^ (Min.min b.toNat k.bits))
def icmpOp (op : BinOp) (a b : Int) : Bool :=
 match op with
 | .eql => decide (a = b)
 | .neq => !decide (a = b)
 | .lss => decide (a < b)
 | .leq => decide (a ≤ b)
 | .gtr => decide (b < a)
 | .geq => decide (b ≤ a)
 | _ => false
def isCmp : BinOp → Bool
 | .eql | .neq | .lss | .leq | .gtr | .geq => true
 | _ => false
def scmpOp (op : BinOp) (a b : ByteArray) : Bool :=
 match op with
 | .eql => decide (a = b)
 | .neq => !decide (a = b)
 | .lss => Op.bytesLess a.toList b.toList
 | .leq => Op.bytesLess a.toList b.toList || decide (a = b)
 | .gtr => !(Op.bytesLess a.toList b.toList || decide (a = b))
 | .geq => !Op.bytesLess a.toList b.toList
 | _ => false
def bAt (s : ByteArray) (i : Nat) : Int := ((s.data.toList.getD i 0).toNat : Int)
noncomputable def evO (F : Fr) (x : Option Opd) (d : Int) : Option (Cd × Int) :=
 match x with
 | none => some (.t, d)
 | some x => match evI F x with | some (c, _, n) => some (c, n) | none => none
noncomputable def evCaps (F : Fr) : List Opd → Option (Cd × List (Nat × Nat))
 | [] => some (.t, [])
 | x :: l => match evC F x with
   | some (c, .ptr n off) => (match evCaps F l with | some (d, r) => some (.and c d, (n, off) :: r) | none => none)
   | _ => none

def fdGet : List Fd → Nat → Option (Cd × Fd)
 | [], _ => none
 | .c x :: fs, k => match k with
   | 0 => some (.t, .c x)
   | k + 1 => fdGet fs k
 | .a n d l :: fs, k => match k with
   | 0 => some (.t, .a n d l)
   | k + 1 => bif Nat.blt (k + 1) n then none else match fdGet fs (k + 1 - n) with
     | some (c, f) => some (.and (.p (l.length = n)) c, f)
     | none => none
 | .m _ _ _ :: _, _ => none
def W.live : W → Bool
 | .dead => false
 | _ => true
def allLive : List W → Bool
 | [] => true
 | x :: l => x.live && allLive l
def holeAt : List Fd → Option (Nat × W)
 | [.a k _ l, .c x, .a k' _ _] => bif Nat.beq k 1 && Nat.beq k' 1 then some (l.length, x) else none
 | _ => none
noncomputable def qev (F : Fr) (S : Sto) : Q → Option (Cd × V)
 | .move x => evV F x
 | .pick c x y => match evB F c, evB F x, evB F y with
   | some (p, b), some (q, u), some (r, v) => some (.and p (.and (.imp (b = true) q) (.imp (b = false) r)), .c (.bool (bif b then u else v)))
   | _, _, _ => none
 | .load d x => match evC F x with
   | some (p, .ptr n off) => match S.getC n with
     | some o => match fdGet o.fs off with
       | some (q, .c x) => bif x.live then some (.and p q, .c x) else none
       | some (q, .a _ e l) => some (.and p (.and q (.p (0 < l.length))), .c (e.w (l.getD 0 e.zero)))
       | _ => none
     | none => none
   | some (p, .pe n off i) => match S.getC n with
     | some o => match holeAt o.fs with
       | some (k, x) => bif x.live && Nat.beq off 0 then some (.and p (.p (i = k)), .c x) else none
       | none => match fdGet o.fs off with
         | some (q, .a _ e l) => some (.and p (.and q (.p (i < l.length))), .c (e.w (l.getD i e.zero)))
         | some (_, .c _) => some (.and p (.p (off + i < o.cells.length ∧ o.cells.getD (off + i) d ≠ .dead)), .c (o.cells.getD (off + i) d))
         | _ => none
     | none => none
   | some (p, .rp cs off) => some (.and p (.p (off < cs.length)), .c (cs.getD off d))
   | some (p, .re e l i) => some (.and p (.p (i < l.length)), .c (e.w (l.getD i e.zero)))
   | _ => none
 | .loadN n x => match evC F x with
   | some (p, .ptr m off) => match S.getC m with
     | some o => bif Nat.ble (off + n) o.cells.length && allLive ((o.cells.drop off).take n) then some (p, .agg ((o.cells.drop off).take n)) else none
     | none => none
   | some (p, .rp cs off) => some (.and p (.p (off + n ≤ cs.length)), .agg ((cs.drop off).take n))
   | _ => none
 | .nilCheck x => match evC F x with
   | some (p, .ptr n off) => some (p, .c (.ptr n off))
   | some (p, .pe n off i) => some (p, .c (.pe n off i))
   | some (p, .rp cs off) => some (p, .c (.rp cs off))
   | some (p, .re e l i) => some (p, .c (.re e l i))
   | some (p, .func f caps) => some (p, .c (.func f caps))
   | some (p, .yield l) => some (p, .c (.yield l))
   | _ => none
 | .ibin op x y => match evI F x, evI F y with
   | some (p, k, a), some (q, k', b) => if k = k' then some (.and p q, .c (.int k (iop op k a b))) else none
   | _, _ => none
 | .idiv op x y => match evI F x, evI F y with
   | some (p, k, a), some (q, k', b) => if k = k' then some (.and p (.and q (.p (b ≠ 0))), .c (.int k (idivOp op k a b))) else none
   | _, _ => none
 | .shift op x y => match evI F x, evI F y with
   | some (p, k, a), some (q, _, b) => some (.and p (.and q (.p (0 ≤ b))), .c (.int k (shiftOp op k a b)))
   | _, _ => none
 | .icmp op x y => match evI F x, evI F y with
   | some (p, k, a), some (q, k', b) => if k = k' then some (.and p q, .c (.bool (icmpOp op a b))) else none
   | _, _ => none
 | .scmp op x y => match evS F x, evS F y with
   | some (p, a), some (q, b) => some (.and p q, .c (.bool (scmpOp op a b)))
   | _, _ => none
 | .scat x y => match evS F x, evS F y with
   | some (p, a), some (q, b) => some (.and p (.and q (.p (a.size + b.size ≤ 9223372036854775807))), .c (.str (a ++ b)))
   | _, _ => none
 | .beq op x y => match evB F x, evB F y with
   | some (p, a), some (q, b) => some (.and p q, .c (.bool (match op with | .eql => a == b | _ => !(a == b))))
   | _, _ => none
 | .peq neg x y => match evC F x, evC F y with
   | some (p, .nilptr), some (q, .nilptr) => some (.and p q, .c (.bool (!neg)))
   | some (p, .ptr _ _), some (q, .nilptr) => some (.and p q, .c (.bool neg))
   | some (p, .nilptr), some (q, .ptr _ _) => some (.and p q, .c (.bool neg))
   | some (p, .ptr n off), some (q, .ptr m off') => bif Nat.beq n m then some (.and p q, .c (.bool (bif neg then !(Nat.beq off off') else Nat.beq off off'))) else none
   | _, _ => none
 | .ieq neg x => match evC F x with
   | some (p, .nilif) => some (p, .c (.bool (!neg)))
   | _ => none
 | .sdata x => match evC F x with
   | some (p, .sl n off len sz) => bif Nat.beq sz 1 then some (.and p (.p (0 < len)), .c (.pe n 0 off)) else none
   | _ => none
 | .neg x => match evI F x with
   | some (p, k, a) => some (p, .c (.int k (k.wrap (0 - a))))
   | none => none
 | .not x => match evB F x with
   | some (p, a) => some (p, .c (.bool (!a)))
   | none => none
 | .conv k x => match evI F x with
   | some (p, _, a) => some (p, .c (.int k (k.wrap a)))
   | none => none
 | .rune x => match evI F x with
   | some (p, _, a) => some (p, .c (.str (Utf8.encode a)))
   | none => none
 | .text x => match evS F x with
   | some (p, s) => some (p, .c (.str s))
   | none => none
 | .slen x => match evS F x with
   | some (p, s) => some (p, .c (.int .i64 s.size))
   | none => none
 | .llen sz x => match evC F x with
   | some (p, .nil) => some (p, .c (.int .i64 0))
   | some (p, .sl _ _ len _) => some (p, .c (.int .i64 len))
   | some (p, .ro sz' cs) => if sz' = sz then some (p, .c (.int .i64 ((cs.length / sz : Nat) : Int))) else none
   | some (p, .rd _ l) => some (p, .c (.int .i64 (l.length : Int)))
   | _ => none
 | .ncap x => match evC F x with
   | some (p, .nil) => some (p, .c (.int .i64 0))
   | _ => none
 | .alen n => some (.t, .c (.int .i64 n))
 | .min x y => match evI F x, evI F y with
   | some (p, k, a), some (q, _, b) => some (.and p q, .c (.int k (Min.min a b)))
   | _, _ => none
 | .max x y => match evI F x, evI F y with
   | some (p, k, a), some (q, _, b) => some (.and p q, .c (.int k (Max.max a b)))
   | _, _ => none
 | .min3 x y z => match evI F x, evI F y, evI F z with
   | some (p, k, a), some (q, _, b), some (r, _, c) => some (.and p (.and q r), .c (.int k (Min.min (Min.min a b) c)))
   | _, _, _ => none
 | .max3 x y z => match evI F x, evI F y, evI F z with
   | some (p, k, a), some (q, _, b), some (r, _, c) => some (.and p (.and q r), .c (.int k (Max.max (Max.max a b) c)))
   | _, _, _ => none
 | .index x i => match evS F x, evI F i with
   | some (p, s), some (q, _, n) => some (.and p (.and q (.p (0 ≤ n ∧ n < s.size))), .c (.int .u8 (bAt s n.toNat)))
   | _, _ => none
 | .field off _ x => match evV F x with
   | some (p, .agg cs) => match cs[off]? with | some x => some (p, .c x) | none => none
   | _ => none
 | .fieldN off n x => match evV F x with
   | some (p, .agg cs) => bif Nat.ble (off + n) cs.length then some (p, .agg ((cs.drop off).take n)) else none
   | _ => none
 | .fieldAddr off x => match evC F x with
   | some (p, .ptr n o) => some (p, .c (.ptr n (o + off)))
   | some (p, .rp cs o) => some (p, .c (.rp cs (o + off)))
   | _ => none
 | .indexAddr sz x i => match evC F x, evI F i with
   | some (p, .sl n off len sz'), some (q, _, i) => if sz' = sz then some (.and p (.and q (.p (0 ≤ i ∧ i < len))), .c (bif Nat.beq sz 1 then .pe n 0 (off + i.toNat) else .ptr n (off + i.toNat * sz))) else none
   | some (p, .ro sz' cs), some (q, _, i) => if sz' = sz then some (.and p (.and q (.p (0 ≤ i ∧ i.toNat * sz < cs.length))), .c (.rp cs (i.toNat * sz))) else none
   | some (p, .rd d l), some (q, _, i) => if sz = 1 then some (.and p (.and q (.p (0 ≤ i ∧ i < (l.length : Int)))), .c (.re d l i.toNat)) else none
   | _, _ => none
 | .aindexAddr len sz x i => match evC F x, evI F i with
   | some (p, .ptr n off), some (q, _, i) => some (.and p (.and q (.p (0 ≤ i ∧ i < len))), .c (bif Nat.beq sz 1 then .pe n off i.toNat else .ptr n (off + i.toNat * sz)))
   | some (p, .rp cs off), some (q, _, i) => some (.and p (.and q (.p (0 ≤ i ∧ i < len))), .c (.rp cs (off + i.toNat * sz)))
   | _, _ => none
 | .slice sz x lo hi => match evC F x with
   | some (p, .nil) => match evO F lo 0, evO F hi 0 with
     | some (q, l), some (r, h) => some (.and p (.and q (.and r (.p (l = 0 ∧ h = 0)))), .c .nil)
     | _, _ => none
   | some (p, .sl n off len sz') => if sz' = sz then match evO F lo 0, evO F hi len with
     | some (q, l), some (r, h) => some (.and p (.and q (.and r (.p (0 ≤ l ∧ l ≤ h ∧ h ≤ len)))), .c (.sl n (off + l.toNat * sz) (h - l).toNat sz))
     | _, _ => none
     else none
   | some (p, .ro sz' cs) => if sz' = sz then match evO F lo 0, evO F hi ((cs.length / sz : Nat) : Int) with
     | some (q, l), some (r, h) => some (.and p (.and q (.and r (.p (0 ≤ l ∧ l ≤ h ∧ h ≤ ((cs.length / sz : Nat) : Int))))), .c (.ro sz ((cs.take (h.toNat * sz)).drop (l.toNat * sz))))
     | _, _ => none
     else none
   | some (p, .rd d xs) => if sz = 1 then match evO F lo 0, evO F hi (xs.length : Int) with
     | some (q, l), some (r, h) => some (.and p (.and q (.and r (.p (0 ≤ l ∧ l ≤ h ∧ h ≤ (xs.length : Int))))), .c (.rd d ((xs.take h.toNat).drop l.toNat)))
     | _, _ => none
     else none
   | _ => none
 | .sslice x lo hi => match evS F x with
   | some (p, s) => match evO F lo 0, evO F hi s.size with
     | some (q, l), some (r, h) => some (.and p (.and q (.and r (.p (0 ≤ l ∧ l ≤ h ∧ h ≤ s.size)))), .c (.str (s.extract l.toNat h.toNat)))
     | _, _ => none
   | none => none
 | .extract i x => match x with
   | .tmp t => match F.get t with
     | some (.tup vs) => match vs[i]? with | some v => some (.t, v) | none => none
     | _ => none
   | _ => none
 | .mval f x => match evC F x with
   | some (c, .ptr n off) => some (c, .c (.meth f n off))
   | _ => none
 | .func f caps => match evCaps F caps with
   | some (p, cs) => some (p, .c (.func f cs))
   | none => none
 | .build z parts => match evBuild F z parts with
   | some (p, cs) => some (p, .agg cs)
   | none => none
 | .aeq op l x y => match evV F x, evV F y with
   | some (p, .agg xs), some (q, .agg ys) => match eqAt xs ys l with
     | some b => some (.and p q, .c (.bool (match op with | .eql => b | _ => !b)))
     | none => none
   | _, _ => none

/-! ### From the machine's operations -/
def zeroW (P : Program) (t : TypeId) : Option W := match P.info? t with | some i => (match i.zero with | some z => ofW z | none => none) | none => none
def opdO : Option Operand → Option (Option Opd)
 | none => some none
 | some x => match opd x with | some y => some (some y) | none => none
def opds : List Operand → Option (List Opd)
 | [] => some []
 | x :: l => match opd x with | some y => (match opds l with | some r => some (y :: r) | none => none) | none => none
def trQ (P : Program) (o : Op) : Option Q :=
 match o with
 | .move x => (opd x).map .move
 | .assign x => (opd x).map .move
 | .pick c x y => match opd c, opd x, opd y with | some c, some x, some y => some (.pick c x y) | _, _, _ => none
 | .load t x => match aggB P t, opd x with
   | some false, some x => (zeroW P t).map fun d => .load d x
   | some true, some x => (szOf P t).map fun n => .loadN n x
   | _, _ => none
 | .nilCheck x => (opd x).map .nilCheck
 | .binOp op t x y _ => match P.underlying t, opd x, opd y with
   | some (.int _), some x, some y => if ibinOk op then some (.ibin op x y) else match op with
     | .quo => some (.idiv .quo x y)
     | .rem => some (.idiv .rem x y)
     | .shl => some (.shift .shl x y)
     | .shr => some (.shift .shr x y)
     | _ => if isCmp op then some (.icmp op x y) else none
   | some .string, some x, some y => match op with
     | .add => some (.scat x y)
     | _ => if isCmp op then some (.scmp op x y) else none
   | some .bool, some x, some y => match op with
     | .eql => some (.beq .eql x y)
     | .neq => some (.beq .neq x y)
     | _ => none
   | some (.pointer el), some x, some y => match szOf P el with
     | some k => if k = 0 then none else (match op with
       | .eql => some (.peq false x y)
       | .neq => some (.peq true x y)
       | _ => none)
     | none => none
   | some (.interface _), some x, some (.w .nilif) => (match op with
     | .eql => some (.ieq false x)
     | .neq => some (.ieq true x)
     | _ => none)
   | some (.struct fs), some x, some y => if P.stoodInHeld t = false ∧ P.eqGuardType P.depth t = false then (match plainFs P fs.toList with
     | some l => (match op with
       | .eql => some (.aeq .eql l x y)
       | .neq => some (.aeq .neq l x y)
       | _ => none)
     | none => none) else none
   | _, _, _ => none
 | .unOp .neg _ x => (opd x).map .neg
 | .unOp .not _ x => (opd x).map .not
 | .convert src dst x => match P.underlying src, P.underlying dst, opd x with
   | some (.int _), some (.int k), some x => some (.conv k x)
   | some (.int _), some .string, some x => some (.rune x)
   | some .string, some .string, some x => some (.text x)
   | _, _, _ => none
 | .call { callee := .builtin .len, args := ⟨[x]⟩, argTypes := ⟨[t]⟩ } => match P.underlying t, opd x with
   | some .string, some x => some (.slen x)
   | some (.slice el), some x => match szOf P el with | some n => if n = 0 then none else some (.llen n x) | none => none
   | some (.array n _), _ => some (.alen n)
   | _, _ => none
 | .call { callee := .builtin .cap, args := ⟨[x]⟩, argTypes := ⟨[t]⟩ } => match P.underlying t, opd x with
   | some (.slice _), some x => some (.ncap x)
   | _, _ => none
 | .call { callee := .builtin .unsafeSliceData, args := ⟨[x]⟩, .. } => (opd x).map .sdata
 | .call { callee := .builtin .min, args := ⟨[x, y]⟩, .. } => match opd x, opd y with | some x, some y => some (.min x y) | _, _ => none
 | .call { callee := .builtin .max, args := ⟨[x, y]⟩, .. } => match opd x, opd y with | some x, some y => some (.max x y) | _, _ => none
 | .call { callee := .builtin .min, args := ⟨[x, y, z]⟩, .. } => match opd x, opd y, opd z with | some x, some y, some z => some (.min3 x y z) | _, _, _ => none
 | .call { callee := .builtin .max, args := ⟨[x, y, z]⟩, .. } => match opd x, opd y, opd z with | some x, some y, some z => some (.max3 x y z) | _, _, _ => none
 | .index t x i => match P.underlying t, opd x, opd i with
   | some .string, some x, some i => some (.index x i)
   | _, _, _ => none
 | .field t x f => match P.underlying t, opd x with
   | some (.struct fs), some x => match fs[f]? with
     | some fd => match aggB P fd.type with
       | some false => (zeroW P fd.type).map fun d => .field fd.offset d x
       | some true => (szOf P fd.type).map fun n => .fieldN fd.offset n x
       | none => none
     | none => none
   | _, _ => none
 | .fieldAddr s x f => match P.underlying s, opd x with
   | some (.struct fs), some x => match fs[f]? with
     | some fd => match szOf P fd.type with
       | some n => if n = 0 then none else some (.fieldAddr fd.offset x)
       | none => none
     | none => none
   | _, _ => none
 | .indexAddr t x i => match P.underlying t, opd x, opd i with
   | some (.slice el), some x, some i => match szOf P el with | some n => if n = 0 then none else some (.indexAddr n x i) | none => none
   | some (.array len el), some x, some i => (szOf P el).map fun n => .aindexAddr len n x i
   | _, _, _ => none
 | .slice t x lo hi none => match P.underlying t, opd x, opdO lo, opdO hi with
   | some (.slice el), some x, some lo, some hi => match szOf P el with | some n => if n = 0 then none else some (.slice n x lo hi) | none => none
   | some .string, some x, some lo, some hi => some (.sslice x lo hi)
   | _, _, _, _ => none
 | .extract x i => (opd x).map (.extract i)
 | .makeFunc (.func f) ⟨[]⟩ caps => (opds caps.toList).map (.func f)
 | .makeFunc (.func f) ⟨[x]⟩ ⟨[]⟩ => (opd x).map (.mval f)
 | .build t parts => match P.underlying t, zeroWs P t with
   | some (.struct fs), some z => match plcs P fs.toList with
     | some pl => (parts3 (fun i => pl[i]?) parts.toList).map (.build z)
     | none => none
   | some (.array _ el), some z => match szOf P el with
     | some n => (parts3 (fun i => some (i * n, n)) parts.toList).map (.build z)
     | none => none
   | _, _ => none
 | _ => none
end Go.Loom

namespace Go.Loom
open Go.RowKit
open Go.Mill (T)

theorem map_some {α β : Type} {x : Option α} {f : α → β} {y : β} (h : x.map f = some y) : ∃ a, x = some a ∧ f a = y := by
 cases x with
 | none => cases h
 | some a => exact ⟨a, rfl, Option.some.inj h⟩
theorem FRel.one {Z : Zeta} : ∀ {x : W} {v : Value}, FRel Z x v → v.oneCell' = true
 | .bool _, _, e | .int _ _, _, e | .str _, _, e | .nilptr, _, e | .nil, _, e | .nilfunc, _, e | .nilif, _, e => by simp only [FRel] at e; subst e; rfl
 | .ro _ _, _, e => by simp only [FRel] at e; obtain ⟨_, _, _, rfl, _⟩ := e; rfl
 | .rp _ _, _, e => by simp only [FRel] at e; obtain ⟨_, _, _, rfl, _⟩ := e; rfl
 | .rd d l, _, e => by simp only [FRel] at e; exact DRel.one (.sl d) e
 | .re _ _ _, _, e => by simp only [FRel] at e; obtain ⟨_, _, _, rfl, _⟩ := e; rfl
 | .func _ _, _, e => by simp only [FRel] at e; obtain ⟨_, rfl⟩ := e; rfl
 | .ptr _ _, _, e => by simp only [FRel] at e
 | .pe _ _ _, _, e => by simp only [FRel] at e
 | .sl _ _ _ _, _, e => by simp only [FRel] at e
 | .yield _, _, e => by simp only [FRel] at e
 | .dead, _, e => by simp only [FRel] at e
 | .mp _, _, e => by simp only [FRel] at e
 | .mh, _, e => by simp only [FRel] at e
 | .ba _, _, e => by simp only [FRel] at e
 | .meth _ _ _, _, e => by simp only [FRel] at e
theorem WRel.one {η : Eta} {Z : Zeta} : ∀ {x : W} {v : Value}, x ≠ .dead → WRel η Z x v → v.oneCell' = true
 | .bool _, _, _, e | .int _ _, _, _, e | .str _, _, _, e | .nilptr, _, _, e | .nil, _, _, e | .ro _ _, _, _, e | .rp _ _, _, _, e | .rd _ _, _, _, e | .re _ _ _, _, _, e | .nilfunc, _, _, e | .nilif, _, _, e => FRel.one e
 | .ptr _ _, _, _, ⟨_, _, rfl⟩ => rfl
 | .pe _ _ _, _, _, ⟨_, _, rfl⟩ => rfl
 | .sl _ _ _ _, _, _, .inl ⟨_, rfl⟩ => rfl
 | .sl _ _ _ _, _, _, .inr ⟨_, _, _, _, rfl, _⟩ => rfl
 | .func _ _, _, _, ⟨_, rfl, _⟩ => rfl
 | .yield _, _, _, h => by simp only [WRel] at h; subst h; rfl
 | .dead, _, h, _ => absurd rfl h
 | .mp _, _, _, ⟨_, _, rfl⟩ => rfl
 | .mh, _, _, h => by simp only [WRel, FRel] at h
 | .ba _, _, _, ⟨_, _, _, .inl rfl⟩ => rfl
 | .ba _, _, _, ⟨_, _, _, .inr rfl⟩ => rfl
 | .meth _ _ _, _, _, ⟨_, rfl, _⟩ => rfl
theorem FRel.live {Z : Zeta} {x : W} {v : Value} (h : FRel Z x v) : x ≠ .dead := by
 rintro rfl
 simp only [FRel] at h
theorem WRel.ro {η : Eta} {Z : Zeta} {sz : Nat} {cs : List W} {v : Value} (h : WRel η Z (.ro sz cs) v) :
 ∃ a len c, v = .slice a len c ∧ cs.length = len * sz ∧ len ≤ c ∧ (cs = [] ∨ ∃ b off cells, a = some ⟨b, off, none⟩ ∧ Z b = some cells ∧ FsRel Z cells off cs) := by
 simpa only [WRel, FRel] using h
theorem WRel.rp {η : Eta} {Z : Zeta} {cs : List W} {off : Nat} {v : Value} (h : WRel η Z (.rp cs off) v) : ∃ b o cells, v = .pointer (some ⟨b, o + off, none⟩) ∧ Z b = some cells ∧ FsRel Z cells o cs := by
 simpa only [WRel, FRel] using h
theorem WRel.rd {η : Eta} {Z : Zeta} {d : D} {l : List d.ty} {v : Value} (h : WRel η Z (.rd d l) v) :
 ∃ a len c, v = .slice a len c ∧ l.length = len ∧ len ≤ c ∧ (l = [] ∨ ∃ b off cells, a = some ⟨b, off, none⟩ ∧ Z b = some cells ∧ DsRel Z d cells off l) := by
 simp only [WRel, FRel, DRel] at h
 exact h
theorem WRel.re {η : Eta} {Z : Zeta} {d : D} {l : List d.ty} {i : Nat} {v : Value} (h : WRel η Z (.re d l i) v) : ∃ b o cells, v = .pointer (some ⟨b, o + i, none⟩) ∧ Z b = some cells ∧ DsRel Z d cells o l := by
 simpa only [WRel, FRel] using h
theorem getD_some {l : List W} {i : Nat} {d : W} (h : i < l.length) : l[i]? = some (l.getD i d) := by
 rw [List.getD_eq_getElem?_getD, List.getElem?_eq_getElem h]; rfl

section
variable {P : Program} {base n : Nat} {η : Eta} {Z : Zeta} {S : Sto} {w : World} {F : Fr} {a : Act}

/-! ### Loads -/
theorem St.reads (R : St base η Z S w) {m : Nat} {o : Ob} {p : Place} (h : S.get m = some o) (hp : η m = some p) (hm : ¬ o.isM) {off k : Nat} (hk : off + k ≤ o.cells.length) :
 ∃ vs : List Value, LRel (WRel η Z) ((o.cells.drop off).take k) vs ∧ vs.length = k ∧ (∀ v ∈ vs, v.oneCell' = true) ∧ ∀ (j : Nat) v, vs[j]? = some v → w.cell? ⟨p.block, p.off + off + j, none⟩ = some v := by
 induction k with
 | zero => exact ⟨[], by simp [LRel], rfl, by simp, by simp⟩
 | succ k ih =>
   obtain ⟨vs, h1, h2, h3, h4⟩ := ih (by omega)
   have hlt : off + k < o.cells.length := by omega
   obtain ⟨v, hv, hr, h1c⟩ := R.read h hp hm (i := off + k) (x := o.cells[off + k]) (List.getElem?_eq_getElem hlt)
   refine ⟨vs ++ [v], ?_, by simp [h2], ?_, ?_⟩
   · have : (o.cells.drop off).take (k + 1) = (o.cells.drop off).take k ++ [o.cells[off + k]] := by
      rw [List.take_add_one]
      congr 1
      rw [List.getElem?_drop, List.getElem?_eq_getElem hlt]
      rfl
     rw [this]
     exact h1.append ⟨hr, trivial⟩
   · intro u hu
     rcases List.mem_append.1 hu with hu | hu
     · exact h3 u hu
     · simp at hu; subst hu; exact h1c
   · intro j u hu
     by_cases hj : j < k
     · rw [List.getElem?_append_left (by omega)] at hu; exact h4 j u hu
     · have hjk : j = k := by
        have := (List.getElem?_eq_some_iff.1 hu).1
        simp [h2] at this; omega
       subst hjk
       rw [List.getElem?_append_right (by omega)] at hu
       simp [h2] at hu
       subst hu
       rw [← hv]; congr 2; omega
theorem LRel.frozen {cs : List W} {vs : List Value} (h : LRel (FRel Z) cs vs) : LRel (WRel η Z) cs vs ∧ ∀ x ∈ cs, x ≠ .dead := by
 refine ⟨h.mono fun _ _ => FRel.wrel, ?_⟩
 induction cs generalizing vs with
 | nil => simp
 | cons c cs ih =>
   cases vs with
   | nil => exact h.elim
   | cons v vs =>
     intro x hx
     rcases List.mem_cons.1 hx with rfl | hx
     · exact h.1.live
     · exact ih h.2 x hx
def Says (P : Program) (η : Eta) (Z : Zeta) (w : World) (s : Sem Next) (v : V) : Prop := ∃ u, s.run P w = .ok (.value u) w ∧ VRel η Z v u
theorem Says.of {s : Sem Value} {v : V} {u : Value} (h : s.run P w = .ok u w) (r : VRel η Z v u) : Says P η Z w (do pure (Next.value (← s))) v := ⟨u, by simp [h], r⟩

/-! ### Numbers, texts, bools -/
end
end Go.Loom

namespace Go.Loom
open Go.RowKit
open Go.Mill (T)

theorem VRel.cells {η : Eta} {Z : Zeta} {x : V} {v : Value} (h : VRel η Z x v) : LRel (WRel η Z) x.cells v.cells.toList ∧ (∀ y ∈ x.cells, y ≠ .dead) ∧ (∀ u ∈ v.cells.toList, u.oneCell' = true) := by
 cases x with
 | c x =>
   have h1 := WRel.one h.1 h.2
   have hc : v.cells = #[v] := by cases v <;> simp [Value.oneCell'] at h1 <;> rfl
   rw [hc]
   exact ⟨⟨h.2, trivial⟩, by simpa [V.cells] using h.1, by simpa using h1⟩
 | agg cs =>
   obtain ⟨vs, rfl, hd, hl⟩ := h
   refine ⟨by simpa [Value.cells, V.cells] using hl, hd, ?_⟩
   intro u hu
   simp [Value.cells] at hu
   induction cs generalizing vs with
   | nil => cases vs with | nil => simp at hu | cons _ _ => exact hl.elim
   | cons c cs ih =>
     cases vs with
     | nil => exact hl.elim
     | cons v vs =>
       rcases List.mem_cons.1 hu with rfl | hu
       · exact WRel.one (hd _ (by simp)) hl.1
       · exact ih vs (fun y hy => hd y (List.mem_cons_of_mem _ hy)) hl.2 hu
section
variable {P : Program} {base n : Nat} {η : Eta} {Z : Zeta} {S : Sto} {w : World} {F : Fr} {a : Act}

/-! ### Bounds of slice expressions -/
theorem evO_rel (FR : FrRel n η Z F a.tmps) {x' : Option Operand} {x : Option Opd} (hx : opdO x' = some x) {d : Int} {c : Cd} {i : Int} (e : evO F x d = some (c, i)) (hc : c) : (x' = none ∧ i = d) ∨ ∃ y k, x' = some y ∧ a.eval y = .int k i := by
 cases x' with
 | none =>
   cases hx
   cases e
   exact .inl ⟨rfl, rfl⟩
 | some y =>
   simp only [opdO] at hx
   split at hx
   · rename_i z hz
     cases hx
     simp only [evO] at e
     split at e
     · rename_i c' k n' hk
       cases e
       exact .inr ⟨y, k, rfl, evI_rel FR hz hk hc⟩
     · cases e
   · cases hx
/-! ### Addresses of elements -/
theorem LRel.drop {α β : Type} {R : α → β → Prop} : ∀ {l : List α} {m : List β} (n : Nat), LRel R l m → LRel R (l.drop n) (m.drop n)
 | _, _, 0, h => h
 | [], [], _ + 1, _ => trivial
 | _ :: _, _ :: _, n + 1, ⟨_, h⟩ => by simpa using LRel.drop n h
theorem LRel.take {α β : Type} {R : α → β → Prop} : ∀ {l : List α} {m : List β} (n : Nat), LRel R l m → LRel R (l.take n) (m.take n)
 | _, _, 0, _ => trivial
 | [], [], _ + 1, _ => trivial
 | _ :: _, _ :: _, n + 1, ⟨a, h⟩ => ⟨a, LRel.take n h⟩
/-! ### Lengths -/
theorem caps_rel (FR : FrRel n η Z F a.tmps) : ∀ {l' : List Operand} {l : List Opd}, opds l' = some l → ∀ {c : Cd} {r : List (Nat × Nat)}, evCaps F l = some (c, r) → c → LRel (PtrRel η) r (l'.map a.eval)
 | [], l, hl, c, r, e, hc => by
   cases hl
   simp only [evCaps] at e
   cases e
   trivial
 | x :: l', l, hl, c, r, e, hc => by
   simp only [opds] at hl
   split at hl
   · rename_i y hy
     split at hl
     · rename_i l2 hl2
       cases hl
       simp only [evCaps] at e
       split at e
       · rename_i p m off hv
         split at e
         · rename_i d r' hr'
           cases e
           exact ⟨(evC_rel FR hy hv hc.1).2, caps_rel FR hl2 hr' hc.2⟩
         · cases e
       · cases e
     · cases hl
   · cases hl

/-! ### Literals of structs -/
/-! ### Equal structs of plain fields -/
end
end Go.Loom

namespace Go.Loom
open Go.RowKit
open Go.Mill (T)

section
variable {P : Program} {base n : Nat} {η : Eta} {Z : Zeta} {S : Sto} {w : World} {F : Fr} {a : Act}
end
end Go.Loom

namespace Go.Loom
open Go.RowKit
open Go.Mill (T)

theorem putW_length : ∀ {cs l : List W} {off : Nat}, (putW l off cs).length = l.length
 | [], _, _ => rfl
 | c :: cs, l, off => by rw [putW, putW_length, List.length_set]
theorem putW_get : ∀ {cs l : List W} {off i : Nat}, off + cs.length ≤ l.length → (putW l off cs)[i]? = if off ≤ i ∧ i < off + cs.length then cs[i - off]? else l[i]?
 | [], l, off, i, _ => by rw [if_neg (by simp)]; rfl
 | c :: cs, l, off, i, h => by
   simp only [List.length_cons] at h
   rw [putW, putW_get (by simp; omega)]
   by_cases h1 : i = off
   · subst h1
     rw [if_neg (by omega), if_pos (by simp)]
     simp [List.getElem?_set]
     omega
   · by_cases h2 : off + 1 ≤ i ∧ i < off + 1 + cs.length
     · rw [if_pos h2, if_pos (by simp; omega)]
       have : i - off = (i - (off + 1)) + 1 := by omega
       rw [this]; simp
     · rw [if_neg h2, if_neg (by simp; omega), List.getElem?_set_ne (by omega)]

theorem St.store {P : Program} {base : Nat} {η : Eta} {Z : Zeta} {S : Sto} {w : World} (R : St base η Z S w) {m : Nat} {o : Ob} {p : Place} (h : S.get m = some o) (hp : η m = some p) (hm : ¬ o.isM) {off : Nat} {cs : List W} {vs : List Value} (hl : LRel (WRel η Z) cs vs) (h1 : ∀ v ∈ vs, v.oneCell' = true) (hk : off + cs.length ≤ o.cells.length) {o' : Ob} (hty : o'.ty = o.ty) (hcs : o'.cells = putW o.cells off cs) :
 (storeCells ⟨p.block, p.off + off, none⟩ vs).run P w = .ok () (w.setCells p.block (p.off + off) vs) ∧ Goes base η Z S w η (S.put m o') (w.setCells p.block (p.off + off) vs) := by
 obtain ⟨hbase, hz, L⟩ := R.objs m o p h hp
 obtain ⟨c, fz, hc, hroom, hv, hfz⟩ := L.there hm
 have hsize := L.size hm
 have hlen := hl.length
 have hcell : ∀ j, j < vs.length → (w.cell? ⟨p.block, p.off + off + j, none⟩).isSome = true := by
  intro j hj
  have : p.off + off + j < c.size := by omega
  simp [World.cell?, hc, this]
 have hfr : ∀ j, j < vs.length → w.frozen? ⟨p.block, p.off + off + j, none⟩ = false := by
  intro j hj
  have := hfz (p.off + off + j) (by omega) (by omega)
  simp only [World.frozen?, hc]
  simpa using this
 have hst := run_storeCells_cells (P := P) p.block (p.off + off) vs 0 w (by simpa using hcell) (by simpa using hfr) h1
 simp only [Nat.add_zero] at hst
 refine ⟨hst, R.write h hp (Mill.below_setCells (Nat.zero_le _) _ _ _).os (Mill.below_setCells (Nat.zero_le _) _ _ _).tape (Mill.below_setCells (Nat.zero_le _) _ _ _).output (Mill.size_setCells _ _ _) (fun b hb => Mill.heap_setCells_other hb _ _ _) ?_⟩
 obtain ⟨c', h1', h2', h3', h4'⟩ := Mill.heap_setCells vs (p.off + off) w c hc
 have main : ∀ (i : Nat) x, o'.cells[i]? = some x → ∃ v, c'[p.off + i]? = some v ∧ WRel η Z x v ∧ v.oneCell' = true := ?_
 · refine ⟨fun _ => ⟨c', fz, by rw [hty]; exact h1', by omega, main, fun k a b => hfz k a (by omega)⟩, fun _ => by rw [hcs, putW_length]; exact hsize, fun hm' => ?_⟩
   obtain ⟨v, _, b, _⟩ := main 0 _ hm'
   simp only [WRel, FRel] at b
 intro i x hx
 rw [hcs, putW_get hk] at hx
 split at hx
 · rename_i hi
   obtain ⟨v, hv', hr⟩ := hl.get hx
   have hj := (List.getElem?_eq_some_iff.1 hv').1
   refine ⟨v, ?_, hr, h1 v (List.mem_of_getElem? hv')⟩
   have := h4' (i - off) hj (by omega)
   rw [show p.off + off + (i - off) = p.off + i by omega] at this
   rw [this]; exact hv'
 · rename_i hi
   obtain ⟨v, hv', hr, h1c⟩ := hv i x hx
   refine ⟨v, ?_, hr, h1c⟩
   rw [h3' (p.off + i) (by omega)]
   exact hv'
end Go.Loom

namespace Go.Loom
open Go.RowKit
open Go.Mill (T)

/-! ### Names that go, blocks that are taken over -/
theorem St.del {base : Nat} {η : Eta} {Z : Zeta} {S : Sto} {w : World} (R : St base η Z S w) (m : Nat) : St base η Z (S.del m) w := by
 have h : ∀ n o, (S.del m).get n = some o → S.get n = some o := by
  intro n o hn
  rw [Sto.get_del] at hn
  split at hn
  · cases hn
  · exact hn
 exact ⟨fun n o p hn => R.objs n o p (h n o hn), fun n o hn => R.ghost n o (h n o hn), fun n o hn => R.known n o (h n o hn), fun n n' o o' p p' hn hn' => R.inj n n' o o' p p' (h n o hn) (h n' o' hn'), R.zs, R.fresh, R.basele⟩
theorem own_del {η : Eta} {S : Sto} {m b : Nat} (h : Own η (S.del m) b) : Own η S b := by
 obtain ⟨n, o, p, hn, hp, hb⟩ := h
 rw [Sto.get_del] at hn
 split at hn
 · cases hn
 · exact ⟨n, o, p, hn, hp, hb⟩
theorem Step.del {η : Eta} {Z : Zeta} {S : Sto} {w : World} (m : Nat) : Step η Z S w η Z (S.del m) w :=
 ⟨rfl, rfl, rfl, Nat.le_refl _, fun _ _ _ => rfl, fun _ h => .inl (own_del h), Zeta.le.refl _, fun _ _ h => .inl h, rfl⟩
/-! ### Steps at large -/
structure Moves (base : Nat) (η : Eta) (Z : Zeta) (S : Sto) (w : World) (η' : Eta) (Z' : Zeta) (S' : Sto) (w' : World) : Prop where
 le : η.le η'
 st : St base η' Z' S' w'
 step : Step η Z S w η' Z' S' w'
theorem Goes.up {base : Nat} {η η' : Eta} {Z : Zeta} {S S' : Sto} {w w' : World} (g : Goes base η Z S w η' S' w') : Moves base η Z S w η' Z S' w' := ⟨g.le, g.st, g.step⟩
theorem Moves.trans {base : Nat} {η η1 η2 : Eta} {Z Z1 Z2 : Zeta} {S S1 S2 : Sto} {w w1 w2 : World} (g : Moves base η Z S w η1 Z1 S1 w1) (h : Moves base η1 Z1 S1 w1 η2 Z2 S2 w2) : Moves base η Z S w η2 Z2 S2 w2 :=
 ⟨g.le.trans h.le, h.st, g.step.trans h.step⟩
theorem Moves.refl {base : Nat} {η : Eta} {Z : Zeta} {S : Sto} {w : World} (R : St base η Z S w) : Moves base η Z S w η Z S w := ⟨Eta.le.refl _, R, Step.refl _ _ _ _⟩
def Sto.Alike (S S' : Sto) : Prop := (S'.next = S.next ∧ S'.ghost = S.ghost) ∧ ∀ n, match S.get n, S'.get n with
 | none, none => True
 | some o, some o' => o'.ty = o.ty ∧ o'.cells = o.cells
 | _, _ => False
theorem Sto.Alike.back {S S' : Sto} (h : S.Alike S') {n : Nat} {o' : Ob} (e : S'.get n = some o') : ∃ o, S.get n = some o ∧ o'.ty = o.ty ∧ o'.cells = o.cells := by
 have := h.2 n
 rw [e] at this
 cases hh : S.get n with
 | none => rw [hh] at this; exact this.elim
 | some o => rw [hh] at this; exact ⟨o, rfl, this⟩
/-! ### An object that holds nothing and lies nowhere -/
/-! ### An object that nobody writes any more -/
def Zeta.add (Z : Zeta) (b : Nat) (c : Array Value) : Zeta := fun i => if i = b then some c else Z i
theorem Zeta.le_add {Z : Zeta} {b : Nat} {c : Array Value} (h : Z b = none) : Z.le (Z.add b c) := by
 intro i x e
 unfold Zeta.add
 by_cases hi : i = b
 · subst hi; rw [h] at e; cases e
 · rw [if_neg hi]; exact e
theorem St.freeze {base : Nat} {η : Eta} {Z : Zeta} {S : Sto} {w : World} (R : St base η Z S w) {m : Nat} {o : Ob} {p : Place} (h : S.get m = some o) (hp : η m = some p) (hm : ¬ o.isM) :
 ∃ c ty fz, w.heap[p.block]? = some (.cells c ty fz) ∧ Moves base η Z S w η (Z.add p.block c) (S.del m) w ∧ ∀ (i : Nat) x, o.cells[i]? = some x → ∃ v, c[p.off + i]? = some v ∧ WRel η Z x v := by
 obtain ⟨hb, hz, L0⟩ := R.objs m o p h hp
 obtain ⟨c, fz, hc, hroom, hv, hfz⟩ := L0.there hm
 refine ⟨c, o.ty, fz, hc, ?_, fun i x hx => let ⟨v, a, b, _⟩ := hv i x hx; ⟨v, a, b⟩⟩
 have hle : Z.le (Z.add p.block c) := Zeta.le_add hz
 have R1 := R.del m
 have back : ∀ n x, (S.del m).get n = some x → n ≠ m ∧ S.get n = some x := by
  intro n x hx
  rw [Sto.get_del] at hx
  by_cases hn : n = m
  · rw [if_pos hn] at hx; cases hx
  · rw [if_neg hn] at hx; exact ⟨hn, hx⟩
 refine ⟨Eta.le.refl _, ⟨?_, R1.ghost, R1.known, R1.inj, ?_, R1.fresh, R1.basele⟩, ⟨rfl, rfl, rfl, Nat.le_refl _, fun _ _ _ => rfl, fun b hb => .inl (own_del hb), hle, ?_, rfl⟩⟩
 · intro n x q hx hq
   obtain ⟨a, b, L⟩ := R1.objs n x q hx hq
   obtain ⟨hne, hx'⟩ := back n x hx
   refine ⟨a, ?_, L.mono (Eta.le.refl _) hle rfl⟩
   unfold Zeta.add
   rw [if_neg (R.inj n m x o q p hx' h hne hq hp)]
   exact b
 · intro b cs e
   unfold Zeta.add at e
   by_cases hbb : b = p.block
   · rw [if_pos hbb] at e; cases e; subst hbb; exact ⟨_, _, hc⟩
   · rw [if_neg hbb] at e; exact R.zs b cs e
 · intro b cs e
   unfold Zeta.add at e
   by_cases hbb : b = p.block
   · exact .inr (.inl ⟨m, o, p, h, hp, hbb.symm⟩)
   · rw [if_neg hbb] at e; exact .inl e
end Go.Loom

namespace Go.Loom
open Go.RowKit
open Go.Mill (T)

noncomputable def evParts (F : Fr) : List Opd → Option (Cd × List V)
 | [] => some (.t, [])
 | x :: l => match evV F x with
   | some (c, v) => (match evParts F l with | some (d, r) => some (.and c d, v :: r) | none => none)
   | none => none
def inTurn (k : Nat) : List (Nat × Operand) → Option (List Opd)
 | [] => some []
 | (i, x) :: l => if i = k then (match opd x, inTurn (k + 1) l with | some y, some r => some (y :: r) | _, _ => none) else none
section
variable {P : Program} {base n : Nat} {η : Eta} {Z : Zeta} {S : Sto} {w : World} {F : Fr} {a : Act}
def Good (P : Program) (base : Nat) (η : Eta) (Z : Zeta) (S : Sto) (w : World) (s : Sem Next) (v : A) (S' : Sto) : Prop :=
 ∃ nx u w' η' Z', s.run P w = .ok nx w' ∧ (nx = .value u ∨ (nx = .skip ∧ u = undef)) ∧ Moves base η Z S w η' Z' S' w' ∧ ARel η' Z' v u
theorem Good.of {s : Sem Value} {v : A} {S' : Sto} {u : Value} {w' : World} {η' : Eta} {Z' : Zeta} (h : s.run P w = .ok u w') (g : Moves base η Z S w η' Z' S' w') (r : ARel η' Z' v u) : Good P base η Z S w (do pure (Next.value (← s))) v S' :=
 ⟨.value u, u, w', η', Z', by simp [h], .inl rfl, g, r⟩
theorem Good.before {s : Sem Next} {v : A} {S1 S' : Sto} {η1 : Eta} {Z1 : Zeta} (m : Moves base η Z S w η1 Z1 S1 w) (g : Good P base η1 Z1 S1 w s v S') : Good P base η Z S w s v S' :=
 let ⟨nx, u, w', η', Z', a, b, c, d⟩ := g
 ⟨nx, u, w', η', Z', a, b, m.trans c, d⟩
theorem newRow_ok (R : St base η Z S w) (t : TypeId) {cs : List W} {c : Array Value} (hc : LRel (WRel η Z) cs c.toList) (h1 : ∀ v ∈ c.toList, v.oneCell' = true) :
 ∃ w', (newRow t c).run P w = .ok ⟨w.heap.size, 0, none⟩ w' ∧ Goes base η Z S w (η.add S.next ⟨w.heap.size, 0, c.size⟩) (S.add (Ob.of t cs)) w' ∧ (η.add S.next ⟨w.heap.size, 0, c.size⟩) S.next = some ⟨w.heap.size, 0, c.size⟩ := by
 have hlen := hc.length
 obtain ⟨g, hn⟩ := R.new (w' := { w with heap := w.heap.push (.cells c t (0, 0)) }) (Ob.of t cs) c rfl rfl rfl rfl (by rw [Ob.of_cells]; simp at hlen; omega) (fun i x hx => by
  rw [Ob.of_cells] at hx
  obtain ⟨v, hv, hr⟩ := hc.get hx
  exact ⟨v, by simpa using hv, hr, h1 v (List.mem_of_getElem? hv)⟩) (fun _ _ => by simp)
 exact ⟨_, by simp [newRow, newObj, Sem.run], g, hn⟩
def isZ : W → Value → Bool
 | .bool a, .bool b => a == b
 | .int k a, .int k' b => decide (k = k') && a == b
 | .str a, .string b => Nat.beq a.size 0 && Nat.beq b.size 0
 | .nilptr, .pointer none => true
 | .nil, .slice none 0 0 => true
 | .rd _ [], .slice none 0 0 => true
 | .nilfunc, .nilFunc => true
 | .nilif, .nilIface => true
 | _, _ => false
/-! ### Literals -/
end
end Go.Loom

namespace Go.Loom
open Go.RowKit
open Go.Mill (T)

section
variable {P : Program} {base n : Nat} {η : Eta} {Z : Zeta} {S : Sto} {w : World} {F : Fr} {a : Act}
theorem grown_ok (R : St base η Z S w) {el : TypeId} {z : Value} {sz need sCap : Nat} {cells : List W} {vs : List Value} (hl : LRel (WRel η Z) cells vs) (h1 : ∀ v ∈ vs, v.oneCell' = true) (hlen : vs.length = need * sz) (hzs : z.cells.size = sz) :
 ∃ η', Goes base η Z S w η' (S.add (Ob.of el cells)) (w.drew.alloc (.cells (vs.toArray ++ Builtin.zeroCells z.cells (grownCap w need sCap el - need)) el)) ∧
  WRel η' Z (.sl S.next 0 need sz) (.slice (some ⟨w.heap.size, 0, none⟩) need (grownCap w need sCap el)) := by
 have hge := grownCap_ge w need sCap el
 have hcs : (vs.toArray ++ Builtin.zeroCells z.cells (grownCap w need sCap el - need)).size = grownCap w need sCap el * sz := by
  simp only [Array.size_append, List.size_toArray, size_zeroCells, hzs, hlen, ← Nat.add_mul]
  congr 1; omega
 have hlen2 := hl.length
 obtain ⟨g, hn⟩ := R.new (w' := w.drew.alloc (.cells (vs.toArray ++ Builtin.zeroCells z.cells (grownCap w need sCap el - need)) el)) (Ob.of el cells) (vs.toArray ++ Builtin.zeroCells z.cells (grownCap w need sCap el - need)) rfl rfl rfl rfl
  (by rw [Ob.of_cells]; simp; omega) (fun i x hx => by
   rw [Ob.of_cells] at hx
   obtain ⟨v, hv, hr⟩ := hl.get hx
   refine ⟨v, ?_, hr, h1 v (List.mem_of_getElem? hv)⟩
   have := (List.getElem?_eq_some_iff.1 hv).1
   rw [Array.getElem?_append_left (by simpa using this)]
   simpa using hv) (fun _ _ => by simp)
 refine ⟨_, g, .inr ⟨_, grownCap w need sCap el, ⟨w.heap.size, 0, none⟩, hn, rfl, hge, ?_, .inr (by simp)⟩⟩
 rw [hcs]; simp
end
end Go.Loom
