/- A verified evaluator for the model. It holds for every program and every world, under the hypotheses that each theorem names. -/
import Derived.Test.YtejehoihhphpiaaDoorMillA
namespace Go.Mill
open Go.RowKit

/-! ### Abstract values, frames, heaps -/
inductive CV where
 | bool (b:Bool)
 | int (k:IntKind) (n:Int)
 | str (s:ByteArray)
 | nilptr
 | ptr (id off:Nat)
 | nilslice
 | slice (id off len cap:Nat) (ex:Bool) (sz:Nat)
 | nilfunc
 | func (f:FuncId) (caps:List (Nat×Nat))
 | meth (f:FuncId) (id off:Nat)
 | yield (l:Nat)
 | nilif
 | iface (t:TypeId) (v:CV)
 | nilmap
 | map (id:Nat)
inductive PV where
 | c (v:CV)
 | agg (cs:List CV)
 | ifa (t:TypeId) (cs:List CV)
inductive AV where
 | p (v:PV)
 | tup (vs:List PV)
structure Fr where
 n:Nat
 t:T AV
structure LoopA where
 st:LoopState
 pend:Option Code
 fr:Fr
 params:Array Tmp
 assign:Code
 body:Code
 dfr:Nat
structure Blk where
 ty:TypeId
 size:Nat
 data:T CV
 fam:Nat
 rw:Bool
 ex:Bool
 lo:Nat:=0
 hi:Bool:=false
structure ME where
 key:CV
 val:PV
 born:Nat
inductive O where
 | cells (b:Blk)
 | loop (r:LoopA)
 | dfr (opened:Bool)
 | map (es:List ME) (clock:Nat)
def O.plain:O->Bool
 | .cells _=>true
 | _=>false
structure H where
 ng:Nat
 next:Nat
 objs:T O
 fams:T (Nat×Nat×Nat)

structure Place where
 block:Nat
 off:Nat
 room:Nat
abbrev Rho:=Nat->Option Place
def Rho.le (ρ ρ':Rho):Prop:=∀ id p,ρ id=some p->ρ' id=some p
theorem Rho.le.refl (ρ:Rho):ρ.le ρ:=fun _ _ h=>h
theorem Rho.le.trans {a b c:Rho} (h:a.le b) (k:b.le c):a.le c:=fun id p e=>k id p (h id p e)

def LRel {α β:Type} (R:α->β->Prop):List α->List β->Prop
 | [],[]=>True
 | a::l,b::m=>R a b/\LRel R l m
 | _,_=>False
theorem LRel.mono {α β:Type} {R R':α->β->Prop} (h:∀ a b,R a b->R' a b):∀ {l:List α} {m:List β},LRel R l m->LRel R' l m
 | [],[],_=>trivial
 | _::_,_::_,⟨x,y⟩=>⟨h _ _ x,LRel.mono h y⟩
theorem LRel.length {α β:Type} {R:α->β->Prop}:∀ {l:List α} {m:List β},LRel R l m->l.length=m.length
 | [],[],_=>rfl
 | _::_,_::_,⟨_,y⟩=>by simp [LRel.length y]
theorem LRel.append {α β:Type} {R:α->β->Prop}:∀ {l l':List α} {m m':List β},LRel R l m->LRel R l' m'->LRel R (l++l') (m++m')
 | [],_,[],_,_,h=>h
 | _::_,_,_::_,_,⟨x,y⟩,h=>⟨x,LRel.append y h⟩
theorem LRel.get {α β:Type} {R:α->β->Prop}:∀ {l:List α} {m:List β},LRel R l m->∀ {i:Nat} {x:α},l[i]? = some x->∃ y,m[i]? = some y/\R x y
 | a::l,b::m,⟨x,y⟩,0,_,e=>by simp at e;subst e;exact ⟨b,rfl,x⟩
 | a::l,b::m,⟨x,y⟩,i+1,_,e=>by simp at e ⊢;exact LRel.get y e
theorem LRel.of_get {α β:Type} {R:α->β->Prop}:∀ {l:List α} {m:List β},l.length=m.length->(∀ (i:Nat) x y,l[i]? = some x->m[i]? = some y->R x y)->LRel R l m
 | [],[],_,_=>trivial
 | a::l,b::m,h,k=>⟨k 0 a b rfl rfl,LRel.of_get (by simpa using h) fun i x y e f=>k (i+1) x y (by simpa using e) (by simpa using f)⟩
 | [],b::m,h,_=>by simp at h
 | a::l,[],h,_=>by simp at h
theorem LRel.set {α β:Type} {R:α->β->Prop}:∀ {l:List α} {m:List β},LRel R l m->∀ {i:Nat} {x:α} {y:β},R x y->LRel R (l.set i x) (m.set i y)
 | [],[],_,_,_,_,_=>trivial
 | _::_,_::_,⟨_,t⟩,0,_,_,h=>⟨h,t⟩
 | _::_,_::_,⟨s,t⟩,_+1,_,_,h=>⟨s,LRel.set t h⟩

def PtrRel (ρ:Rho) (a:Nat×Nat) (v:Value):Prop:=∃ p,ρ a.1=some p/\v=.pointer (some ⟨p.block,p.off+a.2,none⟩)
def CRel (ρ:Rho):CV->Value->Prop
 | .bool b,v=>v=.bool b
 | .int k n,v=>v=.int k n
 | .str s,v=>v=.string s
 | .nilptr,v=>v=.pointer none
 | .ptr id off,v=>PtrRel ρ (id,off) v
 | .nilslice,v=>v=.slice none 0 0
 | .slice id off len cap ex sz,v=>∃ p c,ρ id=some p/\v=.slice (some ⟨p.block,p.off+off,none⟩) len c/\cap<=c/\(ex=true->c=cap)/\off+c*sz<=p.room
 | .nilfunc,v=>v=.nilFunc
 | .func f caps,v=>∃ vs,v=.func (.func f) #[] vs.toArray/\LRel (PtrRel ρ) caps vs
 | .meth f id off,v=>∃ u,v=.func (.func f) #[u] #[]/\PtrRel ρ (id,off) u
 | .yield l,v=>∃ p,ρ l=some p/\v=.func (.yield p.block) #[] #[]
 | .nilif,v=>v=.nilIface
 | .iface t x,v=>∃ u,v=.iface t u/\CRel ρ x u
 | .nilmap,v=>v=.map none
 | .map id,v=>∃ p,ρ id=some p/\v=.map (some p.block)
def PRel (ρ:Rho):PV->Value->Prop
 | .c x,v=>CRel ρ x v
 | .agg cs,v=>∃ vs,v=.agg vs.toArray/\LRel (CRel ρ) cs vs
 | .ifa t cs,v=>∃ vs,v=.iface t (.agg vs.toArray)/\LRel (CRel ρ) cs vs
def ARel (ρ:Rho):AV->Value->Prop
 | .p x,v=>PRel ρ x v
 | .tup xs,v=>∃ vs,v=.tuple vs.toArray/\LRel (PRel ρ) xs vs

theorem PtrRel.mono {ρ ρ':Rho} (h:ρ.le ρ') {a:Nat×Nat} {v:Value}:PtrRel ρ a v->PtrRel ρ' a v:=fun ⟨p,e,f⟩=>⟨p,h _ _ e,f⟩
theorem CRel.mono {ρ ρ':Rho} (h:ρ.le ρ'):∀ {x:CV} {v:Value},CRel ρ x v->CRel ρ' x v
 | .bool _,_,e | .int _ _,_,e | .str _,_,e | .nilptr,_,e | .nilslice,_,e | .nilfunc,_,e | .nilif,_,e | .nilmap,_,e=>e
 | .ptr _ _,_,e=>PtrRel.mono h e
 | .slice ..,_,⟨p,c,e,r⟩=>⟨p,c,h _ _ e,r⟩
 | .func ..,_,⟨vs,e,r⟩=>⟨vs,e,r.mono fun _ _=>PtrRel.mono h⟩
 | .meth ..,_,⟨u,e,r⟩=>⟨u,e,PtrRel.mono h r⟩
 | .yield _,_,⟨p,e,r⟩=>⟨p,h _ _ e,r⟩
 | .map _,_,⟨p,e,r⟩=>⟨p,h _ _ e,r⟩
 | .iface ..,_,⟨u,e,r⟩=>⟨u,e,CRel.mono h r⟩
theorem PRel.mono {ρ ρ':Rho} (h:ρ.le ρ'):∀ {x:PV} {v:Value},PRel ρ x v->PRel ρ' x v
 | .c _,_,e=>CRel.mono h e
 | .agg _,_,⟨vs,e,r⟩=>⟨vs,e,r.mono fun _ _=>CRel.mono h⟩
 | .ifa ..,_,⟨vs,e,r⟩=>⟨vs,e,r.mono fun _ _=>CRel.mono h⟩
theorem ARel.mono {ρ ρ':Rho} (h:ρ.le ρ'):∀ {x:AV} {v:Value},ARel ρ x v->ARel ρ' x v
 | .p _,_,e=>PRel.mono h e
 | .tup _,_,⟨vs,e,r⟩=>⟨vs,e,r.mono fun _ _=>PRel.mono h⟩

theorem CRel.one {ρ:Rho} {x:CV} {v:Value} (h:CRel ρ x v):v.cells=#[v]/\(∀ cs,v≠.agg cs)/\(∀ cs,v≠.tuple cs):=by
 cases x <;> simp only [CRel,PtrRel] at h
 all_goals first
  | (subst h;simp [Value.cells])
  | (obtain ⟨p,c,_,rfl,_⟩:=h;simp [Value.cells])
  | (obtain ⟨p,_,rfl⟩:=h;simp [Value.cells])
  | (obtain ⟨p,rfl,_⟩:=h;simp [Value.cells])
def PV.cells:PV->List CV
 | .c v=>[v]
 | .agg cs=>cs
 | .ifa _ _=>[]
theorem PRel.cells {ρ:Rho} {x:PV} {v:Value} (h:PRel ρ x v) (hx:∀ t cs,x≠.ifa t cs):LRel (CRel ρ) x.cells v.cells.toList:=by
 cases x with
 | c x=>rw [(CRel.one h).1];exact ⟨h,trivial⟩
 | agg cs=>obtain ⟨vs,rfl,r⟩:=h;simpa [Value.cells,PV.cells] using r
 | ifa t cs=>exact absurd rfl (hx t cs)

/-! ### Frames -/
def FrRel (ρ:Rho) (fr:Fr) (tmps:Array Value):Prop:=tmps.size=fr.n/\∀ i x,fr.t.get i=some x->∃ v,tmps[i]? = some v/\ARel ρ x v
theorem FrRel.mono {ρ ρ':Rho} (h:ρ.le ρ') {fr:Fr} {tmps:Array Value} (r:FrRel ρ fr tmps):FrRel ρ' fr tmps :=
 ⟨r.1,fun i x e=>let ⟨v,a,b⟩:=r.2 i x e;⟨v,a,ARel.mono h b⟩⟩
noncomputable def Fr.set (fr:Fr) (i:Nat) (x:AV):Fr:={ fr with t:=fr.t.set i x }
theorem FrRel.set {ρ:Rho} {fr:Fr} {tmps:Array Value} (r:FrRel ρ fr tmps) {i:Nat} {x:AV} {v:Value} (hi:i<fr.n) (h:ARel ρ x v) :
 FrRel ρ (fr.set i x) (tmps.setIfInBounds i v):=by
 refine ⟨by simpa [Fr.set] using r.1,fun j y e=>?_⟩
 simp only [Fr.set,T.get_set] at e
 by_cases hj:j=i
 . subst hj
   rw [if_pos rfl] at e
   cases e
   exact ⟨v,by rw [Array.getElem?_setIfInBounds_self_of_lt (by rw [r.1];exact hi)],h⟩
 . rw [if_neg hj] at e
   obtain ⟨u,a,b⟩:=r.2 j y e
   exact ⟨u,by rw [Array.getElem?_setIfInBounds_ne (by omega)];exact a,b⟩
end Go.Mill
