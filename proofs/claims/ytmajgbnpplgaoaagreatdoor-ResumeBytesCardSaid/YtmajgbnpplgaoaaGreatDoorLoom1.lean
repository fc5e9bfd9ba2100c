/- The walk by values, first part: values, stores, operations. It holds for every program and every world, under the hypotheses that each theorem names. -/
import Derived.Test.YtmajgbnpplgaoaaGreatDoorMill1
namespace Go.ax
open Go.RowKit
open Go.au (T)
inductive D where
 | int (k:IntKind)
 | bool
 | str
 | sl (d:D)
def D.dec:(a b:D)->Decidable (a=b)
 | .int k,.int k'=>if h:k=k' then isTrue (by rw [h]) else isFalse (fun e=>by cases e;exact h rfl)
 | .bool,.bool=>isTrue rfl
 | .str,.str=>isTrue rfl
 | .sl a,.sl b=>match D.dec a b with
   | isTrue h=>isTrue (by rw [h])
   | isFalse h=>isFalse (fun e=>by cases e;exact h rfl)
 | .int _,.bool=>isFalse (fun e=>by cases e)
 | .int _,.str=>isFalse (fun e=>by cases e)
 | .int _,.sl _=>isFalse (fun e=>by cases e)
 | .bool,.int _=>isFalse (fun e=>by cases e)
 | .bool,.str=>isFalse (fun e=>by cases e)
 | .bool,.sl _=>isFalse (fun e=>by cases e)
 | .str,.int _=>isFalse (fun e=>by cases e)
 | .str,.bool=>isFalse (fun e=>by cases e)
 | .str,.sl _=>isFalse (fun e=>by cases e)
 | .sl _,.int _=>isFalse (fun e=>by cases e)
 | .sl _,.bool=>isFalse (fun e=>by cases e)
 | .sl _,.str=>isFalse (fun e=>by cases e)
instance:DecidableEq D:=D.dec
abbrev D.ty:D->Type
 | .int _=>Int
 | .bool=>Bool
 | .str=>ByteArray
 | .sl d=>List d.ty
def D.zero:(d:D)->d.ty
 | .int _=>(0:Int)
 | .bool=>false
 | .str=>⟨#[]⟩
 | .sl d=>([]:List d.ty)
inductive W where
 | bool (b:Bool)
 | int (k:IntKind) (n:Int)
 | str (s:ByteArray)
 | bY
 | ptr (n off:Nat)
 | pe (n off i:Nat)
 | nil
 | sl (n off len sz:Nat)
 | ro (sz:Nat) (cs:List W)
 | rp (cs:List W) (off:Nat)
 | rd (d:D) (l:List d.ty)
 | re (d:D) (l:List d.ty) (i:Nat)
 | lU
 | func (f:FuncId) (caps:List (Nat×Nat))
 | yield (l:Nat)
 | dM
 | ct
 | mp (n:Nat)
 | mh
 | ba (n:Nat)
 | fB (f:FuncId) (n off:Nat)
 | th (k:Nat) (ah:List (List Int))
 | row (n i len:Nat)
 | oT (n i j:Nat)
 | val (v:Value)
 | kM (n:Int)
inductive V where
 | c (x:W)
 | agg (cs:List W)
inductive A where
 | p (v:V)
 | aL (vs:List V)
 | cond (c:Prop) (v:V)
 | dec (b:Bool)
structure cj where
 block:Nat
 off:Nat
 room:Nat
 ah:List (Nat×Nat)
abbrev Eta:=Nat->Option cj
abbrev aA:=Nat->Option (Array Value)
def Eta.le (η aE:Eta):Prop:=∀ n p,η n=some p->aE n=some p
def aA.le (Z Z':aA):Prop:=∀ b c,Z b=some c->Z' b=some c
theorem Eta.le.refl (η:Eta):η.le η:=fun _ _ h=>h
theorem Eta.le.trans {a b c:Eta} (h:a.le b) (k:b.le c):a.le c:=fun n p e=>k n p (h n p e)
theorem aA.le.refl (Z:aA):Z.le Z:=fun _ _ h=>h
theorem aA.le.trans {a b c:aA} (h:a.le b) (k:b.le c):a.le c:=fun n p e=>k n p (h n p e)
def cH (Z:aA):(d:D)->d.ty->Value->Prop
 | .int k,n,v=>v=.int k n
 | .bool,b,v=>v=.bool b
 | .str,s,v=>v=.string s
 | .sl d,l,v=>∃ a len c,v=.slice a len c/\List.length (α:=d.ty) l=len/\len<=c/\(l=[]∨∃ b off cells,a=some ⟨b,off,none⟩/\Z b=some cells/\∀ (i:Nat) (x:d.ty),(show List d.ty from l)[i]? = some x->∃ u,cells[off+i]? = some u/\cH Z d x u)
def mX (Z:aA) (d:D) (cells:Array Value) (o:Nat) (l:List d.ty):Prop:=∀ (i:Nat) (x:d.ty),l[i]? = some x->∃ u,cells[o+i]? = some u/\cH Z d x u
theorem cH.mono {Z Z':aA} (h:Z.le Z'):∀ (d:D) {x:d.ty} {v:Value},cH Z d x v->cH Z' d x v
 | .int _,_,_,e=>e
 | .bool,_,_,e=>e
 | .str,_,_,e=>e
 | .sl d,l,v,⟨a,len,c,h1,h2,h3,h4⟩=>by
   refine ⟨a,len,c,h1,h2,h3,?_⟩
   rcases h4 with h4 | ⟨b,off,cells,h4,h5,h6⟩
   . exact .inl h4
   . exact .inr ⟨b,off,cells,h4,h _ _ h5,fun i x hx=>let ⟨u,a,b⟩:=h6 i x hx;⟨u,a,cH.mono h d b⟩⟩
theorem mX.mono {Z Z':aA} (h:Z.le Z') {d:D} {cells:Array Value} {o:Nat} {l:List d.ty} (r:mX Z d cells o l):mX Z' d cells o l :=
 fun i x hx=>let ⟨u,a,b⟩:=r i x hx;⟨u,a,cH.mono h d b⟩
theorem mX.drop {Z:aA} {d:D} {cells:Array Value} {o:Nat} {l:List d.ty} (r:mX Z d cells o l) (k:Nat):mX Z d cells (o+k) (l.drop k):=by
 intro i x hx
 rw [List.getElem?_drop] at hx
 obtain ⟨u,a,b⟩:=r _ _ hx
 exact ⟨u,by rw [<-a];congr 1;omega,b⟩
theorem mX.take {Z:aA} {d:D} {cells:Array Value} {o:Nat} {l:List d.ty} (r:mX Z d cells o l) (k:Nat):mX Z d cells o (l.take k):=by
 intro i x hx
 rw [List.getElem?_take] at hx
 split at hx
 . exact r _ _ hx
 . cases hx
theorem cH.one {Z:aA}:∀ (d:D) {x:d.ty} {v:Value},cH Z d x v->v.oneCell'=true
 | .int _,_,_,e=>by simp only [cH] at e;subst e;rfl
 | .bool,_,_,e=>by simp only [cH] at e;subst e;rfl
 | .str,_,_,e=>by simp only [cH] at e;subst e;rfl
 | .sl _,_,_,⟨_,_,_,h,_⟩=>by subst h;rfl
mutual
def aM (Z:aA):W->Value->Prop
 | .bool b,v=>v=.bool b
 | .int k n,v=>v=.int k n
 | .str s,v=>v=.string s
 | .bY,v=>v=.pointer none
 | .nil,v=>v=.slice none 0 0
 | .ro sz cs,v=>∃ a len c,v=.slice a len c/\cs.length=len*sz/\len<=c/\(cs=[]∨∃ b off cells,a=some ⟨b,off,none⟩/\Z b=some cells/\eW Z cells off cs)
 | .rp cs off,v=>∃ b o cells,v=.pointer (some ⟨b,o+off,none⟩)/\Z b=some cells/\eW Z cells o cs
 | .rd d l,v=>cH Z (.sl d) l v
 | .re d l i,v=>∃ b o cells,v=.pointer (some ⟨b,o+i,none⟩)/\Z b=some cells/\mX Z d cells o l
 | .lU,v=>v=.nilFunc
 | .func f caps,v=>caps=[]/\v=.func (.func f) #[] #[]
 | .dM,v=>v=.nilIface
 | .val u,v=>v=u/\u.oneCell'=true
 | .ptr _ _,_=>False
 | .pe _ _ _,_=>False
 | .sl _ _ _ _,_=>False
 | .yield _,_=>False
 | .ct,_=>False
 | .mp _,_=>False
 | .mh,_=>False
 | .ba _,_=>False
 | .fB _ _ _,_=>False
 | .th _ _,_=>False
 | .row _ _ _,_=>False
 | .oT _ _ _,_=>False
 | .kM _,_=>False
def eW (Z:aA) (cells:Array Value):Nat->List W->Prop
 | _,[]=>True
 | o,x::l=>(∃ u,cells[o]? = some u/\aM Z x u)/\eW Z cells (o+1) l
end
mutual
theorem aM.mono {Z Z':aA} (h:Z.le Z'):∀ {x:W} {v:Value},aM Z x v->aM Z' x v
 | .bool _,_,e=>by simpa only [aM] using e
 | .int _ _,_,e=>by simpa only [aM] using e
 | .str _,_,e=>by simpa only [aM] using e
 | .bY,_,e=>by simpa only [aM] using e
 | .nil,_,e=>by simpa only [aM] using e
 | .ro sz cs,v,e=>by
   simp only [aM] at e ⊢
   obtain ⟨a,len,c,h1,h2,h3,h4⟩:=e
   refine ⟨a,len,c,h1,h2,h3,?_⟩
   rcases h4 with h4 | ⟨b,off,cells,h4,h5,h6⟩
   . exact .inl h4
   . exact .inr ⟨b,off,cells,h4,h _ _ h5,eW.mono h h6⟩
 | .rp cs off,v,e=>by
   simp only [aM] at e ⊢
   obtain ⟨b,o,cells,h1,h2,h3⟩:=e
   exact ⟨b,o,cells,h1,h _ _ h2,eW.mono h h3⟩
 | .rd d l,v,e=>by
   simp only [aM] at e ⊢
   exact cH.mono h _ e
 | .re d l i,v,e=>by
   simp only [aM] at e ⊢
   obtain ⟨b,o,cells,h1,h2,h3⟩:=e
   exact ⟨b,o,cells,h1,h _ _ h2,h3.mono h⟩
 | .pe _ _ _,_,e=>by simp only [aM] at e
 | .lU,_,e=>by simpa only [aM] using e
 | .func _ _,_,e=>by simpa only [aM] using e
 | .dM,_,e=>by simpa only [aM] using e
 | .val _,_,e=>by simpa only [aM] using e
 | .ptr _ _,_,e=>by simp only [aM] at e
 | .sl _ _ _ _,_,e=>by simp only [aM] at e
 | .yield _,_,e=>by simp only [aM] at e
 | .ct,_,e=>by simp only [aM] at e
 | .mp _,_,e=>by simp only [aM] at e
 | .mh,_,e=>by simp only [aM] at e
 | .ba _,_,e=>by simp only [aM] at e
 | .fB _ _ _,_,e=>by simp only [aM] at e
 | .th _ _,_,e=>by simp only [aM] at e
 | .row _ _ _,_,e=>by simp only [aM] at e
 | .oT _ _ _,_,e=>by simp only [aM] at e
 | .kM _,_,e=>by simp only [aM] at e
theorem eW.mono {Z Z':aA} (h:Z.le Z') {cells:Array Value}:∀ {o:Nat} {l:List W},eW Z cells o l->eW Z' cells o l
 | _,[],_=>by simp only [eW]
 | o,x::l,e=>by
   simp only [eW] at e ⊢
   obtain ⟨⟨u,h1,h2⟩,h3⟩:=e
   exact ⟨⟨u,h1,aM.mono h h2⟩,eW.mono h h3⟩
end
theorem eW.get {Z:aA} {cells:Array Value}:∀ {l:List W} {o:Nat},eW Z cells o l->∀ {i:Nat} {x:W},l[i]? = some x->∃ u,cells[o+i]? = some u/\aM Z x u
 | [],_,_,i,x,e=>by simp at e
 | y::l,o,h,0,x,e=>by
   simp only [eW] at h
   simp at e;subst e;exact h.1
 | y::l,o,h,i+1,x,e=>by
   simp only [eW] at h
   obtain ⟨u,a,b⟩:=eW.get h.2 (i:=i) (x:=x) (by simpa using e)
   exact ⟨u,by rw [<-a];congr 1;omega,b⟩
theorem eW.qI {Z:aA} {cells:Array Value}:∀ {l:List W} {o:Nat},(∀ i x,l[i]? = some x->∃ u,cells[o+i]? = some u/\aM Z x u)->eW Z cells o l
 | [],_,_=>by simp only [eW]
 | y::l,o,h=>by
   simp only [eW]
   refine ⟨by simpa using h 0 y rfl,eW.qI fun i x e=>?_⟩
   obtain ⟨u,a,b⟩:=h (i+1) x (by simpa using e)
   exact ⟨u,by rw [<-a];congr 1;omega,b⟩
theorem eW.drop {Z:aA} {cells:Array Value} {l:List W} {o:Nat} (h:eW Z cells o l) (k:Nat):eW Z cells (o+k) (l.drop k):=by
 refine eW.qI fun i x e=>?_
 obtain ⟨u,a,b⟩:=h.get (i:=k+i) (x:=x) (by simpa using e)
 exact ⟨u,by rw [<-a];congr 1;omega,b⟩
theorem eW.take {Z:aA} {cells:Array Value} {l:List W} {o:Nat} (h:eW Z cells o l) (k:Nat):eW Z cells o (l.take k):=by
 refine eW.qI fun i x e=>?_
 rw [List.getElem?_take] at e
 split at e
 . exact h.get e
 . cases e
def fP (η:Eta) (a:Nat×Nat) (v:Value):Prop:=∃ p,η a.1=some p/\v=.pointer (some ⟨p.block,p.off+a.2,none⟩)
def aT {α β:Type} (R:α->β->Prop):List α->List β->Prop
 | [],[]=>True
 | a::l,b::m=>R a b/\aT R l m
 | _,_=>False
theorem aT.mono {α β:Type} {R R':α->β->Prop} (h:∀ a b,R a b->R' a b):∀ {l:List α} {m:List β},aT R l m->aT R' l m
 | [],[],_=>trivial
 | _::_,_::_,⟨x,y⟩=>⟨h _ _ x,aT.mono h y⟩
theorem aT.length {α β:Type} {R:α->β->Prop}:∀ {l:List α} {m:List β},aT R l m->l.length=m.length
 | [],[],_=>rfl
 | _::_,_::_,⟨_,y⟩=>by simp [aT.length y]
theorem aT.append {α β:Type} {R:α->β->Prop}:∀ {l l':List α} {m m':List β},aT R l m->aT R l' m'->aT R (l++l') (m++m')
 | [],_,[],_,_,h=>h
 | _::_,_,_::_,_,⟨x,y⟩,h=>⟨x,aT.append y h⟩
theorem aT.get {α β:Type} {R:α->β->Prop}:∀ {l:List α} {m:List β},aT R l m->∀ {i:Nat} {x:α},l[i]? = some x->∃ y,m[i]? = some y/\R x y
 | a::l,b::m,⟨x,y⟩,0,_,e=>by simp at e;subst e;exact ⟨b,rfl,x⟩
 | a::l,b::m,⟨x,y⟩,i+1,_,e=>by simp at e ⊢;exact aT.get y e
theorem aT.qI {α β:Type} {R:α->β->Prop}:∀ {l:List α} {m:List β},l.length=m.length->(∀ (i:Nat) x y,l[i]? = some x->m[i]? = some y->R x y)->aT R l m
 | [],[],_,_=>trivial
 | a::l,b::m,h,k=>⟨k 0 a b rfl rfl,aT.qI (by simpa using h) fun i x y e f=>k (i+1) x y (by simpa using e) (by simpa using f)⟩
 | [],b::m,h,_=>by simp at h
 | a::l,[],h,_=>by simp at h
theorem aT.set {α β:Type} {R:α->β->Prop}:∀ {l:List α} {m:List β},aT R l m->∀ {i:Nat} {x:α} {y:β},R x y->aT R (l.set i x) (m.set i y)
 | [],[],_,_,_,_,_=>trivial
 | _::_,_::_,⟨_,t⟩,0,_,_,h=>⟨h,t⟩
 | _::_,_::_,⟨s,t⟩,_+1,_,_,h=>⟨s,aT.set t h⟩
def aF (η:Eta) (Z:aA):W->Value->Prop
 | .ptr n off,v=>fP η (n,off) v
 | .pe n off i,v=>fP η (n,off+i) v
 | .sl n off len sz,v=>(len=0/\v=.slice none 0 0)∨∃ p c a,η n=some p/\v=.slice (some a) len c/\len<=c/\off+c*sz<=p.room/\(c=0∨a=⟨p.block,p.off+off,none⟩)
 | .func f caps,v=>∃ vs,v=.func (.func f) #[] vs.toArray/\aT (fP η) caps vs
 | .yield l,v=>v=.func (.yield l) #[] #[]
 | .ct,_=>True
 | .mp n,v=>∃ p,η n=some p/\v=.map (some p.block)
 | .ba n,v=>∃ p,η n=some p/\p.off=0/\(v=.pointer none∨v=.pointer (some ⟨p.block,0,none⟩))
 | .fB f n off,v=>∃ u,v=.func (.func f) #[u] #[]/\fP η (n,off) u
 | .row n i len,v=>∃ p r c ad,η n=some p/\p.ah[i]? = some r/\v=.slice ad len c/\len<=c/\(0<len->ad=some ⟨r.1,r.2,none⟩)
 | .kM n,v=>v=.int .u8 n
 | .oT n i j,v=>∃ p r,η n=some p/\p.ah[i]? = some r/\v=.pointer (some ⟨r.1,r.2+j,none⟩)
 | x,v=>aM Z x v
theorem fP.mono {η aE:Eta} (h:η.le aE) {a:Nat×Nat} {v:Value}:fP η a v->fP aE a v:=fun ⟨p,e,f⟩=>⟨p,h _ _ e,f⟩
theorem aF.mono {η aE:Eta} {Z Z':aA} (h:η.le aE) (hz:Z.le Z'):∀ {x:W} {v:Value},aF η Z x v->aF aE Z' x v
 | .ptr _ _,_,e=>fP.mono h e
 | .pe _ _ _,_,e=>fP.mono h e
 | .sl _ _ _ _,_,.inl e=>.inl e
 | .sl _ _ _ _,_,.inr ⟨p,c,a,e,r⟩=>.inr ⟨p,c,a,h _ _ e,r⟩
 | .func _ _,_,⟨vs,e,r⟩=>⟨vs,e,r.mono fun _ _=>fP.mono h⟩
 | .yield _,_,e=>e
 | .ct,_,_=>trivial
 | .mp _,_,⟨p,e,r⟩=>⟨p,h _ _ e,r⟩
 | .ba _,_,⟨p,e,r⟩=>⟨p,h _ _ e,r⟩
 | .fB _ _ _,_,⟨u,e,r⟩=>⟨u,e,fP.mono h r⟩
 | .row _ _ _,_,⟨p,r,c,ad,e,f⟩=>⟨p,r,c,ad,h _ _ e,f⟩
 | .oT _ _ _,_,⟨p,r,e,f⟩=>⟨p,r,h _ _ e,f⟩
 | .kM _,_,e=>e
 | .bool _,_,e | .int _ _,_,e | .str _,_,e | .bY,_,e | .nil,_,e | .ro _ _,_,e | .rp _ _,_,e | .rd _ _,_,e | .re _ _ _,_,e | .lU,_,e | .dM,_,e | .val _,_,e | .mh,_,e | .th _ _,_,e=>aM.mono hz e
theorem aM.Ig {η:Eta} {Z:aA}:∀ {x:W} {v:Value},aM Z x v->aF η Z x v
 | .bool _,_,e | .int _ _,_,e | .str _,_,e | .bY,_,e | .nil,_,e | .ro _ _,_,e | .rp _ _,_,e | .rd _ _,_,e | .re _ _ _,_,e | .lU,_,e | .dM,_,e | .val _,_,e=>e
 | .func f caps,v,e=>by
   simp only [aM] at e
   obtain ⟨rfl,rfl⟩:=e
   exact ⟨[],rfl,trivial⟩
 | .ptr _ _,_,e=>by simp only [aM] at e
 | .pe _ _ _,_,e=>by simp only [aM] at e
 | .sl _ _ _ _,_,e=>by simp only [aM] at e
 | .yield _,_,e=>by simp only [aM] at e
 | .ct,_,e=>by simp only [aM] at e
 | .mp _,_,e=>by simp only [aM] at e
 | .mh,_,e=>by simp only [aM] at e
 | .ba _,_,e=>by simp only [aM] at e
 | .fB _ _ _,_,e=>by simp only [aM] at e
 | .th _ _,_,e=>by simp only [aM] at e
 | .row _ _ _,_,e=>by simp only [aM] at e
 | .oT _ _ _,_,e=>by simp only [aM] at e
 | .kM _,_,e=>by simp only [aM] at e
def W.clean:W->Bool
 | .ptr _ _ | .pe _ _ _ | .sl _ _ _ _ | .yield _ | .ct | .mp _ | .mh | .ba _ | .fB _ _ _ | .th _ _ | .row _ _ _ | .oT _ _ _ | .kM _=>false
 | .func _ caps=>caps.isEmpty
 | _=>true
theorem aF.Vr {η:Eta} {Z:aA}:∀ {x:W} {v:Value},x.clean=true->aF η Z x v->aM Z x v
 | .bool _,_,_,e | .int _ _,_,_,e | .str _,_,_,e | .bY,_,_,e | .nil,_,_,e | .ro _ _,_,_,e | .rp _ _,_,_,e | .rd _ _,_,_,e | .re _ _ _,_,_,e | .lU,_,_,e | .dM,_,_,e | .val _,_,_,e=>e
 | .func f [],v,_,⟨vs,e,r⟩=>by
   cases vs with
   | nil=>simp only [aM];exact ⟨trivial,e⟩
   | cons _ _=>exact r.elim
 | .func f (_::_),v,h,_=>by simp [W.clean] at h
 | .ptr _ _,_,h,_=>by simp [W.clean] at h
 | .pe _ _ _,_,h,_=>by simp [W.clean] at h
 | .sl _ _ _ _,_,h,_=>by simp [W.clean] at h
 | .yield _,_,h,_=>by simp [W.clean] at h
 | .ct,_,h,_=>by simp [W.clean] at h
 | .mp _,_,h,_=>by simp [W.clean] at h
 | .mh,_,h,_=>by simp [W.clean] at h
 | .ba _,_,h,_=>by simp [W.clean] at h
 | .fB _ _ _,_,h,_=>by simp [W.clean] at h
 | .th _ _,_,h,_=>by simp [W.clean] at h
 | .row _ _ _,_,h,_=>by simp [W.clean] at h
 | .oT _ _ _,_,h,_=>by simp [W.clean] at h
 | .kM _,_,h,_=>by simp [W.clean] at h
def D.w:(d:D)->d.ty->W
 | .int k,n=>.int k n
 | .bool,b=>.bool b
 | .str,s=>.str s
 | .sl d,l=>.rd d l
theorem D.f6 {η:Eta} {Z:aA}:∀ (d:D) {x:d.ty} {v:Value},aF η Z (d.w x) v↔cH Z d x v
 | .int _,_,_=>by simp only [D.w,aF,aM,cH]
 | .bool,_,_=>by simp only [D.w,aF,aM,cH]
 | .str,_,_=>by simp only [D.w,aF,aM,cH]
 | .sl _,_,_=>by simp only [D.w,aF,aM]
theorem D.jh:∀ (d:D) (x:d.ty),d.w x≠.ct
 | .int _,_=>by simp [D.w]
 | .bool,_=>by simp [D.w]
 | .str,_=>by simp [D.w]
 | .sl _,_=>by simp [D.w]
theorem D.w_by {n:Int}:∀ (d:D) (x:d.ty),d.w x≠.kM n
 | .int _,_=>by simp [D.w]
 | .bool,_=>by simp [D.w]
 | .str,_=>by simp [D.w]
 | .sl _,_=>by simp [D.w]
def D.of:(d:D)->W->Option d.ty
 | .int k,.int k' n=>if k'=k then some n else none
 | .bool,.bool b=>some b
 | .str,.str s=>some s
 | .sl d,.rd d' l=>if h:d'=d then some (h▸l) else none
 | .sl d,.nil=>some ([]:List d.ty)
 | _,_=>none
theorem D.Rd {Z:aA} {d:D} {x:W} {y:d.ty} (e:d.of x=some y) {v:Value} (h:aM Z x v):cH Z d y v:=by
 cases d <;> cases x <;> simp only [D.of] at e <;> try cases e
 . rename_i k k' n
   split at e
   . rename_i hk;subst hk;cases e;simpa only [aM,cH] using h
   . cases e
 . simpa only [aM,cH] using h
 . simpa only [aM,cH] using h
 . simp only [aM] at h
   subst h
   exact ⟨none,0,0,rfl,rfl,Nat.le_refl _,.inl rfl⟩
 . rename_i d d' l
   split at e
   . rename_i hk;subst hk;cases e;simpa only [aM] using h
   . cases e
theorem D.Ih {d:D} {x:W} {y:d.ty} (e:d.of x=some y):x.clean=true:=by
 cases d <;> cases x <;> simp only [D.of] at e <;> first | rfl | cases e
def dr (η:Eta) (Z:aA):V->Value->Prop
 | .c x,v=>x≠.ct/\aF η Z x v
 | .agg cs,v=>∃ vs,v=.agg vs.toArray/\(∀ x∈cs,x≠.ct)/\aT (aF η Z) cs vs
def cr (η:Eta) (Z:aA):A->Value->Prop
 | .p x,v=>dr η Z x v
 | .aL xs,v=>∃ vs,v=.tuple vs.toArray/\aT (dr η Z) xs vs
 | .cond c x,v=>(c->dr η Z x v)/\(¬ c->v=undef)
 | .dec b,v=>v=.bool b
theorem dr.mono {η aE:Eta} {Z Z':aA} (h:η.le aE) (hz:Z.le Z'):∀ {x:V} {v:Value},dr η Z x v->dr aE Z' x v
 | .c _,_,⟨n,e⟩=>⟨n,aF.mono h hz e⟩
 | .agg _,_,⟨vs,e,n,r⟩=>⟨vs,e,n,r.mono fun _ _=>aF.mono h hz⟩
theorem cr.mono {η aE:Eta} {Z Z':aA} (h:η.le aE) (hz:Z.le Z'):∀ {x:A} {v:Value},cr η Z x v->cr aE Z' x v
 | .p _,_,e=>dr.mono h hz e
 | .aL _,_,⟨vs,e,r⟩=>⟨vs,e,r.mono fun _ _=>dr.mono h hz⟩
 | .cond _ _,_,e=>⟨fun hc=>dr.mono h hz (e.1 hc),e.2⟩
 | .dec _,_,e=>e
abbrev Fr:=T A
def bh (n:Nat) (η:Eta) (Z:aA) (F:Fr) (tmps:Array Value):Prop:=tmps.size=n/\∀ i x,F.get i=some x->∃ v,tmps[i]? = some v/\cr η Z x v
theorem bh.mono {n:Nat} {η aE:Eta} {Z Z':aA} (h:η.le aE) (hz:Z.le Z') {F:Fr} {tmps:Array Value} (r:bh n η Z F tmps):bh n aE Z' F tmps :=
 ⟨r.1,fun i x e=>let ⟨v,a,b⟩:=r.2 i x e;⟨v,a,cr.mono h hz b⟩⟩
theorem bh.set {n:Nat} {η:Eta} {Z:aA} {F:Fr} {tmps:Array Value} (r:bh n η Z F tmps) {i:Nat} {x:A} {v:Value} (hi:i<n) (h:cr η Z x v) :
 bh n η Z (F.set i x) (tmps.setIfInBounds i v):=by
 refine ⟨by simpa using r.1,fun j y e=>?_⟩
 rw [T.ow] at e
 by_cases hj:j=i
 . subst hj
   rw [if_pos rfl] at e
   cases e
   exact ⟨v,by rw [Array.getElem?_setIfInBounds_self_of_lt (by rw [r.1];exact hi)],h⟩
 . rw [if_neg hj] at e
   obtain ⟨u,a,b⟩:=r.2 j y e
   exact ⟨u,by rw [Array.getElem?_setIfInBounds_ne (by omega)];exact a,b⟩
inductive Fd where
 | c (x:W)
 | a (n:Nat) (d:D) (l:List d.ty)
 | m (kd vd:D) (l:List (kd.ty×vd.ty))
 | b (l:List Int)
def nF (kd vd:D):List (kd.ty×vd.ty)->List W
 | []=>[]
 | (k,v)::l=>kd.w k::vd.w v::nF kd vd l
def Fd.cells:Fd->List W
 | .c x=>[x]
 | .a _ d l=>l.map d.w
 | .m kd vd l=>.mh::nF kd vd l
 | .b l=>l.map W.kM
structure Ob where
 ty:TypeId
 fs:List Fd
def Ob.cells (o:Ob):List W:=o.fs.flatMap Fd.cells
def Ob.of (ty:TypeId) (cs:List W):Ob:=⟨ty,cs.map .c⟩
theorem uQ (cs:List W):(cs.map Fd.c).flatMap Fd.cells=cs:=by
 induction cs with
 | nil=>rfl
 | cons x cs ih=>simp [Fd.cells,ih]
@[simp] theorem Ob.eM (ty:TypeId) (cs:List W):(Ob.of ty cs).cells=cs:=uQ cs
@[simp] theorem Ob.of_ty (ty:TypeId) (cs:List W):(Ob.of ty cs).ty=ty:=rfl
structure Gh where
 l:Nat
 d:D
 ys:List d.ty
 two:Bool:=false
structure ai where
 next:Nat
 ak:List (Nat×Ob)
 cw:Option Gh:=none
def find (l:List (Nat×Ob)) (n:Nat):Option Ob :=
 match l with
 | []=>none
 | (k,o)::l=>if k=n then some o else find l n
def ai.get (S:ai) (n:Nat):Option Ob:=find S.ak n
def put (l:List (Nat×Ob)) (n:Nat) (o:Ob):List (Nat×Ob) :=
 match l with
 | []=>[]
 | (k,x)::l=>if k=n then (k,o)::l else (k,x)::put l n o
def del (l:List (Nat×Ob)) (n:Nat):List (Nat×Ob) :=
 match l with
 | []=>[]
 | (k,x)::l=>if k=n then del l n else (k,x)::del l n
def ai.put (S:ai) (n:Nat) (o:Ob):ai:={ S with ak:=ax.put S.ak n o }
def ai.del (S:ai) (n:Nat):ai:={ S with ak:=ax.del S.ak n }
def ai.add (S:ai) (o:Ob):ai:={ S with next:=S.next+1,ak:=S.ak++[(S.next,o)] }
theorem Vs {l:List (Nat×Ob)} {n m:Nat} {o:Ob}:find (put l n o) m=if m=n then (find l n).map (fun _=>o) else find l m:=by
 induction l with
 | nil=>simp [put,find]
 | cons x l ih =>
   obtain ⟨k,x⟩:=x
   simp only [put]
   by_cases hk:k=n
   . subst hk
     rw [if_pos rfl]
     simp only [find]
     by_cases hm:m=k
     . subst hm;simp
     . rw [if_neg (by omega),if_neg hm,if_neg (by omega)]
   . rw [if_neg hk]
     simp only [find,ih]
     by_cases hm:m=n
     . subst hm;rw [if_neg hk,if_pos rfl,if_pos rfl,if_neg hk]
     . rw [if_neg hm,if_neg hm]
theorem Vt {l:List (Nat×Ob)} {n m:Nat}:find (del l n) m=if m=n then none else find l m:=by
 induction l with
 | nil=>simp [del,find]
 | cons x l ih =>
   obtain ⟨k,x⟩:=x
   simp only [del]
   by_cases hk:k=n
   . subst hk
     rw [if_pos rfl,ih]
     simp only [find]
     by_cases hm:m=k
     . rw [if_pos hm,if_pos hm]
     . rw [if_neg hm,if_neg hm,if_neg (by omega)]
   . rw [if_neg hk]
     simp only [find,ih]
     by_cases hm:m=n
     . subst hm;rw [if_neg hk,if_pos rfl,if_pos rfl]
     . rw [if_neg hm,if_neg hm]
theorem uo {l l':List (Nat×Ob)} {m:Nat}:find (l++l') m=match find l m with | some o=>some o | none=>find l' m:=by
 induction l with
 | nil=>simp [find]
 | cons x l ih =>
   obtain ⟨k,x⟩:=x
   simp only [List.cons_append,find]
   by_cases hk:k=m
   . rw [if_pos hk,if_pos hk]
   . rw [if_neg hk,if_neg hk,ih]
theorem ai.iW {S:ai} {n m:Nat} {o:Ob}:(S.put n o).get m=if m=n then (S.get n).map (fun _=>o) else S.get m:=Vs
theorem ai.iq {S:ai} {n m:Nat}:(S.del n).get m=if m=n then none else S.get m:=Vt
def Ob.isMap (o:Ob):Prop:=o.cells[0]? = some .mh
def Ob.iY (o:Ob) (k:Nat) (ah:List (List Int)):Prop:=o.cells[0]? = some (.th k ah)
def Ob.eV (o:Ob):Prop:=o.isMap∨∃ k ah,o.iY k ah
theorem Ob.EA {o:Ob} {k:Nat} {ah:List (List Int)} (h:o.isMap) (h':o.iY k ah):False:=by
 unfold Ob.isMap at h;unfold Ob.iY at h';rw [h] at h';cases h'
theorem Ob.isT_T {o:Ob} {k k':Nat} {ah rows':List (List Int)} (h:o.iY k ah) (h':o.iY k' rows'):k'=k/\rows'=ah:=by
 unfold Ob.iY at h h';rw [h] at h';cases h';exact ⟨rfl,rfl⟩
def cj.sats (p:cj):List Nat:=p.ah.map (·.1)
def cj.has (p:cj) (b:Nat):Prop:=p.block=b∨b∈p.sats
theorem cj.gR (p:cj):p.has p.block:=.inl rfl
theorem cj.MB {p:cj} {i:Nat} {r:Nat×Nat} (h:p.ah[i]? = some r):p.has r.1:=.inr (List.mem_map.2 ⟨r,List.mem_of_getElem? h,rfl⟩)
theorem cj.uR {b off room c:Nat} (h:(⟨b,off,room,[]⟩:cj).has c):c=b:=by
 rcases h with h | h
 . exact h.symm
 . cases h
def eH (η:Eta) (Z:aA):List W->List MapEntry->Prop
 | [],[]=>True
 | k::v::l,e::es=>(k≠.ct/\aF η Z k e.key)/\(v≠.ct/\aF η Z v e.val)/\eH η Z l es
 | _,_=>False
theorem eH.map {η aE:Eta} {Z Z':aA} {g:W->W->Prop} (h:∀ x y v,g x y->aF η Z x v->y≠.ct/\aF aE Z' y v):∀ {l l':List W} {es:List MapEntry},l'.length=l.length->(∀ (i:Nat) y,l'[i]? = some y->∃ x,l[i]? = some x/\g x y)->eH η Z l es->eH aE Z' l' es
 | [],[],[],_,_,_=>trivial
 | k::v::l,[],_,e,_,_=>by simp at e
 | k::v::l,[_],_,e,_,_=>by simp at e
 | k::v::l,k'::v'::l',e::es,hl,hg,⟨⟨_,h1⟩,⟨_,h2⟩,h3⟩=>by
   obtain ⟨x,hx,gx⟩:=hg 0 k' rfl
   obtain ⟨y,hy,gy⟩:=hg 1 v' rfl
   cases hx;cases hy
   exact ⟨h _ _ _ gx h1,h _ _ _ gy h2,eH.map h (by simpa using hl) (fun i y hy=>by simpa using hg (i+2) y (by simpa using hy)) h3⟩
 | [_],_,_,_,_,h=>by simp [eH] at h
theorem eH.mono {η aE:Eta} {Z Z':aA} (h:η.le aE) (hz:Z.le Z'):∀ {l:List W} {es:List MapEntry},eH η Z l es->eH aE Z' l es
 | [],[],_=>trivial
 | _::_::_,_::_,⟨⟨a,b⟩,⟨c,d⟩,e⟩=>⟨⟨a,b.mono h hz⟩,⟨c,d.mono h hz⟩,eH.mono h hz e⟩
 | [_],_,h=>by simp [eH] at h
structure pZ (k:Nat) (ah:List (List Int)) (ty:TypeId) (p:cj) (w:World):Prop where
 outer:∃ c fz,w.heap[p.block]? = some (.cells c ty fz)/\p.off+p.room<=c.size/\(∀ (i:Nat) r,p.ah[i]? = some r->∃ cp ad,c[p.off+i]? = some (.slice ad k cp)/\k<=cp/\(0<k->ad=some ⟨r.1,r.2,none⟩))/\(∀ j,p.off<=j->j<c.size->¬ (fz.1<=j/\j<fz.2))
 len:p.ah.length=ah.length
 room:ah.length<=p.room
 row:∀ (i:Nat) r l,p.ah[i]? = some r->ah[i]? = some l->l.length=k/\∃ c t fz,w.heap[r.1]? = some (.cells c t fz)/\r.2+k<=c.size/\(∀ (j:Nat) x,l[j]? = some x->c[r.2+j]? = some (.int .i64 x))/\(∀ j,r.2<=j->j<c.size->¬ (fz.1<=j/\j<fz.2))
 nodup:(p.block::p.sats).Nodup
theorem pZ.mono {k:Nat} {ah:List (List Int)} {ty:TypeId} {p:cj} {w w':World} (L:pZ k ah ty p w) (e:∀ b,p.has b->w'.heap[b]? = w.heap[b]?):pZ k ah ty p w' where
 outer:=let ⟨c,fz,h1,h2⟩:=L.outer;⟨c,fz,(e _ p.gR).trans h1,h2⟩
 len:=L.len
 room:=L.room
 row:=fun i r l hr hl=>let ⟨h0,c,t,fz,h1,h2⟩:=L.row i r l hr hl;⟨h0,c,t,fz,(e _ (cj.MB hr)).trans h1,h2⟩
 nodup:=L.nodup
def Ob.bytes (o:Ob):Prop:=∀ x∈o.cells,∃ n,x=W.int .u8 n
def Ob.wb (o:Ob):Prop:=o.cells≠[]/\∀ x∈o.cells,∃ n,x=W.kM n
theorem Ob.nN {o:Ob} {x:W} (hx:x∈o.cells) (h:∀ n,x≠.kM n):¬ o.wb:=fun hw=>let ⟨n,e⟩:=hw.2 x hx;h n e
theorem Ob.sB {o:Ob} {d:D} {l:List d.ty} (h:o.cells=l.map d.w):¬ o.wb:=by
 rintro ⟨h1,h2⟩
 cases l with
 | nil=>exact h1 (by rw [h];rfl)
 | cons x l =>
   obtain ⟨n,e⟩:=h2 (d.w x) (by rw [h];simp)
   exact D.w_by d x e
def yg (m:Nat) (o:Ob) (p:cj) (fz:Nat×Nat):Prop:=(fz.1=fz.2∨fz.2<=p.off)∨(o.bytes/\fz.2<=p.off+o.cells.length)∨(o.wb/\m<=fz.1)
theorem yg.plain {m:Nat} {o:Ob} {p:cj} {fz:Nat×Nat} (h:yg m o p fz) (hb:¬ o.bytes) (hw:¬ o.wb):fz.1=fz.2∨fz.2<=p.off:=by
 rcases h with h | h | h
 . exact h
 . exact absurd h.1 hb
 . exact absurd h.1 hw
theorem yg.strong {m:Nat} {o:Ob} {p:cj} {fz:Nat×Nat} (h:yg m o p fz) (hb:¬ o.bytes):∀ k,p.off<=k->k<m->¬ (fz.1<=k/\k<fz.2):=by
 intro k a _
 rcases h with h | h | h
 . omega
 . exact absurd h.1 hb
 . omega
theorem yg.tail {m:Nat} {o:Ob} {p:cj} {fz:Nat×Nat} (h:yg m o p fz):fz.1=fz.2∨fz.2<=p.off+o.cells.length∨(o.wb/\m<=fz.1):=by
 rcases h with (h | h) | h | h
 . exact .inl h
 . exact .inr (.inl (by omega))
 . exact .inr (.inl h.2)
 . exact .inr (.inr h)
structure dR (η:Eta) (Z:aA) (o:Ob) (p:cj) (w:World):Prop where
 there:¬ o.eV->∃ c fz,w.heap[p.block]? = some (.cells c o.ty fz)/\p.off+p.room<=c.size/\(∀ (i:Nat) x,o.cells[i]? = some x->∃ v,c[p.off+i]? = some v/\aF η Z x v/\v.oneCell'=true)/\yg c.size o p fz
 size:¬ o.eV->o.cells.length<=p.room
 tabs:∀ k ah,o.iY k ah->pZ k ah o.ty p w
 maps:o.isMap->∃ es clock,w.heap[p.block]? = some (.map es clock)/\eH η Z o.cells.tail es.toList
def oU:Obj->Bool
 | .cells _ _ _=>true
 | .map _ _=>true
 | _=>false
theorem dR.data {η:Eta} {Z:aA} {o:Ob} {p:cj} {w:World} (L:dR η Z o p w):∃ ob,w.heap[p.block]? = some ob/\oU ob=true:=by
 by_cases h:o.eV
 . rcases h with h | ⟨k,ah,h⟩
   . obtain ⟨es,k,e,_⟩:=L.maps h;exact ⟨_,e,rfl⟩
   . obtain ⟨c,fz,e,_⟩:=(L.tabs k ah h).outer;exact ⟨_,e,rfl⟩
 . obtain ⟨c,fz,e,_⟩:=L.there h;exact ⟨_,e,rfl⟩
theorem dR.plain {η:Eta} {Z:aA} {o:Ob} {p:cj} {w:World} (hm:¬ o.eV) (h:∃ c fz,w.heap[p.block]? = some (.cells c o.ty fz)/\p.off+p.room<=c.size/\(∀ (i:Nat) x,o.cells[i]? = some x->∃ v,c[p.off+i]? = some v/\aF η Z x v/\v.oneCell'=true)/\
 (fz.1=fz.2∨fz.2<=p.off)) (hs:o.cells.length<=p.room):dR η Z o p w :=
 ⟨fun _=>let ⟨c,fz,a,b,d,e⟩:=h;⟨c,fz,a,b,d,.inl e⟩,fun _=>hs,fun k ah ht=>absurd (.inr ⟨k,ah,ht⟩) hm,fun ht=>absurd (.inl ht) hm⟩
theorem dR.CD {η:Eta} {Z:aA} {o:Ob} {p:cj} {w:World} (hm:¬ o.eV) (h:∃ c fz,w.heap[p.block]? = some (.cells c o.ty fz)/\p.off+p.room<=c.size/\(∀ (i:Nat) x,o.cells[i]? = some x->∃ v,c[p.off+i]? = some v/\aF η Z x v/\v.oneCell'=true)/\yg c.size o p fz) (hs:o.cells.length<=p.room):dR η Z o p w :=
 ⟨fun _=>h,fun _=>hs,fun k ah ht=>absurd (.inr ⟨k,ah,ht⟩) hm,fun ht=>absurd (.inl ht) hm⟩
theorem dR.map {η:Eta} {Z:aA} {o:Ob} {p:cj} {w:World} (hm:o.isMap) (h:∃ es clock,w.heap[p.block]? = some (.map es clock)/\eH η Z o.cells.tail es.toList):dR η Z o p w :=
 ⟨fun hn=>absurd (.inl hm) hn,fun hn=>absurd (.inl hm) hn,fun _ _ ht=>(Ob.EA hm ht).elim,fun _=>h⟩
theorem dR.tab {η:Eta} {Z:aA} {o:Ob} {p:cj} {w:World} {k:Nat} {ah:List (List Int)} (hm:o.iY k ah) (h:pZ k ah o.ty p w):dR η Z o p w :=
 ⟨fun hn=>absurd (.inr ⟨_,_,hm⟩) hn,fun hn=>absurd (.inr ⟨_,_,hm⟩) hn,fun k' rows' ht=>by obtain ⟨rfl,rfl⟩:=Ob.isT_T hm ht;exact h,fun ht=>(Ob.EA ht hm).elim⟩
structure St (base:Nat) (η:Eta) (Z:aA) (S:ai) (w:World):Prop where
 ak:∀ n o p,S.get n=some o->η n=some p->base<=p.block/\Z p.block=none/\dR η Z o p w
 cw:∀ n o,S.get n=some o->η n=none->o.cells=[]
 known:∀ n o,S.get n=some o->n<S.next
 js:∀ n n' o o' p p' b,S.get n=some o->S.get n'=some o'->n≠n'->η n=some p->η n'=some p'->p.has b->¬ p'.has b
 zs:∀ b cs,Z b=some cs->∃ ty fz,w.heap[b]? = some (.cells cs ty fz)
 fresh:∀ n,S.next<=n->η n=none
 ga:base<=w.heap.size
 sat:∀ n o p,S.get n=some o->η n=some p->∀ b∈p.sats,base<=b/\Z b=none/\∃ ob,w.heap[b]? = some ob/\oU ob=true
theorem St.inj {base:Nat} {η:Eta} {Z:aA} {S:ai} {w:World} (R:St base η Z S w):∀ n n' o o' p p',S.get n=some o->S.get n'=some o'->n≠n'->η n=some p->η n'=some p'->p.block≠p'.block :=
 fun n n' o o' p p' h h' hn hp hp' e=>R.js n n' o o' p p' _ h h' hn hp hp' p.gR (.inl e.symm)
theorem St.lt {base:Nat} {η:Eta} {Z:aA} {S:ai} {w:World} (R:St base η Z S w) {n:Nat} {p:cj} (h:η n=some p):n<S.next:=by
 rcases Nat.lt_or_ge n S.next with k | k
 . exact k
 . rw [R.fresh n k] at h;cases h
theorem cY {w:World} {b:Nat} {o:Obj} (h:w.heap[b]? = some o):b<w.heap.size:=by
 rcases Nat.lt_or_ge b w.heap.size with k | k
 . exact k
 . rw [Array.getElem?_eq_none k] at h;cases h
theorem St.Vu {base:Nat} {η:Eta} {Z:aA} {S:ai} {w:World} (R:St base η Z S w) {n:Nat} {o:Ob} {p:cj} (h:S.get n=some o) (hp:η n=some p):p.block<w.heap.size:=by
 obtain ⟨_,_,L⟩:=R.ak n o p h hp
 obtain ⟨c,hc,_⟩:=L.data
 exact cY hc
theorem St.all {base:Nat} {η:Eta} {Z:aA} {S:ai} {w:World} (R:St base η Z S w) {n:Nat} {o:Ob} {p:cj} (h:S.get n=some o) (hp:η n=some p) {b:Nat} (hb:p.has b):base<=b/\Z b=none/\∃ ob,w.heap[b]? = some ob/\oU ob=true:=by
 rcases hb with rfl | hb
 . obtain ⟨h1,h2,L⟩:=R.ak n o p h hp
   exact ⟨h1,h2,L.data⟩
 . exact R.sat n o p h hp b hb
theorem St.jB {base:Nat} {η:Eta} {Z:aA} {S:ai} {w:World} (R:St base η Z S w) {n:Nat} {o:Ob} {p:cj} (h:S.get n=some o) (hp:η n=some p) {b:Nat} (hb:p.has b):b<w.heap.size:=by
 obtain ⟨_,_,ob,e,_⟩:=R.all h hp hb
 exact cY e
theorem St.Vv {base:Nat} {η:Eta} {Z:aA} {S:ai} {w:World} (R:St base η Z S w) {b:Nat} {c:Array Value} (h:Z b=some c):b<w.heap.size:=by
 obtain ⟨ty,fz,e⟩:=R.zs b c h;exact cY e
def Own (η:Eta) (S:ai) (b:Nat):Prop:=∃ n o p,S.get n=some o/\η n=some p/\p.has b
structure Step (η:Eta) (Z:aA) (S:ai) (w:World) (aE:Eta) (Z':aA) (S':ai) (w':World):Prop where
 os:w'.os=w.os
 tape:w'.tape=w.tape
 output:w'.output=w.output
 size:w.heap.size<=w'.heap.size
 block:∀ b,b<w.heap.size->¬ Own η S b->w'.heap[b]? = w.heap[b]?
 own:∀ b,Own aE S' b->Own η S b∨w.heap.size<=b
 cJ:Z.le Z'
 gq:∀ b c,Z' b=some c->Z b=some c∨Own η S b∨w.heap.size<=b
 gh:S'.cw=S.cw
theorem Step.refl (η:Eta) (Z:aA) (S:ai) (w:World):Step η Z S w η Z S w :=
 ⟨rfl,rfl,rfl,Nat.le_refl _,fun _ _ _=>rfl,fun _ h=>.inl h,aA.le.refl _,fun _ _ h=>.inl h,rfl⟩
theorem Step.trans {η dO iE:Eta} {Z Z1 Z2:aA} {S S1 S2:ai} {w w1 w2:World} (h:Step η Z S w dO Z1 S1 w1) (k:Step dO Z1 S1 w1 iE Z2 S2 w2):Step η Z S w iE Z2 S2 w2 where
 os:=k.os.trans h.os
 tape:=k.tape.trans h.tape
 output:=k.output.trans h.output
 size:=Nat.le_trans h.size k.size
 block:=fun b hb ho=>(k.block b (Nat.lt_of_lt_of_le hb h.size) (fun ho'=>by
  rcases h.own b ho' with hh | hh
  . exact ho hh
  . omega)).trans (h.block b hb ho)
 own:=fun b ho=>by
  rcases k.own b ho with hh | hh
  . exact h.own b hh
  . exact .inr (Nat.le_trans h.size hh)
 cJ:=h.cJ.trans k.cJ
 gq:=fun b c hc=>by
  rcases k.gq b c hc with hh | hh | hh
  . exact h.gq b c hh
  . exact .inr (h.own b hh)
  . exact .inr (.inr (Nat.le_trans h.size hh))
 gh:=k.gh.trans h.gh
structure p4 (base:Nat) (η:Eta) (Z:aA) (S:ai) (w:World) (aE:Eta) (S':ai) (w':World):Prop where
 le:η.le aE
 st:St base aE Z S' w'
 step:Step η Z S w aE Z S' w'
def Eta.add (η:Eta) (n:Nat) (p:cj):Eta:=fun i=>if i=n then some p else η i
theorem Eta.fK {η:Eta} {n:Nat} {p:cj}:(η.add n p) n=some p:=by unfold Eta.add;rw [if_pos rfl]
theorem Eta.iV {η:Eta} {n m:Nat} {p:cj} (h:m≠n):(η.add n p) m=η m:=by unfold Eta.add;rw [if_neg h]
theorem Eta.sG {η:Eta} {n:Nat} {p:cj} (h:η n=none):η.le (η.add n p):=by
 intro i q e
 unfold Eta.add
 by_cases hi:i=n
 . subst hi;rw [h] at e;cases e
 . rw [if_neg hi];exact e
theorem dR.mono {η aE:Eta} {Z Z':aA} {o:Ob} {p:cj} {w w':World} (h:η.le aE) (hz:Z.le Z') (L:dR η Z o p w) (es:∀ b,p.has b->w'.heap[b]? = w.heap[b]?):dR aE Z' o p w':=by
 have e:=es _ p.gR
 refine ⟨fun hm=>?_,L.size,fun k ah ht=>(L.tabs k ah ht).mono es,fun hm=>?_⟩
 . obtain ⟨c,fz,h1,h2,h3,h4⟩:=L.there hm
   exact ⟨c,fz,e.trans h1,h2,fun i x hx=>let ⟨v,a,b,d⟩:=h3 i x hx;⟨v,a,b.mono h hz,d⟩,h4⟩
 . obtain ⟨es,k,h1,h2⟩:=L.maps hm
   exact ⟨es,k,e.trans h1,h2.mono h hz⟩
theorem ai.eY {S:ai} {o:Ob} {m:Nat} (h:S.get S.next=none):(S.add o).get m=if m=S.next then some o else S.get m:=by
 show find (S.ak++[(S.next,o)]) m=_
 rw [uo]
 by_cases hm:m=S.next
 . subst hm
   have:find S.ak S.next=none:=h
   rw [this,if_pos rfl]
   simp [find]
 . rw [if_neg hm]
   show (match find S.ak m with | some o=>some o | none=>find [(S.next,o)] m)=find S.ak m
   cases e:find S.ak m with
   | some x=>rfl
   | none=>simp only [find];rw [if_neg (by omega)]
theorem St.eZ {base:Nat} {η:Eta} {Z:aA} {S:ai} {w:World} (R:St base η Z S w):S.get S.next=none:=by
 cases e:S.get S.next with
 | none=>rfl
 | some o =>
   exact absurd (R.known _ _ e) (Nat.lt_irrefl _)
theorem St.push {base:Nat} {η:Eta} {Z:aA} {S:ai} {w w':World} (R:St base η Z S w) (o:Ob) (ob:Obj) (room:Nat) (hw:w'.heap=w.heap.push ob) (hos:w'.os=w.os) (mY:w'.tape=w.tape) (hout:w'.output=w.output)
 (hL:∀ aE,η.le aE->dR aE Z o ⟨w.heap.size,0,room,[]⟩ w') :
 p4 base η Z S w (η.add S.next ⟨w.heap.size,0,room,[]⟩) (S.add o) w'/\(η.add S.next ⟨w.heap.size,0,room,[]⟩) S.next=some ⟨w.heap.size,0,room,[]⟩:=by
 have hfr:=R.fresh S.next (Nat.le_refl _)
 have hle:η.le (η.add S.next ⟨w.heap.size,0,room,[]⟩):=Eta.sG hfr
 have hget:∀ m,(S.add o).get m=if m=S.next then some o else S.get m:=fun m=>ai.eY R.eZ
 have hold:∀ b,b<w.heap.size->w'.heap[b]? = w.heap[b]?:=fun b hb=>by rw [hw,Array.getElem?_push,if_neg (by omega)]
 refine ⟨⟨hle,⟨?_,?_,?_,?_,?_,?_,?_,?_⟩,⟨hos,mY,hout,by rw [hw];simp,fun b hb _=>hold b hb,?_,aA.le.refl _,fun _ _ h=>.inl h,rfl⟩⟩,Eta.fK⟩
 . intro n x q hx hq
   rw [hget] at hx
   by_cases hn:n=S.next
   . subst hn
     rw [if_pos rfl] at hx;cases hx
     rw [Eta.fK] at hq;cases hq
     refine ⟨R.ga,?_,hL _ hle⟩
     cases e:Z w.heap.size with
     | none=>rfl
     | some cs=>have:=R.Vv e;omega
   . rw [if_neg hn] at hx
     rw [Eta.iV hn] at hq
     obtain ⟨hb,hz,L⟩:=R.ak n x q hx hq
     exact ⟨hb,hz,L.mono hle (aA.le.refl _) fun b hb=>hold _ (R.jB hx hq hb)⟩
 . intro n x hx hq
   rw [hget] at hx
   by_cases hn:n=S.next
   . subst hn
     rw [Eta.fK] at hq;cases hq
   . rw [if_neg hn] at hx
     rw [Eta.iV hn] at hq
     exact R.cw n x hx hq
 . intro n x hx
   show n<S.next+1
   rw [hget] at hx
   by_cases hn:n=S.next
   . omega
   . rw [if_neg hn] at hx
     have:=R.known n x hx
     omega
 . intro n n' x x' p p' b hx hx' hne hp hp' hb hb'
   rw [hget] at hx hx'
   by_cases hn:n=S.next
   . subst hn
     rw [Eta.fK] at hp;cases hp
     rw [if_neg (Ne.symm hne)] at hx'
     rw [Eta.iV (Ne.symm hne)] at hp'
     have h1:=R.jB hx' hp' hb'
     have h2:=cj.uR hb
     omega
   . rw [if_neg hn] at hx
     rw [Eta.iV hn] at hp
     by_cases hn':n'=S.next
     . subst hn'
       rw [Eta.fK] at hp';cases hp'
       have h1:=R.jB hx hp hb
       have h2:=cj.uR hb'
       omega
     . rw [if_neg hn'] at hx'
       rw [Eta.iV hn'] at hp'
       exact R.js n n' x x' p p' b hx hx' hne hp hp' hb hb'
 . intro b cs hb
   obtain ⟨ty,fz,e⟩:=R.zs b cs hb
   exact ⟨ty,fz,(hold b (cY e)).trans e⟩
 . intro n hn
   rw [Eta.iV (by have:(S.add o).next=S.next+1:=rfl;omega)]
   exact R.fresh n (by have:(S.add o).next=S.next+1:=rfl;omega)
 . rw [hw];have:=R.ga;simp;omega
 . intro n x q hx hq b hb
   rw [hget] at hx
   by_cases hn:n=S.next
   . subst hn
     rw [Eta.fK] at hq;cases hq
     cases hb
   . rw [if_neg hn] at hx
     rw [Eta.iV hn] at hq
     obtain ⟨h1,h2,ob,h3,h4⟩:=R.sat n x q hx hq b hb
     exact ⟨h1,h2,ob,(hold _ (cY h3)).trans h3,h4⟩
 . rintro b ⟨n,x,p,hx,hp,hb⟩
   rw [hget] at hx
   by_cases hn:n=S.next
   . subst hn
     rw [Eta.fK] at hp;cases hp
     exact .inr (Nat.le_of_eq (cj.uR hb).symm)
   . rw [if_neg hn] at hx
     rw [Eta.iV hn] at hp
     exact .inl ⟨n,x,p,hx,hp,hb⟩
theorem St.new {base:Nat} {η:Eta} {Z:aA} {S:ai} {w w':World} (R:St base η Z S w) (o:Ob) (c:Array Value) {fz:Nat×Nat} (hw:w'.heap=w.heap.push (.cells c o.ty fz)) (hos:w'.os=w.os) (mY:w'.tape=w.tape) (hout:w'.output=w.output)
 (cB:o.cells.length<=c.size) (hc:∀ (i:Nat) x,o.cells[i]? = some x->∃ v,c[i]? = some v/\aF η Z x v/\v.oneCell'=true) (hfz:fz.1=fz.2) :
 p4 base η Z S w (η.add S.next ⟨w.heap.size,0,c.size,[]⟩) (S.add o) w'/\(η.add S.next ⟨w.heap.size,0,c.size,[]⟩) S.next=some ⟨w.heap.size,0,c.size,[]⟩:=by
 have hm:¬ o.eV:=by
  rintro (hm | ⟨k,ah,hm⟩) <;> obtain ⟨v,_,b,_⟩:=hc 0 _ hm <;> simp only [aF,aM] at b
 refine R.push o (.cells c o.ty fz) c.size hw hos mY hout fun aE hle=>dR.plain hm ⟨c,fz,by simp [hw],by simp,?_,?_⟩ cB
 . intro i x hx
   obtain ⟨v,a,b,d⟩:=hc i x hx
   exact ⟨v,by simpa using a,b.mono hle (aA.le.refl _),d⟩
 . exact .inl hfz
theorem St.newF {base:Nat} {η:Eta} {Z:aA} {S:ai} {w w':World} (R:St base η Z S w) (o:Ob) (c:Array Value) {fz:Nat×Nat} (hw:w'.heap=w.heap.push (.cells c o.ty fz)) (hos:w'.os=w.os) (mY:w'.tape=w.tape) (hout:w'.output=w.output)
 (cB:o.cells.length<=c.size) (hc:∀ (i:Nat) x,o.cells[i]? = some x->∃ v,c[i]? = some v/\aF η Z x v/\v.oneCell'=true) (Rf:o.wb) (hfz:c.size<=fz.1) :
 p4 base η Z S w (η.add S.next ⟨w.heap.size,0,c.size,[]⟩) (S.add o) w'/\(η.add S.next ⟨w.heap.size,0,c.size,[]⟩) S.next=some ⟨w.heap.size,0,c.size,[]⟩:=by
 have hm:¬ o.eV:=by
  rintro (hm | ⟨k,ah,hm⟩) <;> obtain ⟨v,_,b,_⟩:=hc 0 _ hm <;> simp only [aF,aM] at b
 refine R.push o (.cells c o.ty fz) c.size hw hos mY hout fun aE hle=>dR.CD hm ⟨c,fz,by simp [hw],by simp,?_,.inr (.inr ⟨Rf,hfz⟩)⟩ cB
 intro i x hx
 obtain ⟨v,a,b,d⟩:=hc i x hx
 exact ⟨v,by simpa using a,b.mono hle (aA.le.refl _),d⟩
theorem St.Rg {base:Nat} {η:Eta} {Z:aA} {S:ai} {w w':World} (R:St base η Z S w) (o:Ob) (ho:o.cells=[.mh]) (hw:w'.heap=w.heap.push (.map #[] 0)) (hos:w'.os=w.os) (mY:w'.tape=w.tape) (hout:w'.output=w.output) :
 p4 base η Z S w (η.add S.next ⟨w.heap.size,0,0,[]⟩) (S.add o) w'/\(η.add S.next ⟨w.heap.size,0,0,[]⟩) S.next=some ⟨w.heap.size,0,0,[]⟩:=by
 have hm:o.isMap:=by unfold Ob.isMap;rw [ho];rfl
 exact R.push o (.map #[] 0) 0 hw hos mY hout fun aE _=>dR.map hm ⟨#[],0,by simp [hw],by rw [ho];trivial⟩
def W.oy:W->Bool
 | .mh=>false
 | .th _ _=>false
 | _=>true
def Fd.okF:Fd->Bool
 | .c x=>x.oy
 | .a _ _ _=>true
 | .m _ _ _=>false
 | .b _=>true
def OA:List Fd->Bool
 | []=>true
 | f::fs=>f.okF&&OA fs
def W.special:W->Prop
 | .mh=>True
 | .th _ _=>True
 | _=>False
theorem D.Fy:∀ (d:D) (x:d.ty),¬ (d.w x).special
 | .int _,_=>by simp [D.w,W.special]
 | .bool,_=>by simp [D.w,W.special]
 | .str,_=>by simp [D.w,W.special]
 | .sl _,_=>by simp [D.w,W.special]
theorem Ob.Rh {o:Ob} (h:o.eV):∃ x,o.cells[0]? = some x/\x.special:=by
 rcases h with h | ⟨k,ah,h⟩
 . exact ⟨_,h,trivial⟩
 . exact ⟨_,h,trivial⟩
theorem CF:∀ {fs:List Fd},OA fs=true->∀ x∈fs.flatMap Fd.cells,¬ x.special
 | [],_=>by simp
 | f :: fs, h => by
   simp only [OA,Bool.and_eq_true] at h
   intro x hx
   rw [List.flatMap_cons] at hx
   rcases List.mem_append.1 hx with hx | hx
   . cases f with
     | c y =>
       simp only [Fd.cells,List.mem_singleton] at hx;subst hx
       have h1:=h.1
       cases x <;> simp_all [Fd.okF,W.oy,W.special]
     | a n d l =>
       simp only [Fd.cells,List.mem_map] at hx
       obtain ⟨y,_,rfl⟩:=hx
       exact D.Fy _ _
     | m kd vd l=>cases h.1
     | b l =>
       simp only [Fd.cells,List.mem_map] at hx
       obtain ⟨y,_,rfl⟩:=hx
       exact id
   . exact CF h.2 x hx
theorem Ob.zY {o:Ob} (h:∀ x∈o.cells,¬ x.special):¬ o.eV:=fun hm=>let ⟨_,e,hs⟩:=Ob.Rh hm;h _ (List.mem_of_getElem? e) hs
theorem Ob.ji {o:Ob} {d:D} {l:List d.ty} (h:o.cells=l.map d.w):¬ o.eV:=Ob.zY fun x hx=>by
 rw [h,List.mem_map] at hx
 obtain ⟨y,_,rfl⟩:=hx
 exact D.Fy _ _
def ai.sH (S:ai) (n:Nat):Option Ob:=match S.get n with
 | some o=>bif OA o.fs then some o else none
 | none=>none
theorem kz {S:ai} {n:Nat} {o:Ob} (h:S.sH n=some o):S.get n=some o/\¬ o.eV:=by
 unfold ai.sH at h
 split at h
 . rename_i o' ho
   obtain ⟨h1,h⟩:=au.aH h
   cases h
   exact ⟨ho,Ob.zY (CF h1)⟩
 . cases h
theorem St.read {base:Nat} {η:Eta} {Z:aA} {S:ai} {w:World} (R:St base η Z S w) {n:Nat} {o:Ob} {p:cj} (h:S.get n=some o) (hp:η n=some p) (hm:¬ o.eV) {i:Nat} {x:W} (hx:o.cells[i]? = some x) :
 ∃ v,w.cell? ⟨p.block,p.off+i,none⟩=some v/\aF η Z x v/\v.oneCell'=true:=by
 obtain ⟨_,_,L⟩:=R.ak n o p h hp
 obtain ⟨c,fz,hc,_,hv,_⟩:=L.there hm
 obtain ⟨v,a,b,d⟩:=hv i x hx
 exact ⟨v,by simp [World.cell?,hc,a],b,d⟩
theorem St.Yy {base:Nat} {η:Eta} {Z:aA} {S:ai} {w:World} (R:St base η Z S w) {b:Nat} {cells:Array Value} (h:Z b=some cells) {o:Nat} {cs:List W} (hs:eW Z cells o cs) {i:Nat} {x:W} (hx:cs[i]? = some x) :
 ∃ v,w.cell? ⟨b,o+i,none⟩=some v/\aM Z x v:=by
 obtain ⟨ty,fz,hc⟩:=R.zs b cells h
 obtain ⟨v,a,d⟩:=hs.get hx
 exact ⟨v,by simp [World.cell?,hc,a],d⟩
theorem St.Ri {base:Nat} {η:Eta} {Z:aA} {S:ai} {w w':World} (R:St base η Z S w) {n:Nat} {o:Ob} {p:cj} (h:S.get n=some o) (hp:η n=some p) {o':Ob} {b0:Nat} (hb0:p.has b0)
 (hos:w'.os=w.os) (mY:w'.tape=w.tape) (hout:w'.output=w.output) (hsz:w'.heap.size=w.heap.size) (gb:∀ b,b≠b0->w'.heap[b]? = w.heap[b]?) (hdata:∃ ob,w'.heap[b0]? = some ob/\oU ob=true)
 (L':dR η Z o' p w'):p4 base η Z S w η (S.put n o') w':=by
 have hget:∀ m,(S.put n o').get m=if m=n then some o' else S.get m:=fun m=>by rw [ai.iW,h];rfl
 have f:∀ k y,(S.put n o').get k=some y->∃ z,S.get k=some z:=by
  intro k y hy
  rw [hget] at hy
  by_cases hk:k=n
  . subst hk;exact ⟨o,h⟩
  . rw [if_neg hk] at hy;exact ⟨y,hy⟩
 have hown:∀ b,Own η (S.put n o') b->Own η S b:=by
  rintro b ⟨m,x,q,hx,hq,hb⟩
  obtain ⟨z,hz⟩:=f m x hx
  exact ⟨m,z,q,hz,hq,hb⟩
 have Ii:∀ b:Nat,(∃ ob,w.heap[b]? = some ob/\oU ob=true)->∃ ob,w'.heap[b]? = some ob/\oU ob=true:=by
  rintro b ⟨ob,e,hd⟩
  by_cases hb:b=b0
  . subst hb;exact hdata
  . exact ⟨ob,(gb b hb).trans e,hd⟩
 refine ⟨Eta.le.refl _,⟨?_,?_,?_,?_,?_,R.fresh,by rw [hsz];exact R.ga,?_⟩,⟨hos,mY,hout,by omega,?_,fun b hb=>.inl (hown b hb),aA.le.refl _,fun _ _ hh=>.inl hh,rfl⟩⟩
 . intro m x q hx hq
   rw [hget] at hx
   by_cases hm:m=n
   . subst hm
     rw [if_pos rfl] at hx;cases hx
     rw [hp] at hq;cases hq
     obtain ⟨hb,hz,_⟩:=R.ak m o p h hp
     exact ⟨hb,hz,L'⟩
   . rw [if_neg hm] at hx
     obtain ⟨hb,hz,L⟩:=R.ak m x q hx hq
     exact ⟨hb,hz,L.mono (Eta.le.refl _) (aA.le.refl _) fun b hb=>gb _ fun e=>R.js m n x o q p b hx h hm hq hp hb (e▸hb0)⟩
 . intro m x hx hq
   rw [hget] at hx
   by_cases hm:m=n
   . subst hm;rw [hp] at hq;cases hq
   . rw [if_neg hm] at hx;exact R.cw m x hx hq
 . intro m x hx
   show m<S.next
   obtain ⟨z,hz⟩:=f m x hx
   exact R.known m z hz
 . intro m m' x x' q q' b hx hx' hne hq l8 hb
   obtain ⟨z,hz⟩:=f m x hx
   obtain ⟨z',hz'⟩:=f m' x' hx'
   exact R.js m m' z z' q q' b hz hz' hne hq l8 hb
 . intro b c hb
   obtain ⟨ty,fz,e⟩:=R.zs b c hb
   obtain ⟨_,hz,_⟩:=R.all h hp hb0
   exact ⟨ty,fz,(gb b (fun e=>by rw [e,hz] at hb;cases hb)).trans e⟩
 . intro m x q hx hq b hb
   obtain ⟨z,hz⟩:=f m x hx
   obtain ⟨h1,h2,h3⟩:=R.sat m z q hz hq b hb
   exact ⟨h1,h2,Ii b h3⟩
 . intro b _ ho
   exact gb b fun e=>ho ⟨n,o,p,h,hp,e▸hb0⟩
theorem St.write {base:Nat} {η:Eta} {Z:aA} {S:ai} {w w':World} (R:St base η Z S w) {n:Nat} {o:Ob} {p:cj} (h:S.get n=some o) (hp:η n=some p) {o':Ob}
 (hos:w'.os=w.os) (mY:w'.tape=w.tape) (hout:w'.output=w.output) (hsz:w'.heap.size=w.heap.size) (gb:∀ b,b≠p.block->w'.heap[b]? = w.heap[b]?)
 (L':dR η Z o' p w'):p4 base η Z S w η (S.put n o') w' :=
 R.Ri h hp p.gR hos mY hout hsz gb L'.data L'
def rC (P:Program) (t:TypeId):Option Bool:=match P.underlying t with | some (.struct _)=>some true | some (.array _ _)=>some true | some _=>some false | none=>none
theorem nY {P:Program} {t:TypeId} {b:Bool} (e:rC P t=some b) (w:World):(isAgg t).run P w=.ok b w:=by
 unfold rC at e
 split at e <;> cases e <;> rename_i hu
 all_goals simp [isAgg,run_underlying hu]
def gN (P:Program) (t:TypeId):Option Nat:=match P.info? t with | some i=>some i.size | none=>none
theorem dX {P:Program} {t:TypeId} {n:Nat} (e:gN P t=some n) (w:World):(sizeOf t).run P w=.ok n w:=by
 unfold gN at e
 split at e
 . rename_i i hi;cases e;simp [sizeOf,typeInfo,hi]
 . cases e
def MC:Value->Option W
 | .bool b=>some (.bool b)
 | .int k n=>some (.int k n)
 | .string s=>some (.str s)
 | .pointer none=>some .bY
 | .slice none 0 0=>some .nil
 | .nilFunc=>some .lU
 | .nilIface=>some .dM
 | _=>none
theorem MD {Z:aA} {v:Value} {x:W} (e:MC v=some x):aM Z x v/\x≠.ct/\v.oneCell'=true:=by
 unfold MC at e
 split at e <;> cases e <;> simp [aM,Value.oneCell']
def EB:List Value->Option (List W)
 | []=>some []
 | v::l=>match MC v with | some x=>(match EB l with | some r=>some (x::r) | none=>none) | none=>none
theorem nZ {η:Eta} {Z:aA}:∀ {l:List Value} {xs:List W},EB l=some xs->aT (aF η Z) xs l/\(∀ x∈xs,x≠.ct)/\(∀ v∈l,v.oneCell'=true)
 | [],xs,e=>by cases e;exact ⟨trivial,by simp,by simp⟩
 | v :: l, xs, e => by
   simp only [EB] at e
   split at e
   . rename_i x hx
     split at e
     . rename_i r hr
       cases e
       obtain ⟨a,b,c⟩:=nZ (η:=η) (Z:=Z) hr
       obtain ⟨d,f,g⟩:=MD (Z:=Z) hx
       refine ⟨⟨d.Ig,a⟩,?_,?_⟩
       . intro y hy;rcases List.mem_cons.1 hy with rfl | hy
         . exact f
         . exact b y hy
       . intro y hy;rcases List.mem_cons.1 hy with rfl | hy
         . exact g
         . exact c y hy
     . cases e
   . cases e
def ME:Value->Option V
 | .agg cs=>match EB cs.toList with | some xs=>some (.agg xs) | none=>none
 | v=>match MC v with | some x=>some (.c x) | none=>none
theorem zZ {η:Eta} {Z:aA} {v:Value} {x:V} (e:ME v=some x):dr η Z x v:=by
 unfold ME at e
 split at e
 . rename_i cs
   split at e
   . rename_i xs hxs
     cases e
     obtain ⟨a,b,_⟩:=nZ (η:=η) (Z:=Z) hxs
     exact ⟨cs.toList,by simp,b,a⟩
   . cases e
 . split at e
   . rename_i x hx
     cases e
     obtain ⟨a,b,_⟩:=MD (Z:=Z) hx
     exact ⟨b,a.Ig⟩
   . cases e
inductive Cd where
 | t
 | p (c:Prop)
 | and (a b:Cd)
 | imp (g:Prop) (c:Cd)
def Cd.holds:Cd->Prop
 | .t=>True
 | .p c=>c
 | .and a b=>a.holds/\b.holds
 | .imp g c=>g->c.holds
instance:CoeSort Cd Prop:=⟨Cd.holds⟩
def Cd.list:Cd->List Prop
 | .t=>[]
 | .p c=>[c]
 | .and a b=>a.list++b.list
 | .imp g c=>c.list.map (g->·)
def gE:List Prop->Prop->Prop
 | [],k=>k
 | p::l,k=>p/\gE l k
theorem Cd.z6:∀ {c:Cd},(∀ p∈c.list,p)->c
 | .t,_=>trivial
 | .p c,h=>h c (by simp [Cd.list])
 | .and a b,h=>⟨Cd.z6 fun p hp=>h p (by simp [Cd.list,hp]),Cd.z6 fun p hp=>h p (by simp [Cd.list,hp])⟩
 | .imp g c,h=>fun hg=>Cd.z6 fun p hp=>h (g->p) (List.mem_map.2 ⟨p,hp,rfl⟩) hg
theorem BG:∀ {l:List Prop} {k:Prop},gE l k->(∀ p∈l,p)/\k
 | [],_,h=>⟨by simp,h⟩
 | p::l,k,⟨h1,h2⟩=>by
   obtain ⟨a,b⟩:=BG h2
   refine ⟨fun x hx=>?_,b⟩
   rcases List.mem_cons.1 hx with rfl | hx
   . exact h1
   . exact a x hx
theorem iw {c:Cd} {k:Prop} (h:gE c.list k):c/\k:=⟨Cd.z6 (BG h).1,(BG h).2⟩
inductive bO where
 | tmp (t:Nat)
 | w (x:W)
 | agg (cs:List W)
def bT:Operand->Option bO
 | .tmp t=>some (.tmp t)
 | .const v=>match ME v with | some (.c x)=>some (.w x) | some (.agg cs)=>some (.agg cs) | none=>none
 | .global _=>none
 | .func f=>some (.w (.func f []))
noncomputable def nO (F:Fr):bO->Option (Cd×V)
 | .tmp t=>match F.get t with | some (.p v)=>some (.t,v) | some (.cond c v)=>some (.p c,v) | some (.dec b)=>some (.t,.c (.bool b)) | _=>none
 | .w x=>some (.t,.c x)
 | .agg cs=>some (.t,.agg cs)
theorem eA {n:Nat} {η:Eta} {Z:aA} {F:Fr} {a:Act} (R:bh n η Z F a.tmps) {x':Operand} {x:bO} (hx:bT x'=some x) {c:Cd} {v:V} (e:nO F x=some (c,v)) (hc:c):dr η Z v (a.eval x'):=by
 cases x' with
 | tmp t =>
   cases hx
   simp only [nO] at e
   split at e
   . rename_i v' hv
     cases e
     obtain ⟨u,hu,hr⟩:=R.2 t _ hv
     simpa [Act.eval,Array.getD_eq_getD_getElem?,hu,cr] using hr
   . rename_i c' v' hv
     cases e
     obtain ⟨u,hu,hr⟩:=R.2 t _ hv
     simpa [Act.eval,Array.getD_eq_getD_getElem?,hu] using hr.1 hc
   . rename_i b hv
     cases e
     obtain ⟨u,hu,hr⟩:=R.2 t _ hv
     have hr':u=.bool b:=hr
     subst hr'
     have:a.eval (.tmp t)=.bool b:=by simp [Act.eval,Array.getD_eq_getD_getElem?,hu]
     rw [this]
     exact ⟨by simp,by simp [aF,aM]⟩
   . cases e
 | const u =>
   simp only [bT] at hx
   split at hx
   . rename_i y hy;cases hx;cases e;exact zZ hy
   . rename_i cs hy;cases hx;cases e;exact zZ hy
   . cases hx
 | global g=>cases hx
 | func f =>
   cases hx
   cases e
   exact ⟨by simp,[],rfl,trivial⟩
noncomputable def fE (F:Fr) (x:bO):Option (Cd×W):=match nO F x with | some (c,.c v)=>some (c,v) | _=>none
theorem aK {n:Nat} {η:Eta} {Z:aA} {F:Fr} {a:Act} (R:bh n η Z F a.tmps) {x':Operand} {x:bO} (hx:bT x'=some x) {c:Cd} {v:W} (e:fE F x=some (c,v)) (hc:c):v≠.ct/\aF η Z v (a.eval x'):=by
 unfold fE at e
 split at e
 . rename_i c' v' h;cases e;exact eA R hx h hc
 . cases e
noncomputable def jQ (F:Fr) (x:bO):Option (Cd×IntKind×Int):=match nO F x with | some (c,.c (.int k n))=>some (c,k,n) | _=>none
theorem cL {n:Nat} {η:Eta} {Z:aA} {F:Fr} {a:Act} (R:bh n η Z F a.tmps) {x':Operand} {x:bO} (hx:bT x'=some x) {c:Cd} {k:IntKind} {i:Int} (e:jQ F x=some (c,k,i)) (hc:c):a.eval x'=.int k i:=by
 unfold jQ at e
 split at e
 . rename_i c' k' n' h
   cases e
   have:=(eA R hx h hc).2
   simpa [aF,aM] using this
 . cases e
noncomputable def uS (F:Fr) (x:bO):Option (Cd×Bool):=match nO F x with | some (c,.c (.bool b))=>some (c,b) | _=>none
theorem mZ {n:Nat} {η:Eta} {Z:aA} {F:Fr} {a:Act} (R:bh n η Z F a.tmps) {x':Operand} {x:bO} (hx:bT x'=some x) {c:Cd} {b:Bool} (e:uS F x=some (c,b)) (hc:c):a.eval x'=.bool b:=by
 unfold uS at e
 split at e
 . rename_i c' b' h
   cases e
   have:=(eA R hx h hc).2
   simpa [aF,aM] using this
 . cases e
noncomputable def yh (F:Fr) (x:bO):Option (Cd×ByteArray):=match nO F x with | some (c,.c (.str s))=>some (c,s) | _=>none
theorem lV {n:Nat} {η:Eta} {Z:aA} {F:Fr} {a:Act} (R:bh n η Z F a.tmps) {x':Operand} {x:bO} (hx:bT x'=some x) {c:Cd} {s:ByteArray} (e:yh F x=some (c,s)) (hc:c):a.eval x'=.string s:=by
 unfold yh at e
 split at e
 . rename_i c' b' h
   cases e
   have:=(eA R hx h hc).2
   simpa [aF,aM] using this
 . cases e
def V.cells:V->List W
 | .c x=>[x]
 | .agg cs=>cs
def jR (P:Program) (t:TypeId):Option (List W):=match P.info? t with | some i=>(match i.zero with | some z=>EB z.cells.toList | none=>none) | none=>none
def jC (l:List W) (off:Nat):List W->List W
 | []=>l
 | c::cs=>jC (l.set off c) (off+1) cs
noncomputable def uT (F:Fr):List W->List (Nat×Nat×bO)->Option (Cd×List W)
 | cs,[]=>some (.t,cs)
 | cs,(off,n,x)::r=>match nO F x with
   | some (p,v)=>bif Nat.beq v.cells.length n&&Nat.ble (off+n) cs.length then (match uT F (jC cs off v.cells) r with | some (q,out)=>some (.and p q,out) | none=>none) else none
   | none=>none
def Ij (P:Program):List Field->Option (List (Nat×Nat))
 | []=>some []
 | f::l=>match gN P f.type,Ij P l with | some n,some r=>some ((f.offset,n)::r) | _,_=>none
def sI (pl:Nat->Option (Nat×Nat)):List (Nat×Operand)->Option (List (Nat×Nat×bO))
 | []=>some []
 | (i,x)::l=>match pl i,bT x,sI pl l with | some (o,n),some y,some r=>some ((o,n,y)::r) | _,_,_=>none
def Ik:D->W->W->Option Bool
 | .int _,.int k a,.int k' b=>if k=k' then some (decide (a=b)) else none
 | .bool,.bool a,.bool b=>some (a == b)
 | _,_,_=>none
def Il (xs ys:List W):List (Nat×D)->Option Bool
 | []=>some true
 | (o,d)::l=>match xs[o]?,ys[o]? with
   | some x,some y=>(match Ik d x y,Il xs ys l with | some b,some r=>some (b&&r) | _,_=>none)
   | _,_=>none
def vT:TypeDesc->Option D
 | .int k=>some (.int k)
 | .bool=>some .bool
 | .string=>some .str
 | _=>none
def sC (P:Program):List Field->Option (List (Nat×D))
 | []=>some []
 | f::l=>if f.name = "_" then none else match P.underlying f.type with
   | some u=>(match vT u,sC P l with | some d,some r=>some ((f.offset,d)::r) | _,_=>none)
   | none=>none
inductive Q where
 | move (x:bO)
 | pick (c x y:bO)
 | load (d:W) (x:bO)
 | tw (n:Nat) (x:bO)
 | nilCheck (x:bO)
 | ibin (op:BinOp) (x y:bO)
 | Vw (op:BinOp) (x y:bO)
 | shift (op:BinOp) (x y:bO)
 | icmp (op:BinOp) (x y:bO)
 | scmp (op:BinOp) (x y:bO)
 | scat (x y:bO)
 | beq (op:BinOp) (x y:bO)
 | Yz (neg:Bool) (x y:bO)
 | ieq (neg:Bool) (x:bO)
 | YA (x:bO)
 | neg (x:bO)
 | not (x:bO)
 | conv (k:IntKind) (x:bO)
 | rune (x:bO)
 | text (x:bO)
 | slen (x:bO)
 | llen (sz:Nat) (x:bO)
 | ncap (x:bO)
 | alen (n:Nat)
 | min (x y:bO)
 | max (x y:bO)
 | min3 (x y z:bO)
 | max3 (x y z:bO)
 | index (x i:bO)
 | field (off:Nat) (d:W) (x:bO)
 | Im (off n:Nat) (x:bO)
 | fieldAddr (off:Nat) (x:bO)
 | indexAddr (sz:Nat) (x i:bO)
 | vU (len sz:Nat) (x i:bO)
 | slice (sz:Nat) (x:bO) (lo hi:Option bO)
 | Io (x:bO) (lo hi:Option bO)
 | extract (i:Nat) (x:bO)
 | func (f:FuncId) (caps:List bO)
 | mval (f:FuncId) (x:bO)
 | build (z:List W) (parts:List (Nat×Nat×bO))
 | aeq (op:BinOp) (l:List (Nat×D)) (x y:bO)
def iop (op:BinOp) (k:IntKind) (a b:Int):Int :=
 match op with
 | .add=>k.wrap (a+b)
 | .sub=>k.wrap (a-b)
 | .mul=>k.wrap (a*b)
 | .and=>k.wrap (BitVec.ofInt k.bits a &&& BitVec.ofInt k.bits b).toNat
 | .or=>k.wrap (BitVec.ofInt k.bits a ||| BitVec.ofInt k.bits b).toNat
 | .xor=>k.wrap (BitVec.ofInt k.bits a ^^^ BitVec.ofInt k.bits b).toNat
 | .andNot=>k.wrap (BitVec.ofInt k.bits a &&& ~~~ (BitVec.ofInt k.bits b)).toNat
 | _=>0
def CG:BinOp->Bool
 | .add | .sub | .mul | .and | .or | .xor | .andNot=>true
 | _=>false
def Ip (op:BinOp) (k:IntKind) (a b:Int):Int :=
 match op with
 | .quo=>k.wrap (a.tdiv b)
 | _=>a.tmod b
def shiftOp (op:BinOp) (k:IntKind) (a b:Int):Int :=
 match op with
 | .shl=>k.wrap (a*2 ^ (Min.min b.toNat k.bits))
 | _=>a.fdiv (2 ^ (Min.min b.toNat k.bits))
def Iq (op:BinOp) (a b:Int):Bool :=
 match op with
 | .eql=>decide (a=b)
 | .neq=>!decide (a=b)
 | .lss=>decide (a<b)
 | .leq=>decide (a<=b)
 | .gtr=>decide (b<a)
 | .geq=>decide (b<=a)
 | _=>false
def z7:BinOp->Bool
 | .eql | .neq | .lss | .leq | .gtr | .geq=>true
 | _=>false
def Ir (op:BinOp) (a b:ByteArray):Bool :=
 match op with
 | .eql=>decide (a=b)
 | .neq=>!decide (a=b)
 | .lss=>Op.bytesLess a.toList b.toList
 | .leq=>Op.bytesLess a.toList b.toList||decide (a=b)
 | .gtr=>!(Op.bytesLess a.toList b.toList||decide (a=b))
 | .geq=>!Op.bytesLess a.toList b.toList
 | _=>false
def jH (s:ByteArray) (i:Nat):Int:=((s.data.toList.getD i 0).toNat:Int)
noncomputable def xQ (F:Fr) (x:Option bO) (d:Int):Option (Cd×Int) :=
 match x with
 | none=>some (.t,d)
 | some x=>match jQ F x with | some (c,_,n)=>some (c,n) | none=>none
noncomputable def yj (F:Fr):List bO->Option (Cd×List (Nat×Nat))
 | []=>some (.t,[])
 | x::l=>match fE F x with
   | some (c,.ptr n off)=>(match yj F l with | some (d,r)=>some (.and c d,(n,off)::r) | none=>none)
   | _=>none
def iQ:List Fd->Nat->Option (Cd×Fd)
 | [],_=>none
 | .c x::fs,k=>match k with
   | 0=>some (.t,.c x)
   | k+1=>iQ fs k
 | .a n d l::fs,k=>match k with
   | 0=>some (.t,.a n d l)
   | k+1=>bif Nat.blt (k+1) n then none else match iQ fs (k+1-n) with
     | some (c,f)=>some (.and (.p (l.length=n)) c,f)
     | none=>none
 | .m _ _ _::_,_=>none
 | .b _::_,_=>none
def W.aq:W->Bool
 | .ct=>false
 | _=>true
theorem W.EC {x:W} (h:x.aq=true):x≠.ct:=by rintro rfl;cases h
def z8:List W->Bool
 | []=>true
 | x::l=>x.aq&&z8 l
theorem CH:∀ {l:List W},z8 l=true->∀ x∈l,x≠.ct
 | [],_=>by simp
 | y::l,h=>by
   simp only [z8,Bool.and_eq_true] at h
   intro x hx
   rcases List.mem_cons.1 hx with rfl | hx
   . exact W.EC h.1
   . exact CH h.2 x hx
def Iu:List Fd->Option (Nat×W)
 | [.a k _ l,.c x,.a k' _ _]=>bif Nat.beq k 1&&Nat.beq k' 1 then some (l.length,x) else none
 | _=>none
def Iv:List Fd->Option (List Int)
 | [.b l]=>some l
 | _=>none
theorem ED {fs:List Fd} {l:List Int} (e:Iv fs=some l):fs=[.b l]:=by
 unfold Iv at e
 split at e
 . cases e;rfl
 . cases e
def jD:List Fd->Option (Nat×List (List Int))
 | [.c (.th k ah)]=>some (k,ah)
 | _=>none
def tA (S:ai) (n:Nat):Option (Nat×List (List Int)):=match S.get n with | some o=>jD o.fs | none=>none
theorem Fz {fs:List Fd} {k:Nat} {ah:List (List Int)} (e:jD fs=some (k,ah)):fs=[.c (.th k ah)]:=by
 unfold jD at e
 split at e
 . cases e;rfl
 . cases e
theorem Iw {o:Ob} {k:Nat} {ah:List (List Int)} (e:o.fs=[.c (.th k ah)]):o.iY k ah:=by
 unfold Ob.iY Ob.cells;rw [e];rfl
theorem ng {S:ai} {n k:Nat} {ah:List (List Int)} (e:tA S n=some (k,ah)):∃ o,S.get n=some o/\o.fs=[.c (.th k ah)]/\o.iY k ah:=by
 unfold tA at e
 split at e
 . rename_i o ho
   exact ⟨o,ho,Fz e,Iw (Fz e)⟩
 . cases e
noncomputable def dN (F:Fr) (S:ai):Q->Option (Cd×V)
 | .move x=>nO F x
 | .pick c x y=>match uS F c,uS F x,uS F y with
   | some (p,b),some (q,u),some (r,v)=>some (.and p (.and (.imp (b=true) q) (.imp (b=false) r)),.c (.bool (bif b then u else v)))
   | _,_,_=>none
 | .load d x => match fE F x with
   | some (p,.ptr n off)=>match S.sH n with
     | some o=>match iQ o.fs off with
       | some (q,.c x)=>bif x.aq then some (.and p q,.c x) else none
       | some (q,.a _ e l)=>some (.and p (.and q (.p (0<l.length))),.c (e.w (l.getD 0 e.zero)))
       | _=>none
     | none=>none
   | some (p,.oT n i j)=>match tA S n with
     | some (k,ah)=>some (.and p (.p (i<ah.length/\j<k)),.c (.int .i64 ((ah.getD i []).getD j 0)))
     | none=>none
   | some (p,.pe n off i)=>match tA S n with
    | some (k,ah)=>bif Nat.beq off 0 then some (.and p (.p (i<ah.length)),.c (.row n i k)) else none
    | none=>match S.sH n with
     | some o=>match Iv o.fs with
      | some l=>bif Nat.beq off 0 then some (.and p (.p (i<l.length)),.c (.int .u8 (l.getD i 0))) else none
      | none=>match Iu o.fs with
       | some (k,x)=>bif x.aq&&Nat.beq off 0 then some (.and p (.p (i=k)),.c x) else none
       | none=>match iQ o.fs off with
         | some (q,.a _ e l)=>some (.and p (.and q (.p (i<l.length))),.c (e.w (l.getD i e.zero)))
         | some (_,.c _)=>some (.and p (.p (off+i<o.cells.length/\o.cells.getD (off+i) d≠.ct)),.c (o.cells.getD (off+i) d))
         | _=>none
     | none=>none
   | some (p,.rp cs off)=>some (.and p (.p (off<cs.length)),.c (cs.getD off d))
   | some (p,.re e l i)=>some (.and p (.p (i<l.length)),.c (e.w (l.getD i e.zero)))
   | _=>none
 | .tw n x=>match fE F x with
   | some (p,.ptr m off)=>match S.sH m with
     | some o=>bif Nat.ble (off+n) o.cells.length&&z8 ((o.cells.drop off).take n) then some (p,.agg ((o.cells.drop off).take n)) else none
     | none=>none
   | some (p,.rp cs off)=>some (.and p (.p (off+n<=cs.length)),.agg ((cs.drop off).take n))
   | _=>none
 | .nilCheck x=>match fE F x with
   | some (p,.ptr n off)=>some (p,.c (.ptr n off))
   | some (p,.pe n off i)=>some (p,.c (.pe n off i))
   | some (p,.rp cs off)=>some (p,.c (.rp cs off))
   | some (p,.re e l i)=>some (p,.c (.re e l i))
   | some (p,.oT n i j)=>some (p,.c (.oT n i j))
   | some (p,.func f caps)=>some (p,.c (.func f caps))
   | some (p,.yield l)=>some (p,.c (.yield l))
   | _=>none
 | .ibin op x y=>match jQ F x,jQ F y with
   | some (p,k,a),some (q,k',b)=>if k=k' then some (.and p q,.c (.int k (iop op k a b))) else none
   | _,_=>none
 | .Vw op x y=>match jQ F x,jQ F y with
   | some (p,k,a),some (q,k',b)=>if k=k' then some (.and p (.and q (.p (b≠0))),.c (.int k (Ip op k a b))) else none
   | _,_=>none
 | .shift op x y=>match jQ F x,jQ F y with
   | some (p,k,a),some (q,_,b)=>some (.and p (.and q (.p (0<=b))),.c (.int k (shiftOp op k a b)))
   | _,_=>none
 | .icmp op x y=>match jQ F x,jQ F y with
   | some (p,k,a),some (q,k',b)=>if k=k' then some (.and p q,.c (.bool (Iq op a b))) else none
   | _,_=>none
 | .scmp op x y=>match yh F x,yh F y with
   | some (p,a),some (q,b)=>some (.and p q,.c (.bool (Ir op a b)))
   | _,_=>none
 | .scat x y=>match yh F x,yh F y with
   | some (p,a),some (q,b)=>some (.and p (.and q (.p (a.size+b.size<=9223372036854775807))),.c (.str (a++b)))
   | _,_=>none
 | .beq op x y=>match uS F x,uS F y with
   | some (p,a),some (q,b)=>some (.and p q,.c (.bool (match op with | .eql=>a == b | _=>!(a == b))))
   | _,_=>none
 | .Yz neg x y=>match fE F x,fE F y with
   | some (p,.bY),some (q,.bY)=>some (.and p q,.c (.bool (!neg)))
   | some (p,.ptr _ _),some (q,.bY)=>some (.and p q,.c (.bool neg))
   | some (p,.bY),some (q,.ptr _ _)=>some (.and p q,.c (.bool neg))
   | some (p,.ptr n off),some (q,.ptr m off')=>bif Nat.beq n m then some (.and p q,.c (.bool (bif neg then !(Nat.beq off off') else Nat.beq off off'))) else none
   | _,_=>none
 | .ieq neg x=>match fE F x with
   | some (p,.dM)=>some (p,.c (.bool (!neg)))
   | some (p,.val (.iface _ _))=>some (p,.c (.bool neg))
   | _=>none
 | .YA x=>match fE F x with
   | some (p,.sl n off len sz)=>bif Nat.beq sz 1 then some (.and p (.p (0<len)),.c (.pe n 0 off)) else none
   | _=>none
 | .neg x=>match jQ F x with
   | some (p,k,a)=>some (p,.c (.int k (k.wrap (0-a))))
   | none=>none
 | .not x=>match uS F x with
   | some (p,a)=>some (p,.c (.bool (!a)))
   | none=>none
 | .conv k x=>match jQ F x with
   | some (p,_,a)=>some (p,.c (.int k (k.wrap a)))
   | none=>none
 | .rune x=>match jQ F x with
   | some (p,_,a)=>some (p,.c (.str (Utf8.encode a)))
   | none=>none
 | .text x=>match yh F x with
   | some (p,s)=>some (p,.c (.str s))
   | none=>none
 | .slen x=>match yh F x with
   | some (p,s)=>some (p,.c (.int .i64 s.size))
   | none=>none
 | .llen sz x=>match fE F x with
   | some (p,.nil)=>some (p,.c (.int .i64 0))
   | some (p,.sl _ _ len _)=>some (p,.c (.int .i64 len))
   | some (p,.ro sz' cs)=>if sz'=sz then some (p,.c (.int .i64 ((cs.length / sz:Nat):Int))) else none
   | some (p,.rd _ l)=>some (p,.c (.int .i64 (l.length:Int)))
   | some (p,.row _ _ len)=>some (p,.c (.int .i64 len))
   | _=>none
 | .ncap x=>match fE F x with
   | some (p,.nil)=>some (p,.c (.int .i64 0))
   | _=>none
 | .alen n=>some (.t,.c (.int .i64 n))
 | .min x y=>match jQ F x,jQ F y with
   | some (p,k,a),some (q,_,b)=>some (.and p q,.c (.int k (Min.min a b)))
   | _,_=>none
 | .max x y=>match jQ F x,jQ F y with
   | some (p,k,a),some (q,_,b)=>some (.and p q,.c (.int k (Max.max a b)))
   | _,_=>none
 | .min3 x y z=>match jQ F x,jQ F y,jQ F z with
   | some (p,k,a),some (q,_,b),some (r,_,c)=>some (.and p (.and q r),.c (.int k (Min.min (Min.min a b) c)))
   | _,_,_=>none
 | .max3 x y z=>match jQ F x,jQ F y,jQ F z with
   | some (p,k,a),some (q,_,b),some (r,_,c)=>some (.and p (.and q r),.c (.int k (Max.max (Max.max a b) c)))
   | _,_,_=>none
 | .index x i=>match yh F x,jQ F i with
   | some (p,s),some (q,_,n)=>some (.and p (.and q (.p (0<=n/\n<s.size))),.c (.int .u8 (jH s n.toNat)))
   | _,_=>none
 | .field off _ x=>match nO F x with
   | some (p,.agg cs)=>match cs[off]? with | some x=>some (p,.c x) | none=>none
   | _=>none
 | .Im off n x=>match nO F x with
   | some (p,.agg cs)=>bif Nat.ble (off+n) cs.length then some (p,.agg ((cs.drop off).take n)) else none
   | _=>none
 | .fieldAddr off x=>match fE F x with
   | some (p,.ptr n o)=>some (p,.c (.ptr n (o+off)))
   | some (p,.rp cs o)=>some (p,.c (.rp cs (o+off)))
   | _=>none
 | .indexAddr sz x i=>match fE F x,jQ F i with
   | some (p,.sl n off len sz'),some (q,_,i)=>if sz'=sz then some (.and p (.and q (.p (0<=i/\i<len))),.c (bif Nat.beq sz 1 then .pe n 0 (off+i.toNat) else .ptr n (off+i.toNat*sz))) else none
   | some (p,.ro sz' cs),some (q,_,i)=>if sz'=sz then some (.and p (.and q (.p (0<=i/\i.toNat*sz<cs.length))),.c (.rp cs (i.toNat*sz))) else none
   | some (p,.rd d l),some (q,_,i)=>if sz=1 then some (.and p (.and q (.p (0<=i/\i<(l.length:Int)))),.c (.re d l i.toNat)) else none
   | some (p,.row n r len),some (q,_,i)=>if sz=1 then some (.and p (.and q (.p (0<=i/\i<(len:Int)))),.c (.oT n r i.toNat)) else none
   | _,_=>none
 | .vU len sz x i=>match fE F x,jQ F i with
   | some (p,.ptr n off),some (q,_,i)=>some (.and p (.and q (.p (0<=i/\i<len))),.c (bif Nat.beq sz 1 then .pe n off i.toNat else .ptr n (off+i.toNat*sz)))
   | some (p,.rp cs off),some (q,_,i)=>some (.and p (.and q (.p (0<=i/\i<len))),.c (.rp cs (off+i.toNat*sz)))
   | _,_=>none
 | .slice sz x lo hi=>match fE F x with
   | some (p,.nil)=>match xQ F lo 0,xQ F hi 0 with
     | some (q,l),some (r,h)=>some (.and p (.and q (.and r (.p (l=0/\h=0)))),.c .nil)
     | _,_=>none
   | some (p,.sl n off len sz')=>if sz'=sz then match xQ F lo 0,xQ F hi len with
     | some (q,l),some (r,h)=>some (.and p (.and q (.and r (.p (0<=l/\l<=h/\h<=len)))),.c (.sl n (off+l.toNat*sz) (h-l).toNat sz))
     | _,_=>none
     else none
   | some (p,.ro sz' cs)=>if sz'=sz then match xQ F lo 0,xQ F hi ((cs.length / sz:Nat):Int) with
     | some (q,l),some (r,h)=>some (.and p (.and q (.and r (.p (0<=l/\l<=h/\h<=((cs.length / sz:Nat):Int))))),.c (.ro sz ((cs.take (h.toNat*sz)).drop (l.toNat*sz))))
     | _,_=>none
     else none
   | some (p,.rd d xs)=>if sz=1 then match xQ F lo 0,xQ F hi (xs.length:Int) with
     | some (q,l),some (r,h)=>some (.and p (.and q (.and r (.p (0<=l/\l<=h/\h<=(xs.length:Int))))),.c (.rd d ((xs.take h.toNat).drop l.toNat)))
     | _,_=>none
     else none
   | _=>none
 | .Io x lo hi=>match yh F x with
   | some (p,s)=>match xQ F lo 0,xQ F hi s.size with
     | some (q,l),some (r,h)=>some (.and p (.and q (.and r (.p (0<=l/\l<=h/\h<=s.size)))),.c (.str (s.extract l.toNat h.toNat)))
     | _,_=>none
   | none=>none
 | .extract i x=>match x with
   | .tmp t=>match F.get t with
     | some (.aL vs)=>match vs[i]? with | some v=>some (.t,v) | none=>none
     | _=>none
   | _=>none
 | .mval f x=>match fE F x with
   | some (c,.ptr n off)=>some (c,.c (.fB f n off))
   | _=>none
 | .func f caps=>match yj F caps with
   | some (p,cs)=>some (p,.c (.func f cs))
   | none=>none
 | .build z parts=>match uT F z parts with
   | some (p,cs)=>some (p,.agg cs)
   | none=>none
 | .aeq op l x y=>match nO F x,nO F y with
   | some (p,.agg xs),some (q,.agg ys)=>match Il xs ys l with
     | some b=>some (.and p q,.c (.bool (match op with | .eql=>b | _=>!b)))
     | none=>none
   | _,_=>none
def OB (P:Program) (t:TypeId):Option W:=match P.info? t with | some i=>(match i.zero with | some z=>MC z | none=>none) | none=>none
def yp:Option Operand->Option (Option bO)
 | none=>some none
 | some x=>match bT x with | some y=>some (some y) | none=>none
def n8:List Operand->Option (List bO)
 | []=>some []
 | x::l=>match bT x with | some y=>(match n8 l with | some r=>some (y::r) | none=>none) | none=>none
def tB (P : Program) (o : Op) : Option Q :=
 match o with
 | .move x=>(bT x).map .move
 | .assign x=>(bT x).map .move
 | .pick c x y=>match bT c,bT x,bT y with | some c,some x,some y=>some (.pick c x y) | _,_,_=>none
 | .load t x=>match rC P t,bT x with
   | some false,some x=>(OB P t).map fun d=>.load d x
   | some true,some x=>(gN P t).map fun n=>.tw n x
   | _,_=>none
 | .nilCheck x=>(bT x).map .nilCheck
 | .binOp op t x y _=>match P.underlying t,bT x,bT y with
   | some (.int _),some x,some y=>if CG op then some (.ibin op x y) else match op with
     | .quo=>some (.Vw .quo x y)
     | .rem=>some (.Vw .rem x y)
     | .shl=>some (.shift .shl x y)
     | .shr=>some (.shift .shr x y)
     | _=>if z7 op then some (.icmp op x y) else none
   | some .string,some x,some y=>match op with
     | .add=>some (.scat x y)
     | _=>if z7 op then some (.scmp op x y) else none
   | some .bool,some x,some y=>match op with
     | .eql=>some (.beq .eql x y)
     | .neq=>some (.beq .neq x y)
     | _=>none
   | some (.pointer el),some x,some y=>match gN P el with
     | some k=>if k=0 then none else (match op with
       | .eql=>some (.Yz false x y)
       | .neq=>some (.Yz true x y)
       | _=>none)
     | none=>none
   | some (.interface _),some x,some (.w .dM)=>(match op with
     | .eql=>some (.ieq false x)
     | .neq=>some (.ieq true x)
     | _=>none)
   | some (.struct fs),some x,some y=>if P.stoodInHeld t=false/\P.eqGuardType P.depth t=false then (match sC P fs.toList with
     | some l=>(match op with
       | .eql=>some (.aeq .eql l x y)
       | .neq=>some (.aeq .neq l x y)
       | _=>none)
     | none=>none) else none
   | _,_,_=>none
 | .unOp .neg _ x=>(bT x).map .neg
 | .unOp .not _ x=>(bT x).map .not
 | .convert src dst x=>match P.underlying src,P.underlying dst,bT x with
   | some (.int _),some (.int k),some x=>some (.conv k x)
   | some (.int _),some .string,some x=>some (.rune x)
   | some .string,some .string,some x=>some (.text x)
   | _,_,_=>none
 | .call { callee:=.builtin .len,args:=⟨[x]⟩,argTypes:=⟨[t]⟩ }=>match P.underlying t,bT x with
   | some .string,some x=>some (.slen x)
   | some (.slice el),some x=>match gN P el with | some n=>if n=0 then none else some (.llen n x) | none=>none
   | some (.array n _),_=>some (.alen n)
   | _,_=>none
 | .call { callee:=.builtin .cap,args:=⟨[x]⟩,argTypes:=⟨[t]⟩ }=>match P.underlying t,bT x with
   | some (.slice _),some x=>some (.ncap x)
   | _,_=>none
 | .call { callee:=.builtin .unsafeSliceData,args:=⟨[x]⟩,.. }=>(bT x).map .YA
 | .call { callee:=.builtin .min,args:=⟨[x,y]⟩,.. }=>match bT x,bT y with | some x,some y=>some (.min x y) | _,_=>none
 | .call { callee:=.builtin .max,args:=⟨[x,y]⟩,.. }=>match bT x,bT y with | some x,some y=>some (.max x y) | _,_=>none
 | .call { callee:=.builtin .min,args:=⟨[x,y,z]⟩,.. }=>match bT x,bT y,bT z with | some x,some y,some z=>some (.min3 x y z) | _,_,_=>none
 | .call { callee:=.builtin .max,args:=⟨[x,y,z]⟩,.. }=>match bT x,bT y,bT z with | some x,some y,some z=>some (.max3 x y z) | _,_,_=>none
 | .index t x i=>match P.underlying t,bT x,bT i with
   | some .string,some x,some i=>some (.index x i)
   | _,_,_=>none
 | .field t x f=>match P.underlying t,bT x with
   | some (.struct fs),some x=>match fs[f]? with
     | some fd=>match rC P fd.type with
       | some false=>(OB P fd.type).map fun d=>.field fd.offset d x
       | some true=>(gN P fd.type).map fun n=>.Im fd.offset n x
       | none=>none
     | none=>none
   | _,_=>none
 | .fieldAddr s x f=>match P.underlying s,bT x with
   | some (.struct fs),some x=>match fs[f]? with
     | some fd=>match gN P fd.type with
       | some n=>if n=0 then none else some (.fieldAddr fd.offset x)
       | none=>none
     | none=>none
   | _,_=>none
 | .indexAddr t x i=>match P.underlying t,bT x,bT i with
   | some (.slice el),some x,some i=>match gN P el with | some n=>if n=0 then none else some (.indexAddr n x i) | none=>none
   | some (.array len el),some x,some i=>(gN P el).map fun n=>.vU len n x i
   | _,_,_=>none
 | .slice t x lo hi none=>match P.underlying t,bT x,yp lo,yp hi with
   | some (.slice el),some x,some lo,some hi=>match gN P el with | some n=>if n=0 then none else some (.slice n x lo hi) | none=>none
   | some .string,some x,some lo,some hi=>some (.Io x lo hi)
   | _,_,_,_=>none
 | .extract x i=>(bT x).map (.extract i)
 | .makeFunc (.func f) ⟨[]⟩ caps=>(n8 caps.toList).map (.func f)
 | .makeFunc (.func f) ⟨[x]⟩ ⟨[]⟩=>(bT x).map (.mval f)
 | .build t parts=>match P.underlying t,jR P t with
   | some (.struct fs),some z=>match Ij P fs.toList with
     | some pl=>(sI (fun i=>pl[i]?) parts.toList).map (.build z)
     | none=>none
   | some (.array _ el),some z=>match gN P el with
     | some n=>(sI (fun i=>some (i*n,n)) parts.toList).map (.build z)
     | none=>none
   | _,_=>none
 | _=>none
theorem map_some {α β:Type} {x:Option α} {f:α->β} {y:β} (h:x.map f=some y):∃ a,x=some a/\f a=y:=by
 cases x with
 | none=>cases h
 | some a=>exact ⟨a,rfl,Option.some.inj h⟩
theorem dP {α:Type} {c:Prop} [Decidable c] {x:Option α} {y:α} (h:(if c then x else none)=some y):c/\x=some y:=by
 by_cases hc:c
 . rw [if_pos hc] at h;exact ⟨hc,h⟩
 . rw [if_neg hc] at h;cases h
theorem aM.one {Z:aA}:∀ {x:W} {v:Value},aM Z x v->v.oneCell'=true
 | .bool _,_,e | .int _ _,_,e | .str _,_,e | .bY,_,e | .nil,_,e | .lU,_,e | .dM,_,e=>by simp only [aM] at e;subst e;rfl
 | .val _,_,e=>by simp only [aM] at e;rw [e.1];exact e.2
 | .ro _ _,_,e=>by simp only [aM] at e;obtain ⟨_,_,_,rfl,_⟩:=e;rfl
 | .rp _ _,_,e=>by simp only [aM] at e;obtain ⟨_,_,_,rfl,_⟩:=e;rfl
 | .rd d l,_,e=>by simp only [aM] at e;exact cH.one (.sl d) e
 | .re _ _ _,_,e=>by simp only [aM] at e;obtain ⟨_,_,_,rfl,_⟩:=e;rfl
 | .func _ _,_,e=>by simp only [aM] at e;obtain ⟨_,rfl⟩:=e;rfl
 | .ptr _ _,_,e=>by simp only [aM] at e
 | .pe _ _ _,_,e=>by simp only [aM] at e
 | .sl _ _ _ _,_,e=>by simp only [aM] at e
 | .yield _,_,e=>by simp only [aM] at e
 | .ct,_,e=>by simp only [aM] at e
 | .mp _,_,e=>by simp only [aM] at e
 | .mh,_,e=>by simp only [aM] at e
 | .ba _,_,e=>by simp only [aM] at e
 | .fB _ _ _,_,e=>by simp only [aM] at e
 | .th _ _,_,e=>by simp only [aM] at e
 | .row _ _ _,_,e=>by simp only [aM] at e
 | .oT _ _ _,_,e=>by simp only [aM] at e
 | .kM _,_,e=>by simp only [aM] at e
theorem aF.one {η:Eta} {Z:aA}:∀ {x:W} {v:Value},x≠.ct->aF η Z x v->v.oneCell'=true
 | .bool _,_,_,e | .int _ _,_,_,e | .str _,_,_,e | .bY,_,_,e | .nil,_,_,e | .ro _ _,_,_,e | .rp _ _,_,_,e | .rd _ _,_,_,e | .re _ _ _,_,_,e | .lU,_,_,e | .dM,_,_,e | .val _,_,_,e=>aM.one e
 | .ptr _ _,_,_,⟨_,_,rfl⟩=>rfl
 | .pe _ _ _,_,_,⟨_,_,rfl⟩=>rfl
 | .sl _ _ _ _,_,_,.inl ⟨_,rfl⟩=>rfl
 | .sl _ _ _ _,_,_,.inr ⟨_,_,_,_,rfl,_⟩=>rfl
 | .func _ _,_,_,⟨_,rfl,_⟩=>rfl
 | .yield _,_,_,h=>by simp only [aF] at h;subst h;rfl
 | .ct,_,h,_=>absurd rfl h
 | .mp _,_,_,⟨_,_,rfl⟩=>rfl
 | .mh,_,_,h=>by simp only [aF,aM] at h
 | .ba _,_,_,⟨_,_,_,.inl rfl⟩=>rfl
 | .ba _,_,_,⟨_,_,_,.inr rfl⟩=>rfl
 | .fB _ _ _,_,_,⟨_,rfl,_⟩=>rfl
 | .th _ _,_,_,h=>by simp only [aF,aM] at h
 | .row _ _ _,_,_,⟨_,_,_,_,_,_,rfl,_⟩=>rfl
 | .oT _ _ _,_,_,⟨_,_,_,_,rfl⟩=>rfl
 | .kM _,_,_,h=>by simp only [aF] at h;subst h;rfl
theorem aM.aq {Z:aA} {x:W} {v:Value} (h:aM Z x v):x≠.ct:=by
 rintro rfl
 simp only [aM] at h
theorem aF.ro {η:Eta} {Z:aA} {sz:Nat} {cs:List W} {v:Value} (h:aF η Z (.ro sz cs) v) :
 ∃ a len c,v=.slice a len c/\cs.length=len*sz/\len<=c/\(cs=[]∨∃ b off cells,a=some ⟨b,off,none⟩/\Z b=some cells/\eW Z cells off cs):=by
 simpa only [aF,aM] using h
theorem aF.rp {η:Eta} {Z:aA} {cs:List W} {off:Nat} {v:Value} (h:aF η Z (.rp cs off) v):∃ b o cells,v=.pointer (some ⟨b,o+off,none⟩)/\Z b=some cells/\eW Z cells o cs:=by
 simpa only [aF,aM] using h
theorem aF.rd {η:Eta} {Z:aA} {d:D} {l:List d.ty} {v:Value} (h:aF η Z (.rd d l) v) :
 ∃ a len c,v=.slice a len c/\l.length=len/\len<=c/\(l=[]∨∃ b off cells,a=some ⟨b,off,none⟩/\Z b=some cells/\mX Z d cells off l):=by
 simp only [aF,aM,cH] at h
 exact h
theorem aF.re {η:Eta} {Z:aA} {d:D} {l:List d.ty} {i:Nat} {v:Value} (h:aF η Z (.re d l i) v):∃ b o cells,v=.pointer (some ⟨b,o+i,none⟩)/\Z b=some cells/\mX Z d cells o l:=by
 simpa only [aF,aM] using h
theorem vV:∀ {fs:List Fd} {off:Nat} {c:Cd} {f:Fd},iQ fs off=some (c,f)->c->∃ pre post,fs=pre++f::post/\(pre.flatMap Fd.cells).length=off
 | [],_,_,_,e,_=>by cases e
 | .c x::fs,0,c,f,e,_=>by
   simp only [iQ] at e
   cases e
   exact ⟨[],fs,rfl,rfl⟩
 | .c x::fs,k+1,c,f,e,hc=>by
   simp only [iQ] at e
   obtain ⟨pre,post,rfl,h⟩:=vV e hc
   exact ⟨.c x::pre,post,rfl,by rw [List.flatMap_cons,List.length_append,h];simp only [Fd.cells,List.length_singleton];omega⟩
 | .a n d l::fs,0,c,f,e,_=>by
   simp only [iQ] at e
   cases e
   exact ⟨[],fs,rfl,rfl⟩
 | .a n d l :: fs, k + 1, c, f, e, hc => by
   simp only [iQ] at e
   cases hb:Nat.blt (k+1) n with
   | true=>rw [hb] at e;cases e
   | false =>
     rw [hb] at e
     simp only [cond_false] at e
     have hn:n<=k+1:=by
      rcases Nat.lt_or_ge (k+1) n with h | h
      . rw [(Nat.blt_eq (x:=k+1) (y:=n)).mpr h] at hb;cases hb
      . exact h
     split at e
     . rename_i c' f' he
       cases e
       obtain ⟨pre,post,rfl,h⟩:=vV he hc.2
       exact ⟨.a n d l::pre,post,rfl,by rw [List.flatMap_cons,List.length_append,h];simp only [Fd.cells,List.length_map];have:l.length=n:=hc.1;omega⟩
     . cases e
 | .m _ _ _::_,_,_,_,e,_=>by simp only [iQ] at e;cases e
 | .b _::_,_,_,_,e,_=>by simp only [iQ] at e;cases e
theorem ZI {o:Ob} {off:Nat} {c:Cd} {x:W} (e:iQ o.fs off=some (c,.c x)) (hc:c):o.cells[off]? = some x:=by
 obtain ⟨pre,post,h,hl⟩:=vV e hc
 unfold Ob.cells
 rw [h,List.flatMap_append,List.getElem?_append_right (by omega)]
 simp [Fd.cells,hl]
theorem L5 {o:Ob} {k:Nat} {x:W} (e:Iu o.fs=some (k,x)):o.cells[k]? = some x:=by
 unfold Ob.cells
 generalize o.fs=fs at e
 unfold Iu at e
 split at e
 . rename_i n d l x' n' d' l'
   obtain ⟨_,e⟩:=au.aH e
   cases e
   simp [Fd.cells]
 . cases e
theorem MF {o:Ob} {off n:Nat} {d:D} {l:List d.ty} {c:Cd} (e:iQ o.fs off=some (c,.a n d l)) (hc:c) {i:Nat} (hi:i<l.length) (z:d.ty):o.cells[off+i]? = some (d.w (l.getD i z)):=by
 obtain ⟨pre,post,h,hl⟩:=vV e hc
 unfold Ob.cells
 rw [h,List.flatMap_append,List.getElem?_append_right (by omega),List.flatMap_cons,List.getElem?_append_left (by simp only [Fd.cells,List.length_map];omega)]
 have:off+i-(pre.flatMap Fd.cells).length=i:=by omega
 rw [this]
 simp only [Fd.cells,List.getElem?_map,List.getD_eq_getElem?_getD,List.getElem?_eq_getElem hi,Option.map_some,Option.getD_some]
theorem getD_some {l:List W} {i:Nat} {d:W} (h:i<l.length):l[i]? = some (l.getD i d):=by
 rw [List.getD_eq_getElem?_getD,List.getElem?_eq_getElem h];rfl
section
variable {P:Program} {base n:Nat} {η:Eta} {Z:aA} {S:ai} {w:World} {F:Fr} {a:Act}
theorem iC {t:TypeId} {p:Addr} {v:Value} (ht:rC P t=some false) (h:w.cell? p=some v):(Instr.loadAt t (.pointer (some p))).run P w=.ok v w:=by
 simp [Instr.loadAt,Instr.sureAddr,loadVar,nY ht,h]
theorem yq {t:TypeId} {b o m:Nat} {vs:List Value} (ht:rC P t=some true) (hs:gN P t=some m) (hl:vs.length=m) (h:∀ (j:Nat) v,vs[j]? = some v->w.cell? ⟨b,o+j,none⟩=some v) :
 (Instr.loadAt t (.pointer (some ⟨b,o,none⟩))).run P w=.ok (.agg vs.toArray) w:=by
 by_cases h0:m=0
 . subst h0
   have:vs=[]:=List.length_eq_zero_iff.1 hl
   subst this
   simp [Instr.loadAt,Instr.sureAddr,loadVar,nY ht,dX hs,loadCells,loadCellsFrom]
 . have:=run_loadCells_list (P:=P) w ⟨b,o,none⟩ vs (fun j v hv=>by rw [Addr.add_lit];exact h j v hv)
   rw [hl] at this
   simp [Instr.loadAt,Instr.sureAddr,loadVar,nY ht,dX hs,this]
theorem St.ZJ (R:St base η Z S w) {m:Nat} {o:Ob} {k:Nat} {ah:List (List Int)} (h:S.get m=some o) (ht:o.iY k ah) {p:cj} (hp:η m=some p) {i:Nat} (hi:i<ah.length) :
 ∃ v,w.cell? ⟨p.block,p.off+i,none⟩=some v/\aF η Z (.row m i k) v:=by
 obtain ⟨_,_,L⟩:=R.ak m o p h hp
 have T:=L.tabs k ah ht
 obtain ⟨c,fz,hc,_,hr,_⟩:=T.outer
 have hi':i<p.ah.length:=by rw [T.len];exact hi
 obtain ⟨cp,ad,h1,h2,h3⟩:=hr i p.ah[i] (List.getElem?_eq_getElem hi')
 exact ⟨_,by simp [World.cell?,hc,h1],p,p.ah[i],cp,ad,hp,List.getElem?_eq_getElem hi',rfl,h2,h3⟩
theorem St.ZK (R:St base η Z S w) {m:Nat} {o:Ob} {k:Nat} {ah:List (List Int)} (h:S.get m=some o) (ht:o.iY k ah) {p:cj} (hp:η m=some p) {i:Nat} (hi:i<ah.length) {r:Nat×Nat} (hr:p.ah[i]? = some r) {j:Nat} (hj:j<k) :
 w.cell? ⟨r.1,r.2+j,none⟩=some (.int .i64 ((ah.getD i []).getD j 0)):=by
 obtain ⟨_,_,L⟩:=R.ak m o p h hp
 have T:=L.tabs k ah ht
 obtain ⟨hl,c,t,fz,hc,_,hv,_⟩:=T.row i r ah[i] hr (List.getElem?_eq_getElem hi)
 have e:ah.getD i []=ah[i]:=by rw [List.getD_eq_getElem?_getD,List.getElem?_eq_getElem hi];rfl
 rw [e]
 have hj':j<ah[i].length:=by rw [hl];exact hj
 have:=hv j ah[i][j] (List.getElem?_eq_getElem hj')
 have e2:ah[i].getD j 0=ah[i][j]:=by rw [List.getD_eq_getElem?_getD,List.getElem?_eq_getElem hj'];rfl
 rw [e2]
 simp [World.cell?,hc,this]
theorem St.reads (R : St base η Z S w) {m : Nat} {o : Ob} {p : cj} (h : S.get m = some o) (hp : η m = some p) (hm : ¬ o.eV) {off k : Nat} (hk : off + k ≤ o.cells.length) :
 ∃ vs:List Value,aT (aF η Z) ((o.cells.drop off).take k) vs/\vs.length=k/\(∀ v∈vs,v.oneCell'=true)/\∀ (j:Nat) v,vs[j]? = some v->w.cell? ⟨p.block,p.off+off+j,none⟩=some v:=by
 induction k with
 | zero=>exact ⟨[],by simp [aT],rfl,by simp,by simp⟩
 | succ k ih =>
   obtain ⟨vs,h1,h2,h3,h4⟩:=ih (by omega)
   have hlt:off+k<o.cells.length:=by omega
   obtain ⟨v,hv,hr,h1c⟩:=R.read h hp hm (i:=off+k) (x:=o.cells[off+k]) (List.getElem?_eq_getElem hlt)
   refine ⟨vs++[v],?_,by simp [h2],?_,?_⟩
   . have:(o.cells.drop off).take (k+1)=(o.cells.drop off).take k++[o.cells[off+k]]:=by
      rw [List.take_add_one]
      congr 1
      rw [List.getElem?_drop,List.getElem?_eq_getElem hlt]
      rfl
     rw [this]
     exact h1.append ⟨hr,trivial⟩
   . intro u hu
     rcases List.mem_append.1 hu with hu | hu
     . exact h3 u hu
     . simp at hu;subst hu;exact h1c
   . intro j u hu
     by_cases hj:j<k
     . rw [List.getElem?_append_left (by omega)] at hu;exact h4 j u hu
     . have hjk:j=k:=by
        have:=(List.getElem?_eq_some_iff.1 hu).1
        simp [h2] at this;omega
       subst hjk
       rw [List.getElem?_append_right (by omega)] at hu
       simp [h2] at hu
       subst hu
       rw [<-hv];congr 2;omega
theorem St.readsZ (R : St base η Z S w) {b : Nat} {cells : Array Value} (h : Z b = some cells) {o : Nat} {cs : List W} (hs : eW Z cells o cs) {off k : Nat} (hk : off + k ≤ cs.length) :
 ∃ vs:List Value,aT (aM Z) ((cs.drop off).take k) vs/\vs.length=k/\∀ (j:Nat) v,vs[j]? = some v->w.cell? ⟨b,o+off+j,none⟩=some v:=by
 induction k with
 | zero=>exact ⟨[],by simp [aT],rfl,by simp⟩
 | succ k ih =>
   obtain ⟨vs,h1,h2,h4⟩:=ih (by omega)
   have hlt:off+k<cs.length:=by omega
   obtain ⟨v,hv,hr⟩:=R.Yy h hs (i:=off+k) (x:=cs[off+k]) (List.getElem?_eq_getElem hlt)
   refine ⟨vs++[v],?_,by simp [h2],?_⟩
   . have:(cs.drop off).take (k+1)=(cs.drop off).take k++[cs[off+k]]:=by
      rw [List.take_add_one]
      congr 1
      rw [List.getElem?_drop,List.getElem?_eq_getElem hlt]
      rfl
     rw [this]
     exact h1.append ⟨hr,trivial⟩
   . intro j u hu
     by_cases hj:j<k
     . rw [List.getElem?_append_left (by omega)] at hu;exact h4 j u hu
     . have hjk:j=k:=by
        have:=(List.getElem?_eq_some_iff.1 hu).1
        simp [h2] at this;omega
       subst hjk
       rw [List.getElem?_append_right (by omega)] at hu
       simp [h2] at hu
       subst hu
       rw [<-hv];congr 2;omega
theorem aT.frozen {cs:List W} {vs:List Value} (h:aT (aM Z) cs vs):aT (aF η Z) cs vs/\∀ x∈cs,x≠.ct:=by
 refine ⟨h.mono fun _ _=>aM.Ig,?_⟩
 induction cs generalizing vs with
 | nil=>simp
 | cons c cs ih =>
   cases vs with
   | nil=>exact h.elim
   | cons v vs =>
     intro x hx
     rcases List.mem_cons.1 hx with rfl | hx
     . exact h.1.aq
     . exact ih h.2 x hx
def bZ (P:Program) (η:Eta) (Z:aA) (w:World) (s:Sem Next) (v:V):Prop:=∃ u,s.run P w=.ok (.value u) w/\dr η Z v u
theorem bZ.of {s:Sem Value} {v:V} {u:Value} (h:s.run P w=.ok u w) (r:dr η Z v u):bZ P η Z w (do pure (Next.value (<-s))) v:=⟨u,by simp [h],r⟩
theorem Rj (R:St base η Z S w) (FR:bh n η Z F a.tmps) {t:TypeId} {x':Operand} {x:bO} {d:W} (hx:bT x'=some x) (ht:rC P t=some false) {c:Cd} {v:V} (e:dN F S (.load d x)=some (c,v)) (hc:c) :
 bZ P η Z w (do pure (Next.value (<-Instr.loadAt t (a.eval x')))) v:=by
 simp only [dN] at e
 split at e
 . rename_i p m off hv
   split at e
   . rename_i o ho
     obtain ⟨ho,hmo⟩:=kz ho
     split at e
     . rename_i qc x hg
       obtain ⟨hl,e⟩:=au.aH e
       cases e
       obtain ⟨hp,AP⟩:=hc
       obtain ⟨_,q,hq,hu⟩:=aK FR hx hv hp
       rw [hu]
       obtain ⟨u,h1,h2,_⟩:=R.read ho hq hmo (ZI hg AP)
       exact bZ.of (iC ht h1) ⟨W.EC hl,h2⟩
     . rename_i qc k e' l hg
       cases e
       obtain ⟨hp,AP,hlt⟩:=hc
       obtain ⟨_,q,hq,hu⟩:=aK FR hx hv hp
       rw [hu]
       obtain ⟨u,h1,h2,_⟩:=R.read ho hq hmo (MF hg AP hlt e'.zero)
       exact bZ.of (iC ht (by simpa using h1)) ⟨D.jh _ _,h2⟩
     . cases e
   . cases e
 . rename_i p m i j hv
   split at e
   . rename_i k ah hk
     obtain ⟨o,ho,_,hto⟩:=ng hk
     cases e
     obtain ⟨hp,hi,hj⟩:=hc
     obtain ⟨_,q,r,hq,hr,hu⟩:=aK FR hx hv hp
     rw [hu]
     exact bZ.of (iC ht (R.ZK ho hto hq hi hr hj)) ⟨by simp,by simp [aF,aM]⟩
   . cases e
 . rename_i p m off i hv
   split at e
   . rename_i k ah hk
     obtain ⟨o,ho,_,hto⟩:=ng hk
     obtain ⟨rO,e⟩:=au.aH e
     have rO:=Nat.eq_of_beq_eq_true rO
     subst rO
     cases e
     obtain ⟨hp,hi⟩:=hc
     obtain ⟨_,q,hq,hu⟩:=aK FR hx hv hp
     rw [hu]
     obtain ⟨u,h1,h2⟩:=R.ZJ ho hto hq hi
     exact bZ.of (iC ht (by simpa using h1)) ⟨by simp,h2⟩
   split at e
   . rename_i o ho
     obtain ⟨ho,hmo⟩:=kz ho
     split at e
     . rename_i l hl
       obtain ⟨rO,e⟩:=au.aH e
       have rO:=Nat.eq_of_beq_eq_true rO
       subst rO
       cases e
       obtain ⟨hp,hlt⟩:=hc
       have hlt:i<l.length:=hlt
       obtain ⟨_,q,hq,hu⟩:=aK FR hx hv hp
       rw [hu]
       have hg:o.cells[0+i]? = some (.kM (l.getD i 0)):=by
        unfold Ob.cells
        rw [ED hl]
        simp [Fd.cells,List.getD_eq_getElem?_getD,List.getElem?_eq_getElem hlt]
       obtain ⟨u,h1,h2,_⟩:=R.read ho hq hmo hg
       have h2:u=.int .u8 (l.getD i 0):=h2
       rw [h2] at h1
       exact bZ.of (iC ht (by simpa using h1)) ⟨by simp,by simp [aF,aM]⟩
     split at e
     . rename_i k x hh
       obtain ⟨hl,e1⟩:=au.aH e
       clear e
       simp only [Bool.and_eq_true] at hl
       have rO:=Nat.eq_of_beq_eq_true hl.2
       subst rO
       cases e1
       obtain ⟨hp,hik⟩:=hc
       have hik':i=k:=hik
       subst hik'
       obtain ⟨_,q,hq,hu⟩:=aK FR hx hv hp
       rw [hu]
       obtain ⟨u,h1,h2,_⟩:=R.read ho hq hmo (L5 hh)
       exact bZ.of (iC ht (by simpa using h1)) ⟨W.EC hl.1,h2⟩
     split at e
     . rename_i qc k e' l hg
       cases e
       obtain ⟨hp,AP,hlt⟩:=hc
       obtain ⟨_,q,hq,hu⟩:=aK FR hx hv hp
       rw [hu]
       obtain ⟨u,h1,h2,_⟩:=R.read ho hq hmo (MF hg AP hlt e'.zero)
       exact bZ.of (iC ht h1) ⟨D.jh _ _,h2⟩
     . cases e
       obtain ⟨hp,hlt,hd⟩:=hc
       obtain ⟨_,q,hq,hu⟩:=aK FR hx hv hp
       rw [hu]
       obtain ⟨u,h1,h2,_⟩:=R.read ho hq hmo (getD_some (d:=d) hlt)
       exact bZ.of (iC ht h1) ⟨hd,h2⟩
     . cases e
   . cases e
 . rename_i p cs off hv
   cases e
   obtain ⟨hp,hlt⟩:=hc
   obtain ⟨b,o,cells,hu,hz,hs⟩:=(aK FR hx hv hp).2.rp
   rw [hu]
   obtain ⟨u,h1,h2⟩:=R.Yy hz hs (getD_some (d:=d) hlt)
   exact bZ.of (iC ht h1) ⟨h2.aq,h2.Ig⟩
 . rename_i p e' l i hv
   cases e
   obtain ⟨hp,hlt⟩:=hc
   obtain ⟨b,o,cells,hu,hz,hs⟩:=(aK FR hx hv hp).2.re
   rw [hu]
   obtain ⟨u,h1,h2⟩:=hs i (l.getD i e'.zero) (by rw [List.getD_eq_getElem?_getD,List.getElem?_eq_getElem hlt];rfl)
   obtain ⟨ty,fz,hw⟩:=R.zs b cells hz
   exact bZ.of (iC (v:=u) ht (by simp [World.cell?,hw,h1])) ⟨D.jh _ _,(D.f6 _).2 h2⟩
 . cases e
theorem OC (R:St base η Z S w) (FR:bh n η Z F a.tmps) {t:TypeId} {x':Operand} {x:bO} {k:Nat} (hx:bT x'=some x) (ht:rC P t=some true) (hs:gN P t=some k) {c:Cd} {v:V} (e:dN F S (.tw k x)=some (c,v)) (hc:c) :
 bZ P η Z w (do pure (Next.value (<-Instr.loadAt t (a.eval x')))) v:=by
 simp only [dN] at e
 split at e
 . rename_i p m off hv
   split at e
   . rename_i o ho
     obtain ⟨ho,hmo⟩:=kz ho
     obtain ⟨hb,e⟩:=au.aH e
     simp only [Bool.and_eq_true,Nat.ble_eq] at hb
     cases e
     obtain ⟨_,q,hq,hu⟩:=aK FR hx hv hc
     rw [hu]
     obtain ⟨vs,h1,h2,_,h4⟩:=R.reads ho hq hmo hb.1
     exact bZ.of (yq ht hs h2 h4) ⟨vs,rfl,CH hb.2,h1⟩
   . cases e
 . rename_i p cs off hv
   cases e
   obtain ⟨hp,hlt⟩:=hc
   obtain ⟨b,o,cells,hu,hz,hfs⟩:=(aK FR hx hv hp).2.rp
   rw [hu]
   obtain ⟨vs,h1,h2,h4⟩:=R.readsZ hz hfs hlt
   exact bZ.of (yq ht hs h2 h4) ⟨vs,rfl,(aT.frozen (η:=η) h1).2,(aT.frozen h1).1⟩
 . cases e
theorem eO {k:IntKind} {i:Int}:dr η Z (.c (.int k i)) (.int k i):=⟨by simp,by simp [aF,aM]⟩
theorem iF {b:Bool}:dr η Z (.c (.bool b)) (.bool b):=⟨by simp,by simp [aF,aM]⟩
theorem p5 {s:ByteArray}:dr η Z (.c (.str s)) (.string s):=⟨by simp,by simp [aF,aM]⟩
theorem qq {op:BinOp} {t:TypeId} {x y:Operand} {k k':IntKind} {i j:Int}:eqGuard op t x y (.int k i) (.int k' j)=pure ():=by
 unfold eqGuard;cases op <;> rfl
theorem AQ {op:BinOp} {t:TypeId} {x y:Operand} {i j:ByteArray}:eqGuard op t x y (.string i) (.string j)=pure ():=by
 unfold eqGuard;cases op <;> rfl
theorem Iy {op:BinOp} {t:TypeId} {x y:Operand} {i j:Bool}:eqGuard op t x y (.bool i) (.bool j)=pure ():=by
 unfold eqGuard;cases op <;> rfl
theorem Vx {op:BinOp} {t:TypeId} {x y:Operand} {k:IntKind} {i j:Int} (h:CG op=true):(do eqGuard op t x y (.int k i) (.int k j);binOp op t (.int k i) (.int k j)).run P w=.ok (.int k (iop op k i j)) w:=by
 rw [qq]
 cases op <;> simp [CG] at h <;> simp [binOp,Op.intArith,Op.intBits,iop]
theorem Iz {op:BinOp} {t:TypeId} {x y:Operand} {k:IntKind} {i j:Int} (h:op=.quo∨op=.rem) (hj:j≠0):(do eqGuard op t x y (.int k i) (.int k j);binOp op t (.int k i) (.int k j)).run P w=.ok (.int k (Ip op k i j)) w:=by
 rw [qq]
 rcases h with rfl | rfl <;> simp [binOp,Op.intDiv,hj,Ip]
theorem FA {op:BinOp} {t:TypeId} {x y:Operand} {k k':IntKind} {i j:Int} (h:op=.shl∨op=.shr) (hj:0<=j):(do eqGuard op t x y (.int k i) (.int k' j);binOp op t (.int k i) (.int k' j)).run P w=.ok (.int k (shiftOp op k i j)) w:=by
 rw [qq]
 have:¬ j<0:=by omega
 rcases h with rfl | rfl <;> simp [binOp,Op.shift,this,shiftOp]
theorem Vy {op:BinOp} {t:TypeId} {x y:Operand} {k:IntKind} {i j:Int} (h:z7 op=true):(do eqGuard op t x y (.int k i) (.int k j);binOp op t (.int k i) (.int k j)).run P w=.ok (.bool (Iq op i j)) w:=by
 rw [qq]
 cases op <;> simp [z7] at h <;> simp [binOp,Op.intCmp,Iq]
 all_goals rfl
theorem Vz {a b:ByteArray}:(a.toList == b.toList)=decide (a=b):=by
 rw [Bool.eq_iff_iff]
 simp only [beq_iff_eq,decide_eq_true_eq]
 constructor
 . intro h
   apply ByteArray.ext
   have h1:a.data.toList=b.data.toList:=by rw [<-ByteArray.toList_eq,<-ByteArray.toList_eq];exact h
   exact Array.ext' h1
 . rintro rfl;rfl
theorem VA {op:BinOp} {t:TypeId} {x y:Operand} {i j:ByteArray} (h:z7 op=true):(do eqGuard op t x y (.string i) (.string j);binOp op t (.string i) (.string j)).run P w=.ok (.bool (Ir op i j)) w:=by
 rw [AQ]
 cases op <;> simp [z7] at h <;> simp only [binOp,Op.stringOp,Ir,Vz,Sem.run_pure,pure_bind]
theorem VB {t:TypeId} {x y:Operand} {i j:ByteArray} (h:i.size+j.size<=9223372036854775807):(do eqGuard .add t x y (.string i) (.string j);binOp .add t (.string i) (.string j)).run P w=.ok (.string (i++j)) w:=by
 rw [AQ]
 have:¬ ((i.size+j.size:Nat):Int) > IntKind.i64.max:=by
  have:IntKind.i64.max=9223372036854775807:=by rfl
  omega
 simp only [pure_bind,binOp,Op.stringOp,this,if_false,Sem.run_pure]
theorem IB {t:TypeId} {i j:Bool} (hu:P.underlying t=some .bool) (d:Nat):(Op.equalIn (d+1) t (.bool i) (.bool j)).run P w=.ok (i == j) w:=by
 simp only [Op.equalIn,Sem.run_bind,run_underlying hu,Result.andThen_ok,Sem.run_pure]
theorem MG {op:BinOp} {t:TypeId} {x y:Operand} {i j:Bool} (hu:P.underlying t=some .bool) (h:op=.eql∨op=.neq):(do eqGuard op t x y (.bool i) (.bool j);binOp op t (.bool i) (.bool j)).run P w=.ok (.bool (match op with | .eql=>i == j | _=>!(i == j))) w:=by
 rw [Iy]
 have h1:(Op.equal t (.bool i) (.bool j)).run P w=.ok (i == j) w:=IB hu 9999
 rcases h with rfl | rfl <;> simp [binOp,h1]
end
theorem dr.cells {η:Eta} {Z:aA} {x:V} {v:Value} (h:dr η Z x v):aT (aF η Z) x.cells v.cells.toList/\(∀ y∈x.cells,y≠.ct)/\(∀ u∈v.cells.toList,u.oneCell'=true):=by
 cases x with
 | c x =>
   have h1:=aF.one h.1 h.2
   have hc:v.cells=#[v]:=by cases v <;> simp [Value.oneCell'] at h1 <;> rfl
   rw [hc]
   exact ⟨⟨h.2,trivial⟩,by simpa [V.cells] using h.1,by simpa using h1⟩
 | agg cs =>
   obtain ⟨vs,rfl,hd,hl⟩:=h
   refine ⟨by simpa [Value.cells,V.cells] using hl,hd,?_⟩
   intro u hu
   simp [Value.cells] at hu
   induction cs generalizing vs with
   | nil=>cases vs with | nil=>simp at hu | cons _ _=>exact hl.elim
   | cons c cs ih =>
     cases vs with
     | nil=>exact hl.elim
     | cons v vs =>
       rcases List.mem_cons.1 hu with rfl | hu
       . exact aF.one (hd _ (by simp)) hl.1
       . exact ih vs (fun y hy=>hd y (List.mem_cons_of_mem _ hy)) hl.2 hu
section
variable {P:Program} {base n:Nat} {η:Eta} {Z:aA} {S:ai} {w:World} {F:Fr} {a:Act}
theorem aF.nil_eq {v:Value} (h:aF η Z .nil v):v=.slice none 0 0:=by simpa only [aF,aM] using h
theorem kq (FR:bh n η Z F a.tmps) {x':Option Operand} {x:Option bO} (hx:yp x'=some x) {d:Int} {c:Cd} {i:Int} (e:xQ F x d=some (c,i)) (hc:c):(x'=none/\i=d)∨∃ y k,x'=some y/\a.eval y=.int k i:=by
 cases x' with
 | none =>
   cases hx
   cases e
   exact .inl ⟨rfl,rfl⟩
 | some y =>
   simp only [yp] at hx
   split at hx
   . rename_i z hz
     cases hx
     simp only [xQ] at e
     split at e
     . rename_i c' k n' hk
       cases e
       exact .inr ⟨y,k,rfl,cL FR hz hk hc⟩
     . cases e
   . cases hx
theorem ni {k:IntKind} {i:Int} {y:Nat} {code:BoundsCode} (h0:0<=i) (h1:i<=y):(Instr.sliceBound (.int k i) y code).run P w=.ok i.toNat w:=by
 simp [Instr.sliceBound,asIntOf,h0,h1]
theorem tC {gS:Bool} {len cap:Nat} {lo hi:Option Operand} {l h:Int} (hc:len<=cap) (hl:(lo=none/\l=0)∨∃ y k,lo=some y/\a.eval y=.int k l) (hh:(hi=none/\h=len)∨∃ y k,hi=some y/\a.eval y=.int k h) (h0:0<=l) (h1:l<=h) (h2:h<=len) :
 (Instr.sliceBounds gS len cap (lo.map a.eval) (hi.map a.eval) none).run P w=.ok (l.toNat,h.toNat,cap) w:=by
 have e1:h<=(cap:Int):=by omega
 have e2:l<=((h.toNat:Nat):Int):=by omega
 rcases hh with ⟨rfl,rfl⟩ | ⟨y,k,rfl,hy⟩
 . rcases hl with ⟨rfl,rfl⟩ | ⟨z,k',rfl,hz⟩
   . simp [Instr.sliceBounds]
   . have:=ni (P:=P) (w:=w) (k:=k') (code:=.sliceB) h0 (y:=len) (by omega)
     simp [Instr.sliceBounds,hz,this]
 . rcases hl with ⟨rfl,rfl⟩ | ⟨z,k',rfl,hz⟩
   . have:=fun code=>ni (P:=P) (w:=w) (k:=k) (code:=code) (y:=cap) (i:=h) (by omega) e1
     simp [Instr.sliceBounds,hy,this]
   . have:=fun code=>ni (P:=P) (w:=w) (k:=k) (code:=code) (y:=cap) (i:=h) (by omega) e1
     have t:=ni (P:=P) (w:=w) (k:=k') (code:=.sliceB) h0 e2
     simp [Instr.sliceBounds,hy,hz,this,t]
theorem nP {t el:TypeId} {sz:Nat} (hu:P.underlying t=some (.slice el)) (hs:gN P el=some sz) {ad:Option Addr} {len cap:Nat} {lo hi:Option Operand} {l h:Int} (hc:len<=cap)
 (hl:(lo=none/\l=0)∨∃ y k,lo=some y/\a.eval y=.int k l) (hh:(hi=none/\h=len)∨∃ y k,hi=some y/\a.eval y=.int k h) (h0:0<=l) (h1:l<=h) (h2:h<=len) :
 (Instr.sliceAt t (.slice ad len cap) (lo.map a.eval) (hi.map a.eval) none).run P w=.ok (.slice (if cap=l.toNat then ad else ad.map (·.add (l.toNat*sz))) (h.toNat-l.toNat) (cap-l.toNat)) w:=by
 simp only [Instr.sliceAt,Sem.run_bind,run_underlying hu,Result.andThen_ok,Instr.slice,tC hc hl hh h0 h1 h2,dX hs,Sem.run_pure]
theorem OD (FR:bh n η Z F a.tmps) {t el:TypeId} {sz:Nat} (hu:P.underlying t=some (.slice el)) (hs:gN P el=some sz) (hsz:sz≠0) {x':Operand} {x:bO} {lo' hi':Option Operand} {lo hi:Option bO} (hx:bT x'=some x) (hlo:yp lo'=some lo) (hhi:yp hi'=some hi)
 {c:Cd} {v:V} (e:dN F S (.slice sz x lo hi)=some (c,v)) (hc:c):bZ P η Z w (do pure (Next.value (<-Instr.sliceAt t (a.eval x') (lo'.map a.eval) (hi'.map a.eval) none))) v:=by
 simp only [dN] at e
 split at e
 . rename_i p hv
   split at e
   . rename_i q l r h hl hh
     cases e
     obtain ⟨hp,hq,hr,rfl,rfl⟩:=hc
     have:=(aK FR hx hv hp).2.nil_eq
     rw [this]
     have hrun:=nP (P:=P) (w:=w) (a:=a) hu hs (ad:=none) (len:=0) (cap:=0) (Nat.le_refl _) (kq FR hlo hl hq) (kq FR hhi hh hr) (by omega) (by omega) (by omega)
     exact bZ.of hrun ⟨by simp,by simp [aF,aM]⟩
   . cases e
 . rename_i p m off len sz' hv
   obtain ⟨rfl,e⟩:=dP e
   split at e
   . rename_i q l r h hl hh
     cases e
     obtain ⟨hp,hq,hr,h0,h1,h2⟩:=hc
     obtain ⟨_,⟨YB,hev⟩ | ⟨pl,cap,ad,hpl,hev,hcap,hroom,had⟩⟩:=aK FR hx hv hp
     . subst YB
       rw [hev]
       have hrun:=nP (P:=P) (w:=w) (a:=a) hu hs (ad:=none) (len:=0) (cap:=0) (Nat.le_refl _) (kq FR hlo hl hq) (kq FR hhi hh hr) h0 h1 h2
       refine bZ.of hrun ⟨by simp,?_⟩
       refine .inl ⟨by omega,?_⟩
       have e1:h.toNat-l.toNat=0:=by omega
       simp [e1]
     rw [hev]
     have hrun:=nP (P:=P) (w:=w) (a:=a) hu hs (ad:=some ad) hcap (kq FR hlo hl hq) (kq FR hhi hh hr) h0 h1 h2
     refine bZ.of hrun ⟨by simp,?_⟩
     refine .inr ⟨pl,cap-l.toNat,if cap=l.toNat then ad else ad.add (l.toNat*sz'),hpl,?_,by omega,?_,?_⟩
     . have:h.toNat-l.toNat=(h-l).toNat:=by omega
       rw [this]
       split <;> rfl
     . have:(cap-l.toNat)*sz'+l.toNat*sz'=cap*sz':=by rw [<-Nat.add_mul];congr 1;omega
       omega
     . by_cases bR:cap=l.toNat
       . exact .inl (by omega)
       . rcases had with rfl | rfl
         . exact .inl (by omega)
         . rw [if_neg bR,Addr.add_lit]
           exact .inr (by simp)
   . cases e
 . rename_i p sz' cs hv
   obtain ⟨rfl,e⟩:=dP e
   split at e
   . rename_i q l r h hl hh
     cases e
     obtain ⟨hp,hq,hr,h0,h1,h2⟩:=hc
     obtain ⟨ad,len,cap,hev,cB,hcap,hcs⟩:=(aK FR hx hv hp).2.ro
     have OE:cs.length / sz'=len:=by rw [cB];exact Nat.mul_div_cancel _ (by omega)
     rw [OE] at h2 hh
     rw [hev]
     have hrun:=nP (P:=P) (w:=w) (a:=a) hu hs (ad:=ad) hcap (kq FR hlo hl hq) (kq FR hhi hh hr) h0 h1 h2
     refine bZ.of hrun ⟨by simp,?_⟩
     simp only [aF,aM]
     refine ⟨_,_,_,rfl,?_,by omega,?_⟩
     . simp only [List.length_drop,List.length_take,cB]
       have:h.toNat*sz'<=len*sz':=Nat.mul_le_mul_right _ (by omega)
       rw [Nat.min_eq_left this,<-Nat.sub_mul]
     . rcases hcs with rfl | ⟨b,off,cells,rfl,hz,hf⟩
       . exact .inl (by simp)
       . by_cases bR:cap=l.toNat
         . left
           apply List.eq_nil_of_length_eq_zero
           simp only [List.length_drop,List.length_take,cB]
           have:h.toNat*sz'<=l.toNat*sz':=Nat.mul_le_mul_right _ (by omega)
           omega
         . right
           refine ⟨b,off+l.toNat*sz',cells,?_,hz,?_⟩
           . rw [if_neg bR];simp [Addr.add_lit]
           . exact (hf.take _).drop _
   . cases e
 . rename_i p d xs hv
   obtain ⟨hs1,e2⟩:=dP e
   subst hs1
   split at e2
   . rename_i q l r h hl hh
     cases e2
     obtain ⟨hp,hq,hr,h0,h1,h2⟩:=hc
     obtain ⟨ad,len,cap,hev,cB,hcap,hcs⟩:=(aK FR hx hv hp).2.rd
     rw [cB] at h2 hh
     rw [hev]
     have hrun:=nP (P:=P) (w:=w) (a:=a) hu hs (ad:=ad) hcap (kq FR hlo hl hq) (kq FR hhi hh hr) h0 h1 h2
     refine bZ.of hrun ⟨by simp,?_⟩
     simp only [aF,aM,cH]
     refine ⟨_,_,_,rfl,?_,by omega,?_⟩
     . simp only [List.length_drop,List.length_take,cB]
       rw [Nat.min_eq_left (by omega)]
     . rcases hcs with rfl | ⟨b,off,cells,rfl,hz,hf⟩
       . exact .inl (by simp)
       . by_cases bR:cap=l.toNat
         . left
           apply List.eq_nil_of_length_eq_zero
           simp only [List.length_drop,List.length_take,cB]
           omega
         . right
           refine ⟨b,off+l.toNat,cells,?_,hz,?_⟩
           . rw [if_neg bR];simp [Addr.add_lit]
           . exact (hf.take _).drop _
   . cases e2
 . cases e
theorem L6 (FR:bh n η Z F a.tmps) {t:TypeId} (hu:P.underlying t=some .string) {x':Operand} {x:bO} {lo' hi':Option Operand} {lo hi:Option bO} (hx:bT x'=some x) (hlo:yp lo'=some lo) (hhi:yp hi'=some hi)
 {c:Cd} {v:V} (e:dN F S (.Io x lo hi)=some (c,v)) (hc:c):bZ P η Z w (do pure (Next.value (<-Instr.sliceAt t (a.eval x') (lo'.map a.eval) (hi'.map a.eval) none))) v:=by
 simp only [dN] at e
 split at e
 . rename_i p s hv
   split at e
   . rename_i q l r h hl hh
     cases e
     obtain ⟨hp,hq,hr,h0,h1,h2⟩:=hc
     rw [lV FR hx hv hp]
     have hb:=tC (P:=P) (w:=w) (a:=a) (gS:=false) (Nat.le_refl s.size) (kq FR hlo hl hq) (kq FR hhi hh hr) h0 h1 h2
     refine bZ.of (u:=.string (s.extract l.toNat h.toNat)) ?_ p5
     simp [Instr.sliceAt,run_underlying hu,Instr.slice,hb]
   . cases e
 . cases e
theorem EF (FR:bh n η Z F a.tmps) {t el:TypeId} {sz:Nat} (hu:P.underlying t=some (.slice el)) (hs:gN P el=some sz) (hsz:sz≠0) {x' i':Operand} {x i:bO} (hx:bT x'=some x) (hi:bT i'=some i)
 {c:Cd} {v:V} (e:dN F S (.indexAddr sz x i)=some (c,v)) (hc:c):bZ P η Z w (do pure (Next.value (<-Instr.indexAt t (a.eval x') (a.eval i')))) v:=by
 simp only [dN] at e
 split at e
 . rename_i p m off len sz' q k j hv hk
   obtain ⟨rfl,e⟩:=dP e
   cases e
   obtain ⟨hp,hq,h0,h1⟩:=hc
   obtain ⟨_,⟨YB,hev⟩ | ⟨pl,cap,ad,hpl,hev,hcap,hroom,had⟩⟩:=aK FR hx hv hp
   . omega
   rw [hev,cL FR hi hk hq]
   have hca:ad=⟨pl.block,pl.off+off,none⟩:=by
    rcases had with rfl | rfl
    . omega
    . rfl
   subst hca
   refine bZ.of (u:=.pointer (some ⟨pl.block,pl.off+off+j.toNat*sz',none⟩)) ?_ ?_
   . simp [Instr.indexAt,asIntOf,run_underlying hu,h0,h1,dX hs,Addr.add_lit]
   . cases hb:Nat.beq sz' 1 with
     | false=>exact ⟨by simp,pl,hpl,by simp [Nat.add_assoc]⟩
     | true =>
       have:sz'=1:=Nat.eq_of_beq_eq_true hb
       subst this
       exact ⟨by simp,pl,hpl,by simp [Nat.add_assoc]⟩
 . rename_i p sz' cs q k j hv hk
   obtain ⟨rfl,e⟩:=dP e
   cases e
   obtain ⟨hp,hq,h0,h1⟩:=hc
   obtain ⟨ad,len,cap,hev,cB,hcap,hcs⟩:=(aK FR hx hv hp).2.ro
   rw [hev,cL FR hi hk hq]
   rcases hcs with rfl | ⟨b,off,cells,rfl,hz,hf⟩
   . simp at h1
   . have h2:j<(len:Int):=by
      rw [cB] at h1
      have:=Nat.lt_of_mul_lt_mul_right h1
      omega
     refine bZ.of (u:=.pointer (some ⟨b,off+j.toNat*sz',none⟩)) ?_ ⟨by simp,?_⟩
     . simp [Instr.indexAt,asIntOf,run_underlying hu,h0,h2,dX hs,Addr.add_lit]
     . simp only [aF,aM]
       exact ⟨b,off,cells,rfl,hz,hf⟩
 . rename_i p d l q k j hv hk
   obtain ⟨hs1,e2⟩:=dP e
   subst hs1
   cases e2
   obtain ⟨hp,hq,h0,h1⟩:=hc
   obtain ⟨ad,len,cap,hev,cB,hcap,hcs⟩:=(aK FR hx hv hp).2.rd
   rw [hev,cL FR hi hk hq]
   rcases hcs with rfl | ⟨b,off,cells,rfl,hz,hf⟩
   . simp at h1;omega
   . have h2:j<(len:Int):=by omega
     refine bZ.of (u:=.pointer (some ⟨b,off+j.toNat,none⟩)) ?_ ⟨by simp,?_⟩
     . simp [Instr.indexAt,asIntOf,run_underlying hu,h0,h2,dX hs,Addr.add_lit]
     . simp only [aF,aM]
       exact ⟨b,off,cells,rfl,hz,hf⟩
 . rename_i p m r len q k j hv hk
   obtain ⟨hs1,e2⟩:=dP e
   subst hs1
   cases e2
   obtain ⟨hp,hq,h0,h1⟩:=hc
   obtain ⟨_,pl,r0,cap,ad,hpl,hr,hev,hcap,had⟩:=aK FR hx hv hp
   rw [had (by omega)] at hev
   rw [hev,cL FR hi hk hq]
   refine bZ.of (u:=.pointer (some ⟨r0.1,r0.2+j.toNat,none⟩)) ?_ ⟨by simp,pl,r0,hpl,hr,rfl⟩
   simp [Instr.indexAt,asIntOf,run_underlying hu,h0,h1,dX hs,Addr.add_lit]
 . cases e
theorem CI (FR:bh n η Z F a.tmps) {t el:TypeId} {sz len:Nat} (hu:P.underlying t=some (.array len el)) (hs:gN P el=some sz) {x' i':Operand} {x i:bO} (hx:bT x'=some x) (hi:bT i'=some i)
 {c:Cd} {v:V} (e:dN F S (.vU len sz x i)=some (c,v)) (hc:c):bZ P η Z w (do pure (Next.value (<-Instr.indexAt t (a.eval x') (a.eval i')))) v:=by
 simp only [dN] at e
 split at e
 . rename_i p m off q k j hv hk
   cases e
   obtain ⟨hp,hq,h0,h1⟩:=hc
   obtain ⟨_,pl,hpl,hev⟩:=aK FR hx hv hp
   rw [hev,cL FR hi hk hq]
   refine bZ.of (u:=.pointer (some ⟨pl.block,pl.off+off+j.toNat*sz,none⟩)) ?_ ?_
   . simp [Instr.indexAt,asIntOf,run_underlying hu,h0,h1,dX hs,Addr.add_lit,Instr.sureAddr]
   . cases hb:Nat.beq sz 1 with
     | false=>exact ⟨by simp,pl,hpl,by simp [Nat.add_assoc]⟩
     | true =>
       have:sz=1:=Nat.eq_of_beq_eq_true hb
       subst this
       exact ⟨by simp,pl,hpl,by simp [Nat.add_assoc]⟩
 . rename_i p cs off q k j hv hk
   cases e
   obtain ⟨hp,hq,h0,h1⟩:=hc
   obtain ⟨b,o,cells,hev,hz,hf⟩:=(aK FR hx hv hp).2.rp
   rw [hev,cL FR hi hk hq]
   refine bZ.of (u:=.pointer (some ⟨b,o+off+j.toNat*sz,none⟩)) ?_ ⟨by simp,?_⟩
   . simp [Instr.indexAt,asIntOf,run_underlying hu,h0,h1,dX hs,Addr.add_lit,Instr.sureAddr]
   . simp only [aF,aM]
     exact ⟨b,o,cells,by simp [Nat.add_assoc],hz,hf⟩
 . cases e
theorem EG (FR:bh n η Z F a.tmps) {s:TypeId} {fs:_} (hu:P.underlying s=some (.struct fs)) {f:Nat} {fd:_} (hf:fs[f]? = some fd) {k:Nat} (hs:gN P fd.type=some k) (hk:k≠0) {x':Operand} {x:bO} (hx:bT x'=some x)
 {c:Cd} {v:V} (e:dN F S (.fieldAddr fd.offset x)=some (c,v)) (hc:c):bZ P η Z w (do pure (Next.value (<-Instr.fieldAt s (a.eval x') f))) v:=by
 simp only [dN] at e
 split at e
 . rename_i p m off hv
   cases e
   obtain ⟨_,pl,hpl,hev⟩:=aK FR hx hv hc
   rw [hev]
   refine bZ.of (u:=.pointer (some ⟨pl.block,pl.off+off+fd.offset,none⟩)) ?_ ⟨by simp,pl,hpl,by simp [Nat.add_assoc]⟩
   simp [Instr.fieldAt,run_underlying hu,hf,Instr.sureAddr,fieldPlace,dX hs,hk,Addr.add_lit]
 . rename_i p cs off hv
   cases e
   obtain ⟨b,o,cells,hev,hz,hfs⟩:=(aK FR hx hv hc).2.rp
   rw [hev]
   refine bZ.of (u:=.pointer (some ⟨b,o+off+fd.offset,none⟩)) ?_ ⟨by simp,?_⟩
   . simp [Instr.fieldAt,run_underlying hu,hf,Instr.sureAddr,fieldPlace,dX hs,hk,Addr.add_lit]
   . simp only [aF,aM]
     exact ⟨b,o,cells,by simp [Nat.add_assoc],hz,hfs⟩
 . cases e
theorem aT.drop {α β:Type} {R:α->β->Prop}:∀ {l:List α} {m:List β} (n:Nat),aT R l m->aT R (l.drop n) (m.drop n)
 | _,_,0,h=>h
 | [],[],_+1,_=>trivial
 | _::_,_::_,n+1,⟨_,h⟩=>by simpa using aT.drop n h
theorem aT.take {α β:Type} {R:α->β->Prop}:∀ {l:List α} {m:List β} (n:Nat),aT R l m->aT R (l.take n) (m.take n)
 | _,_,0,_=>trivial
 | [],[],_+1,_=>trivial
 | _::_,_::_,n+1,⟨a,h⟩=>⟨a,aT.take n h⟩
theorem OG (FR:bh n η Z F a.tmps) {t:TypeId} {fs:_} (hu:P.underlying t=some (.struct fs)) {f:Nat} {fd:_} (hf:fs[f]? = some fd) (hag:rC P fd.type=some false) {d:W} {x':Operand} {x:bO} (hx:bT x'=some x)
 {c:Cd} {v:V} (e:dN F S (.field fd.offset d x)=some (c,v)) (hc:c):bZ P η Z w (do pure (Next.value (<-Instr.field t (a.eval x') f))) v:=by
 simp only [dN] at e
 split at e
 . rename_i p cs hv
   split at e
   . rename_i y hy
     cases e
     obtain ⟨vs,hev,hd,hl⟩:=eA FR hx hv hc
     rw [hev]
     obtain ⟨u,h1,h2⟩:=hl.get hy
     refine bZ.of (u:=u) ?_ ⟨hd _ (List.mem_of_getElem? hy),h2⟩
     simp [Instr.field,run_underlying hu,hf,asAgg,part,nY hag,h1]
   . cases e
 . cases e
theorem L7 (FR:bh n η Z F a.tmps) {t:TypeId} {fs:_} (hu:P.underlying t=some (.struct fs)) {f:Nat} {fd:_} (hf:fs[f]? = some fd) (hag:rC P fd.type=some true) {k:Nat} (hs:gN P fd.type=some k) {x':Operand} {x:bO} (hx:bT x'=some x)
 {c:Cd} {v:V} (e:dN F S (.Im fd.offset k x)=some (c,v)) (hc:c):bZ P η Z w (do pure (Next.value (<-Instr.field t (a.eval x') f))) v:=by
 simp only [dN] at e
 split at e
 . rename_i p cs hv
   obtain ⟨_,e⟩:=au.aH e
   cases e
   obtain ⟨vs,hev,hd,hl⟩:=eA FR hx hv hc
   rw [hev]
   refine bZ.of (u:=.agg ((vs.drop fd.offset).take k).toArray) ?_ ⟨_,rfl,fun y hy=>hd y (List.mem_of_mem_drop (List.mem_of_mem_take hy)),(hl.drop _).take _⟩
   simp [Instr.field,run_underlying hu,hf,asAgg,part,nY hag,dX hs,List.extract_toArray,Nat.add_sub_cancel_left]
 . cases e
theorem Rk (FR:bh n η Z F a.tmps) {t el ty:TypeId} {sz:Nat} (hu:P.underlying t=some (.slice el)) (hsz:sz≠0) {x':Operand} {x:bO} (hx:bT x'=some x)
 {c:Cd} {v:V} (e:dN F S (.llen sz x)=some (c,v)) (hc:c):bZ P η Z w (do pure (Next.value (<-Builtin.len_ #[t] ty #[a.eval x']))) v:=by
 simp only [dN] at e
 split at e
 . rename_i p hv
   cases e
   rw [(aK FR hx hv hc).2.nil_eq]
   exact bZ.of (u:=goInt 0) (by simp [Builtin.len_,run_underlying hu]) eO
 . rename_i p m off len sz' hv
   cases e
   obtain ⟨_,⟨YB,hev⟩ | ⟨pl,cap,ad,hpl,hev,_⟩⟩:=aK FR hx hv hc
   . subst YB
     rw [hev]
     exact bZ.of (u:=goInt 0) (by simp [Builtin.len_,run_underlying hu]) eO
   rw [hev]
   exact bZ.of (u:=goInt len) (by simp [Builtin.len_,run_underlying hu]) eO
 . rename_i p sz' cs hv
   obtain ⟨rfl,e⟩:=dP e
   cases e
   obtain ⟨ad,len,cap,hev,cB,_⟩:=(aK FR hx hv hc).2.ro
   have OE:cs.length / sz'=len:=by rw [cB];exact Nat.mul_div_cancel _ (by omega)
   rw [hev,OE]
   exact bZ.of (u:=goInt len) (by simp [Builtin.len_,run_underlying hu]) eO
 . rename_i p d l hv
   cases e
   obtain ⟨ad,len,cap,hev,cB,_⟩:=(aK FR hx hv hc).2.rd
   rw [hev,cB]
   exact bZ.of (u:=goInt len) (by simp [Builtin.len_,run_underlying hu]) eO
 . rename_i p m r len hv
   cases e
   obtain ⟨_,pl,r0,cap,ad,hpl,hr,hev,hcap,had⟩:=aK FR hx hv hc
   rw [hev]
   exact bZ.of (u:=goInt len) (by simp [Builtin.len_,run_underlying hu]) eO
 . cases e
theorem IE (FR : bh n η Z F a.tmps) : ∀ {l' : List Operand} {l : List bO}, n8 l' = some l → ∀ {c : Cd} {r : List (Nat × Nat)}, yj F l = some (c, r) → c → aT (fP η) r (l'.map a.eval)
 | [],l,hl,c,r,e,hc=>by
   cases hl
   simp only [yj] at e
   cases e
   trivial
 | x :: l', l, hl, c, r, e, hc => by
   simp only [n8] at hl
   split at hl
   . rename_i y hy
     split at hl
     . rename_i l2 hl2
       cases hl
       simp only [yj] at e
       split at e
       . rename_i p m off hv
         split at e
         . rename_i d r' hr'
           cases e
           exact ⟨(aK FR hy hv hc.1).2,IE FR hl2 hr' hc.2⟩
         . cases e
       . cases e
     . cases hl
   . cases hl
theorem IG:∀ {cs:List W} {vs:List Value} {l:List W} {m:List Value} {off:Nat},aT (aF η Z) l m->aT (aF η Z) cs vs->aT (aF η Z) (jC l off cs) (au.uh m off vs)
 | [],[],_,_,_,h,_=>h
 | _::_,_::_,_,_,_,h,⟨a,b⟩=>by rw [jC,au.uh];exact IG (h.set a) b
theorem FB:∀ {cs l:List W} {off:Nat},(∀ x∈l,x≠.ct)->(∀ x∈cs,x≠.ct)->∀ x∈jC l off cs,x≠.ct
 | [],_,_,h,_,x,hx=>h x hx
 | c::cs,l,off,h,k,x,hx=>by
   rw [jC] at hx
   refine FB (fun y hy=>?_) (fun y hy=>k y (List.mem_cons_of_mem _ hy)) x hx
   rcases List.mem_or_eq_of_mem_set hy with h1 | h1
   . exact h y h1
   . subst h1;exact k y (by simp)
theorem uq (FR:bh n η Z F a.tmps) {place:Nat->Option (Nat×Nat)}:∀ {l:List (Nat×Operand)} {ps:List (Nat×Nat×bO)} {cs out:List W} {q:Cd} {c:Array Value},sI place l=some ps->aT (aF η Z) cs c.toList->(∀ x∈cs,x≠.ct)->uT F cs ps=some (q,out)->q->
 ∃ c',Instr.fill place c (l.map fun (i,x)=>(i,a.eval x))=some c'/\aT (aF η Z) out c'.toList/\∀ x∈out,x≠.ct
 | [],ps,cs,out,q,c,h,hl,hd,e,_=>by
   cases h
   simp only [uT] at e
   cases e
   exact ⟨c,rfl,hl,hd⟩
 | (i, x) :: l, ps, cs, out, q, c, h, hl, hd, e, hq => by
   simp only [sI] at h
   split at h
   . rename_i off k y r h1 h2 h3
     cases h
     simp only [uT] at e
     split at e
     . rename_i p v hv
       obtain ⟨hb,e⟩:=au.aH e
       split at e
       . rename_i q' out' ho
         cases e
         simp only [Bool.and_eq_true,Nat.beq_eq,Nat.ble_eq] at hb
         obtain ⟨g1,g2,_⟩:=(eA FR h2 hv hq.1).cells
         have e1:(a.eval x).cells.size=k:=by have:=g1.length;rw [<-hb.1,this];simp
         have e2:c.size=cs.length:=by have:=hl.length;rw [this];simp
         have hput:aT (aF η Z) (jC cs off v.cells) (((a.eval x).cells.zipIdx.foldl (fun (cs:Array Value) (x:Value×Nat)=>cs.setIfInBounds (off+x.2) x.1) c)).toList:=by
          rw [<-Array.foldl_toList,Array.toList_zipIdx,au.tj]
          simpa using IG hl g1
         obtain ⟨c',h4,h5⟩:=uq FR h3 hput (FB hd g2) ho hq.2
         refine ⟨c',?_,h5⟩
         have h6:¬ (off+k > c.size):=by omega
         simp only [List.map_cons,Instr.fill,h1,e1]
         simp only [ne_eq,not_true_eq_false,decide_false,h6,Bool.or_self,Bool.false_eq_true,if_false]
         exact h4
       . cases e
     . cases e
   . cases h
theorem II:∀ {fs:List Field} {l:List (Nat×Nat)},Ij P fs=some l->(fs.mapM (fun f=>do Pure.pure (f.offset,<-sizeOf f.type)):Sem (List (Nat×Nat))).run P w=.ok l w
 | [],l,e=>by cases e;simp
 | f :: fs, l, e => by
   simp only [Ij] at e
   split at e
   . rename_i k r h1 h2
     cases e
     have:=II h2
     simp only [List.mapM_cons,Sem.run_bind,dX h1,Result.andThen_ok,Sem.run_pure] at this ⊢
     rw [this]
     simp
   . cases e
theorem AR {t:TypeId} {zs:List W} (e:jR P t=some zs):∃ z,(zeroValue t).run P w=.ok z w/\aT (aF η Z) zs z.cells.toList/\∀ x∈zs,x≠.ct:=by
 unfold jR at e
 split at e
 . rename_i i hi
   split at e
   . rename_i z hz
     obtain ⟨h1,h2,_⟩:=nZ (η:=η) (Z:=Z) e
     exact ⟨z,by simp [zeroValue,typeInfo,hi,hz],h1,h2⟩
   . cases e
 . cases e
theorem OH (FR:bh n η Z F a.tmps) {t:TypeId} {fs:Array Field} (hu:P.underlying t=some (.struct fs)) {z:List W} (hz:jR P t=some z) {pl:List (Nat×Nat)} (hpl:Ij P fs.toList=some pl) {parts:Array (Nat×Operand)} {ps:List (Nat×Nat×bO)} (hp:sI (fun i=>pl[i]?) parts.toList=some ps) {c:Cd} {v:V} (e:dN F S (.build z ps)=some (c,v)) (hc:c) :
 bZ P η Z w (do pure (Next.value (<-Instr.build t (parts.map fun (i,x)=>(i,a.eval x))))) v:=by
 simp only [dN] at e
 split at e
 . rename_i p cs hb
   cases e
   obtain ⟨zv,AU,hz1,hz2⟩:=AR (η:=η) (Z:=Z) (w:=w) hz
   obtain ⟨c',h1,h2,h3⟩:=uq FR hp hz1 hz2 hb hc
   refine bZ.of (u:=.agg c') ?_ ⟨c'.toList,by simp,h3,h2⟩
   have hm:(fs.mapM (fun f=>do Pure.pure (f.offset,<-sizeOf f.type)):Sem (Array (Nat×Nat))).run P w=.ok pl.toArray w:=by
    rw [<-Array.toArray_toList (xs:=fs),List.mapM_toArray]
    have:=II (w:=w) hpl
    simp only [Sem.run_map,this,Result.andThen_ok]
   have hg:(fun i:Nat=>(pl.toArray)[i]?)=fun i=>pl[i]?:=by funext i;simp
   simp only [Instr.build,Sem.run_bind,AU,Result.andThen_ok,run_underlying hu,hm,hg,Array.toList_map,h1]
   rfl
 . cases e
theorem L8 (FR:bh n η Z F a.tmps) {t el:TypeId} {len sz:Nat} (hu:P.underlying t=some (.array len el)) {z:List W} (hz:jR P t=some z) (hs:gN P el=some sz) {parts:Array (Nat×Operand)} {ps:List (Nat×Nat×bO)} (hp:sI (fun i=>some (i*sz,sz)) parts.toList=some ps) {c:Cd} {v:V} (e:dN F S (.build z ps)=some (c,v)) (hc:c) :
 bZ P η Z w (do pure (Next.value (<-Instr.build t (parts.map fun (i,x)=>(i,a.eval x))))) v:=by
 simp only [dN] at e
 split at e
 . rename_i p cs hb
   cases e
   obtain ⟨zv,AU,hz1,hz2⟩:=AR (η:=η) (Z:=Z) (w:=w) hz
   obtain ⟨c',h1,h2,h3⟩:=uq FR hp hz1 hz2 hb hc
   refine bZ.of (u:=.agg c') ?_ ⟨c'.toList,by simp,h3,h2⟩
   simp only [Instr.build,Sem.run_bind,AU,Result.andThen_ok,run_underlying hu,dX hs,Array.toList_map,h1]
   rfl
 . cases e
theorem ZL {t:TypeId} {u:TypeDesc} {d:D} (hu:P.underlying t=some u) (hk:vT u=some d) {x y:W} {v v':Value} {b:Bool} (hx:aF η Z x v) (hy:aF η Z y v') (e:Ik d x y=some b) (k:Nat):(Op.equalIn (k+1) t v v').run P w=.ok b w:=by
 cases d with
 | int k0 =>
   cases x <;> simp only [Ik] at e <;> try cases e
   cases y <;> simp only [] at e <;> try cases e
   rename_i k1 i k2 j
   obtain ⟨h1,h2⟩:=dP e
   subst h1
   injection h2 with h2
   subst h2
   simp only [aF,aM] at hx hy
   subst hx hy
   cases u <;> simp only [vT] at hk <;> cases hk
   simp only [Op.equalIn,Sem.run_bind,run_underlying hu,Result.andThen_ok,if_true,Sem.run_pure]
   rfl
 | bool =>
   cases x <;> simp only [Ik] at e <;> try cases e
   cases y <;> simp only [] at e <;> try cases e
   simp only [aF,aM] at hx hy
   subst hx hy
   cases u <;> simp only [vT] at hk <;> cases hk
   simp only [Op.equalIn,Sem.run_bind,run_underlying hu,Result.andThen_ok,Sem.run_pure]
 | str=>cases x <;> simp only [Ik] at e <;> cases e
 | sl d=>cases x <;> simp only [Ik] at e <;> cases e
theorem IJ {xs ys : List W} {us vs : List Value} (hx : aT (aF η Z) xs us) (hy : aT (aF η Z) ys vs) {g : Field → Option Bool × Unit → Sem (ForInStep (Option Bool × Unit))}
 (hg:∀ f s x y u v b k d,f.name≠ "_"->P.underlying f.type=some k->vT k=some d->us[f.offset]? = some u->vs[f.offset]? = some v->aF η Z x u->aF η Z y v->Ik d x y=some b->(g f s).run P w=.ok (if b then .yield (none,()) else .done (some false,())) w) :
 ∀ {fs:List Field} {OI:List (Nat×D)} {b:Bool},sC P fs=some OI->Il xs ys OI=some b->(forIn fs (none,()) g:Sem (Option Bool×Unit)).run P w=.ok (if b then none else some false,()) w
 | [],OI,b,h,e=>by
   cases h;cases e;simp
 | f :: fs, OI, b, h, e => by
   simp only [sC] at h
   split at h
   . cases h
   . rename_i hn
     split at h
     . rename_i k hk
       split at h
       . rename_i d r hd hr
         cases h
         simp only [Il] at e
         split at e
         . rename_i x y h1 h2
           split at e
           . rename_i b1 b2 h3 h4
             cases e
             obtain ⟨u,hu,hxu⟩:=hx.get h1
             obtain ⟨v,hv,AV⟩:=hy.get h2
             have:=hg f (none,()) x y u v b1 k d hn hk hd hu hv hxu AV h3
             have ih:=IJ hx hy hg hr h4
             simp only [List.forIn_cons,Sem.run_bind,this,Result.andThen_ok]
             cases b1 with
             | true=>simpa using ih
             | false=>simp
           . cases e
         . cases e
       . cases h
     . cases h
theorem FC {t:TypeId} {k:TypeDesc} {d:D} (hu:P.underlying t=some k) (hk:vT k=some d):rC P t=some false:=by
 unfold rC
 rw [hu]
 cases k <;> simp only [vT] at hk <;> first | rfl | cases hk
theorem ZM {t:TypeId} {fs:Array Field} (hu:P.underlying t=some (.struct fs)) (hs:P.stoodInHeld t=false) {l:List (Nat×D)} (hl:sC P fs.toList=some l) {xs ys:List W} {us vs:List Value} (hx:aT (aF η Z) xs us) (hy:aT (aF η Z) ys vs) {b:Bool} (e:Il xs ys l=some b) (k:Nat) :
 (Op.equalIn (k+1+1) t (.agg us.toArray) (.agg vs.toArray)).run P w=.ok b w:=by
 rw [Op.equalIn]
 simp only [Sem.run_bind,run_underlying hu,Result.andThen_ok]
 have hp:Sem.run P program w=.ok P w:=rfl
 simp only [hp,Result.andThen_ok,hs,Bool.false_eq_true,if_false,<-Array.forIn_toList,Sem.run_bind]
 rw [IJ hx hy (fun f s x y u v b k' d hn hk hd hu' hv' hxu AV he=>?_) hl e]
 . cases b <;> simp
 . have h1:(part f.type us.toArray f.offset).run P w=.ok u w:=by simp [part,nY (FC hk hd),hu']
   have h2:(part f.type vs.toArray f.offset).run P w=.ok v w:=by simp [part,nY (FC hk hd),hv']
   simp only [ne_eq,hn,not_false_eq_true,if_true,Sem.run_bind,h1,h2,Result.andThen_ok,ZL hk hd hxu AV he]
   cases b <;> simp
theorem IK (FR:bh n η Z F a.tmps) {t:TypeId} {fs:Array Field} (hu:P.underlying t=some (.struct fs)) (hs:P.stoodInHeld t=false) (hgd:P.eqGuardType P.depth t=false) {l:List (Nat×D)} (hl:sC P fs.toList=some l) {op:BinOp} (hop:op=.eql∨op=.neq) {x' y':Operand} {x y:bO} (hx:bT x'=some x) (hy:bT y'=some y) {c:Cd} {v:V} (e:dN F S (.aeq op l x y)=some (c,v)) (hc:c) :
 bZ P η Z w ((do eqGuard op t x' y' (a.eval x') (a.eval y');binOp op t (a.eval x') (a.eval y'):Sem Value) >>= fun u=>Pure.pure (Next.value u)) v:=by
 simp only [dN] at e
 split at e
 . rename_i p xs q ys hvx hvy
   split at e
   . rename_i b hb
     cases e
     obtain ⟨us,h1,_,h3⟩:=eA FR hx hvx hc.1
     obtain ⟨vs,g1,_,g3⟩:=eA FR hy hvy hc.2
     rw [h1,g1]
     have h4:(Op.equal t (.agg us.toArray) (.agg vs.toArray)).run P w=.ok b w:=ZM hu hs hl h3 g3 hb 9998
     have hp:Sem.run P program w=.ok P w:=rfl
     have h5:(eqGuard op t x' y' (.agg us.toArray) (.agg vs.toArray)).run P w=.ok () w:=by
      rcases hop with rfl | rfl <;> simp [eqGuard,hp,hgd]
     rcases hop with rfl | rfl <;> refine bZ.of ?_ iF
     . have:binOp .eql t (.agg us.toArray) (.agg vs.toArray)=(do pure (.bool (<-Op.equal t (.agg us.toArray) (.agg vs.toArray)))):=rfl
       simp only [Sem.run_bind,h5,Result.andThen_ok,this,h4,Sem.run_pure]
     . have:binOp .neq t (.agg us.toArray) (.agg vs.toArray)=(do pure (.bool (!(<-Op.equal t (.agg us.toArray) (.agg vs.toArray))))):=rfl
       simp only [Sem.run_bind,h5,Result.andThen_ok,this,h4,Sem.run_pure]
   . cases e
 . cases e
end
section
variable {P:Program} {base n:Nat} {η:Eta} {Z:aA} {S:ai} {w:World} {F:Fr} {a:Act}
theorem vW {s:ByteArray} {i:Nat} (h:i<s.size):s[i]? = some (s.data.toList.getD i 0):=by
 have h1:i<s.data.toList.length:=by simpa using h
 have:s[i]? = some s[i]:=getElem?_pos s i h
 rw [this]
 congr 1
 rw [List.getD_eq_getElem?_getD,List.getElem?_eq_getElem h1]
 rfl
theorem Rl {x:Operand} (h:bT x=some (.w .dM)):x=.const .nilIface:=by
 cases x with
 | tmp t=>cases h
 | global g=>cases h
 | func f=>cases h
 | const v =>
   simp only [bT] at h
   split at h
   . rename_i y hy
     cases h
     unfold ME at hy
     split at hy
     . split at hy <;> cases hy
     . split at hy
       . rename_i x hx
         cases hy
         unfold MC at hx
         split at hx <;> cases hx
         rfl
       . cases hy
   . cases h
   . cases h
theorem IL (FR:bh n η Z F a.tmps) {t:TypeId} {ms:_} (hu:P.underlying t=some (.interface ms)) {op:BinOp} {neg:Bool} (hop:(op=.eql/\neg=false)∨(op=.neq/\neg=true)) {x' y':Operand} {x:bO} (hx:bT x'=some x) (hy:bT y'=some (.w .dM))
 {c:Cd} {v:V} (e:dN F S (.ieq neg x)=some (c,v)) (hc:c):bZ P η Z w (do pure (Next.value (<-(do eqGuard op t x' y' (a.eval x') (a.eval y');binOp op t (a.eval x') (a.eval y'))))) v:=by
 have hy':=Rl hy
 subst hy'
 have h2:a.eval (.const .nilIface)=.nilIface:=rfl
 have h3:(Op.equal t .nilIface .nilIface).run P w=.ok true w:=by
  have d:∀ d:Nat,(Op.equalIn (d+1) t .nilIface .nilIface).run P w=.ok true w:=fun d=>by simp [Op.equalIn,run_underlying hu]
  exact d 9999
 simp only [dN] at e
 split at e
 . rename_i p hxe
   cases e
   have h1:a.eval x'=.nilIface:=by have:=(aK FR hx hxe hc).2;simpa only [aF,aM] using this
   rw [h1,h2,eqGuard_nil_constR]
   rcases hop with ⟨rfl,rfl⟩ | ⟨rfl,rfl⟩
   . exact bZ.of (u:=.bool true) (by simp [binOp,h3]) iF
   . exact bZ.of (u:=.bool false) (by simp [binOp,h3]) iF
 . rename_i p t' v' hxe
   cases e
   have h1:a.eval x'=.iface t' v':=by have:=(aK FR hx hxe hc).2;simp only [aF,aM] at this;exact this.1
   have h4:(Op.equal t (.iface t' v') .nilIface).run P w=.ok false w:=by
    have d:∀ d:Nat,(Op.equalIn (d+1) t (.iface t' v') .nilIface).run P w=.ok false w:=fun d=>by simp [Op.equalIn,run_underlying hu]
    exact d 9999
   have hg:eqGuard op t x' (.const .nilIface) (.iface t' v') .nilIface=pure ():=by
    rcases hop with ⟨rfl,_⟩ | ⟨rfl,_⟩ <;> rfl
   rw [h1,h2,hg]
   rcases hop with ⟨rfl,rfl⟩ | ⟨rfl,rfl⟩
   . exact bZ.of (u:=.bool false) (by simp [binOp,h4]) iF
   . exact bZ.of (u:=.bool true) (by simp [binOp,h4]) iF
 . cases e
theorem IQ (FR:bh n η Z F a.tmps) {t el:TypeId} (hu:P.underlying t=some (.pointer el)) {k:Nat} (hk:gN P el=some k) (h0:k≠0) {op:BinOp} {neg:Bool} (hop:(op=.eql/\neg=false)∨(op=.neq/\neg=true)) {x' y':Operand} {x y:bO} (hx:bT x'=some x) (hy:bT y'=some y)
 {c:Cd} {v:V} (e:dN F S (.Yz neg x y)=some (c,v)) (hc:c) :
 bZ P η Z w (do pure (Next.value (<-(do eqGuard op t x' y' (a.eval x') (a.eval y');binOp op t (a.eval x') (a.eval y'))))) v:=by
 have hsz:∀ w',(sizeOf el).run P w'=.ok k w':=fun w'=>dX hk w'
 have step:∀ (x y:Value),Op.equal t x y=Op.equalIn (9999+1) t x y:=fun _ _=>rfl
 have d0:∀ (d:Nat) (b:Option Addr),(Op.equalIn (d+1) t (.pointer none) (.pointer b)).run P w=.ok b.isNone w:=fun d b=>by simp [Op.equalIn,run_underlying hu]
 have d1:∀ (d:Nat) (b:Addr),(Op.equalIn (d+1) t (.pointer (some b)) (.pointer none)).run P w=.ok false w:=fun d b=>by simp [Op.equalIn,run_underlying hu]
 have d2:∀ (d:Nat) (q q':Addr),q.block=q'.block->(Op.equalIn (d+1) t (.pointer (some q)) (.pointer (some q'))).run P w=.ok (q == q') w:=fun d q q' hq=>by simp [Op.equalIn,run_underlying hu,hsz,h0,sameAddr,hq]
 have eq0:∀ b:Option Addr,(Op.equal t (.pointer none) (.pointer b)).run P w=.ok b.isNone w:=fun b=>by rw [step];exact d0 _ b
 have eq1:∀ b:Addr,(Op.equal t (.pointer (some b)) (.pointer none)).run P w=.ok false w:=fun b=>by rw [step];exact d1 _ b
 have fin:∀ (u u':Option Addr) (b:Bool),a.eval x'=.pointer u->a.eval y'=.pointer u'->(Op.equal t (.pointer u) (.pointer u')).run P w=.ok b w->bZ P η Z w (do pure (Next.value (<-(do eqGuard op t x' y' (a.eval x') (a.eval y');binOp op t (a.eval x') (a.eval y'))))) (.c (.bool (bif neg then !b else b))):=by
  intro u u' b h1 h2 h3
  rw [h1,h2]
  rcases hop with ⟨rfl,rfl⟩ | ⟨rfl,rfl⟩
  . exact bZ.of (u:=.bool b) (by simp [eqGuard,binOp,h3]) iF
  . exact bZ.of (u:=.bool (!b)) (by simp [eqGuard,binOp,h3]) iF
 simp only [dN] at e
 split at e
 . rename_i p q hxe rP
   cases e
   have h1:a.eval x'=.pointer none:=by have:=(aK FR hx hxe hc.1).2;simpa only [aF,aM] using this
   have h2:a.eval y'=.pointer none:=by have:=(aK FR hy rP hc.2).2;simpa only [aF,aM] using this
   have:=fin none none true h1 h2 (eq0 none)
   cases neg <;> simpa using this
 . rename_i p m off q hxe rP
   cases e
   obtain ⟨_,pl,_,h1⟩:=aK FR hx hxe hc.1
   have h2:a.eval y'=.pointer none:=by have:=(aK FR hy rP hc.2).2;simpa only [aF,aM] using this
   have:=fin _ none false h1 h2 (eq1 _)
   cases neg <;> simpa using this
 . rename_i p q m off hxe rP
   cases e
   have h1:a.eval x'=.pointer none:=by have:=(aK FR hx hxe hc.1).2;simpa only [aF,aM] using this
   obtain ⟨_,pl,_,h2⟩:=aK FR hy rP hc.2
   have:=fin none _ false h1 h2 (eq0 _)
   cases neg <;> simpa using this
 . rename_i p m off q m' off' hxe rP
   obtain ⟨hm,e1⟩:=au.aH e
   clear e
   have hm:=Nat.eq_of_beq_eq_true hm
   subst hm
   cases e1
   obtain ⟨_,pl,hpl,h1⟩:=aK FR hx hxe hc.1
   obtain ⟨_,pl',hpl',h2⟩:=aK FR hy rP hc.2
   have:pl=pl':=Option.some.inj (hpl.symm.trans hpl')
   subst this
   refine fin _ _ (Nat.beq off off') h1 h2 ?_
   have e2:(((⟨pl.block,pl.off+off,none⟩:Addr)) == ⟨pl.block,pl.off+off',none⟩)=Nat.beq off off':=by
    rw [Bool.eq_iff_iff];simp [Nat.beq_eq]
   rw [step,<-e2]
   exact d2 _ _ _ rfl
 . cases e
set_option maxHeartbeats 1000000 in
theorem Rm (R:St base η Z S w) (FR:bh n η Z F a.tmps) {o:Oper} {q:Q} (ht:tB P o.op=some q) {c:Cd} {v:V} (e:dN F S q=some (c,v)) (hc:c):bZ P η Z w (execOp a.eval o) v:=by
 unfold tB at ht
 unfold execOp
 split at ht <;> rename_i hop <;> simp only [hop]
 -- move
 . obtain ⟨x,hx,rfl⟩:=map_some ht
   exact ⟨_,rfl,eA FR hx e hc⟩
 -- assign
 . obtain ⟨x,hx,rfl⟩:=map_some ht
   exact ⟨_,rfl,eA FR hx e hc⟩
 -- pick
 . split at ht
   . rename_i c' x' y' hc' hx hy
     cases ht
     simp only [dN] at e
     split at e
     . rename_i p b q u r v' hb hu hv
       cases e
       obtain ⟨hp,hq,hr⟩:=hc
       have h1:=mZ FR hc' hb hp
       rw [h1]
       cases b with
       | true=>exact ⟨.bool u,by simp [asBool,mZ FR hx hu (hq rfl)],iF⟩
       | false=>exact ⟨.bool v',by simp [asBool,mZ FR hy hv (hr rfl)],iF⟩
     . cases e
   . cases ht
 -- load
 . split at ht
   . rename_i hag hx
     obtain ⟨d,_,rfl⟩:=map_some ht
     exact Rj R FR hx hag e hc
   . rename_i hag hx
     obtain ⟨k,hk,rfl⟩:=map_some ht
     exact OC R FR hx hag hk e hc
   . cases ht
 -- nilCheck
 . obtain ⟨x,hx,rfl⟩:=map_some ht
   simp only [dN] at e
   split at e
   . rename_i p m off hv
     cases e
     obtain ⟨_,pl,hpl,hev⟩:=aK FR hx hv hc
     rw [hev]
     exact ⟨_,rfl,by simp,pl,hpl,rfl⟩
   . rename_i p m off i hv
     cases e
     obtain ⟨_,pl,hpl,hev⟩:=aK FR hx hv hc
     rw [hev]
     exact ⟨_,rfl,by simp,pl,hpl,rfl⟩
   . rename_i p cs off hv
     cases e
     obtain ⟨b,o',cells,hev,hz,hf⟩:=(aK FR hx hv hc).2.rp
     rw [hev]
     exact ⟨_,rfl,by simp,by simp only [aF,aM];exact ⟨b,o',cells,rfl,hz,hf⟩⟩
   . rename_i p d l i hv
     cases e
     obtain ⟨b,o',cells,hev,hz,hf⟩:=(aK FR hx hv hc).2.re
     rw [hev]
     exact ⟨_,rfl,by simp,by simp only [aF,aM];exact ⟨b,o',cells,rfl,hz,hf⟩⟩
   . rename_i p m i j hv
     cases e
     obtain ⟨_,pl,r0,hpl,hr,hev⟩:=aK FR hx hv hc
     rw [hev]
     exact ⟨_,rfl,by simp,pl,r0,hpl,hr,rfl⟩
   . rename_i p f caps hv
     cases e
     obtain ⟨_,vs,hev,hl⟩:=aK FR hx hv hc
     rw [hev]
     exact ⟨_,rfl,by simp,vs,rfl,hl⟩
   . rename_i p l hv
     cases e
     have hev:a.eval _=Value.func (.yield l) #[] #[]:=(aK FR hx hv hc).2
     rw [hev]
     exact ⟨_,rfl,by simp,rfl⟩
   . cases e
 -- binOp
 . rename_i op t x' y' ty
   split at ht
   . rename_i k hu hx hy
     by_cases hib:CG op=true
     . rw [if_pos hib] at ht
       cases ht
       simp only [dN] at e
       split at e
       . rename_i p k1 i q k2 j hi hj
         obtain ⟨hkk,e2⟩:=dP e
         subst hkk
         cases e2
         rw [cL FR hx hi hc.1,cL FR hy hj hc.2]
         exact bZ.of (Vx hib) eO
       . cases e
     . rw [if_neg hib] at ht
       split at ht
       . cases ht
         simp only [dN] at e
         split at e
         . rename_i p k1 i q k2 j hi hj
           obtain ⟨hkk,e2⟩:=dP e
           subst hkk
           cases e2
           rw [cL FR hx hi hc.1,cL FR hy hj hc.2.1]
           exact bZ.of (Iz (.inl rfl) hc.2.2) eO
         . cases e
       . cases ht
         simp only [dN] at e
         split at e
         . rename_i p k1 i q k2 j hi hj
           obtain ⟨hkk,e2⟩:=dP e
           subst hkk
           cases e2
           rw [cL FR hx hi hc.1,cL FR hy hj hc.2.1]
           exact bZ.of (Iz (.inr rfl) hc.2.2) eO
         . cases e
       . cases ht
         simp only [dN] at e
         split at e
         . rename_i p k1 i q k2 j hi hj
           cases e
           rw [cL FR hx hi hc.1,cL FR hy hj hc.2.1]
           exact bZ.of (FA (.inl rfl) hc.2.2) eO
         . cases e
       . cases ht
         simp only [dN] at e
         split at e
         . rename_i p k1 i q k2 j hi hj
           cases e
           rw [cL FR hx hi hc.1,cL FR hy hj hc.2.1]
           exact bZ.of (FA (.inr rfl) hc.2.2) eO
         . cases e
       . obtain ⟨hcmp,ht⟩:=dP ht
         cases ht
         simp only [dN] at e
         split at e
         . rename_i p k1 i q k2 j hi hj
           obtain ⟨hkk,e2⟩:=dP e
           subst hkk
           cases e2
           rw [cL FR hx hi hc.1,cL FR hy hj hc.2]
           exact bZ.of (Vy hcmp) iF
         . cases e
   . rename_i hu hx hy
     split at ht
     . cases ht
       simp only [dN] at e
       split at e
       . rename_i p i q j hi hj
         cases e
         rw [lV FR hx hi hc.1,lV FR hy hj hc.2.1]
         exact bZ.of (VB hc.2.2) p5
       . cases e
     . obtain ⟨hcmp,ht⟩:=dP ht
       cases ht
       simp only [dN] at e
       split at e
       . rename_i p i q j hi hj
         cases e
         rw [lV FR hx hi hc.1,lV FR hy hj hc.2]
         exact bZ.of (VA hcmp) iF
       . cases e
   . rename_i hu hx hy
     split at ht
     . cases ht
       simp only [dN] at e
       split at e
       . rename_i p i q j hi hj
         cases e
         rw [mZ FR hx hi hc.1,mZ FR hy hj hc.2]
         exact bZ.of (MG hu (.inl rfl)) iF
       . cases e
     . cases ht
       simp only [dN] at e
       split at e
       . rename_i p i q j hi hj
         cases e
         rw [mZ FR hx hi hc.1,mZ FR hy hj hc.2]
         exact bZ.of (MG hu (.inr rfl)) iF
       . cases e
     . cases ht
   . rename_i el hu hx hy
     split at ht
     . rename_i k hk
       by_cases h0:k=0
       . rw [if_pos h0] at ht;cases ht
       . rw [if_neg h0] at ht
         split at ht
         . cases ht;exact IQ FR hu hk h0 (.inl ⟨rfl,rfl⟩) hx hy e hc
         . cases ht;exact IQ FR hu hk h0 (.inr ⟨rfl,rfl⟩) hx hy e hc
         . cases ht
     . cases ht
   . rename_i ms hu hx hy
     split at ht
     . cases ht;exact IL FR hu (.inl ⟨rfl,rfl⟩) hx hy e hc
     . cases ht;exact IL FR hu (.inr ⟨rfl,rfl⟩) hx hy e hc
     . cases ht
   . rename_i fs hu hx hy
     obtain ⟨⟨hs,hgd⟩,ht⟩:=dP ht
     split at ht
     . rename_i l hl
       split at ht
       . cases ht;exact IK FR hu hs hgd hl (.inl rfl) hx hy e hc
       . cases ht;exact IK FR hu hs hgd hl (.inr rfl) hx hy e hc
       . cases ht
     . cases ht
   . cases ht
 -- neg
 . obtain ⟨x,hx,rfl⟩:=map_some ht
   simp only [dN] at e
   split at e
   . rename_i p k i hi
     cases e
     rw [cL FR hx hi hc]
     exact bZ.of (by simp [Op.unary,Op.intArith]) eO
   . cases e
 -- not
 . obtain ⟨x,hx,rfl⟩:=map_some ht
   simp only [dN] at e
   split at e
   . rename_i p i hi
     cases e
     rw [mZ FR hx hi hc]
     exact bZ.of (by simp [Op.unary]) iF
   . cases e
 -- convert
 . split at ht
   . rename_i k yt Ro hx
     cases ht
     simp only [dN] at e
     split at e
     . rename_i p k1 i hi
       cases e
       rw [cL FR hx hi hc]
       exact bZ.of (by simp [convert,run_underlying yt,run_underlying Ro,Conv.intToInt]) eO
     . cases e
   . rename_i yt Ro hx
     cases ht
     simp only [dN] at e
     split at e
     . rename_i p k1 i hi
       cases e
       rw [cL FR hx hi hc]
       exact bZ.of (by simp [convert,run_underlying yt,run_underlying Ro,Conv.intToString]) p5
     . cases e
   . rename_i yt Ro hx
     cases ht
     simp only [dN] at e
     split at e
     . rename_i p s hs
       cases e
       rw [lV FR hx hs hc]
       exact bZ.of (by simp [convert,run_underlying yt,run_underlying Ro]) p5
     . cases e
   . cases ht
 -- len
 . rename_i x' t
   split at ht
   . rename_i hu hx
     cases ht
     simp only [dN] at e
     split at e
     . rename_i p s hs
       cases e
       have:=lV FR hx hs hc
       exact ⟨goInt s.size,by simp [resolve,invoke,builtin,Builtin.len_,run_underlying hu,this],eO⟩
     . cases e
   . rename_i el hu hx
     split at ht
     . rename_i k hk
       by_cases h0:k=0
       . rw [if_pos h0] at ht;cases ht
       . rw [if_neg h0] at ht
         cases ht
         obtain ⟨u,h1,h2⟩:=Rk (P:=P) (ty:=o.type) (w:=w) FR hu h0 hx e hc
         exact ⟨u,by simpa [resolve,invoke,builtin] using h1,h2⟩
     . cases ht
   . rename_i k el hu
     cases ht
     cases e
     exact ⟨goInt k,by simp [resolve,invoke,builtin,Builtin.len_,run_underlying hu],eO⟩
   . cases ht
 -- cap
 . split at ht
   . rename_i el x1 hu hx
     cases ht
     simp only [dN] at e
     split at e
     . rename_i p hv
       cases e
       have:=(aK FR hx hv hc).2.nil_eq
       exact ⟨goInt 0,by simp [resolve,invoke,builtin,Builtin.cap_,run_underlying hu,this],eO⟩
     . cases e
   . cases ht
 -- where a slice begins
 . obtain ⟨x,hx,rfl⟩:=map_some ht
   simp only [dN] at e
   split at e
   . rename_i p m off len sz hv
     obtain ⟨hsz,e1⟩:=au.aH e
     clear e
     have hsz:=Nat.eq_of_beq_eq_true hsz
     subst hsz
     cases e1
     obtain ⟨hp,h0⟩:=hc
     rcases (aK FR hx hv hp).2 with ⟨h1,_⟩ | ⟨pl,c,ad,hpl,hev,hcap,hroom,had⟩
     . exact absurd h1 (by have:0<len:=h0;omega)
     . have h0:0<len:=h0
       obtain ⟨k,rfl⟩:∃ k,c=k+1:=⟨c-1,by omega⟩
       rcases had with had | had
       . cases had
       . subst had
         refine ⟨.pointer (some ⟨pl.block,pl.off+off,none⟩),?_,by simp,pl,hpl,by simp⟩
         simp [resolve,invoke,builtin,hev]
         rfl
   . cases e
 -- min
 . split at ht
   . rename_i hx hy
     cases ht
     simp only [dN] at e
     split at e
     . rename_i p k i q k' j hi hj
       cases e
       have h1:=cL FR hx hi hc.1
       have h2:=cL FR hy hj hc.2
       refine ⟨.int k (Min.min i j),?_,eO⟩
       have:(if j<i then j else i)=Min.min i j:=by omega
       simp [resolve,invoke,builtin,Builtin.min_,Builtin.min2,h1,h2,this]
     . cases e
   . cases ht
 -- max
 . split at ht
   . rename_i hx hy
     cases ht
     simp only [dN] at e
     split at e
     . rename_i p k i q k' j hi hj
       cases e
       have h1:=cL FR hx hi hc.1
       have h2:=cL FR hy hj hc.2
       refine ⟨.int k (Max.max i j),?_,eO⟩
       have:(if i<j then j else i)=Max.max i j:=by omega
       simp [resolve,invoke,builtin,Builtin.max_,Builtin.max2,h1,h2,this]
     . cases e
   . cases ht
 -- min, max of three
 . split at ht
   . rename_i hx hy hz
     cases ht
     simp only [dN] at e
     split at e
     . rename_i p k i q k' j r k'' l hi hj hl
       cases e
       have h1:=cL FR hx hi hc.1
       have h2:=cL FR hy hj hc.2.1
       have h3:=cL FR hz hl hc.2.2
       refine ⟨.int k (Min.min (Min.min i j) l),?_,eO⟩
       have e1:(if j<i then j else i)=Min.min i j:=by omega
       have e2:(if l<Min.min i j then l else Min.min i j)=Min.min (Min.min i j) l:=by omega
       simp [resolve,invoke,builtin,Builtin.min_,Builtin.min2,h1,h2,h3,e1,e2]
     . cases e
   . cases ht
 . split at ht
   . rename_i hx hy hz
     cases ht
     simp only [dN] at e
     split at e
     . rename_i p k i q k' j r k'' l hi hj hl
       cases e
       have h1:=cL FR hx hi hc.1
       have h2:=cL FR hy hj hc.2.1
       have h3:=cL FR hz hl hc.2.2
       refine ⟨.int k (Max.max (Max.max i j) l),?_,eO⟩
       have e1:(if i<j then j else i)=Max.max i j:=by omega
       have e2:(if Max.max i j<l then l else Max.max i j)=Max.max (Max.max i j) l:=by omega
       simp [resolve,invoke,builtin,Builtin.max_,Builtin.max2,h1,h2,h3,e1,e2]
     . cases e
   . cases ht
 -- index
 . split at ht
   . rename_i hu hx hi
     cases ht
     simp only [dN] at e
     split at e
     . rename_i p s q k j hs hj
       cases e
       obtain ⟨hp,hq,h0,h1⟩:=hc
       rw [lV FR hx hs hp,cL FR hi hj hq]
       refine bZ.of (u:=.int .u8 (jH s j.toNat)) ?_ eO
       have:s[j.toNat]? = some (s.data.toList.getD j.toNat 0):=vW (by omega)
       simp [Instr.index,asIntOf,run_underlying hu,h0,this,jH]
     . cases e
   . cases ht
 -- field
 · split at ht
   . rename_i fs hu hx
     split at ht
     . rename_i fd hf
       split at ht
       . rename_i hag
         obtain ⟨d,_,rfl⟩:=map_some ht
         exact OG FR hu hf hag hx e hc
       . rename_i hag
         obtain ⟨k,hk,rfl⟩:=map_some ht
         exact L7 FR hu hf hag hk hx e hc
       . cases ht
     . cases ht
   . cases ht
 -- fieldAddr
 · split at ht
   . rename_i fs hu hx
     split at ht
     . rename_i fd hf
       split at ht
       . rename_i k hk
         by_cases h0:k=0
         . rw [if_pos h0] at ht;cases ht
         . rw [if_neg h0] at ht
           cases ht
           exact EG FR hu hf hk h0 hx e hc
       . cases ht
     . cases ht
   . cases ht
 -- indexAddr
 · split at ht
   . rename_i el hu hx hi
     split at ht
     . rename_i k hk
       by_cases h0:k=0
       . rw [if_pos h0] at ht;cases ht
       . rw [if_neg h0] at ht
         cases ht
         exact EF FR hu hk h0 hx hi e hc
     . cases ht
   . rename_i len el hu hx hi
     obtain ⟨k,hk,rfl⟩:=map_some ht
     exact CI FR hu hk hx hi e hc
   . cases ht
 -- slice
 · split at ht
   . rename_i el hu hx hlo hhi
     split at ht
     . rename_i k hk
       by_cases h0:k=0
       . rw [if_pos h0] at ht;cases ht
       . rw [if_neg h0] at ht
         cases ht
         exact OD FR hu hk h0 hx hlo hhi e hc
     . cases ht
   . rename_i hu hx hlo hhi
     cases ht
     exact L6 FR hu hx hlo hhi e hc
   . cases ht
 -- extract
 . rename_i x' i
   obtain ⟨x,hx,rfl⟩:=map_some ht
   simp only [dN] at e
   split at e
   . rename_i t
     split at e
     . rename_i vs hvs
       split at e
       . rename_i v' hv'
         cases e
         cases x' with
         | tmp t' =>
           cases hx
           obtain ⟨u,hu,us,rfl,hl⟩:=FR.2 t _ hvs
           obtain ⟨y,hy,hr⟩:=hl.get hv'
           have hev:a.eval (.tmp t)=.tuple us.toArray:=by simp [Act.eval,Array.getD_eq_getD_getElem?,hu]
           rw [hev]
           refine bZ.of (u:=y) ?_ hr
           simp [Instr.extract,hy]
         | const _=>simp only [bT] at hx;split at hx <;> cases hx
         | global _=>cases hx
         | func _=>cases hx
       . cases e
     . cases e
   . cases e
 -- makeFunc
 . rename_i f caps
   obtain ⟨l,hl,rfl⟩:=map_some ht
   simp only [dN] at e
   split at e
   . rename_i p cs hcs
     cases e
     have:=IE FR hl hcs hc
     refine ⟨.func (.func f) #[] (caps.map a.eval),by simp [Instr.makeFunc],by simp,caps.toList.map a.eval,?_,this⟩
     congr 1
     apply Array.ext'
     simp
   . cases e
 -- a method with its receiver
 . rename_i f x
   obtain ⟨x',hx,rfl⟩:=map_some ht
   simp only [dN] at e
   split at e
   . rename_i p n off hev
     cases e
     exact ⟨.func (.func f) #[a.eval x] #[],by simp [Instr.makeFunc],by simp,a.eval x,rfl,(aK FR hx hev hc).2⟩
   . cases e
 -- build
 . split at ht
   . rename_i fs z hu hz
     split at ht
     . rename_i pl hpl
       obtain ⟨ps,hp,rfl⟩:=map_some ht
       exact OH FR hu hz hpl hp e hc
     . cases ht
   . rename_i len el z hu hz
     split at ht
     . rename_i k hk
       obtain ⟨ps,hp,rfl⟩:=map_some ht
       exact L8 FR hu hz hk hp e hc
     . cases ht
   . cases ht
 . cases ht
end
theorem AW:∀ {cs l:List W} {off:Nat},(jC l off cs).length=l.length
 | [],_,_=>rfl
 | c::cs,l,off=>by rw [jC,AW,List.length_set]
theorem BH:∀ {cs l:List W} {off i:Nat},off+cs.length<=l.length->(jC l off cs)[i]? = if off<=i/\i<off+cs.length then cs[i-off]? else l[i]?
 | [],l,off,i,_=>by rw [if_neg (by simp)];rfl
 | c :: cs, l, off, i, h => by
   simp only [List.length_cons] at h
   rw [jC,BH (by simp;omega)]
   by_cases h1:i=off
   . subst h1
     rw [if_neg (by omega),if_pos (by simp)]
     simp [List.getElem?_set]
     omega
   . by_cases h2:off+1<=i/\i<off+1+cs.length
     . rw [if_pos h2,if_pos (by simp;omega)]
       have:i-off=(i-(off+1))+1:=by omega
       rw [this];simp
     . rw [if_neg h2,if_neg (by simp;omega),List.getElem?_set_ne (by omega)]
theorem St.store {P:Program} {base:Nat} {η:Eta} {Z:aA} {S:ai} {w:World} (R:St base η Z S w) {m:Nat} {o:Ob} {p:cj} (h:S.get m=some o) (hp:η m=some p) (hm:¬ o.eV) (hnb:¬ o.bytes) (Rf:¬ o.wb) {off:Nat} {cs:List W} {vs:List Value} (hl:aT (aF η Z) cs vs) (h1:∀ v∈vs,v.oneCell'=true) (hk:off+cs.length<=o.cells.length) {o':Ob} (hty:o'.ty=o.ty) (hcs:o'.cells=jC o.cells off cs) :
 (storeCells ⟨p.block,p.off+off,none⟩ vs).run P w=.ok () (w.setCells p.block (p.off+off) vs)/\p4 base η Z S w η (S.put m o') (w.setCells p.block (p.off+off) vs):=by
 obtain ⟨hbase,hz,L⟩:=R.ak m o p h hp
 obtain ⟨c,fz,hc,hroom,hv,pP⟩:=L.there hm
 have hfz:=pP.strong hnb
 have hsize:=L.size hm
 have cB:=hl.length
 have hcell:∀ j,j<vs.length->(w.cell? ⟨p.block,p.off+off+j,none⟩).isSome=true:=by
  intro j hj
  have:p.off+off+j<c.size:=by omega
  simp [World.cell?,hc,this]
 have hfr:∀ j,j<vs.length->w.frozen? ⟨p.block,p.off+off+j,none⟩=false:=by
  intro j hj
  have:=hfz (p.off+off+j) (by omega) (by omega)
  simp only [World.frozen?,hc]
  simpa using this
 have hst:=run_storeCells_cells (P:=P) p.block (p.off+off) vs 0 w (by simpa using hcell) (by simpa using hfr) h1
 simp only [Nat.add_zero] at hst
 refine ⟨hst,R.write h hp (au.ij (Nat.zero_le _) _ _ _).os (au.ij (Nat.zero_le _) _ _ _).tape (au.ij (Nat.zero_le _) _ _ _).output (au.ko _ _ _) (fun b hb=>au.fW hb _ _ _) ?_⟩
 obtain ⟨c',h1',h2',h3',h4'⟩:=au.kg vs (p.off+off) w c hc
 have main:∀ (i:Nat) x,o'.cells[i]? = some x->∃ v,c'[p.off+i]? = some v/\aF η Z x v/\v.oneCell'=true:=?_
 . refine dR.plain (fun hm'=>?_) ⟨c',fz,by rw [hty];exact h1',by omega,main,pP.plain hnb Rf⟩ (by rw [hcs,AW];exact hsize)
   rcases hm' with hm' | ⟨k,ah,hm'⟩ <;> obtain ⟨v,_,b,_⟩:=main 0 _ hm' <;> simp only [aF,aM] at b
 intro i x hx
 rw [hcs,BH hk] at hx
 split at hx
 . rename_i hi
   obtain ⟨v,hv',hr⟩:=hl.get hx
   have hj:=(List.getElem?_eq_some_iff.1 hv').1
   refine ⟨v,?_,hr,h1 v (List.mem_of_getElem? hv')⟩
   have:=h4' (i-off) hj (by omega)
   rw [show p.off+off+(i-off)=p.off+i by omega] at this
   rw [this];exact hv'
 . rename_i hi
   obtain ⟨v,hv',hr,h1c⟩:=hv i x hx
   refine ⟨v,?_,hr,h1c⟩
   rw [h3' (p.off+i) (by omega)]
   exact hv'
theorem St.del {base:Nat} {η:Eta} {Z:aA} {S:ai} {w:World} (R:St base η Z S w) (m:Nat):St base η Z (S.del m) w:=by
 have h:∀ n o,(S.del m).get n=some o->S.get n=some o:=by
  intro n o hn
  rw [ai.iq] at hn
  split at hn
  . cases hn
  . exact hn
 exact ⟨fun n o p hn=>R.ak n o p (h n o hn),fun n o hn=>R.cw n o (h n o hn),fun n o hn=>R.known n o (h n o hn),fun n n' o o' p p' b hn hn'=>R.js n n' o o' p p' b (h n o hn) (h n' o' hn'),R.zs,R.fresh,R.ga,fun n o p hn=>R.sat n o p (h n o hn)⟩
theorem uU {η:Eta} {S:ai} {m b:Nat} (h:Own η (S.del m) b):Own η S b:=by
 obtain ⟨n,o,p,hn,hp,hb⟩:=h
 rw [ai.iq] at hn
 split at hn
 . cases hn
 . exact ⟨n,o,p,hn,hp,hb⟩
theorem Step.del {η:Eta} {Z:aA} {S:ai} {w:World} (m:Nat):Step η Z S w η Z (S.del m) w :=
 ⟨rfl,rfl,rfl,Nat.le_refl _,fun _ _ _=>rfl,fun _ h=>.inl (uU h),aA.le.refl _,fun _ _ h=>.inl h,rfl⟩
theorem St.Rp {base:Nat} {η:Eta} {Z:aA} {S:ai} {w w':World} (R:St base η Z S w) {o:Ob} {p:cj}
 (hall:∀ b,p.has b->base<=b/\Z b=none/\(∃ ob,w'.heap[b]? = some ob/\oU ob=true)/\∀ n x q,S.get n=some x->η n=some q->¬ q.has b)
 (gb:∀ k,k<w.heap.size->¬ p.has k->w'.heap[k]? = w.heap[k]?) (hsz:w.heap.size<=w'.heap.size) (L:dR (η.add S.next p) Z o p w'):St base (η.add S.next p) Z (S.add o) w':=by
 have hfr:=R.fresh S.next (Nat.le_refl _)
 have hle:η.le (η.add S.next p):=Eta.sG hfr
 have hget:∀ m,(S.add o).get m=if m=S.next then some o else S.get m:=fun m=>ai.eY R.eZ
 have hold:∀ n x q,S.get n=some x->η n=some q->∀ b,q.has b->w'.heap[b]? = w.heap[b]?:=fun n x q hx hq b hb=>gb b (R.jB hx hq hb) fun hp=>(hall b hp).2.2.2 n x q hx hq hb
 refine ⟨?_,?_,?_,?_,?_,?_,?_,?_⟩
 . intro n x q hx hq
   rw [hget] at hx
   by_cases hn:n=S.next
   . subst hn
     rw [if_pos rfl] at hx;cases hx
     rw [Eta.fK] at hq;cases hq
     exact ⟨(hall _ p.gR).1,(hall _ p.gR).2.1,L⟩
   . rw [if_neg hn] at hx
     rw [Eta.iV hn] at hq
     obtain ⟨hb',hz',L'⟩:=R.ak n x q hx hq
     exact ⟨hb',hz',L'.mono hle (aA.le.refl _) (hold n x q hx hq)⟩
 . intro n x hx hq
   rw [hget] at hx
   by_cases hn:n=S.next
   . subst hn;rw [Eta.fK] at hq;cases hq
   . rw [if_neg hn] at hx
     rw [Eta.iV hn] at hq
     exact R.cw n x hx hq
 . intro n x hx
   show n<S.next+1
   rw [hget] at hx
   by_cases hn:n=S.next
   . omega
   . rw [if_neg hn] at hx
     have:=R.known n x hx
     omega
 . intro n n' x x' q q' b hx hx' hne hq l8 hb hb'
   rw [hget] at hx hx'
   by_cases hn:n=S.next
   . subst hn
     rw [Eta.fK] at hq;cases hq
     rw [if_neg (Ne.symm hne)] at hx'
     rw [Eta.iV (Ne.symm hne)] at l8
     exact (hall b hb).2.2.2 n' x' q' hx' l8 hb'
   . rw [if_neg hn] at hx
     rw [Eta.iV hn] at hq
     by_cases hn':n'=S.next
     . subst hn'
       rw [Eta.fK] at l8;cases l8
       exact (hall b hb').2.2.2 n x q hx hq hb
     . rw [if_neg hn'] at hx'
       rw [Eta.iV hn'] at l8
       exact R.js n n' x x' q q' b hx hx' hne hq l8 hb hb'
 . intro k c hk
   obtain ⟨ty,fz,e⟩:=R.zs k c hk
   exact ⟨ty,fz,(gb k (cY e) (fun hh=>by rw [(hall k hh).2.1] at hk;cases hk)).trans e⟩
 . intro n hn
   have:(S.add o).next=S.next+1:=rfl
   rw [Eta.iV (by omega)]
   exact R.fresh n (by omega)
 . exact Nat.le_trans R.ga hsz
 . intro n x q hx hq b hb
   rw [hget] at hx
   by_cases hn:n=S.next
   . subst hn
     rw [Eta.fK] at hq;cases hq
     obtain ⟨h1,h2,h3,_⟩:=hall b (.inr hb)
     exact ⟨h1,h2,h3⟩
   . rw [if_neg hn] at hx
     rw [Eta.iV hn] at hq
     obtain ⟨h1,h2,ob,h3,h4⟩:=R.sat n x q hx hq b hb
     exact ⟨h1,h2,ob,(hold n x q hx hq b (.inr hb)).trans h3,h4⟩
theorem St.YC {base:Nat} {η:Eta} {Z:aA} {S:ai} {w w':World} (R:St base η Z S w) {b:Nat} (hb:base<=b) (hz:Z b=none) (hfree:∀ n o p,S.get n=some o->η n=some p->¬ p.has b)
 (gb:∀ k,k≠b->w'.heap[k]? = w.heap[k]?) (hsz:w'.heap.size=w.heap.size) {o:Ob} {p:cj} (hp:p.block=b) (hrows:p.ah=[]) (L:dR (η.add S.next p) Z o p w'):St base (η.add S.next p) Z (S.add o) w':=by
 have hhas:∀ c,p.has c->c=b:=by
  rintro c (h | h)
  . exact h.symm.trans hp
  . unfold cj.sats at h;rw [hrows] at h;cases h
 refine R.Rp (fun c hc=>?_) (fun k _ hk=>gb k fun e=>hk (by subst e;exact .inl hp)) (by omega) L
 obtain rfl:=hhas c hc
 refine ⟨hb,hz,?_,hfree⟩
 rw [<-hp];exact L.data
structure bK (base:Nat) (η:Eta) (Z:aA) (S:ai) (w:World) (aE:Eta) (Z':aA) (S':ai) (w':World):Prop where
 le:η.le aE
 st:St base aE Z' S' w'
 step:Step η Z S w aE Z' S' w'
theorem p4.up {base:Nat} {η aE:Eta} {Z:aA} {S S':ai} {w w':World} (g:p4 base η Z S w aE S' w'):bK base η Z S w aE Z S' w':=⟨g.le,g.st,g.step⟩
theorem bK.trans {base:Nat} {η dO iE:Eta} {Z Z1 Z2:aA} {S S1 S2:ai} {w w1 w2:World} (g:bK base η Z S w dO Z1 S1 w1) (h:bK base dO Z1 S1 w1 iE Z2 S2 w2):bK base η Z S w iE Z2 S2 w2 :=
 ⟨g.le.trans h.le,h.st,g.step.trans h.step⟩
theorem bK.refl {base:Nat} {η:Eta} {Z:aA} {S:ai} {w:World} (R:St base η Z S w):bK base η Z S w η Z S w:=⟨Eta.le.refl _,R,Step.refl _ _ _ _⟩
def ai.Alike (S S':ai):Prop:=(S'.next=S.next/\S'.cw=S.cw)/\∀ n,match S.get n,S'.get n with
 | none,none=>True
 | some o,some o'=>o'.ty=o.ty/\o'.cells=o.cells
 | _,_=>False
theorem ai.Alike.eT {S S':ai} (h:S.Alike S') {n:Nat} {o':Ob} (e:S'.get n=some o'):∃ o,S.get n=some o/\o'.ty=o.ty/\o'.cells=o.cells:=by
 have:=h.2 n
 rw [e] at this
 cases hh:S.get n with
 | none=>rw [hh] at this;exact this.elim
 | some o=>rw [hh] at this;exact ⟨o,rfl,this⟩
theorem dR.alike {η:Eta} {Z:aA} {o o':Ob} {p:cj} {w:World} (L:dR η Z o p w) (h1:o'.ty=o.ty) (h2:o'.cells=o.cells):dR η Z o' p w:=by
 have hi:o'.eV↔o.eV:=by unfold Ob.eV Ob.isMap Ob.iY;rw [h2]
 refine ⟨fun hm=>?_,fun hm=>by rw [h2];exact L.size fun h=>hm (hi.2 h),fun k ah ht=>by rw [h1];exact L.tabs k ah (by unfold Ob.iY at ht ⊢;rw [<-h2];exact ht),fun hm=>by rw [h2];exact L.maps (by unfold Ob.isMap at hm ⊢;rw [<-h2];exact hm)⟩
 obtain ⟨c,fz,a,b,d,e⟩:=L.there fun h=>hm (hi.2 h)
 exact ⟨c,fz,by rw [h1];exact a,b,by rw [h2];exact d,by unfold yg Ob.bytes Ob.wb at e ⊢;rw [h2];exact e⟩
theorem St.alike {base:Nat} {η:Eta} {Z:aA} {S S':ai} {w:World} (R:St base η Z S w) (h:S.Alike S'):St base η Z S' w:=by
 refine ⟨?_,?_,?_,?_,R.zs,by rw [h.1.1];exact R.fresh,R.ga,?_⟩
 . intro n o' p e hp
   obtain ⟨o,e1,e2,e3⟩:=h.eT e
   obtain ⟨a,b,L⟩:=R.ak n o p e1 hp
   exact ⟨a,b,L.alike e2 e3⟩
 . intro n o' e hn
   obtain ⟨o,e1,e2,e3⟩:=h.eT e
   rw [e3];exact R.cw n o e1 hn
 . intro n o' e
   obtain ⟨o,e1,_⟩:=h.eT e
   rw [h.1.1];exact R.known n o e1
 . intro n n' o o' p p' b e e' hne hp hp'
   obtain ⟨x,e1,_⟩:=h.eT e
   obtain ⟨x',e1',_⟩:=h.eT e'
   exact R.js n n' x x' p p' b e1 e1' hne hp hp'
 . intro n o' p e hp
   obtain ⟨x,e1,_⟩:=h.eT e
   exact R.sat n x p e1 hp
theorem Own.alike {η:Eta} {S S':ai} (h:S.Alike S') {b:Nat}:Own η S' b->Own η S b
 | ⟨n,_,p,e,hp,hb⟩=>let ⟨x,e1,_⟩:=h.eT e;⟨n,x,p,e1,hp,hb⟩
theorem bK.alike {base:Nat} {η aE:Eta} {Z Z':aA} {S S' xR:ai} {w w':World} (g:bK base η Z S w aE Z' S' w') (h:S'.Alike xR):bK base η Z S w aE Z' xR w' :=
 ⟨g.le,g.st.alike h,⟨g.step.os,g.step.tape,g.step.output,g.step.size,g.step.block,fun b hb=>g.step.own b (hb.alike h),g.step.cJ,g.step.gq,h.1.2.trans g.step.gh⟩⟩
theorem ai.oz {S:ai} {n:Nat} {o o':Ob} (h1:o'.ty=o.ty) (h2:o'.cells=o.cells):(S.put n o).Alike (S.put n o'):=by
 refine ⟨⟨rfl,rfl⟩,fun m=>?_⟩
 rw [ai.iW,ai.iW]
 by_cases hm:m=n
 . rw [if_pos hm,if_pos hm]
   cases S.get n with
   | none=>trivial
   | some x=>exact ⟨h1,h2⟩
 . rw [if_neg hm,if_neg hm]
   cases S.get m with
   | none=>trivial
   | some x=>exact ⟨rfl,rfl⟩
theorem ai.lf {S:ai} {o o':Ob} (h1:o'.ty=o.ty) (h2:o'.cells=o.cells):(S.add o).Alike (S.add o'):=by
 refine ⟨⟨rfl,rfl⟩,fun m=>?_⟩
 show (match find (S.ak++[(S.next,o)]) m,find (S.ak++[(S.next,o')]) m with | none,none=>True | some o,some o'=>o'.ty=o.ty/\o'.cells=o.cells | _,_=>False)
 rw [uo,uo]
 cases find S.ak m with
 | some x=>exact ⟨rfl,rfl⟩
 | none =>
   simp only [find]
   by_cases hm:S.next=m
   . rw [if_pos hm,if_pos hm];exact ⟨h1,h2⟩
   . rw [if_neg hm,if_neg hm];trivial
theorem ai.VD {base:Nat} {η:Eta} {Z:aA} {S:ai} {w:World} (R:St base η Z S w) (o:Ob) (m:Nat):(S.add o).get m=if m=S.next then some o else S.get m:=ai.eY R.eZ
theorem St.p6 {base:Nat} {η:Eta} {Z:aA} {S:ai} {w:World} (R:St base η Z S w) {o:Ob} (h:o.cells=[]):bK base η Z S w η Z (S.add o) w:=by
 have hn:=R.fresh S.next (Nat.le_refl _)
 have hget:=ai.VD R o
 have eT:∀ m x p,(S.add o).get m=some x->η m=some p->S.get m=some x:=by
  intro m x p hx hp
  rw [hget] at hx
  by_cases hm:m=S.next
  . subst hm;rw [hn] at hp;cases hp
  . rw [if_neg hm] at hx;exact hx
 refine ⟨Eta.le.refl _,⟨fun m x p hx hp=>R.ak m x p (eT m x p hx hp) hp,?_,?_,fun m m' x x' p p' b hx hx' hne hp hp'=>R.js m m' x x' p p' b (eT m x p hx hp) (eT m' x' p' hx' hp') hne hp hp',R.zs,fun m hm=>R.fresh m (by have:(S.add o).next=S.next+1:=rfl;omega),R.ga,fun m x p hx hp=>R.sat m x p (eT m x p hx hp) hp⟩,
  ⟨rfl,rfl,rfl,Nat.le_refl _,fun _ _ _=>rfl,?_,aA.le.refl _,fun _ _ hh=>.inl hh,rfl⟩⟩
 . intro m x hx hp
   rw [hget] at hx
   by_cases hm:m=S.next
   . rw [if_pos hm] at hx;cases hx;exact h
   . rw [if_neg hm] at hx;exact R.cw m x hx hp
 . intro m x hx
   show m<S.next+1
   rw [hget] at hx
   by_cases hm:m=S.next
   . omega
   . rw [if_neg hm] at hx;have:=R.known m x hx;omega
 . rintro b ⟨m,x,p,hx,hp,hb⟩
   exact .inl ⟨m,x,p,eT m x p hx hp,hp,hb⟩
def aA.add (Z:aA) (b:Nat) (c:Array Value):aA:=fun i=>if i=b then some c else Z i
theorem aA.sG {Z:aA} {b:Nat} {c:Array Value} (h:Z b=none):Z.le (Z.add b c):=by
 intro i x e
 unfold aA.add
 by_cases hi:i=b
 . subst hi;rw [h] at e;cases e
 . rw [if_neg hi];exact e
theorem St.freeze {base:Nat} {η:Eta} {Z:aA} {S:ai} {w:World} (R:St base η Z S w) {m:Nat} {o:Ob} {p:cj} (h:S.get m=some o) (hp:η m=some p) (hm:¬ o.eV) :
 ∃ c ty fz,w.heap[p.block]? = some (.cells c ty fz)/\bK base η Z S w η (Z.add p.block c) (S.del m) w/\∀ (i:Nat) x,o.cells[i]? = some x->∃ v,c[p.off+i]? = some v/\aF η Z x v:=by
 obtain ⟨hb,hz,L0⟩:=R.ak m o p h hp
 obtain ⟨c,fz,hc,hroom,hv,hfz⟩:=L0.there hm
 refine ⟨c,o.ty,fz,hc,?_,fun i x hx=>let ⟨v,a,b,_⟩:=hv i x hx;⟨v,a,b⟩⟩
 have hle:Z.le (Z.add p.block c):=aA.sG hz
 have R1:=R.del m
 have eT:∀ n x,(S.del m).get n=some x->n≠m/\S.get n=some x:=by
  intro n x hx
  rw [ai.iq] at hx
  by_cases hn:n=m
  . rw [if_pos hn] at hx;cases hx
  . rw [if_neg hn] at hx;exact ⟨hn,hx⟩
 refine ⟨Eta.le.refl _,⟨?_,R1.cw,R1.known,R1.js,?_,R1.fresh,R1.ga,?_⟩,⟨rfl,rfl,rfl,Nat.le_refl _,fun _ _ _=>rfl,fun b hb=>.inl (uU hb),hle,?_,rfl⟩⟩
 . intro n x q hx hq
   obtain ⟨a,b,L⟩:=R1.ak n x q hx hq
   obtain ⟨hne,hx'⟩:=eT n x hx
   refine ⟨a,?_,L.mono (Eta.le.refl _) hle fun _ _=>rfl⟩
   unfold aA.add
   rw [if_neg (R.inj n m x o q p hx' h hne hq hp)]
   exact b
 . intro b cs e
   unfold aA.add at e
   by_cases j5:b=p.block
   . rw [if_pos j5] at e;cases e;subst j5;exact ⟨_,_,hc⟩
   . rw [if_neg j5] at e;exact R.zs b cs e
 . intro n x q hx hq b hb
   obtain ⟨h1,h2,h3⟩:=R1.sat n x q hx hq b hb
   obtain ⟨hne,hx'⟩:=eT n x hx
   refine ⟨h1,?_,h3⟩
   unfold aA.add
   rw [if_neg fun e=>R.js n m x o q p b hx' h hne hq hp (.inr hb) (.inl e.symm)]
   exact h2
 . intro b cs e
   unfold aA.add at e
   by_cases j5:b=p.block
   . exact .inr (.inl ⟨m,o,p,h,hp,.inl j5.symm⟩)
   . rw [if_neg j5] at e;exact .inl e
theorem pZ.sat {k:Nat} {ah:List (List Int)} {ty:TypeId} {p:cj} {w:World} (T:pZ k ah ty p w) {b:Nat} (hb:b∈p.sats):∃ c t fz,w.heap[b]? = some (.cells c t fz):=by
 obtain ⟨r,hr,rfl⟩:=List.mem_map.1 hb
 obtain ⟨i,hi⟩:=List.getElem?_of_mem hr
 have hlt:=(List.getElem?_eq_some_iff.1 hi).1
 have hlt':i<ah.length:=by rw [<-T.len];exact hlt
 obtain ⟨_,c,t,fz,h,_⟩:=T.row i r ah[i] hi (List.getElem?_eq_getElem hlt')
 exact ⟨c,t,fz,h⟩
open Classical in
theorem St.Rq {base:Nat} {η:Eta} {Z:aA} {S:ai} {w:World} (R:St base η Z S w) {m:Nat} {o:Ob} {p:cj} (h:S.get m=some o) (hp:η m=some p) {k:Nat} {ah:List (List Int)} (ht:o.iY k ah) :
 ∃ Z',bK base η Z S w η Z' (S.del m) w/\∀ b∈p.sats,∃ c ty fz,w.heap[b]? = some (.cells c ty fz)/\Z' b=some c:=by
 obtain ⟨_,_,L0⟩:=R.ak m o p h hp
 have T:=L0.tabs k ah ht
 let Z':aA:=fun b=>if b∈p.sats then (match w.heap[b]? with | some (.cells c _ _)=>some c | _=>none) else Z b
 have hZ:∀ b∈p.sats,∃ c ty fz,w.heap[b]? = some (.cells c ty fz)/\Z' b=some c:=by
  intro b hb
  obtain ⟨c,t,fz,e⟩:=T.sat hb
  refine ⟨c,t,fz,e,?_⟩
  show (if b∈p.sats then _ else _)=_
  rw [if_pos hb,e]
 have hle:Z.le Z':=by
  intro b c e
  show (if b∈p.sats then _ else _)=_
  rw [if_neg]
  . exact e
  . intro hb
    rw [(R.sat m o p h hp b hb).2.1] at e;cases e
 have R1:=R.del m
 have eT:∀ n x,(S.del m).get n=some x->n≠m/\S.get n=some x:=by
  intro n x hx
  rw [ai.iq] at hx
  by_cases hn:n=m
  . rw [if_pos hn] at hx;cases hx
  . rw [if_neg hn] at hx;exact ⟨hn,hx⟩
 have hno:∀ n x q,(S.del m).get n=some x->η n=some q->∀ b,q.has b->Z' b=Z b:=by
  intro n x q hx hq b hb
  obtain ⟨hne,hx'⟩:=eT n x hx
  show (if b∈p.sats then _ else _)=_
  rw [if_neg fun e=>R.js n m x o q p b hx' h hne hq hp hb (.inr e)]
 refine ⟨Z',⟨Eta.le.refl _,⟨?_,R1.cw,R1.known,R1.js,?_,R1.fresh,R1.ga,?_⟩,⟨rfl,rfl,rfl,Nat.le_refl _,fun _ _ _=>rfl,fun b hb=>.inl (uU hb),hle,?_,rfl⟩⟩,hZ⟩
 . intro n x q hx hq
   obtain ⟨a,b,L⟩:=R1.ak n x q hx hq
   exact ⟨a,(hno n x q hx hq _ q.gR).trans b,L.mono (Eta.le.refl _) hle fun _ _=>rfl⟩
 . intro b cs e
   by_cases hb:b∈p.sats
   . obtain ⟨c,t,fz,e1,_⟩:=hZ b hb
     obtain ⟨c',t',AX,e2,e3⟩:=hZ b hb
     rw [e] at e3;cases e3
     exact ⟨_,_,e2⟩
   . have e':(if b∈p.sats then (match w.heap[b]? with | some (.cells c _ _)=>some c | _=>none) else Z b)=some cs:=e
     rw [if_neg hb] at e'
     exact R.zs b cs e'
 . intro n x q hx hq b hb
   obtain ⟨h1,h2,h3⟩:=R1.sat n x q hx hq b hb
   exact ⟨h1,(hno n x q hx hq b (.inr hb)).trans h2,h3⟩
 . intro b cs e
   by_cases hb:b∈p.sats
   . exact .inr (.inl ⟨m,o,p,h,hp,.inr hb⟩)
   . have e':(if b∈p.sats then (match w.heap[b]? with | some (.cells c _ _)=>some c | _=>none) else Z b)=some cs:=e
     rw [if_neg hb] at e'
     exact .inl e'
theorem St.mz {base:Nat} {η:Eta} {Z:aA} {S:ai} {w:World} (R:St base η Z S w) {b:Nat} (h:Own η S b):∃ ob,w.heap[b]? = some ob/\Z b=none/\oU ob=true:=by
 obtain ⟨n,o,p,h1,h2,hb⟩:=h
 obtain ⟨_,a2,c,hc,hd⟩:=R.all h1 h2 hb
 exact ⟨c,hc,a2,hd⟩
theorem St.uV {base:Nat} {η:Eta} {Z Z':aA} {S:ai} {w w':World} (R:St base η Z S w) (hz:Z.le Z') (hzs:∀ b cs,Z' b=some cs->∃ ty fz,w'.heap[b]? = some (.cells cs ty fz)) (hsz:w.heap.size<=w'.heap.size) (hb:∀ b,Own η S b->w'.heap[b]? = w.heap[b]?) (hn:∀ b,Own η S b->Z' b=none):St base η Z' S w':=by
 refine ⟨fun n o p h1 h2=>?_,R.cw,R.known,R.js,hzs,R.fresh,Nat.le_trans R.ga hsz,fun n o p h1 h2 b hbs=>?_⟩
 . obtain ⟨a1,_,L⟩:=R.ak n o p h1 h2
   exact ⟨a1,hn _ ⟨n,o,p,h1,h2,p.gR⟩,L.mono (Eta.le.refl _) hz fun b hh=>hb b ⟨n,o,p,h1,h2,hh⟩⟩
 . obtain ⟨a1,_,c,hc,hd⟩:=R.sat n o p h1 h2 b hbs
   exact ⟨a1,hn _ ⟨n,o,p,h1,h2,.inr hbs⟩,c,(hb _ ⟨n,o,p,h1,h2,.inr hbs⟩).trans hc,hd⟩
def yu (l:List UInt8):List W:=l.map fun b=>.int .u8 (b.toNat:Int)
noncomputable def lW (F:Fr):List bO->Option (Cd×List V)
 | []=>some (.t,[])
 | x::l=>match nO F x with
   | some (c,v)=>(match lW F l with | some (d,r)=>some (.and c d,v::r) | none=>none)
   | none=>none
def CJ (k:Nat):List (Nat×Operand)->Option (List bO)
 | []=>some []
 | (i,x)::l=>if i=k then (match bT x,CJ (k+1) l with | some y,some r=>some (y::r) | _,_=>none) else none
section
variable {P:Program} {base n:Nat} {η:Eta} {Z:aA} {S:ai} {w:World} {F:Fr} {a:Act}
def bH (P:Program) (base:Nat) (η:Eta) (Z:aA) (S:ai) (w:World) (s:Sem Next) (v:A) (S':ai):Prop :=
 ∃ nx u w' aE Z',s.run P w=.ok nx w'/\(nx=.value u∨(nx=.skip/\u=undef))/\bK base η Z S w aE Z' S' w'/\cr aE Z' v u
theorem bH.of {s:Sem Value} {v:A} {S':ai} {u:Value} {w':World} {aE:Eta} {Z':aA} (h:s.run P w=.ok u w') (g:bK base η Z S w aE Z' S' w') (r:cr aE Z' v u):bH P base η Z S w (do pure (Next.value (<-s))) v S' :=
 ⟨.value u,u,w',aE,Z',by simp [h],.inl rfl,g,r⟩
theorem bH.MH {s:Sem Unit} {S':ai} {w':World} {aE:Eta} {Z':aA} (h:s.run P w=.ok () w') (g:bK base η Z S w aE Z' S' w'):bH P base η Z S w (do s;pure Next.skip) (.aL []) S' :=
 ⟨.skip,undef,w',aE,Z',by simp [h],.inr ⟨rfl,rfl⟩,g,⟨[],rfl,trivial⟩⟩
theorem bH.alike {s:Sem Next} {v:A} {S' xR:ai} (g:bH P base η Z S w s v S') (h:S'.Alike xR):bH P base η Z S w s v xR :=
 let ⟨nx,u,w',aE,Z',a,b,c,d⟩:=g
 ⟨nx,u,w',aE,Z',a,b,c.alike h,d⟩
theorem bH.before {s:Sem Next} {v:A} {S1 S':ai} {dO:Eta} {Z1:aA} (m:bK base η Z S w dO Z1 S1 w) (g:bH P base dO Z1 S1 w s v S'):bH P base η Z S w s v S' :=
 let ⟨nx,u,w',aE,Z',a,b,c,d⟩:=g
 ⟨nx,u,w',aE,Z',a,b,m.trans c,d⟩
theorem rX {t:TypeId} {zs:List W} (e:jR P t=some zs):∃ i z,P.info? t=some i/\i.zero=some z/\EB z.cells.toList=some zs/\(zeroValue t).run P w=.ok z w:=by
 unfold jR at e
 split at e
 . rename_i i hi
   split at e
   . rename_i z hz
     exact ⟨i,z,hi,hz,e,by simp [zeroValue,typeInfo,hi,hz]⟩
   . cases e
 . cases e
theorem oA (R:St base η Z S w) (t:TypeId) {cs:List W} {c:Array Value} (hc:aT (aF η Z) cs c.toList) (h1:∀ v∈c.toList,v.oneCell'=true) :
 ∃ w',(newRow t c).run P w=.ok ⟨w.heap.size,0,none⟩ w'/\p4 base η Z S w (η.add S.next ⟨w.heap.size,0,c.size,[]⟩) (S.add (Ob.of t cs)) w'/\(η.add S.next ⟨w.heap.size,0,c.size,[]⟩) S.next=some ⟨w.heap.size,0,c.size,[]⟩:=by
 have cB:=hc.length
 obtain ⟨g,hn⟩:=R.new (w':={ w with heap:=w.heap.push (.cells c t (0,0)) }) (Ob.of t cs) c rfl rfl rfl rfl (by rw [Ob.eM];simp at cB;omega) (fun i x hx=>by
  rw [Ob.eM] at hx
  obtain ⟨v,hv,hr⟩:=hc.get hx
  exact ⟨v,by simpa using hv,hr,h1 v (List.mem_of_getElem? hv)⟩) rfl
 exact ⟨_,by simp [newRow,newObj,Sem.run],g,hn⟩
theorem OJ (R:St base η Z S w) {t:TypeId} {i:TypeInfo} {z:Value} (hi:P.info? t=some i) (hz:i.zero=some z) {zs:List W} (h1:aT (aF η Z) zs z.cells.toList) (h3:∀ v∈z.cells.toList,v.oneCell'=true):bH P base η Z S w (do pure (Next.value (<-Instr.alloc t true (.tuple #[])))) (.p (.c (.ptr S.next 0))) (S.add (Ob.of t zs)):=by
 have hz':(zeroValue t).run P w=.ok z w:=by simp [zeroValue,typeInfo,hi,hz]
 obtain ⟨w',hr,g,hn⟩:=oA (P:=P) R t h1 h3
 exact bH.of (u:=.pointer (some ⟨w.heap.size,0,none⟩)) (by simp [Instr.alloc,hz',newVar,hr]) g.up ⟨by simp,_,hn,by simp⟩
theorem VE (R:St base η Z S w) {t:TypeId} {v:V} {u:Value} (h:dr η Z v u):bH P base η Z S w (do pure (Next.value (<-Instr.box t u))) (.p (.c (.ptr S.next 0))) (S.add (Ob.of t v.cells)):=by
 obtain ⟨h1,h2,h3⟩:=h.cells
 obtain ⟨w',hr,g,hn⟩:=oA (P:=P) R t h1 h3
 exact bH.of (u:=.pointer (some ⟨w.heap.size,0,none⟩)) (by simp [Instr.box,newVar,hr]) g.up ⟨by simp,_,hn,by simp⟩
theorem rY (R:St base η Z S w) {t:TypeId} {k:Nat} (hs:gN P t=some k) {m off:Nat} {o:Ob} (ho:S.get m=some o) (hmo:¬ o.eV) (hnb:¬ o.bytes) (hnw:¬ o.wb) {u:Value} (hp:aF η Z (.ptr m off) u) {v:V} {x:Value} (hv:dr η Z v x) (hk:v.cells.length=k) (hb:off+k<=o.cells.length) :
 bH P base η Z S w (do Instr.storeAt t u x;pure Next.skip) (.aL []) (S.put m (Ob.of o.ty (jC o.cells off v.cells))):=by
 obtain ⟨p,hpl,rfl⟩:=hp
 obtain ⟨h1,h2,h3⟩:=hv.cells
 obtain ⟨hst,g⟩:=R.store (P:=P) ho hpl hmo hnb hnw h1 h3 (off:=off) (by omega) (o':=Ob.of o.ty (jC o.cells off v.cells)) rfl (by simp)
 refine bH.MH ?_ g.up
 have cB:x.cells.size=k:=by have:=h1.length;simp at this;omega
 simp [Instr.storeAt,Instr.sureAddr,storeVar,dX hs,cB,hst]
def yx:W->Value->Bool
 | .bool a,.bool b=>a == b
 | .int k a,.int k' b=>decide (k=k')&&a == b
 | .str a,.string b=>Nat.beq a.size 0&&Nat.beq b.size 0
 | .bY,.pointer none=>true
 | .nil,.slice none 0 0=>true
 | .rd _ [],.slice none 0 0=>true
 | .lU,.nilFunc=>true
 | .dM,.nilIface=>true
 | _,_=>false
theorem uW {x:W} {v:Value} (h:yx x v=true):aF η Z x v/\x≠.ct/\v.oneCell'=true/\v.cells=#[v]:=by
 unfold yx at h
 split at h
 . simp at h;subst h;exact ⟨by simp [aF,aM],by simp,rfl,rfl⟩
 . simp at h;obtain ⟨rfl,rfl⟩:=h;exact ⟨by simp [aF,aM],by simp,rfl,rfl⟩
 . rename_i a b
   simp only [Bool.and_eq_true,Nat.beq_eq] at h
   have:a=b:=by
    apply ByteArray.ext
    apply Array.ext
    . have h1:a.data.size=a.size:=rfl
      have h2:b.data.size=b.size:=rfl
      omega
    . intro i h1 _
      have h2:a.data.size=a.size:=rfl
      omega
   subst this
   exact ⟨by simp [aF,aM],by simp,rfl,rfl⟩
 . exact ⟨by simp [aF,aM],by simp,rfl,rfl⟩
 . exact ⟨by simp [aF,aM],by simp,rfl,rfl⟩
 . exact ⟨by simp only [aF,aM,cH];exact ⟨none,0,0,rfl,rfl,Nat.le_refl _,.inl trivial⟩,by simp,rfl,rfl⟩
 . exact ⟨by simp [aF,aM],by simp,rfl,rfl⟩
 . exact ⟨by simp [aF,aM],by simp,rfl,rfl⟩
 . cases h
theorem Rt (R:St base η Z S w) {t el:TypeId} {i:TypeInfo} {z:W} {zv:Value} (hu:P.underlying t=some (.slice el)) (hi:P.info? el=some i) (h1:i.size=1) (hzv:i.zero=some zv) (hz:yx z zv=true) {kl kc:IntKind} {l c:Int} (h0:0<=l) (hlc:l<=c) (hby:(i.bytes:Int)*c<=140737488355328) (hc:c<=140737488355328) :
 bH P base η Z S w (do pure (Next.value (<-Instr.makeSlice t (.int kl l) (.int kc c)))) (.p (.c (.sl S.next 0 l.toNat 1))) (S.add (Ob.of el (List.replicate c.toNat z))):=by
 have hrun:=run_make (P:=P) w t el i zv hu hi hzv kl kc l c h0 hlc (by omega) (by omega)
 obtain ⟨hr,_,hone,hy⟩:=uW (η:=η) (Z:=Z) hz
 have hcells:madeCells zv.cells (c.toNat*i.size)=Array.replicate c.toNat zv:=by
  rw [hy,h1,Nat.mul_one]
  unfold madeCells
  apply Array.ext
  . simp
  . intro j hj1 hj2
    simp [Nat.mod_one]
 have hrel : aT (aF η Z) (List.replicate c.toNat z) (Array.replicate c.toNat zv).toList := by
  apply aT.qI
  . simp
  . intro j x v hx hv
    rw [Array.toList_replicate] at hv
    rw [List.getElem?_replicate] at hx hv
    split at hx
    . rename_i hj
      rw [if_pos hj] at hv
      cases hx;cases hv
      exact hr
    . cases hx
 obtain ⟨w',hw,g,hn⟩:=oA (P:=P) R el hrel (by intro v hv;rw [Array.toList_replicate] at hv;rw [List.eq_of_mem_replicate hv];exact hone)
 have hww:w'=w.alloc (.cells (madeCells zv.cells (c.toNat*i.size)) el):=by
  simp [newRow,newObj,Sem.run] at hw
  rw [hcells,<-hw]
 subst hww
 refine bH.of hrun g.up ⟨by simp,.inr ⟨_,c.toNat,⟨w.heap.size,0,none⟩,hn,rfl,by omega,by simp,.inr (by simp)⟩⟩
theorem MI:∀ (vs l:List Value) (off:Nat),off+vs.length<=l.length->au.uh l off vs=l.take off++vs++l.drop (off+vs.length)
 | [],l,off,_=>by simp [au.uh]
 | v::vs,l,off,h=>by
   simp only [List.length_cons] at h
   rw [au.uh,MI vs (l.set off v) (off+1) (by simp;omega)]
   have h1:(l.set off v).take (off+1)=l.take off++[v]:=by
    rw [List.take_add_one,List.take_set_of_le (Nat.le_refl _)]
    simp [List.getElem?_set]
    omega
   have h2:(l.set off v).drop (off+1+vs.length)=l.drop (off+(vs.length+1)):=by
    rw [List.drop_set_of_lt (by omega)]
    congr 1;omega
   rw [h1,h2]
   simp
theorem FD {sz:Nat}:∀ {l:List (Nat×Value)} {k:Nat} {vs:List Value} {c:Array Value},l=(vs.zipIdx k).map (fun x=>(x.2,x.1))->(∀ v∈vs,v.cells.size=sz)->(k+vs.length)*sz=c.size->
 ∃ c',Instr.fill (fun i=>some (i*sz,sz)) c l=some c'/\c'.toList=c.toList.take (k*sz)++vs.flatMap (fun v=>v.cells.toList)
 | [],k,vs,c,hl,hv,hc=>by
   cases vs with
   | nil =>
     refine ⟨c,rfl,?_⟩
     simp only [List.flatMap_nil,List.append_nil]
     rw [List.take_of_length_le (by simp at hc ⊢;omega)]
   | cons _ _=>simp at hl
 | x :: l, k, vs, c, hl, hv, hc => by
   cases vs with
   | nil=>simp at hl
   | cons v vs =>
     simp only [List.zipIdx_cons,List.map_cons,List.cons.injEq] at hl
     obtain ⟨rfl,hl⟩:=hl
     have hvs:v.cells.size=sz:=hv v (by simp)
     have hk1:(k+1)*sz=k*sz+sz:=Nat.succ_mul _ _
     have hle:k*sz+sz<=c.size:=by
      rw [<-hc,<-hk1];exact Nat.mul_le_mul_right _ (by simp)
     simp only [Instr.fill]
     have h3:¬ (k*sz+v.cells.size > c.size):=by omega
     simp only [hvs,ne_eq,not_true_eq_false,decide_false,Bool.false_or]
     have h4:(decide (k*sz+sz > c.size))=false:=by simp;omega
     rw [h4]
     simp only [Bool.false_eq_true,if_false]
     obtain ⟨c',h1,h2⟩:=FD (sz:=sz) (k:=k+1) (vs:=vs) (c:=v.cells.zipIdx.foldl (fun cs (x:Value×Nat)=>cs.setIfInBounds (k*sz+x.2) x.1) c) hl (fun u hu=>hv u (by simp [hu])) (by
      have:=au.tj (k*sz) v.cells.toList 0 c
      have hsz:(v.cells.zipIdx.foldl (fun (cs:Array Value) (x:Value×Nat)=>cs.setIfInBounds (k*sz+x.2) x.1) c).size=c.size:=by
       rw [<-Array.foldl_toList,Array.toList_zipIdx,<-Array.length_toList,this,au.AL];simp
      rw [hsz,<-hc];congr 1;simp;omega)
     refine ⟨c',h1,?_⟩
     rw [h2]
     have:=au.tj (k*sz) v.cells.toList 0 c
     rw [Nat.add_zero,MI _ _ _ (by simp;omega)] at this
     rw [<-Array.foldl_toList,Array.toList_zipIdx,this]
     have hl1:((c.toList.take (k*sz))++v.cells.toList).length=(k+1)*sz:=by simp;omega
     rw [List.append_assoc,<-List.append_assoc,List.take_append_of_le_length (by omega),List.take_of_length_le (by omega)]
     simp
theorem FE (FR:bh n η Z F a.tmps):∀ {l':List (Nat×Operand)} {k:Nat} {l:List bO},CJ k l'=some l->∀ {c:Cd} {vs:List V},lW F l=some (c,vs)->c->
 ∃ us:List Value,aT (dr η Z) vs us/\l'.map (fun x=>(x.1,a.eval x.2))=(us.zipIdx k).map (fun x=>(x.2,x.1))/\us.length=l.length
 | [],k,l,hl,c,vs,e,hc=>by
   cases hl
   simp only [lW] at e
   cases e
   exact ⟨[],trivial,rfl,rfl⟩
 | (i, x) :: l', k, l, hl, c, vs, e, hc => by
   simp only [CJ] at hl
   obtain ⟨hik,hl⟩:=dP hl
   subst hik
   split at hl
   . rename_i y r hy hr
     cases hl
     simp only [lW] at e
     split at e
     . rename_i p v hv
       split at e
       . rename_i d r' hr'
         cases e
         obtain ⟨us,h1,h2,h3⟩:=FE FR hr hr' hc.2
         exact ⟨a.eval x::us,⟨eA FR hy hv hc.1,h1⟩,by simp [h2],by simp [h3]⟩
       . cases e
     . cases e
   . cases hl
theorem vX {sz:Nat}:∀ {vs:List V} {us:List Value},aT (dr η Z) vs us->(∀ v∈vs,v.cells.length=sz)->aT (aF η Z) (vs.flatMap V.cells) (us.flatMap fun v=>v.cells.toList)/\(∀ u∈us,u.cells.size=sz)/\(∀ v∈us.flatMap (fun v=>v.cells.toList),v.oneCell'=true)
 | [],[],_,_=>⟨trivial,by simp,by simp⟩
 | v :: vs, u :: us, ⟨h1, h2⟩, hs => by
   obtain ⟨a1,a2,a3⟩:=vX h2 (fun v hv=>hs v (by simp [hv]))
   obtain ⟨b1,b2,b3⟩:=h1.cells
   have hl:=b1.length
   rw [hs v (by simp)] at hl
   refine ⟨?_,?_,?_⟩
   . simp only [List.flatMap_cons];exact b1.append a1
   . intro x hx;rcases List.mem_cons.1 hx with rfl | hx
     . simpa using hl.symm
     . exact a2 x hx
   . intro x hx
     simp only [List.flatMap_cons] at hx
     rcases List.mem_append.1 hx with hx | hx
     . exact b3 x hx
     . exact a3 x hx
theorem IU (R:St base η Z S w) {t el:TypeId} {sz:Nat} {parts:Array (Nat×Operand)} {ps:List bO} {z:List W} (hu:P.underlying t=some (.slice el)) (hs:gN P el=some sz) (hz:jR P el=some z) (hbig:ps.length*sz<=16777216) (hzl:z.length=sz)
 {vs:List V} {us:List Value} (h1:aT (dr η Z) vs us) (h2:parts.toList.map (fun x=>(x.1,a.eval x.2))=(us.zipIdx 0).map (fun x=>(x.2,x.1))) (h3:us.length=ps.length) (hv:∀ v∈vs,v.cells.length=sz) :
 bH P base η Z S w (do pure (Next.value (<-Instr.buildSlice t ps.length (parts.map fun (i,x)=>(i,a.eval x))))) (.p (.c (.sl S.next 0 ps.length sz))) (S.add (Ob.of el (vs.flatMap V.cells))):=by
 obtain ⟨f1,f2,f3⟩:=vX h1 hv
 obtain ⟨i,zv,_,_,hzs,AU⟩:=rX (w:=w) hz
 have hzl':zv.cells.size=sz:=by
  obtain ⟨hr,_,_⟩:=nZ (η:=η) (Z:=Z) hzs
  have:=hr.length;simp at this;omega
 have h24:¬ (ps.length*sz > 2 ^ 24):=by omega
 have Ru:(parts.map fun (x:Nat×Operand)=>(x.1,a.eval x.2)).toList=(us.zipIdx 0).map (fun x=>(x.2,x.1)):=by
  rw [Array.toList_map];exact h2
 have key:∀ zero:Array Value,∃ c',Instr.fill (fun i=>some (i*sz,sz)) ((Array.range (ps.length*sz)).map (zero[· % zero.size]!)) ((us.zipIdx 0).map (fun x=>(x.2,x.1)))=some c'/\c'.toList=us.flatMap (fun v=>v.cells.toList):=by
  intro zero
  obtain ⟨c',g1,g2⟩:=FD (sz:=sz) (k:=0) (vs:=us) (c:=(Array.range (ps.length*sz)).map (zero[· % zero.size]!)) rfl f2 (by simp [h3])
  exact ⟨c',g1,by simpa using g2⟩
 have fin:∀ c':Array Value,c'.toList=us.flatMap (fun v=>v.cells.toList)->∃ w',(newRow el c').run P w=.ok ⟨w.heap.size,0,none⟩ w'/\p4 base η Z S w (η.add S.next ⟨w.heap.size,0,c'.size,[]⟩) (S.add (Ob.of el (vs.flatMap V.cells))) w'/\(η.add S.next ⟨w.heap.size,0,c'.size,[]⟩) S.next=some ⟨w.heap.size,0,c'.size,[]⟩:=by
  intro c' hc'
  exact oA (P:=P) R el (by rw [hc'];exact f1) (by rw [hc'];exact f3)
 have hsize:∀ c':Array Value,c'.toList=us.flatMap (fun v=>v.cells.toList)->c'.size=ps.length*sz:=by
  intro c' hc'
  rw [<-Array.length_toList,hc',<-h3]
  have:∀ us:List Value,(∀ u∈us,u.cells.size=sz)->(us.flatMap (fun v=>v.cells.toList)).length=us.length*sz:=by
   intro us
   induction us with
   | nil=>simp
   | cons u us ih =>
     intro hh
     simp only [List.flatMap_cons,List.length_append,List.length_cons,ih (fun x hx=>hh x (by simp [hx])),Nat.succ_mul]
     have:=hh u (by simp)
     simp;omega
  exact this us f2
 by_cases h0:ps.length*sz=0
 . obtain ⟨c',g1,g2⟩:=key #[]
   obtain ⟨w',hr,g,hn⟩:=fin c' g2
   refine bH.of (u:=.slice (some ⟨w.heap.size,0,none⟩) ps.length ps.length) (w':=w') ?_ g.up ⟨by simp,.inr ⟨_,ps.length,⟨w.heap.size,0,none⟩,hn,rfl,Nat.le_refl _,by rw [hsize c' g2];simp,.inr (by simp)⟩⟩
   simp only [Instr.buildSlice,Sem.run_bind,run_underlying hu,Result.andThen_ok,dX hs,h24,if_false,Ru]
   rw [if_pos h0]
   simp only [Sem.run_pure,Result.andThen_ok,g1,Sem.run_bind,hr]
 . obtain ⟨c',g1,g2⟩:=key zv.cells
   obtain ⟨w',hr,g,hn⟩:=fin c' g2
   refine bH.of (u:=.slice (some ⟨w.heap.size,0,none⟩) ps.length ps.length) (w':=w') ?_ g.up ⟨by simp,.inr ⟨_,ps.length,⟨w.heap.size,0,none⟩,hn,rfl,Nat.le_refl _,by rw [hsize c' g2];simp,.inr (by simp)⟩⟩
   simp only [Instr.buildSlice,Sem.run_bind,run_underlying hu,Result.andThen_ok,dX hs,h24,if_false,Ru]
   rw [if_neg h0]
   simp only [Sem.run_bind,AU,Sem.run_pure,Result.andThen_ok,g1,hr]
end
section
variable {P:Program} {base n:Nat} {η:Eta} {Z:aA} {S:ai} {w:World} {F:Fr} {a:Act}
theorem rD {b o:Nat} {vs:List Value} {w':World} (h:∀ (j:Nat) v,vs[j]? = some v->w.cell? ⟨b,o+j,none⟩=some v) (hw:w'.heap=w.heap):(loadCells ⟨b,o,none⟩ vs.length).run P w'=.ok vs.toArray w':=by
 by_cases h0:vs.length=0
 . have:vs=[]:=List.length_eq_zero_iff.1 h0
   subst this
   simp [loadCells,loadCellsFrom]
 . have hcell:∀ a,w'.cell? a=w.cell? a:=fun a=>by simp [World.cell?,hw]
   exact run_loadCells_list (P:=P) w' ⟨b,o,none⟩ vs (fun j v hv=>by rw [Addr.add_lit,hcell];exact h j v hv)
theorem OL (l:List UInt8):aT (aF η Z) (yu l) (l.map fun b=>Value.int .u8 b.toNat):=by
 induction l with
 | nil=>trivial
 | cons b l ih=>exact ⟨by simp [aF,aM],ih⟩
def Src (P:Program) (η:Eta) (Z:aA) (w:World) (u:Value) (sz:Nat) (cs:List W):Prop :=
 ∃ m vs,cs.length=m*sz/\vs.length=m*sz/\aT (aF η Z) cs vs/\(∀ v∈vs,v.oneCell'=true)/\(∀ w',(Builtin.lenOf u).run P w'=.ok m w')/\(∀ w' k,w'.heap=w.heap->k<=m->(Builtin.firstCells sz k u).run P w'=.ok (vs.take (k*sz)).toArray w')
theorem tD (sz:Nat) {ad:Option Addr} {cap:Nat}:Src P η Z w (.slice ad 0 cap) sz []:=by
 refine ⟨0,[],by simp,by simp,trivial,by simp,fun w'=>by simp [Builtin.lenOf],fun w' k _ hk=>?_⟩
 have:k=0:=by omega
 subst this
 cases ad with
 | none=>simp [Builtin.firstCells]
 | some ad=>simp [Builtin.firstCells,loadCells,loadCellsFrom]
theorem Rv {sz len cap b o:Nat} {cs:List W} {vs:List Value} (h1:aT (aF η Z) cs vs) (h2:vs.length=len*sz) (h3:∀ v∈vs,v.oneCell'=true) (h4:∀ (j:Nat) v,vs[j]? = some v->w.cell? ⟨b,o+j,none⟩=some v) :
 Src P η Z w (.slice (some ⟨b,o,none⟩) len cap) sz cs:=by
 have hl:=h1.length
 refine ⟨len,vs,by omega,h2,h1,h3,fun w'=>by simp [Builtin.lenOf],fun w' k hw hk=>?_⟩
 have hkl:k*sz<=len*sz:=Nat.mul_le_mul_right _ hk
 have:=rD (P:=P) (b:=b) (o:=o) (vs:=vs.take (k*sz)) (fun j v hv=>h4 j v (by rw [List.getElem?_take] at hv;split at hv;exact hv;cases hv)) hw
 have hl:(vs.take (k*sz)).length=k*sz:=by simp;omega
 rw [hl] at this
 simp [Builtin.firstCells,this]
theorem CK {d:D} {cells:Array Value} {o:Nat}:∀ {l:List d.ty} {off:Nat},mX Z d cells (o+off) l->∃ vs:List Value,aT (aF η Z) (l.map d.w) vs/\vs.length=l.length/\(∀ v∈vs,v.oneCell'=true)/\∀ (j:Nat) v,vs[j]? = some v->cells[o+off+j]? = some v
 | [],_,_=>⟨[],trivial,rfl,by simp,by simp⟩
 | x :: l, off, h => by
   obtain ⟨u,hu,hr⟩:=h 0 x rfl
   obtain ⟨vs,h1,h2,h3,h4⟩:=CK (l:=l) (o:=o) (off:=off+1) (fun i y hy=>by
    obtain ⟨v,a,b⟩:=h (i+1) y (by simpa using hy)
    exact ⟨v,by rw [<-a];congr 1;omega,b⟩)
   refine ⟨u::vs,⟨(D.f6 d).2 hr,h1⟩,by simp [h2],?_,?_⟩
   . intro v hv
     rcases List.mem_cons.1 hv with rfl | hv
     . exact cH.one d hr
     . exact h3 v hv
   . intro j v hv
     cases j with
     | zero=>simp at hv;subst hv;simpa using hu
     | succ j =>
       have:=h4 j v (by simpa using hv)
       rw [<-this];congr 1;omega
theorem src_rd (R:St base η Z S w) {d:D} {l:List d.ty} {u:Value} (h:aF η Z (.rd d l) u):Src P η Z w u 1 (l.map d.w):=by
 obtain ⟨ad,len,cap,hev,cB,hcap,hcs⟩:=h.rd
 rw [hev]
 rcases hcs with rfl | ⟨b,off,cells,rfl,hz,hf⟩
 . simp at cB;subst cB;exact tD _
 . obtain ⟨vs,h1,h2,h3,h4⟩:=CK (η:=η) (o:=off) (off:=0) hf
   obtain ⟨ty,fz,hc⟩:=R.zs b cells hz
   exact Rv h1 (by omega) h3 (fun j v hv=>by simp [World.cell?,hc];simpa using h4 j v hv)
theorem CM (R:St base η Z S w) {sz:Nat} {m off len:Nat} {u:Value} (h:aF η Z (.sl m off len sz) u) {o:Ob} (ho:S.get m=some o) (hmo:¬ o.eV) (hb:off+len*sz<=o.cells.length):Src P η Z w u sz ((o.cells.drop off).take (len*sz)):=by
 rcases h with ⟨rfl,rfl⟩ | ⟨pl,cap,ad,hpl,rfl,hcap,hroom,had⟩
 . simp only [Nat.zero_mul,List.take_zero];exact tD _
 . obtain ⟨vs,h1,h2,h3,h4⟩:=R.reads ho hpl hmo hb
   by_cases h0:len=0
   . subst h0;simp only [Nat.zero_mul,List.take_zero];exact tD _
   . have hca:ad=⟨pl.block,pl.off+off,none⟩:=by
      rcases had with rfl | rfl
      . omega
      . rfl
     subst hca
     exact Rv h1 h2 h3 h4
theorem ZN {s:ByteArray}:Src P η Z w (.string s) 1 (yu s.data.toList):=by
 refine ⟨s.size,s.data.toList.map fun b=>Value.int .u8 b.toNat,by simp [yu],by simp,OL _,?_,fun w'=>by simp [Builtin.lenOf],fun w' k _ hk=>?_⟩
 . intro v hv;simp at hv;obtain ⟨b,_,rfl⟩:=hv;rfl
 . simp only [Builtin.firstCells,Sem.run_pure]
   congr 1
   apply Array.ext'
   have:(s.extract 0 k).data.toList=s.data.toList.take k:=by
    simp [ByteArray.data_extract]
   simp
theorem BI (R:St base η Z S w) {el:TypeId} {z:Value} {sz need sCap:Nat} {cells:List W} {vs:List Value} (hl:aT (aF η Z) cells vs) (h1:∀ v∈vs,v.oneCell'=true) (cB:vs.length=need*sz) (hzs:z.cells.size=sz) :
 ∃ aE,p4 base η Z S w aE (S.add (Ob.of el cells)) (w.drew.alloc (.cells (vs.toArray++Builtin.zeroCells z.cells (grownCap w need sCap el-need)) el))/\
  aF aE Z (.sl S.next 0 need sz) (.slice (some ⟨w.heap.size,0,none⟩) need (grownCap w need sCap el)):=by
 have hge:=grownCap_ge w need sCap el
 have hcs:(vs.toArray++Builtin.zeroCells z.cells (grownCap w need sCap el-need)).size=grownCap w need sCap el*sz:=by
  simp only [Array.size_append,List.size_toArray,size_zeroCells,hzs,cB,<-Nat.add_mul]
  congr 1;omega
 have hlen2:=hl.length
 obtain ⟨g,hn⟩:=R.new (w':=w.drew.alloc (.cells (vs.toArray++Builtin.zeroCells z.cells (grownCap w need sCap el-need)) el)) (Ob.of el cells) (vs.toArray++Builtin.zeroCells z.cells (grownCap w need sCap el-need)) rfl rfl rfl rfl
  (by rw [Ob.eM];simp;omega) (fun i x hx=>by
   rw [Ob.eM] at hx
   obtain ⟨v,hv,hr⟩:=hl.get hx
   refine ⟨v,?_,hr,h1 v (List.mem_of_getElem? hv)⟩
   have:=(List.getElem?_eq_some_iff.1 hv).1
   rw [Array.getElem?_append_left (by simpa using this)]
   simpa using hv) rfl
 refine ⟨_,g,.inr ⟨_,grownCap w need sCap el,⟨w.heap.size,0,none⟩,hn,rfl,hge,?_,.inr (by simp)⟩⟩
 rw [hcs];simp
theorem tE (R:St base η Z S w) {t ts ty el:TypeId} {i:TypeInfo} {d:TypeDesc} {z:List W} (hu:P.underlying t=some (.slice el)) (hts:P.underlying ts=some d) (hd:∀ k,d≠.int k) (hi:P.info? el=some i) (hz:jR P el=some z) (hzl:z.length=i.size) (hsz:i.size≠0)
 {uy:Value} {cs:List W} (hsrc:Src P η Z w uy i.size cs) (hby:cs.length / i.size*i.bytes<=140737488355328) (h63:cs.length / i.size<=140737488355328) :
 bH P base η Z S w (do pure (Next.value (<-Builtin.append_ #[t,ts] ty #[.slice none 0 0,uy]))) (.p (.c (.sl S.next 0 (cs.length / i.size) i.size))) (S.add (Ob.of el cs)):=by
 obtain ⟨m,vs,h1,h2,h3,h4,h5,h6⟩:=hsrc
 obtain ⟨i',zv,hi',hzv,hzs,_⟩:=rX (w:=w) hz
 rw [hi] at hi';cases hi'
 have IV:zv.cells.size=i.size:=by
  obtain ⟨hr,_,_⟩:=nZ (η:=η) (Z:=Z) hzs
  have:=hr.length;simp at this;omega
 have hdiv:cs.length / i.size=m:=by rw [h1];exact Nat.mul_div_cancel _ (by omega)
 by_cases hm:m=0
 . subst hm
   have hcs:cs=[]:=List.eq_nil_of_length_eq_zero (by simpa using h1)
   subst hcs
   have hnew:=h6 w 0 rfl (Nat.le_refl _)
   refine bH.of (u:=.slice none 0 0) ?_ (R.p6 (o:=Ob.of el []) (by simp)) ⟨by simp,.inl ⟨by simp,rfl⟩⟩
   simp [Builtin.append_,run_underlying hu,run_underlying hts,sizeOf,typeInfo,hi,h5,hnew]
 . rw [hdiv] at hby h63 ⊢
   have hv:(vs.take (m*i.size))=vs:=List.take_of_length_le (by omega)
   have hnew:=h6 w.drew m rfl (Nat.le_refl _)
   rw [hv] at hnew
   have hrun:=au.oP (P:=P) (ty:=ty) (m:=m) (olds:=[]) w hu hts hd hi hzv (b:=none) (sLen:=0) (sCap:=0) (by simp [Builtin.firstCells]) (h5 w) hnew (by omega) (by omega) (by simpa using hby)
   obtain ⟨aE,g,hr⟩:=BI (z:=zv) (need:=m) (sCap:=0) (el:=el) R h3 h4 h2 IV
   simp only [Nat.zero_add,Array.empty_append] at hrun
   exact bH.of hrun g.up ⟨by simp,hr⟩
theorem OM (R:St base η Z S w) {t tn ty el:TypeId} {i:TypeInfo} {z:W} {zv:Value} {kn k:IntKind} (hu:P.underlying t=some (.slice el)) (htn:P.underlying tn=some (.int kn)) (hi:P.info? el=some i) (h1:i.size=1) (hzv:i.zero=some zv) (hz:yx z zv=true)
 {n:Int} (h0:0<n) (hb:1<=i.bytes) (h48:(i.bytes:Int)*n<=140737488355328) :
 bH P base η Z S w (do pure (Next.value (<-Builtin.append_ #[t,tn] ty #[.slice none 0 0,.int k n]))) (.p (.c (.sl S.next 0 n.toNat 1))) (S.add (Ob.of el (List.replicate n.toNat z))):=by
 obtain ⟨m,rfl⟩:∃ m:Nat,n=m:=⟨n.toNat,by omega⟩
 rw [Int.toNat_natCast]
 have hm:m<=m*i.bytes:=Nat.le_mul_of_pos_right _ hb
 have h48':m*i.bytes<=140737488355328:=by rw [Int.mul_comm,<-Int.natCast_mul] at h48;omega
 have hrun:=Lib.run_append_nil_zeros (P:=P) w t tn ty el i zv k kn hu htn hi hzv m (by omega) (by omega) (by omega) (by omega)
 obtain ⟨hr,_,hone,hy⟩:=uW (η:=η) (Z:=Z) hz
 have hcells:Builtin.zeroCells zv.cells m=(List.replicate m zv).toArray:=by
  rw [hy]
  unfold Builtin.zeroCells
  apply Array.ext
  . simp
  . intro j hj1 hj2
    simp [Nat.mod_one]
 have hrel : aT (aF η Z) (List.replicate m z) (List.replicate m zv) := by
  apply aT.qI
  . simp
  . intro j x v hx hv
    rw [List.getElem?_replicate] at hx hv
    split at hx
    . rename_i hj
      rw [if_pos hj] at hv
      cases hx;cases hv
      exact hr
    . cases hx
 obtain ⟨aE,g,hr'⟩:=BI (z:=zv) (need:=m) (sCap:=0) (sz:=1) (el:=el) R hrel (by intro v hv;rw [List.eq_of_mem_replicate hv];exact hone) (by simp) (by rw [hy];rfl)
 rw [hcells] at hrun
 exact bH.of hrun g.up ⟨by simp,hr'⟩
theorem CN (R:St base η Z S w) {t ts ty el:TypeId} {i:TypeInfo} {d:TypeDesc} {z:List W} (hu:P.underlying t=some (.slice el)) (hts:P.underlying ts=some d) (hd:∀ k,d≠.int k) (hi:P.info? el=some i) (hz:jR P el=some z) (hzl:z.length=i.size) (hsz:i.size≠0)
 {uy:Value} {cs:List W} (hsrc:Src P η Z w uy i.size cs) {u:Value} {m off len:Nat} (hx:aF η Z (.sl m off len i.size) u) {o:Ob} (ho:S.get m=some o) (hmo:¬ o.eV) (hnw:¬ o.wb) (hty:o.ty=el)
 (hb:off+len*i.size<=o.cells.length) (hap:¬ o.bytes∨o.cells=[]∨(off=0/\len*i.size=o.cells.length/\∀ x∈cs,∃ n,x=W.int .u8 n)) (hby:(len+cs.length / i.size)*i.bytes<=140737488355328) (h63:len+cs.length / i.size<=140737488355328) :
 bH P base η Z S w (do pure (Next.value (<-Builtin.append_ #[t,ts] ty #[u,uy]))) (.p (.c (.sl S.next 0 (len+cs.length / i.size) i.size))) ((S.del m).add (Ob.of el ((o.cells.drop off).take (len*i.size)++cs))):=by
 obtain ⟨k,vs,h1,h2,h3,h4,h5,h6⟩:=id hsrc
 obtain ⟨i',zv,hi',hzv,hzs,_⟩:=rX (w:=w) hz
 rw [hi] at hi';cases hi'
 have IV:zv.cells.size=i.size:=by
  obtain ⟨hr,_,_⟩:=nZ (η:=η) (Z:=Z) hzs
  have:=hr.length;simp at this;omega
 have hdiv:cs.length / i.size=k:=by rw [h1];exact Nat.mul_div_cancel _ (by omega)
 rw [hdiv] at hby h63 ⊢
 rcases hx with ⟨rfl,rfl⟩ | ⟨pl,cap,ad,hpl,rfl,hcap,hroom,had⟩
 . have hg:=tE (base:=base) (S:=S.del m) (ty:=ty) (R.del m) hu hts hd hi hz hzl hsz hsrc (by rw [hdiv];simpa using hby) (by rw [hdiv];simpa using h63)
   rw [hdiv] at hg
   have e1:(o.cells.drop off).take (0*i.size)++cs=cs:=by simp
   rw [e1,Nat.zero_add]
   obtain ⟨nx,u,w',aE,Z',q1,q2,q3,q4⟩:=hg
   exact ⟨nx,u,w',aE,Z',q1,q2,⟨q3.le,q3.st,(Step.del m).trans q3.step⟩,q4⟩
 obtain ⟨olds,o1,o2,o3,o4⟩:=R.reads ho hpl hmo hb
 have hvt:(vs.take (k*i.size))=vs:=List.take_of_length_le (by omega)
 by_cases hfit:len+k<=cap
 · -- in place
   by_cases hc0:cap=0
   · -- nothing is there, nothing comes
     have hl0:len=0:=by omega
     have hk0:k=0:=by omega
     subst hl0;subst hk0
     have hcs:cs=[]:=by simpa using h1
     subst hcs
     have hnew:=h6 w 0 rfl (Nat.le_refl _)
     have hrun:(Builtin.append_ #[t,ts] ty #[.slice (some ad) 0 cap,uy]).run P w=.ok (.slice (some ad) 0 cap) w:=by
      simp [Builtin.append_,run_underlying hu,run_underlying hts,sizeOf,typeInfo,hi,h5,hnew,storeCells]
     obtain ⟨hbase,hzq,L⟩:=R.ak m o pl ho hpl
     obtain ⟨cc,fz,hcc,hroom',hv',pP⟩:=L.there hmo
     have hfz:fz.1=fz.2∨fz.2<=pl.off:=by
      rcases hap with h | h | ⟨h1,h2,_⟩
      . exact pP.plain h hnw
      . have:=pP.tail.imp_right (·.resolve_right fun h=>hnw h.1);rw [h] at this;simpa using this
      . have:=pP.tail.imp_right (·.resolve_right fun h=>hnw h.1);omega
     have hsize:=L.size hmo
     let p0:cj:=⟨pl.block,pl.off,pl.room,[]⟩
     have R':St base (η.add (S.del m).next p0) Z ((S.del m).add (Ob.of el [])) w:=(R.del m).YC hbase hzq (fun n' o' p' hn' hp' hb'=>by
      rw [ai.iq] at hn'
      split at hn'
      . cases hn'
      . rename_i hne;exact R.js n' m o' o p' pl _ hn' ho hne hp' hpl hb' (.inl rfl)) (fun _ _=>rfl) rfl rfl rfl (dR.plain (by simp [Ob.eV,Ob.isMap,Ob.iY]) ⟨cc,fz,by rw [<-hty];exact hcc,hroom',by simp,hfz⟩ (by simp))
     refine bH.of (Z':=Z) hrun ⟨Eta.sG (R.fresh _ (Nat.le_refl _)),by simpa using (show St base (η.add S.next p0) Z ((S.del m).add (Ob.of el [])) w from R'),⟨rfl,rfl,rfl,Nat.le_refl _,fun _ _ _=>rfl,?_,aA.le.refl _,fun _ _ hh=>.inl hh,rfl⟩⟩ ⟨by simp,.inr ⟨p0,cap,ad,Eta.fK,rfl,by omega,by subst hc0;simp,.inl hc0⟩⟩
     rintro b ⟨n',o',p',hn',hp',hb'⟩
     have hg:∀ j,((S.del m).add (Ob.of el [])).get j=if j=S.next then some (Ob.of el []) else (S.del m).get j:=fun j=>ai.eY (R.del m).eZ
     have hn'':=(hg n').symm.trans (by simpa using hn')
     by_cases hj:n'=S.next
     . subst hj
       rw [Eta.fK] at hp';cases hp'
       exact .inl ⟨m,o,pl,ho,hpl,.inl (cj.uR hb').symm⟩
     . rw [if_neg hj] at hn''
       rw [Eta.iV hj] at hp'
       exact .inl (uU ⟨n',o',p',hn'',hp',hb'⟩)
   . have hca:ad=⟨pl.block,pl.off+off,none⟩:=by
      rcases had with h | h
      . exact absurd h hc0
      . exact h
     subst hca
     obtain ⟨hbase,hzq,L⟩:=R.ak m o pl ho hpl
     obtain ⟨cc,fz,hcc,hroom',hv',pP⟩:=L.there hmo
     have hfz:∀ k,pl.off+off+len*i.size<=k->k<cc.size->¬ (fz.1<=k/\k<fz.2):=by
      intro k a b
      rcases hap with h | h | ⟨h1,h2,_⟩
      . have:=pP.plain h hnw;omega
      . have:=pP.tail.imp_right (·.resolve_right fun h=>hnw h.1);rw [h] at this;simp at this;omega
      . have:=pP.tail.imp_right (·.resolve_right fun h=>hnw h.1);omega
     have hsize:=L.size hmo
     have hmul:(len+k)*i.size<=cap*i.size:=Nat.mul_le_mul_right _ hfit
     rw [Nat.add_mul] at hmul
     have hrun:=au.tu (P:=P) (ty:=ty) w hu hts hd hi (bk:=pl.block) (off:=pl.off+off) (sLen:=len) (sCap:=cap) (news:=vs) (h5 w) (by have:=h6 w k rfl (Nat.le_refl _);rwa [hvt] at this) hfit
      (fun j hj=>by
       have:pl.off+off+len*i.size+j<cc.size:=by omega
       simp [World.cell?,hcc,this])
      (fun j hj=>by
       have:=hfz (pl.off+off+len*i.size+j) (by omega) (by omega)
       simp only [World.frozen?,hcc]
       simpa using this) h4
     obtain ⟨c',g1,g2,g3,g4⟩:=au.kg vs (pl.off+off+len*i.size) w cc hcc
     have rQ:=au.ij (base:=0) (bk:=pl.block) (Nat.zero_le _) vs (pl.off+off+len*i.size) w
     let p':cj:=⟨pl.block,pl.off+off,pl.room-off,[]⟩
     have hle:η.le (η.add S.next p'):=Eta.sG (R.fresh _ (Nat.le_refl _))
     have hlold:olds.length=len*i.size:=o2
     have main:∀ (j:Nat) x,(Ob.of el ((o.cells.drop off).take (len*i.size)++cs)).cells[j]? = some x->∃ v,c'[p'.off+j]? = some v/\aF (η.add S.next p') Z x v/\v.oneCell'=true:=fun j x hx=>by
      show ∃ v,c'[pl.off+off+j]? = some v/\_
      rw [Ob.eM] at hx
      have hlen1:((o.cells.drop off).take (len*i.size)).length=len*i.size:=by simp;omega
      by_cases hj:j<len*i.size
      . rw [List.getElem?_append_left (by omega)] at hx
        have hx':o.cells[off+j]? = some x:=by
         rw [List.getElem?_take,if_pos hj,List.getElem?_drop] at hx;exact hx
        obtain ⟨v,q1,q2,q3⟩:=hv' _ _ hx'
        refine ⟨v,?_,q2.mono hle (aA.le.refl _),q3⟩
        rw [g3 _ (by omega),<-q1];congr 1;omega
      . rw [List.getElem?_append_right (by omega),hlen1] at hx
        obtain ⟨v,q1,q2⟩:=h3.get hx
        have hjv:=(List.getElem?_eq_some_iff.1 q1).1
        refine ⟨v,?_,q2.mono hle (aA.le.refl _),h4 v (List.mem_of_getElem? q1)⟩
        have:=g4 (j-len*i.size) hjv (by omega)
        rw [show pl.off+off+len*i.size+(j-len*i.size)=pl.off+off+j by omega] at this
        rw [this];exact q1
     have R' : St base (η.add (S.del m).next p') Z ((S.del m).add (Ob.of el ((o.cells.drop off).take (len * i.size) ++ cs))) (w.setCells pl.block (pl.off + off + len * i.size) vs) := (R.del m).YC hbase hzq (fun n' o' p'' hn' hp' hb' => by
      rw [ai.iq] at hn'
      split at hn'
      . cases hn'
      . rename_i hne;exact R.js n' m o' o p'' pl _ hn' ho hne hp' hpl hb' (.inl rfl)) (fun b hb'=>au.fW hb' _ _ _) (au.ko _ _ _) rfl rfl
      (dR.CD (fun hm'=>by
       rcases hm' with hm' | ⟨_,_,hm'⟩ <;> obtain ⟨v,_,b,_⟩:=main 0 _ hm' <;> simp only [aF,aM] at b)
       ⟨c', fz, by rw [← hty]; exact g1, by show pl.off + off + (pl.room - off) ≤ _; omega, main, by
        have hpo:p'.off=pl.off+off:=rfl
        rcases Classical.em o.bytes with hB | hB
        . rcases hap with h | h | ⟨q1,q2,q3⟩
          . exact absurd hB h
          . left;have:=pP.tail.imp_right (·.resolve_right fun h=>hnw h.1);rw [h] at this;simp at this;omega
          . have bR:(Ob.of el ((o.cells.drop off).take (len*i.size)++cs)).cells.length=len*i.size+cs.length:=by rw [Ob.eM];simp;omega
            rcases pP.tail.imp_right (·.resolve_right fun h=>hnw h.1) with ht | ht
            . exact .inl (.inl ht)
            . refine .inr (.inl ⟨fun x hx=>?_,by omega⟩)
              rw [Ob.eM] at hx
              rcases List.mem_append.1 hx with hx | hx
              . exact hB x (List.mem_of_mem_drop (List.mem_of_mem_take hx))
              . exact q3 x hx
        . left;have:=pP.plain hB hnw;omega⟩
       (by rw [Ob.eM];show ((o.cells.drop off).take (len*i.size)++cs).length<=pl.room-off;simp;omega))
     refine bH.of (Z':=Z) hrun ⟨hle,R',⟨rQ.os,rQ.tape,rQ.output,rQ.size,?_,?_,aA.le.refl _,fun _ _ hh=>.inl hh,rfl⟩⟩ ⟨by simp,.inr ⟨p',cap,_,Eta.fK,rfl,hfit,?_,.inr rfl⟩⟩
     . intro b _ hno
       exact au.fW (fun hh=>hno ⟨m,o,pl,ho,hpl,.inl hh.symm⟩) _ _ _
     . rintro b ⟨n',o',p'',hn',hp',hb'⟩
       have hg:∀ j,((S.del m).add (Ob.of el ((o.cells.drop off).take (len*i.size)++cs))).get j=if j=S.next then some (Ob.of el ((o.cells.drop off).take (len*i.size)++cs)) else (S.del m).get j:=fun j=>ai.eY (R.del m).eZ
       rw [hg] at hn'
       by_cases hj:n'=S.next
       . subst hj
         rw [Eta.fK] at hp';cases hp'
         exact .inl ⟨m,o,pl,ho,hpl,.inl (cj.uR hb').symm⟩
       . rw [if_neg hj] at hn'
         rw [Eta.iV hj] at hp'
         exact .inl (uU ⟨n',o',p'',hn',hp',hb'⟩)
     . show 0+cap*i.size<=pl.room-off
       omega
 · -- into new memory
   have hold:(Builtin.firstCells i.size len (.slice (some ad) len cap)).run P w.drew=.ok olds.toArray w.drew:=by
    by_cases hl0:len=0
    . subst hl0
      have:olds=[]:=List.length_eq_zero_iff.1 (by simpa using o2)
      subst this
      simp [Builtin.firstCells,loadCells,loadCellsFrom]
    . have hca:ad=⟨pl.block,pl.off+off,none⟩:=by
       rcases had with h | h
       . omega
       . exact h
      subst hca
      have:=rD (P:=P) (w:=w) (w':=w.drew) o4 rfl
      rw [o2] at this
      simp [Builtin.firstCells,this]
   have hnew:=h6 w.drew k rfl (Nat.le_refl _)
   rw [hvt] at hnew
   have hrun:=au.oP (P:=P) (ty:=ty) w hu hts hd hi hzv (b:=some ad) (sLen:=len) (sCap:=cap) hold (h5 w) hnew (by omega) (by omega) hby
   obtain ⟨aE,g,hr⟩:=BI (z:=zv) (need:=len+k) (sCap:=cap) (el:=el) (R.del m) (o1.append h3) (fun v hv=>by
    rcases List.mem_append.1 hv with hv | hv
    . exact o3 v hv
    . exact h4 v hv) (by simp [o2,h2,Nat.add_mul]) IV
   have happ:(olds++vs).toArray=olds.toArray++vs.toArray:=by simp
   rw [happ] at g
   exact bH.of (Z':=Z) hrun ⟨g.le,g.st,(Step.del m).trans g.step⟩ ⟨by simp,hr⟩
structure CO (η:Eta) (S:ai) (w:World) (n m k:Nat) (ah:List (List Int)) (rs:List (Nat×Nat)) (b0:Nat):Prop where
 len:rs.length=ah.length
 nodup:(rs.map (·.1)).Nodup
 own:∀ b∈rs.map (·.1),b≠b0/\n≠m/\∃ o pn,S.get n=some o/\η n=some pn/\pn.has b
 row:∀ (i:Nat) r l,rs[i]? = some r->ah[i]? = some l->l.length=k/\∃ c t fz,w.heap[r.1]? = some (.cells c t fz)/\r.2+k<=c.size/\(∀ (j:Nat) x,l[j]? = some x->c[r.2+j]? = some (.int .i64 x))/\(∀ j,r.2<=j->j<c.size->¬ (fz.1<=j/\j<fz.2))
 b0:b0=w.heap.size∨(n≠m/\∃ o pn,S.get n=some o/\η n=some pn/\pn.has b0)
def MJ (rs:List (Nat×Nat)) (k:Nat) (vs:List Value):Prop:=vs.length=rs.length/\∀ (i:Nat) r,rs[i]? = some r->∃ cp ad,vs[i]? = some (.slice ad k cp)/\k<=cp/\(0<k->ad=some ⟨r.1,r.2,none⟩)
theorem St.Rx (R:St base η Z S w) {n m k b0:Nat} {ah:List (List Int)} {rs:List (Nat×Nat)} (hpre:CO η S w n m k ah rs b0) {om:Ob} {pm:cj} {l l0:List Int} {ro:Nat} (hm:S.get m=some om) (hpm:η m=some pm) (hcm:om.cells=l0.map (W.int .i64)) (hl0:l=l0.drop ro) (hl:l.length=k)
 {w':World} {p:cj} {el:TypeId} (hrows:p.ah=rs++[(pm.block,if k=0 then pm.off else pm.off+ro)]) (hsz:w.heap.size<=w'.heap.size) (IW:p.block=w.heap.size∨p.block=b0)
 (gb:∀ b,b<w.heap.size->b≠p.block->w'.heap[b]? = w.heap[b]?)
 (houter:∃ c fz,w'.heap[p.block]? = some (.cells c el fz)/\p.off+p.room<=c.size/\(∀ (i:Nat) r,p.ah[i]? = some r->∃ cp ad,c[p.off+i]? = some (.slice ad k cp)/\k<=cp/\(0<k->ad=some ⟨r.1,r.2,none⟩))/\(∀ j,p.off<=j->j<c.size->¬ (fz.1<=j/\j<fz.2)))
 (hroom:ah.length+1<=p.room) (hos:w'.os=w.os) (mY:w'.tape=w.tape) (hout:w'.output=w.output) :
 bK base η Z S w (η.add S.next p) Z (((S.del n).del m).add ⟨el,[.c (.th k (ah++[l]))]⟩) w':=by
 have hle:η.le (η.add S.next p):=Eta.sG (R.fresh _ (Nat.le_refl _))
 have hmlt:=R.Vu hm hpm
 have hdel:∀ n' x,((S.del n).del m).get n'=some x->n'≠n/\n'≠m/\S.get n'=some x:=by
  intro n' x hx
  rw [ai.iq] at hx
  split at hx
  . cases hx
  . rename_i h1
    rw [ai.iq] at hx
    split at hx
    . cases hx
    . rename_i h2;exact ⟨h2,h1,hx⟩
 -- where b0 lies
 have hb0:∀ b,b<w.heap.size->b=b0->n≠m/\∃ o pn,S.get n=some o/\η n=some pn/\pn.has b:=by
  rintro b hb rfl
  rcases hpre.b0 with h | h
  . omega
  . exact h
 have hmp:pm.block≠p.block:=by
  intro e
  rcases IW with h | h
  . omega
  . obtain ⟨hnm,o,pn,h1,h2,h3⟩:=hb0 pm.block hmlt (e.trans h)
    exact R.js n m o om pn pm _ h1 hm hnm h2 hpm h3 pm.gR
 have hsp:∀ b∈rs.map (·.1),b≠p.block/\b<w.heap.size/\b≠pm.block:=by
  intro b hb
  obtain ⟨h1,hnm,o,pn,h2,h3,h4⟩:=hpre.own b hb
  have hlt:=R.jB h2 h3 h4
  refine ⟨?_,hlt,fun e=>R.js n m o om pn pm _ h2 hm hnm h3 hpm h4 (.inl e.symm)⟩
  rcases IW with h | h
  . omega
  . rw [h];exact h1
 have OO:p.sats=rs.map (·.1)++[pm.block]:=by unfold cj.sats;rw [hrows,List.map_append];rfl
 obtain ⟨co,fo,jS,CP,ho3,ho4⟩:=houter
 -- who has the new blocks
 have hown : ∀ b, p.has b → w.heap.size ≤ b ∨ ((∃ o pn, n ≠ m ∧ S.get n = some o ∧ η n = some pn ∧ pn.has b) ∨ pm.has b) := by
  rintro b (h | h)
  . rcases IW with h' | h'
    . left;omega
    . rcases Nat.lt_or_ge b w.heap.size with hlt | hge
      . obtain ⟨hnm,o,pn,h2,h3,h4⟩:=hb0 b hlt (h.symm.trans h')
        exact .inr (.inl ⟨o,pn,hnm,h2,h3,h4⟩)
      . exact .inl hge
  . rw [OO] at h
    rcases List.mem_append.1 h with h | h
    . obtain ⟨_,hnm,o,pn,h2,h3,h4⟩:=hpre.own b h
      exact .inr (.inl ⟨o,pn,hnm,h2,h3,h4⟩)
    . rw [List.mem_singleton] at h;subst h
      exact .inr (.inr pm.gR)
 have hL : dR (η.add ((S.del n).del m).next p) Z ⟨el, [.c (.th k (ah ++ [l]))]⟩ p w' := by
  obtain ⟨_,_,Lm⟩:=R.ak m om pm hm hpm
  have hmM:¬ om.eV:=by
   rintro (h | ⟨k',rows',h⟩)
   . unfold Ob.isMap at h;rw [hcm] at h;cases l0 <;> simp at h
   . unfold Ob.iY at h;rw [hcm] at h;cases l0 <;> simp at h
  obtain ⟨cm,fm,hc1,hc2,hc3,hcu⟩:=Lm.there hmM
  have hc4:∀ q,pm.off<=q->q<cm.size->¬ (fm.1<=q/\q<fm.2):=by
   cases hl1:l0 with
   | nil =>
     intro q a b
     have:=hcu.tail
     rw [hcm,hl1] at this
     simp at this
     omega
   | cons x l' =>
     refine hcu.strong (fun hB=>?_)
     obtain ⟨n',e⟩:=hB (.int .i64 x) (by rw [hcm,hl1];simp)
     cases e
  have Ry:=Lm.size hmM
  refine dR.tab (k:=k) (ah:=ah++[l]) (Iw rfl) ⟨⟨co,fo,jS,CP,ho3,ho4⟩,?_,by simpa using hroom,?_,?_⟩
  . rw [hrows];simp [hpre.len]
  . intro i r l' hr hl'
    rw [hrows] at hr
    by_cases hi:i<rs.length
    . rw [List.getElem?_append_left hi] at hr
      rw [List.getElem?_append_left (by rw [<-hpre.len];exact hi)] at hl'
      obtain ⟨q1,c,t,fz,q2,q3⟩:=hpre.row i r l' hr hl'
      have hb:=hsp r.1 (List.mem_map.2 ⟨r,List.mem_of_getElem? hr,rfl⟩)
      exact ⟨q1,c,t,fz,(gb _ hb.2.1 hb.1).trans q2,q3⟩
    . rw [List.getElem?_append_right (by omega)] at hr
      rw [List.getElem?_append_right (by rw [<-hpre.len];omega)] at hl'
      have hi0:i-rs.length=0:=by
       have:=(List.getElem?_eq_some_iff.1 hr).1
       simpa using this
      rw [hi0] at hr
      have:i-ah.length=0:=by rw [<-hpre.len];exact hi0
      rw [this] at hl'
      cases hr;cases hl'
      refine ⟨hl,cm,om.ty,fm,(gb _ hmlt hmp).trans hc1,?_,?_,fun q a b=>hc4 q (Nat.le_trans (by show pm.off<=(if k=0 then pm.off else pm.off+ro);split <;> omega) a) b⟩
      . show (if k=0 then pm.off else pm.off+ro)+k<=cm.size
        split
        . omega
        have hl':=hl
        rw [hl0,List.length_drop] at hl'
        rw [hcm,List.length_map] at Ry;omega
      . intro j x hx
        have hk0:¬ k=0:=fun h=>by rw [List.eq_nil_of_length_eq_zero (hl.trans h)] at hx;cases hx
        show cm[(if k=0 then pm.off else pm.off+ro)+j]? = _
        rw [if_neg hk0]
        have hx':l0[ro+j]? = some x:=by rw [hl0,List.getElem?_drop] at hx;exact hx
        obtain ⟨v,e1,e2,_⟩:=hc3 (ro+j) (.int .i64 x) (by rw [hcm,List.getElem?_map,hx'];rfl)
        simp only [aF,aM] at e2
        rw [<-Nat.add_assoc] at e1
        rw [e1,e2]
  . rw [OO,List.nodup_cons]
    constructor
    . intro h
      rcases List.mem_append.1 h with h | h
      . exact (hsp _ h).1 rfl
      . rw [List.mem_singleton] at h;exact hmp h.symm
    . rw [List.nodup_append]
      refine ⟨hpre.nodup,by simp,?_⟩
      intro a ha b hb
      rw [List.mem_singleton] at hb
      subst hb
      exact (hsp a ha).2.2
 refine ⟨hle,((R.del n).del m).Rp (p:=p) (w':=w') ?_ (fun k hk hp=>gb k hk fun e=>hp (.inl e.symm)) hsz hL,⟨hos,mY,hout,hsz,?_,?_,aA.le.refl _,fun _ _ h=>.inl h,rfl⟩⟩
 . intro b hb
   have Ii : ∃ ob, w'.heap[b]? = some ob ∧ oU ob = true := by
    by_cases MK:b=p.block
    . subst MK;exact ⟨_,jS,rfl⟩
    . rcases hb with h | h
      . exact absurd h.symm MK
      . rw [OO] at h
        rcases List.mem_append.1 h with h | h
        . obtain ⟨_,hnm,o,pn,h2,h3,h4⟩:=hpre.own b h
          obtain ⟨_,_,ob,e1,e2⟩:=R.all h2 h3 h4
          exact ⟨ob,(gb b (cY e1) MK).trans e1,e2⟩
        . rw [List.mem_singleton] at h
          obtain ⟨_,_,ob,e1,e2⟩:=R.all hm hpm (b:=b) (.inl h.symm)
          exact ⟨ob,(gb b (cY e1) MK).trans e1,e2⟩
   rcases hown b hb with h | ⟨o,pn,hnm,h2,h3,h4⟩ | h
   . refine ⟨Nat.le_trans R.ga h,?_,Ii,fun n' x q hx hq hb'=>?_⟩
     . cases e:Z b with
       | none=>rfl
       | some cs=>have:=R.Vv e;omega
     . have:=R.jB (hdel n' x hx).2.2 hq hb'
       omega
   . obtain ⟨q1,q2,_⟩:=R.all h2 h3 h4
     exact ⟨q1,q2,Ii,fun n' x q hx hq hb'=>R.js n' n x o q pn b (hdel n' x hx).2.2 h2 (hdel n' x hx).1 hq h3 hb' h4⟩
   . obtain ⟨q1,q2,_⟩:=R.all hm hpm h
     exact ⟨q1,q2,Ii,fun n' x q hx hq hb'=>R.js n' m x om q pm b (hdel n' x hx).2.2 hm (hdel n' x hx).2.1 hq hpm hb' h⟩
 . intro b hb hno
   refine gb b hb fun e=>?_
   rcases hown b (.inl e.symm) with h | ⟨o,pn,_,h2,h3,h4⟩ | h
   . omega
   . exact hno ⟨n,o,pn,h2,h3,h4⟩
   . exact hno ⟨m,om,pm,hm,hpm,h⟩
 . rintro b ⟨n',x,q,hx,hq,hb⟩
   have hg:∀ j,(((S.del n).del m).add ⟨el,[.c (.th k (ah++[l]))]⟩).get j=if j=S.next then some ⟨el,[.c (.th k (ah++[l]))]⟩ else ((S.del n).del m).get j:=fun j=>ai.eY ((R.del n).del m).eZ
   rw [hg] at hx
   by_cases hj:n'=S.next
   . subst hj
     rw [Eta.fK] at hq;cases hq
     rcases hown b hb with h | ⟨o,pn,_,h2,h3,h4⟩ | h
     . exact .inr h
     . exact .inl ⟨n,o,pn,h2,h3,h4⟩
     . exact .inl ⟨m,om,pm,hm,hpm,h⟩
   . rw [if_neg hj] at hx
     rw [Eta.iV hj] at hq
     exact .inl ⟨n',x,q,(hdel n' x hx).2.2,hq,hb⟩
theorem ML (R:St base η Z S w) {uy:Value} {m k ro:Nat} (hsrc:Src P η Z w uy 1 [.sl m ro k 1]) {om:Ob} {l0:List Int} (hm:S.get m=some om) (hcm:om.cells=l0.map (W.int .i64)) (hk:0<k∨0<l0.length):∃ pm cp ad,η m=some pm/\k<=cp/\(0<k->ad=some ⟨pm.block,pm.off+ro,none⟩)/\(∀ w',(Builtin.lenOf uy).run P w'=.ok 1 w')/\∀ w',w'.heap=w.heap->(Builtin.firstCells 1 1 uy).run P w'=.ok #[.slice ad k cp] w':=by
 obtain ⟨mm,vs,h1,h2,h3,_,h5,h6⟩:=hsrc
 have hmm:mm=1:=by simpa using h1.symm
 subst hmm
 cases vs with
 | nil=>simp at h2
 | cons v vs =>
   have:vs=[]:=List.eq_nil_of_length_eq_zero (by simpa using h2)
   subst this
   rcases h3.1 with ⟨h0,rfl⟩ | ⟨pm,cp,ad,q1,rfl,q2,q3,q4⟩
   . subst h0
     cases hp:η m with
     | none =>
       have:=R.cw m om hm hp
       rw [hcm,List.map_eq_nil_iff] at this
       rw [this] at hk
       simp at hk
     | some pm=>exact ⟨pm,0,none,rfl,Nat.le_refl _,fun h=>absurd h (Nat.lt_irrefl _),h5,fun w' hw=>by simpa using h6 w' 1 hw (Nat.le_refl _)⟩
   . exact ⟨pm,cp,some ad,q1,q2,fun h=>by
      rcases q4 with h | h
      . omega
      . rw [h],h5,fun w' hw=>by simpa using h6 w' 1 hw (Nat.le_refl _)⟩
theorem oV (R:St base η Z S w) {t ts ty el:TypeId} {i:TypeInfo} {d:TypeDesc} {z:List W} (hu:P.underlying t=some (.slice el)) (hts:P.underlying ts=some d) (hd:∀ k,d≠.int k) (hi:P.info? el=some i) (hz:jR P el=some z) (hzl:z.length=i.size) (h1:i.size=1)
 {uy:Value} {n m k:Nat} {om:Ob} {l l0:List Int} {ro:Nat} (hsrc:Src P η Z w uy 1 [.sl m ro k 1]) (hm:S.get m=some om) (hcm:om.cells=l0.map (W.int .i64)) (hl0:l=l0.drop ro) (hl:l.length=k) (hk:0<k∨0<l0.length) {ah:List (List Int)} {rs:List (Nat×Nat)} {b0:Nat} (hpre:CO η S w n m k ah rs b0) {olds:List Value} (hold:MJ rs k olds)
 {ad:Option Addr} {cap:Nat} (hfst:∀ w',w'.heap=w.heap->(Builtin.firstCells 1 ah.length (.slice ad ah.length cap)).run P w'=.ok olds.toArray w') (hfit:cap<ah.length+1)
 (hby:(ah.length+1)*i.bytes<=140737488355328) (h63:ah.length+1<=140737488355328) :
 bH P base η Z S w (do pure (Next.value (<-Builtin.append_ #[t,ts] ty #[.slice ad ah.length cap,uy]))) (.p (.c (.sl S.next 0 (ah.length+1) 1))) (((S.del n).del m).add ⟨el,[.c (.th k (ah++[l]))]⟩):=by
 obtain ⟨pm,cp,Rz,hpm,hcp,VF,h5,h6⟩:=ML R hsrc hm hcm hk
 obtain ⟨i',zv,hi',hzv,hzs,_⟩:=rX (w:=w) hz
 rw [hi] at hi';cases hi'
 have IV:zv.cells.size=1:=by
  obtain ⟨hr,_,_⟩:=nZ (η:=η) (Z:=Z) hzs
  have:=hr.length;simp at this;omega
 let v:Value:=.slice Rz k cp
 have hrun:=au.oP (P:=P) (ty:=ty) (m:=1) (olds:=olds) (news:=[v]) w hu hts hd hi hzv (b:=ad) (sLen:=ah.length) (sCap:=cap) (by rw [h1];exact hfst _ rfl) (h5 w) (by rw [h1];exact h6 _ rfl) hfit h63 hby
 generalize CA:grownCap w (ah.length+1) cap el=gc at hrun
 have hge:ah.length+1<=gc:=by rw [<-CA];exact grownCap_ge w _ _ _
 have YD:olds.length=ah.length:=by rw [hold.1,hpre.len]
 have hcs:(olds.toArray++[v].toArray++Builtin.zeroCells zv.cells (gc-(ah.length+1))).size=gc:=by
  simp only [Array.size_append,List.size_toArray,size_zeroCells,IV,List.length_singleton,Nat.mul_one]
  omega
 let p:cj:=⟨w.heap.size,0,gc,rs++[(pm.block,if k=0 then pm.off else pm.off+ro)]⟩
 have hmv := R.Rx hpre hm hpm hcm hl0 hl (w' := w.drew.alloc (.cells (olds.toArray ++ [v].toArray ++ Builtin.zeroCells zv.cells (gc - (ah.length + 1))) el)) (p := p) (el := el) rfl (by show w.heap.size ≤ (w.heap.push _).size; rw [Array.size_push]; omega) (.inl rfl)
  (fun b hb hne=>by
   show (w.heap.push _)[b]? = _
   rw [Array.getElem?_push,if_neg (by omega)])
  ⟨olds.toArray++[v].toArray++Builtin.zeroCells zv.cells (gc-(ah.length+1)),(0,0),Array.getElem?_push_size,by rw [hcs];show 0+gc<=gc;omega,by
   intro j r hr
   show ∃ RB RD,(olds.toArray++[v].toArray++_)[0+j]? = some (.slice RD k RB)/\_
   rw [Nat.zero_add]
   by_cases hj:j<rs.length
   . have hr':rs[j]? = some r:=by rw [<-hr];exact (List.getElem?_append_left hj).symm
     obtain ⟨RB,RD,e1,e2⟩:=hold.2 j r hr'
     refine ⟨RB,RD,?_,e2⟩
     have h0:=hold.1
     rw [Array.getElem?_append_left (by simp;omega),Array.getElem?_append_left (by simp;have:=hold.1;omega)]
     simpa using e1
   . have hr':[(pm.block,if k=0 then pm.off else pm.off+ro)][j-rs.length]? = some r:=by rw [<-hr];exact (List.getElem?_append_right (by omega)).symm
     have hj0:j-rs.length=0:=by
      have:=(List.getElem?_eq_some_iff.1 hr').1
      simpa using this
     rw [hj0] at hr'
     cases hr'
     refine ⟨cp,Rz,?_,hcp,fun h=>by rw [VF h];show _=some (⟨pm.block,if k=0 then pm.off else pm.off+ro,none⟩:Addr);rw [if_neg (by omega)]⟩
     have hjr:j=olds.length:=by have:=hold.1;omega
     subst hjr
     rw [Array.getElem?_append_left (by simp),Array.getElem?_append_right (by simp)]
     simp [v],fun _ _ _=>by simp⟩
  hge rfl rfl rfl
 exact bH.of hrun hmv ⟨by simp,.inr ⟨p,gc,⟨w.heap.size,0,none⟩,Eta.fK,rfl,hge,by show 0+gc*1<=gc;omega,.inr rfl⟩⟩
theorem RE (R:St base η Z S w) {n m k:Nat} {ah:List (List Int)} {o:Ob} {pn:cj} (hne:n≠m) (hn:S.get n=some o) (ht:o.iY k ah) (IX:η n=some pn):CO η S w n m k ah pn.ah pn.block:=by
 obtain ⟨_,_,L⟩:=R.ak n o pn hn IX
 have T:=L.tabs k ah ht
 have hnd:=T.nodup
 rw [List.nodup_cons] at hnd
 exact ⟨T.len,hnd.2,fun b hb=>⟨fun e=>hnd.1 (e▸hb),hne,o,pn,hn,IX,.inr hb⟩,T.row,.inr ⟨hne,o,pn,hn,IX,pn.gR⟩⟩
theorem OP (R:St base η Z S w) {n k:Nat} {ah:List (List Int)} {o:Ob} {pn:cj} (hn:S.get n=some o) (ht:o.iY k ah) (IX:η n=some pn) :
 ∃ olds,MJ pn.ah k olds/\∀ (j:Nat) v,olds[j]? = some v->w.cell? ⟨pn.block,pn.off+j,none⟩=some v:=by
 obtain ⟨_,_,L⟩:=R.ak n o pn hn IX
 have T:=L.tabs k ah ht
 obtain ⟨c,fz,h1,h2,h3,_⟩:=T.outer
 have hroom:=T.room
 have cB:=T.len
 refine ⟨(c.toList.drop pn.off).take pn.ah.length,⟨by simp;omega,?_⟩,?_⟩
 . intro i r hr
   obtain ⟨cp,ad,e1,e2⟩:=h3 i r hr
   have hi:=(List.getElem?_eq_some_iff.1 hr).1
   refine ⟨cp,ad,?_,e2⟩
   rw [List.getElem?_take,if_pos hi,List.getElem?_drop]
   simpa using e1
 . intro j v hv
   rw [List.getElem?_take] at hv
   split at hv
   . rw [List.getElem?_drop] at hv
     simp [World.cell?,h1]
     simpa using hv
   . cases hv
theorem CQ (R:St base η Z S w) {t ts ty el:TypeId} {i:TypeInfo} {d:TypeDesc} {z:List W} (hu:P.underlying t=some (.slice el)) (hts:P.underlying ts=some d) (hd:∀ k,d≠.int k) (hi:P.info? el=some i) (hz:jR P el=some z) (hzl:z.length=i.size) (h1:i.size=1)
 {uy:Value} {n m k:Nat} {om:Ob} {l l0:List Int} {ro:Nat} (hsrc:Src P η Z w uy 1 [.sl m ro k 1]) (hm:S.get m=some om) (hcm:om.cells=l0.map (W.int .i64)) (hl0:l=l0.drop ro) (hl:l.length=k) (hk:0<k∨0<l0.length)
 {u:Value} {ah:List (List Int)} {o:Ob} (hx:aF η Z (.sl n 0 ah.length 1) u) (ho:S.get n=some o) (hto:o.iY k ah) (hty:o.ty=el) (hne:n≠m)
 (hby:(ah.length+1)*i.bytes<=140737488355328) (h63:ah.length+1<=140737488355328) :
 bH P base η Z S w (do pure (Next.value (<-Builtin.append_ #[t,ts] ty #[u,uy]))) (.p (.c (.sl S.next 0 (ah.length+1) 1))) (((S.del n).del m).add ⟨el,[.c (.th k (ah++[l]))]⟩):=by
 have hnil:∀ {uy:Value},ah=[]->CO η S w n m k ah [] w.heap.size:=fun h=>⟨by subst h;rfl,by simp,by simp,by simp,.inl rfl⟩
 rcases hx with ⟨h0,rfl⟩ | ⟨pl,cap,ad,hpl,rfl,hcap,hroom,had⟩
 . have hr0:ah=[]:=List.eq_nil_of_length_eq_zero h0
   subst hr0
   exact oV (ad:=none) (cap:=0) (olds:=[]) (n:=n) R hu hts hd hi hz hzl h1 hsrc hm hcm hl0 hl hk (hnil (uy:=uy) rfl) ⟨rfl,by simp⟩ (fun w' _=>by simp [Builtin.firstCells]) (by simp) hby h63
 have hpre:=RE R hne ho hto hpl
 obtain ⟨olds,hold,hcell⟩:=OP R ho hto hpl
 have hca:cap=0∨ad=⟨pl.block,pl.off,none⟩:=by simpa using had
 by_cases hfit:ah.length+1<=cap
 . obtain ⟨pm,cp,Rz,hpm,hcp,VF,h5,h6⟩:=ML R hsrc hm hcm hk
   have hca:ad=⟨pl.block,pl.off,none⟩:=by
    rcases hca with h | h
    . omega
    . exact h
   subst hca
   obtain ⟨_,_,L⟩:=R.ak n o pl ho hpl
   have T:=L.tabs k ah hto
   obtain ⟨cc,fz,hcc,hsz,hrow,hfz⟩:=T.outer
   have hroom':=T.room
   let v:Value:=.slice Rz k cp
   have hrun:=au.tu (P:=P) (ty:=ty) (m:=1) w hu hts hd hi (bk:=pl.block) (off:=pl.off) (sLen:=ah.length) (sCap:=cap) (news:=[v]) (h5 w) (by rw [h1];exact h6 w rfl) hfit
    (fun j hj=>by
     have hj0:j=0:=by simpa using hj
     subst hj0
     have:pl.off+ah.length*i.size+0<cc.size:=by rw [h1];omega
     simp [World.cell?,hcc]
     simpa using this)
    (fun j hj=>by
     have hj0:j=0:=by simpa using hj
     subst hj0
     have:=hfz (pl.off+ah.length*i.size+0) (by omega) (by rw [h1];omega)
     simp only [World.frozen?,hcc]
     simpa using this) (by intro x hx;rw [List.mem_singleton] at hx;subst hx;rfl)
   rw [h1,Nat.mul_one] at hrun
   obtain ⟨c',g1,g2,g3,g4⟩:=au.kg [v] (pl.off+ah.length) w cc hcc
   have rQ:=au.ij (base:=0) (bk:=pl.block) (Nat.zero_le _) [v] (pl.off+ah.length) w
   let p:cj:=⟨pl.block,pl.off,pl.room,pl.ah++[(pm.block,if k=0 then pm.off else pm.off+ro)]⟩
   have hmv := R.Rx hpre hm hpm hcm hl0 hl (w' := w.setCells pl.block (pl.off + ah.length) [v]) (p := p) (el := el) rfl (by rw [au.ko]; exact Nat.le_refl _) (.inr rfl)
    (fun b _ hb=>au.fW hb _ _ _)
    ⟨c',fz,by rw [<-hty];exact g1,by rw [g2];exact hsz,by
     intro j r hr
     by_cases hj:j<pl.ah.length
     . have hr':pl.ah[j]? = some r:=by rw [<-hr];exact (List.getElem?_append_left hj).symm
       obtain ⟨RB,RD,e1,e2⟩:=hrow j r hr'
       refine ⟨RB,RD,?_,e2⟩
       rw [<-e1]
       have:=T.len
       exact g3 (pl.off+j) (.inl (by omega))
     . have hr':[(pm.block,if k=0 then pm.off else pm.off+ro)][j-pl.ah.length]? = some r:=by rw [<-hr];exact (List.getElem?_append_right (by omega)).symm
       have hj0:j-pl.ah.length=0:=by
        have:=(List.getElem?_eq_some_iff.1 hr').1
        simpa using this
       rw [hj0] at hr'
       cases hr'
       refine ⟨cp,Rz,?_,hcp,fun h=>by rw [VF h];show _=some (⟨pm.block,if k=0 then pm.off else pm.off+ro,none⟩:Addr);rw [if_neg (by omega)]⟩
       have:=T.len
       have hjr:j=ah.length:=by omega
       subst hjr
       have:=g4 0 (by simp) (by omega)
       simpa using this,by rw [g2];exact hfz⟩
    (by show ah.length+1<=pl.room;omega) rQ.os rQ.tape rQ.output
   exact bH.of hrun hmv ⟨by simp,.inr ⟨p,cap,_,Eta.fK,rfl,hfit,hroom,.inr rfl⟩⟩
 . refine oV (n:=n) R hu hts hd hi hz hzl h1 hsrc hm hcm hl0 hl hk hpre hold (fun w' hw'=>?_) (by omega) hby h63
   have YD:olds.length=ah.length:=by rw [hold.1,hpre.len]
   by_cases h0:ah.length=0
   . have:olds=[]:=List.length_eq_zero_iff.1 (by omega)
     subst this
     rw [h0]
     simp [Builtin.firstCells,loadCells,loadCellsFrom]
   . have hca:ad=⟨pl.block,pl.off,none⟩:=by
      rcases hca with h | h
      . omega
      . exact h
     subst hca
     have:=rD (P:=P) (w:=w) (w':=w') hcell hw'
     rw [YD] at this
     simp [Builtin.firstCells,this]
theorem EH (R:St base η Z S w) {t ts ty el:TypeId} {i:TypeInfo} {d:TypeDesc} {z:List W} (hu:P.underlying t=some (.slice el)) (hts:P.underlying ts=some d) (hd:∀ k,d≠.int k) (hi:P.info? el=some i) (hz:jR P el=some z) (hzl:z.length=i.size) (h1:i.size=1)
 {uy:Value} {m k:Nat} {om:Ob} {l l0:List Int} {ro:Nat} (hsrc:Src P η Z w uy 1 [.sl m ro k 1]) (hm:S.get m=some om) (hcm:om.cells=l0.map (W.int .i64)) (hl0:l=l0.drop ro) (hl:l.length=k) (hk:0<k∨0<l0.length)
 (hby:i.bytes<=140737488355328) :
 bH P base η Z S w (do pure (Next.value (<-Builtin.append_ #[t,ts] ty #[.slice none 0 0,uy]))) (.p (.c (.sl S.next 0 1 1))) ((S.del m).add ⟨el,[.c (.th k [l])]⟩):=by
 have g:=oV (ty:=ty) (ad:=none) (cap:=0) (olds:=[]) (n:=S.next) (ah:=[]) (rs:=[]) (b0:=w.heap.size) R hu hts hd hi hz hzl h1 hsrc hm hcm hl0 hl hk ⟨rfl,by simp,by simp,by simp,.inl rfl⟩ ⟨rfl,by simp⟩ (fun w' _=>by simp [Builtin.firstCells]) (by simp) (by simpa using hby) (by simp)
 refine g.alike ⟨⟨rfl,rfl⟩,fun j=>?_⟩
 have e1:∀ j,(((S.del S.next).del m).add ⟨el,[.c (.th k [l])]⟩).get j=if j=S.next then some ⟨el,[.c (.th k [l])]⟩ else ((S.del S.next).del m).get j:=fun j=>ai.eY ((R.del _).del m).eZ
 have e2:∀ j,((S.del m).add ⟨el,[.c (.th k [l])]⟩).get j=if j=S.next then some ⟨el,[.c (.th k [l])]⟩ else (S.del m).get j:=fun j=>ai.eY (R.del m).eZ
 show match (((S.del S.next).del m).add ⟨el,[.c (.th k [l])]⟩).get j,((S.del m).add ⟨el,[.c (.th k [l])]⟩).get j with | none,none=>True | some o,some o'=>o'.ty=o.ty/\o'.cells=o.cells | _,_=>False
 rw [e1,e2]
 by_cases hj:j=S.next
 . rw [if_pos hj,if_pos hj];exact ⟨rfl,rfl⟩
 . rw [if_neg hj,if_neg hj,ai.iq,ai.iq,ai.iq]
   rw [if_neg hj]
   by_cases hjm:j=m
   . rw [if_pos hjm];trivial
   . rw [if_neg hjm]
     cases S.get j with
     | none=>trivial
     | some x=>exact ⟨rfl,rfl⟩
end
end Go.ax
