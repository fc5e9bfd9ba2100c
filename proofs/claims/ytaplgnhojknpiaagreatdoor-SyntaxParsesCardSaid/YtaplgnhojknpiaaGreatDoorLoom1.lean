/- The walk by values, first part: values, stores, operations. It holds for every program and every world, under the hypotheses that each theorem names. -/
import Derived.Test.YtaplgnhojknpiaaGreatDoorMill1
namespace Go.aU
open Go.RowKit
open Go.aj (T)
inductive PV where
 | int (n:Int)
 | bool (b:Bool)
 | str (s:ByteArray)
 | strs (l:List ByteArray)
 | aH (sz:Nat) (l:List PV)
inductive D where
 | int (k:IntKind)
 | bool
 | str
 | sl (d:D)
 | pv
def D.dec:(a b:D)->Decidable (a=b)
 | .int k,.int k'=>if h:k=k' then isTrue (by rw[h]) else isFalse (fun e=>by cases e;exact h rfl)
 | .bool,.bool=>isTrue rfl
 | .str,.str=>isTrue rfl
 | .sl a,.sl b=>match D.dec a b with
   | isTrue h=>isTrue (by rw[h])
   | isFalse h=>isFalse (fun e=>by cases e;exact h rfl)
 | .int _,.bool=>isFalse (fun e=>by cases e)
 | .int _,.str=>isFalse (fun e=>by cases e)
 | .int _,.sl _=>isFalse (fun e=>by cases e)
 | .bool,.int _=>isFalse (fun e=>by cases e)
 | .bool,.str=>isFalse (fun e=>by cases e)
 | .bool,.sl _=>isFalse (fun e=>by cases e)
 | .str,.int _=>isFalse (fun e=>by cases e)
 | .str,.bool=>isFalse (fun e=>by cases e)
 | .str,.sl _=>isFalse (fun e=>by cases e)
 | .sl _,.int _=>isFalse (fun e=>by cases e)
 | .sl _,.bool=>isFalse (fun e=>by cases e)
 | .sl _,.str=>isFalse (fun e=>by cases e)
 | .pv,.pv=>isTrue rfl
 | .int _,.pv=>isFalse (fun e=>by cases e)
 | .bool,.pv=>isFalse (fun e=>by cases e)
 | .str,.pv=>isFalse (fun e=>by cases e)
 | .sl _,.pv=>isFalse (fun e=>by cases e)
 | .pv,.int _=>isFalse (fun e=>by cases e)
 | .pv,.bool=>isFalse (fun e=>by cases e)
 | .pv,.str=>isFalse (fun e=>by cases e)
 | .pv,.sl _=>isFalse (fun e=>by cases e)
instance:DecidableEq D:=D.dec
abbrev D.ty:D->Type
 | .int _=>Int
 | .bool=>Bool
 | .str=>ByteArray
 | .sl d=>List d.ty
 | .pv=>PV
def D.zero:(d:D)->d.ty
 | .int _=>(0:Int)
 | .bool=>false
 | .str=>⟨#[]⟩
 | .sl d=>([]:List d.ty)
 | .pv=>PV.bool false
inductive W where
 | bool (b:Bool)
 | int (k:IntKind) (n:Int)
 | str (s:ByteArray)
 | ef
 | ptr (n off:Nat)
 | pe (n off i:Nat)
 | nil
 | sl (n off len sz:Nat)
 | ro (sz:Nat) (cs:List W)
 | rp (cs:List W) (off:Nat)
 | rd (d:D) (l:List d.ty)
 | re (d:D) (l:List d.ty) (i:Nat)
 | mD
 | func (f:FuncId) (caps:List (Nat×Nat))
 | yield (l:Nat)
 | kO
 | dL
 | mp (n:Nat)
 | mh
 | ba (n:Nat)
 | oh (f:FuncId) (n off:Nat)
 | th (k:Nat) (aA:List (List Int))
 | row (n i len:Nat)
 | pR (n i j:Nat)
 | val (v:Value)
 | l9 (n:Int)
 | rs (sz:Nat) (l:List PV)
 | y8 (b:Bool)
inductive V where
 | c (x:W)
 | agg (cs:List W)
inductive A where
 | p (v:V)
 | bC (vs:List V)
 | cond (c:Prop) (v:V)
 | dec (b:Bool)
structure cD where
 block:Nat
 off:Nat
 room:Nat
 aA:List (Nat×Nat)
abbrev Eta:=Nat->Option cD
abbrev av:=Nat->Option (Array Value)
def Eta.le(η aF:Eta):Prop:=∀ n p,η n=some p->aF n=some p
def av.le(Z Z':av):Prop:=∀ b c,Z b=some c->Z' b=some c
theorem Eta.le.refl(η:Eta):η.le η:=fun _ _ h=>h
theorem Eta.le.trans{a b c:Eta}(h:a.le b)(k:b.le c):a.le c:=fun n p e=>k n p (h n p e)
theorem av.le.refl(Z:av):Z.le Z:=fun _ _ h=>h
theorem av.le.trans{a b c:av}(h:a.le b)(k:b.le c):a.le c:=fun n p e=>k n p (h n p e)
mutual
def dV(Z:av):PV->Value->Prop
 | .int n,v=>v=.int .i64 n
 | .bool b,v=>v=.bool b
 | .str s,v=>v=.string s
 | .strs l,v=>∃ a len c,v=.slice a len c/\l.length=len/\len<=c/\(l=[]∨∃ b off cells,a=some ⟨b,off,none⟩/\Z b=some cells/\∀(i:Nat)(x:ByteArray),l[i]? = some x->∃ u,cells[off+i]? = some u/\u=.string x)
 | .aH sz l,v=>∃ a len c,v=.slice a len c/\l.length=len*sz/\len<=c/\(l=[]∨∃ b off cells,a=some ⟨b,off,none⟩/\Z b=some cells/\jl Z cells off l)
def jl(Z:av)(cells:Array Value):Nat->List PV->Prop
 | _,[]=>True
 | o,x::l=>(∃ u,cells[o]? = some u/\dV Z x u)/\jl Z cells (o+1) l
end
mutual
theorem dV.mono{Z Z':av}(h:Z.le Z'):∀{x:PV}{v:Value},dV Z x v->dV Z' x v
 | .int _,_,e=>by simpa only[dV] using e
 | .bool _,_,e=>by simpa only[dV] using e
 | .str _,_,e=>by simpa only[dV] using e
 | .strs l,v,e=>by
   simp only[dV] at e ⊢;obtain⟨a,len,c,h1,h2,h3,h4⟩:=e;refine⟨a,len,c,h1,h2,h3,?_⟩;rcases h4 with h4|⟨b,off,cells,h4,h5,h6⟩;exact .inl h4;exact .inr ⟨b,off,cells,h4,h _ _ h5,h6⟩
 | .aH sz l,v,e=>by
   simp only[dV] at e ⊢;obtain⟨a,len,c,h1,h2,h3,h4⟩:=e;refine⟨a,len,c,h1,h2,h3,?_⟩;rcases h4 with h4|⟨b,off,cells,h4,h5,h6⟩;exact .inl h4;exact .inr ⟨b,off,cells,h4,h _ _ h5,jl.mono h h6⟩
theorem jl.mono{Z Z':av}(h:Z.le Z'){cells:Array Value}:∀{o:Nat}{l:List PV},jl Z cells o l->jl Z' cells o l
 | _,[],_=>by simp only[jl]
 | o,x::l,e=>by
   simp only[jl] at e ⊢;obtain⟨⟨u,h1,h2⟩,h3⟩:=e;exact⟨⟨u,h1,dV.mono h h2⟩,jl.mono h h3⟩
end
theorem jl.iff{Z:av}{cells:Array Value}:∀{l:List PV}{o:Nat},jl Z cells o l↔∀(i:Nat)(x:PV),l[i]? = some x->∃ u,cells[o+i]? = some u/\dV Z x u
 | [],_=>by simp[jl]
 | y :: l, o => by
   simp only[jl];rw[jl.iff (l:=l) (o:=o+1)];constructor
   . rintro⟨h0,h1⟩ i x e;cases i with
     | zero=>simp only[List.getElem?_cons_zero,Option.some.injEq] at e;subst e;simpa using h0
     | succ i =>
       simp only[List.getElem?_cons_succ] at e;obtain⟨u,a,b⟩:=h1 i x e;exact⟨u,by rw[<-a];congr 1;omega,b⟩
   intro h;refine⟨by simpa using h 0 y rfl,fun i x e=>?_⟩;obtain⟨u,a,b⟩:=h (i+1) x (by simpa using e);exact⟨u,by rw[<-a];congr 1;omega,b⟩
theorem dV.one{Z:av}:∀{x:PV}{v:Value},dV Z x v->v.oneCell'=true
 | .int _,_,e=>by simp only[dV] at e;subst e;rfl
 | .bool _,_,e=>by simp only[dV] at e;subst e;rfl
 | .str _,_,e=>by simp only[dV] at e;subst e;rfl
 | .strs _,_,e=>by simp only[dV] at e;obtain⟨_,_,_,rfl,_⟩:=e;rfl
 | .aH _ _,_,e=>by simp only[dV] at e;obtain⟨_,_,_,rfl,_⟩:=e;rfl
def cM(Z:av):(d:D)->d.ty->Value->Prop
 | .int k,n,v=>v=.int k n
 | .bool,b,v=>v=.bool b
 | .str,s,v=>v=.string s
 | .sl d,l,v=>∃ a len c,v=.slice a len c/\List.length (α:=d.ty) l=len/\len<=c/\(l=[]∨∃ b off cells,a=some ⟨b,off,none⟩/\Z b=some cells/\∀(i:Nat)(x:d.ty),(show List d.ty from l)[i]? = some x->∃ u,cells[off+i]? = some u/\cM Z d x u)
 | .pv,x,v=>dV Z x v
def lT(Z:av)(d:D)(cells:Array Value)(o:Nat)(l:List d.ty):Prop:=∀(i:Nat)(x:d.ty),l[i]? = some x->∃ u,cells[o+i]? = some u/\cM Z d x u
theorem cM.mono{Z Z':av}(h:Z.le Z'):∀(d:D){x:d.ty}{v:Value},cM Z d x v->cM Z' d x v
 | .int _,_,_,e=>e
 | .bool,_,_,e=>e
 | .str,_,_,e=>e
 | .sl d,l,v,⟨a,len,c,h1,h2,h3,h4⟩=>by
   refine⟨a,len,c,h1,h2,h3,?_⟩;rcases h4 with h4|⟨b,off,cells,h4,h5,h6⟩;exact .inl h4;exact .inr ⟨b,off,cells,h4,h _ _ h5,fun i x hx=>let ⟨u,a,b⟩:=h6 i x hx;⟨u,a,cM.mono h d b⟩⟩
 | .pv,x,_,e=>dV.mono (x:=x) h e
theorem lT.mono{Z Z':av}(h:Z.le Z'){d:D}{cells:Array Value}{o:Nat}{l:List d.ty}(r:lT Z d cells o l):lT Z' d cells o l :=
 fun i x hx=>let ⟨u,a,b⟩:=r i x hx;⟨u,a,cM.mono h d b⟩
theorem lT.drop{Z:av}{d:D}{cells:Array Value}{o:Nat}{l:List d.ty}(r:lT Z d cells o l)(k:Nat):lT Z d cells (o+k) (l.drop k):=by
 intro i x hx;rw[List.getElem?_drop] at hx;obtain⟨u,a,b⟩:=r _ _ hx;exact⟨u,by rw[<-a];congr 1;omega,b⟩
theorem lT.take{Z:av}{d:D}{cells:Array Value}{o:Nat}{l:List d.ty}(r:lT Z d cells o l)(k:Nat):lT Z d cells o (l.take k):=by
 intro i x hx;rw[List.getElem?_take] at hx;split at hx;exact r _ _ hx;cases hx
theorem cM.one{Z:av}:∀(d:D){x:d.ty}{v:Value},cM Z d x v->v.oneCell'=true
 | .int _,_,_,e=>by simp only[cM] at e;subst e;rfl
 | .bool,_,_,e=>by simp only[cM] at e;subst e;rfl
 | .str,_,_,e=>by simp only[cM] at e;subst e;rfl
 | .sl _,_,_,⟨_,_,_,h,_⟩=>by subst h;rfl
 | .pv,x,_,e=>dV.one (x:=x) e
mutual
def aL(Z:av):W->Value->Prop
 | .bool b,v=>v=.bool b
 | .int k n,v=>v=.int k n
 | .str s,v=>v=.string s
 | .ef,v=>v=.pointer none
 | .nil,v=>v=.slice none 0 0
 | .ro sz cs,v=>∃ a len c,v=.slice a len c/\cs.length=len*sz/\len<=c/\(cs=[]∨∃ b off cells,a=some ⟨b,off,none⟩/\Z b=some cells/\fE Z cells off cs)
 | .rp cs off,v=>∃ b o cells,v=.pointer (some ⟨b,o+off,none⟩)/\Z b=some cells/\fE Z cells o cs
 | .rd d l,v=>cM Z (.sl d) l v
 | .re d l i,v=>∃ b o cells,v=.pointer (some ⟨b,o+i,none⟩)/\Z b=some cells/\lT Z d cells o l
 | .mD,v=>v=.nilFunc
 | .func f caps,v=>caps=[]/\v=.func (.func f) #[] #[]
 | .kO,v=>v=.nilIface
 | .val u,v=>v=u/\u.oneCell'=true
 | .ptr _ _,_=>False
 | .pe _ _ _,_=>False
 | .sl _ _ _ _,_=>False
 | .yield _,_=>False
 | .dL,_=>False
 | .mp _,_=>False
 | .mh,_=>False
 | .ba _,_=>False
 | .oh _ _ _,_=>False
 | .th _ _,_=>False
 | .row _ _ _,_=>False
 | .pR _ _ _,_=>False
 | .l9 _,_=>False
 | .rs sz l,v=>dV Z (.aH sz l) v
 | .y8 b,v=>(b=true/\∃ t u,v=.iface t u)∨(b=false/\v=.nilIface)
def fE(Z:av)(cells:Array Value):Nat->List W->Prop
 | _,[]=>True
 | o,x::l=>(∃ u,cells[o]? = some u/\aL Z x u)/\fE Z cells (o+1) l
end
mutual
theorem aL.mono{Z Z':av}(h:Z.le Z'):∀{x:W}{v:Value},aL Z x v->aL Z' x v
 | .bool _,_,e=>by simpa only[aL] using e
 | .int _ _,_,e=>by simpa only[aL] using e
 | .str _,_,e=>by simpa only[aL] using e
 | .ef,_,e=>by simpa only[aL] using e
 | .nil,_,e=>by simpa only[aL] using e
 | .ro sz cs,v,e=>by
   simp only[aL] at e ⊢;obtain⟨a,len,c,h1,h2,h3,h4⟩:=e;refine⟨a,len,c,h1,h2,h3,?_⟩;rcases h4 with h4|⟨b,off,cells,h4,h5,h6⟩;exact .inl h4;exact .inr ⟨b,off,cells,h4,h _ _ h5,fE.mono h h6⟩
 | .rp cs off,v,e=>by
   simp only[aL] at e ⊢;obtain⟨b,o,cells,h1,h2,h3⟩:=e;exact⟨b,o,cells,h1,h _ _ h2,fE.mono h h3⟩
 | .rd d l,v,e=>by
   simp only[aL] at e ⊢;exact cM.mono h _ e
 | .re d l i,v,e=>by
   simp only[aL] at e ⊢;obtain⟨b,o,cells,h1,h2,h3⟩:=e;exact⟨b,o,cells,h1,h _ _ h2,h3.mono h⟩
 | .pe _ _ _,_,e=>by simp only[aL] at e
 | .mD,_,e=>by simpa only[aL] using e
 | .func _ _,_,e=>by simpa only[aL] using e
 | .kO,_,e=>by simpa only[aL] using e
 | .val _,_,e=>by simpa only[aL] using e
 | .ptr _ _,_,e=>by simp only[aL] at e
 | .sl _ _ _ _,_,e=>by simp only[aL] at e
 | .yield _,_,e=>by simp only[aL] at e
 | .dL,_,e=>by simp only[aL] at e
 | .mp _,_,e=>by simp only[aL] at e
 | .mh,_,e=>by simp only[aL] at e
 | .ba _,_,e=>by simp only[aL] at e
 | .oh _ _ _,_,e=>by simp only[aL] at e
 | .th _ _,_,e=>by simp only[aL] at e
 | .row _ _ _,_,e=>by simp only[aL] at e
 | .pR _ _ _,_,e=>by simp only[aL] at e
 | .l9 _,_,e=>by simp only[aL] at e
 | .rs _ _,_,e=>by
   simp only[aL] at e ⊢;exact dV.mono h e
 | .y8 _,_,e=>by simpa only[aL] using e
theorem fE.mono{Z Z':av}(h:Z.le Z'){cells:Array Value}:∀{o:Nat}{l:List W},fE Z cells o l->fE Z' cells o l
 | _,[],_=>by simp only[fE]
 | o,x::l,e=>by
   simp only[fE] at e ⊢;obtain⟨⟨u,h1,h2⟩,h3⟩:=e;exact⟨⟨u,h1,aL.mono h h2⟩,fE.mono h h3⟩
end
theorem fE.get{Z:av}{cells:Array Value}:∀{l:List W}{o:Nat},fE Z cells o l->∀{i:Nat}{x:W},l[i]? = some x->∃ u,cells[o+i]? = some u/\aL Z x u
 | [],_,_,i,x,e=>by simp at e
 | y::l,o,h,0,x,e=>by
   simp only[fE] at h;simp at e;subst e;exact h.1
 | y::l,o,h,i+1,x,e=>by
   simp only[fE] at h;obtain⟨u,a,b⟩:=fE.get h.2 (i:=i) (x:=x) (by simpa using e);exact⟨u,by rw[<-a];congr 1;omega,b⟩
theorem fE.ox{Z:av}{cells:Array Value}:∀{l:List W}{o:Nat},(∀ i x,l[i]? = some x->∃ u,cells[o+i]? = some u/\aL Z x u)->fE Z cells o l
 | [],_,_=>by simp only[fE]
 | y::l,o,h=>by
   simp only[fE];refine⟨by simpa using h 0 y rfl,fE.ox fun i x e=>?_⟩;obtain⟨u,a,b⟩:=h (i+1) x (by simpa using e);exact⟨u,by rw[<-a];congr 1;omega,b⟩
theorem fE.drop{Z:av}{cells:Array Value}{l:List W}{o:Nat}(h:fE Z cells o l)(k:Nat):fE Z cells (o+k) (l.drop k):=by
 refine fE.ox fun i x e=>?_;obtain⟨u,a,b⟩:=h.get (i:=k+i) (x:=x) (by simpa using e);exact⟨u,by rw[<-a];congr 1;omega,b⟩
theorem fE.take{Z:av}{cells:Array Value}{l:List W}{o:Nat}(h:fE Z cells o l)(k:Nat):fE Z cells o (l.take k):=by
 refine fE.ox fun i x e=>?_;rw[List.getElem?_take] at e;split at e;exact h.get e;cases e
def dZ(η:Eta)(a:Nat×Nat)(v:Value):Prop:=∃ p,η a.1=some p/\v=.pointer (some ⟨p.block,p.off+a.2,none⟩)
def aO{α β:Type}(R:α->β->Prop):List α->List β->Prop
 | [],[]=>True
 | a::l,b::m=>R a b/\aO R l m
 | _,_=>False
theorem aO.mono{α β:Type}{R R':α->β->Prop}(h:∀ a b,R a b->R' a b):∀{l:List α}{m:List β},aO R l m->aO R' l m
 | [],[],_=>trivial
 | _::_,_::_,⟨x,y⟩=>⟨h _ _ x,aO.mono h y⟩
theorem aO.length{α β:Type}{R:α->β->Prop}:∀{l:List α}{m:List β},aO R l m->l.length=m.length
 | [],[],_=>rfl
 | _::_,_::_,⟨_,y⟩=>by simp[aO.length y]
theorem aO.append{α β:Type}{R:α->β->Prop}:∀{l l':List α}{m m':List β},aO R l m->aO R l' m'->aO R (l++l') (m++m')
 | [],_,[],_,_,h=>h
 | _::_,_,_::_,_,⟨x,y⟩,h=>⟨x,aO.append y h⟩
theorem aO.get{α β:Type}{R:α->β->Prop}:∀{l:List α}{m:List β},aO R l m->∀{i:Nat}{x:α},l[i]? = some x->∃ y,m[i]? = some y/\R x y
 | a::l,b::m,⟨x,y⟩,0,_,e=>by simp at e;subst e;exact⟨b,rfl,x⟩
 | a::l,b::m,⟨x,y⟩,i+1,_,e=>by simp at e ⊢;exact aO.get y e
theorem aO.ox{α β:Type}{R:α->β->Prop}:∀{l:List α}{m:List β},l.length=m.length->(∀(i:Nat) x y,l[i]? = some x->m[i]? = some y->R x y)->aO R l m
 | [],[],_,_=>trivial
 | a::l,b::m,h,k=>⟨k 0 a b rfl rfl,aO.ox (by simpa using h) fun i x y e f=>k (i+1) x y (by simpa using e) (by simpa using f)⟩
 | [],b::m,h,_=>by simp at h
 | a::l,[],h,_=>by simp at h
theorem aO.set{α β:Type}{R:α->β->Prop}:∀{l:List α}{m:List β},aO R l m->∀{i:Nat}{x:α}{y:β},R x y->aO R (l.set i x) (m.set i y)
 | [],[],_,_,_,_,_=>trivial
 | _::_,_::_,⟨_,t⟩,0,_,_,h=>⟨h,t⟩
 | _::_,_::_,⟨s,t⟩,_+1,_,_,h=>⟨s,aO.set t h⟩
def ay(η:Eta)(Z:av):W->Value->Prop
 | .ptr n off,v=>dZ η (n,off) v
 | .pe n off i,v=>dZ η (n,off+i) v
 | .sl n off len sz,v=>(len=0/\v=.slice none 0 0)∨∃ p c a,η n=some p/\v=.slice (some a) len c/\len<=c/\off+c*sz<=p.room/\(c=0∨a=⟨p.block,p.off+off,none⟩)
 | .func f caps,v=>∃ vs,v=.func (.func f) #[] vs.toArray/\aO (dZ η) caps vs
 | .yield l,v=>v=.func (.yield l) #[] #[]
 | .dL,_=>True
 | .mp n,v=>∃ p,η n=some p/\v=.map (some p.block)
 | .ba n,v=>∃ p,η n=some p/\p.off=0/\(v=.pointer none∨v=.pointer (some ⟨p.block,0,none⟩))
 | .oh f n off,v=>∃ u,v=.func (.func f) #[u] #[]/\dZ η (n,off) u
 | .row n i len,v=>∃ p r c ad,η n=some p/\p.aA[i]? = some r/\v=.slice ad len c/\len<=c/\(0<len->ad=some ⟨r.1,r.2,none⟩)
 | .l9 n,v=>v=.int .u8 n
 | .pR n i j,v=>∃ p r,η n=some p/\p.aA[i]? = some r/\v=.pointer (some ⟨r.1,r.2+j,none⟩)
 | x,v=>aL Z x v
theorem dZ.mono{η aF:Eta}(h:η.le aF){a:Nat×Nat}{v:Value}:dZ η a v->dZ aF a v:=fun⟨p,e,f⟩=>⟨p,h _ _ e,f⟩
theorem ay.mono{η aF:Eta}{Z Z':av}(h:η.le aF)(hz:Z.le Z'):∀{x:W}{v:Value},ay η Z x v->ay aF Z' x v
 | .ptr _ _,_,e=>dZ.mono h e
 | .pe _ _ _,_,e=>dZ.mono h e
 | .sl _ _ _ _,_,.inl e=>.inl e
 | .sl _ _ _ _,_,.inr ⟨p,c,a,e,r⟩=>.inr ⟨p,c,a,h _ _ e,r⟩
 | .func _ _,_,⟨vs,e,r⟩=>⟨vs,e,r.mono fun _ _=>dZ.mono h⟩
 | .yield _,_,e=>e
 | .dL,_,_=>trivial
 | .mp _,_,⟨p,e,r⟩=>⟨p,h _ _ e,r⟩
 | .ba _,_,⟨p,e,r⟩=>⟨p,h _ _ e,r⟩
 | .oh _ _ _,_,⟨u,e,r⟩=>⟨u,e,dZ.mono h r⟩
 | .row _ _ _,_,⟨p,r,c,ad,e,f⟩=>⟨p,r,c,ad,h _ _ e,f⟩
 | .pR _ _ _,_,⟨p,r,e,f⟩=>⟨p,r,h _ _ e,f⟩
 | .l9 _,_,e=>e
 | .bool _,_,e | .int _ _,_,e | .str _,_,e | .ef,_,e | .nil,_,e | .ro _ _,_,e | .rp _ _,_,e | .rd _ _,_,e | .re _ _ _,_,e | .mD,_,e | .kO,_,e | .val _,_,e | .mh,_,e | .th _ _,_,e | .rs _ _,_,e | .y8 _,_,e=>aL.mono hz e
theorem aL.Qc{η:Eta}{Z:av}:∀{x:W}{v:Value},aL Z x v->ay η Z x v
 | .bool _,_,e | .int _ _,_,e | .str _,_,e | .ef,_,e | .nil,_,e | .ro _ _,_,e | .rp _ _,_,e | .rd _ _,_,e | .re _ _ _,_,e | .mD,_,e | .kO,_,e | .val _,_,e | .rs _ _,_,e | .y8 _,_,e=>e
 | .func f caps,v,e=>by
   simp only[aL] at e;obtain⟨rfl,rfl⟩:=e;exact⟨[],rfl,trivial⟩
 | .ptr _ _,_,e=>by simp only[aL] at e
 | .pe _ _ _,_,e=>by simp only[aL] at e
 | .sl _ _ _ _,_,e=>by simp only[aL] at e
 | .yield _,_,e=>by simp only[aL] at e
 | .dL,_,e=>by simp only[aL] at e
 | .mp _,_,e=>by simp only[aL] at e
 | .mh,_,e=>by simp only[aL] at e
 | .ba _,_,e=>by simp only[aL] at e
 | .oh _ _ _,_,e=>by simp only[aL] at e
 | .th _ _,_,e=>by simp only[aL] at e
 | .row _ _ _,_,e=>by simp only[aL] at e
 | .pR _ _ _,_,e=>by simp only[aL] at e
 | .l9 _,_,e=>by simp only[aL] at e
def W.clean:W->Bool
 | .ptr _ _ | .pe _ _ _ | .sl _ _ _ _ | .yield _ | .dL | .mp _ | .mh | .ba _ | .oh _ _ _ | .th _ _ | .row _ _ _ | .pR _ _ _ | .l9 _=>false
 | .func _ caps=>caps.isEmpty
 | _=>true
theorem ay.frel{η:Eta}{Z:av}:∀{x:W}{v:Value},x.clean=true->ay η Z x v->aL Z x v
 | .bool _,_,_,e | .int _ _,_,_,e | .str _,_,_,e | .ef,_,_,e | .nil,_,_,e | .ro _ _,_,_,e | .rp _ _,_,_,e | .rd _ _,_,_,e | .re _ _ _,_,_,e | .mD,_,_,e | .kO,_,_,e | .val _,_,_,e | .rs _ _,_,_,e | .y8 _,_,_,e=>e
 | .func f [],v,_,⟨vs,e,r⟩=>by
   cases vs with
   | nil=>simp only[aL];exact⟨trivial,e⟩
   | cons _ _=>exact r.elim
 | .func f (_::_),v,h,_=>by simp[W.clean] at h
 | .ptr _ _,_,h,_=>by simp[W.clean] at h
 | .pe _ _ _,_,h,_=>by simp[W.clean] at h
 | .sl _ _ _ _,_,h,_=>by simp[W.clean] at h
 | .yield _,_,h,_=>by simp[W.clean] at h
 | .dL,_,h,_=>by simp[W.clean] at h
 | .mp _,_,h,_=>by simp[W.clean] at h
 | .mh,_,h,_=>by simp[W.clean] at h
 | .ba _,_,h,_=>by simp[W.clean] at h
 | .oh _ _ _,_,h,_=>by simp[W.clean] at h
 | .th _ _,_,h,_=>by simp[W.clean] at h
 | .row _ _ _,_,h,_=>by simp[W.clean] at h
 | .pR _ _ _,_,h,_=>by simp[W.clean] at h
 | .l9 _,_,h,_=>by simp[W.clean] at h
def PV.w:PV->W
 | .int n=>.int .i64 n
 | .bool b=>.bool b
 | .str s=>.str s
 | .strs l=>.rd .str l
 | .aH sz l=>.rs sz l
def D.w:(d:D)->d.ty->W
 | .int k,n=>.int k n
 | .bool,b=>.bool b
 | .str,s=>.str s
 | .sl d,l=>.rd d l
 | .pv,x=>PV.w x
theorem dV.strs{Z:av}{l:List ByteArray}{v:Value}:cM Z (.sl .str) l v↔dV Z (.strs l) v:=by
 simp only[cM,dV]
theorem PV.Zz{Z:av}{x:PV}{v:Value}:aL Z x.w v↔dV Z x v:=by
 cases x<;>simp only[PV.w,aL]<;>first|exact dV.strs|simp only[dV]
theorem PV.fO{η:Eta}{Z:av}{x:PV}{v:Value}:ay η Z x.w v↔dV Z x v:=by
 cases x<;>simp only[PV.w,ay,aL]<;>first|exact dV.strs|simp only[dV]
theorem D.fO{η:Eta}{Z:av}:∀(d:D){x:d.ty}{v:Value},ay η Z (d.w x) v↔cM Z d x v
 | .int _,_,_=>by simp only[D.w,ay,aL,cM]
 | .bool,_,_=>by simp only[D.w,ay,aL,cM]
 | .str,_,_=>by simp only[D.w,ay,aL,cM]
 | .sl _,_,_=>by simp only[D.w,ay,aL]
 | .pv,x,_=>PV.fO (x:=x)
theorem D.jv:∀(d:D)(x:d.ty),d.w x≠.dL
 | .int _,_=>by simp[D.w]
 | .bool,_=>by simp[D.w]
 | .str,_=>by simp[D.w]
 | .sl _,_=>by simp[D.w]
 | .pv,x=>by cases x<;>simp[D.w,PV.w]
theorem D.w_mh:∀(d:D)(x:d.ty),d.w x≠.mh
 | .int _,_=>by simp[D.w]
 | .bool,_=>by simp[D.w]
 | .str,_=>by simp[D.w]
 | .sl _,_=>by simp[D.w]
 | .pv,x=>by cases x<;>simp[D.w,PV.w]
theorem D.w_by{n:Int}:∀(d:D)(x:d.ty),d.w x≠.l9 n
 | .int _,_=>by simp[D.w]
 | .bool,_=>by simp[D.w]
 | .str,_=>by simp[D.w]
 | .sl _,_=>by simp[D.w]
 | .pv,x=>by cases x<;>simp[D.w,PV.w]
def PV.of:W->Option PV
 | .int .i64 n=>some (.int n)
 | .bool b=>some (.bool b)
 | .str s=>some (.str s)
 | .rd .str l=>some (.strs l)
 | .rs sz l=>some (.aH sz l)
 | _=>none
theorem PV.of_eq{x:W}{y:PV}(e:PV.of x=some y):x=y.w:=by
 unfold PV.of at e;split at e<;>cases e<;>rfl
def D.of:(d:D)->W->Option d.ty
 | .int k,.int k' n=>if k'=k then some n else none
 | .bool,.bool b=>some b
 | .str,.str s=>some s
 | .sl d,.rd d' l=>if h:d'=d then some (h▸l) else none
 | .sl d,.nil=>some ([]:List d.ty)
 | .pv,x=>PV.of x
 | _,_=>none
theorem D.of_rel{Z:av}{d:D}{x:W}{y:d.ty}(e:d.of x=some y){v:Value}(h:aL Z x v):cM Z d y v:=by
 by_cases hd:d=.pv;subst hd;have e:PV.of x=some y:=by cases x<;>exact e
 rw[PV.of_eq e] at h;exact PV.Zz.1 h;cases d<;>(try exact absurd rfl hd)<;>clear hd<;>cases x<;>simp only[D.of] at e<;>try cases e
 rename_i k k' n;split at e;rename_i hk;subst hk;cases e;simpa only[aL,cM] using h;cases e;simpa only[aL,cM] using h;simpa only[aL,cM] using h;simp only[aL] at h;subst h;exact⟨none,0,0,rfl,rfl,Nat.le_refl _,.inl rfl⟩;rename_i d d' l;split at e;rename_i hk;subst hk;cases e;simpa only[aL] using h;cases e
theorem D.Ww{d:D}{x:W}{y:d.ty}(e:d.of x=some y):x.clean=true:=by
 by_cases hd:d=.pv;subst hd;have e:PV.of x=some y:=by cases x<;>exact e
 rw[PV.of_eq e];cases y<;>rfl;cases d<;>(try exact absurd rfl hd)<;>clear hd<;>cases x<;>simp only[D.of] at e<;>first|rfl|cases e
def dI(η:Eta)(Z:av):V->Value->Prop
 | .c x,v=>x≠.dL/\ay η Z x v
 | .agg cs,v=>∃ vs,v=.agg vs.toArray/\(∀ x∈cs,x≠.dL)/\aO (ay η Z) cs vs
def cH(η:Eta)(Z:av):A->Value->Prop
 | .p x,v=>dI η Z x v
 | .bC xs,v=>∃ vs,v=.tuple vs.toArray/\aO (dI η Z) xs vs
 | .cond c x,v=>(c->dI η Z x v)/\(¬c->v=undef)
 | .dec b,v=>v=.bool b
theorem dI.mono{η aF:Eta}{Z Z':av}(h:η.le aF)(hz:Z.le Z'):∀{x:V}{v:Value},dI η Z x v->dI aF Z' x v
 | .c _,_,⟨n,e⟩=>⟨n,ay.mono h hz e⟩
 | .agg _,_,⟨vs,e,n,r⟩=>⟨vs,e,n,r.mono fun _ _=>ay.mono h hz⟩
theorem cH.mono{η aF:Eta}{Z Z':av}(h:η.le aF)(hz:Z.le Z'):∀{x:A}{v:Value},cH η Z x v->cH aF Z' x v
 | .p _,_,e=>dI.mono h hz e
 | .bC _,_,⟨vs,e,r⟩=>⟨vs,e,r.mono fun _ _=>dI.mono h hz⟩
 | .cond _ _,_,e=>⟨fun hc=>dI.mono h hz (e.1 hc),e.2⟩
 | .dec _,_,e=>e
abbrev Fr:=T A
def aW(n:Nat)(η:Eta)(Z:av)(F:Fr)(tmps:Array Value):Prop:=tmps.size=n/\∀ i x,F.get i=some x->∃ v,tmps[i]? = some v/\cH η Z x v
theorem aW.mono{n:Nat}{η aF:Eta}{Z Z':av}(h:η.le aF)(hz:Z.le Z'){F:Fr}{tmps:Array Value}(r:aW n η Z F tmps):aW n aF Z' F tmps :=
 ⟨r.1,fun i x e=>let ⟨v,a,b⟩:=r.2 i x e;⟨v,a,cH.mono h hz b⟩⟩
theorem aW.set{n:Nat}{η:Eta}{Z:av}{F:Fr}{tmps:Array Value}(r:aW n η Z F tmps){i:Nat}{x:A}{v:Value}(hi:i<n)(h:cH η Z x v) :
 aW n η Z (F.set i x) (tmps.setIfInBounds i v):=by
 refine⟨by simpa using r.1,fun j y e=>?_⟩;rw[T.mz] at e;by_cases hj:j=i;subst hj;rw[if_pos rfl] at e;cases e;exact⟨v,by rw[Array.getElem?_setIfInBounds_self_of_lt (by rw[r.1];exact hi)],h⟩;rw[if_neg hj] at e;obtain⟨u,a,b⟩:=r.2 j y e;exact⟨u,by rw[Array.getElem?_setIfInBounds_ne (by omega)];exact a,b⟩
inductive Fd where
 | c (x:W)
 | a (n:Nat) (d:D) (l:List d.ty)
 | m (kd vd:D) (l:List (kd.ty×vd.ty))
 | b (l:List Int)
def ol(kd vd:D):List (kd.ty×vd.ty)->List W
 | []=>[]
 | (k,v)::l=>kd.w k::vd.w v::ol kd vd l
def Fd.cells:Fd->List W
 | .c x=>[x]
 | .a _ d l=>l.map d.w
 | .m kd vd l=>.mh::ol kd vd l
 | .b l=>l.map W.l9
structure Ob where
 ty:TypeId
 fs:List Fd
def Ob.cells(o:Ob):List W:=o.fs.flatMap Fd.cells
def Ob.of(ty:TypeId)(cs:List W):Ob:=⟨ty,cs.map .c⟩
theorem vT(cs:List W):(cs.map Fd.c).flatMap Fd.cells=cs:=by
 induction cs with
 | nil=>rfl
 | cons x cs ih=>simp[Fd.cells,ih]
@[simp] theorem Ob.eU(ty:TypeId)(cs:List W):(Ob.of ty cs).cells=cs:=vT cs
@[simp] theorem Ob.of_ty(ty:TypeId)(cs:List W):(Ob.of ty cs).ty=ty:=rfl
structure Gh where
 l:Nat
 d:D
 ys:List d.ty
 two:Bool:=false
structure af where
 next:Nat
 ak:List (Nat×Ob)
 cX:Option Gh:=none
def find(l:List (Nat×Ob))(n:Nat):Option Ob :=
 match l with
 | []=>none
 | (k,o)::l=>if k=n then some o else find l n
def af.get(S:af)(n:Nat):Option Ob:=find S.ak n
def put(l:List (Nat×Ob))(n:Nat)(o:Ob):List (Nat×Ob) :=
 match l with
 | []=>[]
 | (k,x)::l=>if k=n then(k,o)::l else(k,x)::put l n o
def del(l:List (Nat×Ob))(n:Nat):List (Nat×Ob) :=
 match l with
 | []=>[]
 | (k,x)::l=>if k=n then del l n else(k,x)::del l n
def af.put(S:af)(n:Nat)(o:Ob):af:={ S with ak:=aU.put S.ak n o }
def af.del(S:af)(n:Nat):af:={ S with ak:=aU.del S.ak n }
def af.skip(S:af):af:={ S with next:=S.next+1 }
def af.add(S:af)(o:Ob):af:={ S with next:=S.next+1,ak:=S.ak++[(S.next,o)] }
theorem Wx{l:List (Nat×Ob)}{n m:Nat}{o:Ob}:find (put l n o) m=if m=n then(find l n).map (fun _=>o) else find l m:=by
 induction l with
 | nil=>simp[put,find]
 | cons x l ih =>
   obtain⟨k,x⟩:=x;simp only[put];by_cases hk:k=n;subst hk;rw[if_pos rfl];simp only[find];by_cases hm:m=k;subst hm;simp;rw[if_neg (by omega),if_neg hm,if_neg (by omega)];rw[if_neg hk];simp only[find,ih];by_cases hm:m=n;subst hm;rw[if_neg hk,if_pos rfl,if_pos rfl,if_neg hk];rw[if_neg hm,if_neg hm]
theorem Wy{l:List (Nat×Ob)}{n m:Nat}:find (del l n) m=if m=n then none else find l m:=by
 induction l with
 | nil=>simp[del,find]
 | cons x l ih =>
   obtain⟨k,x⟩:=x;simp only[del];by_cases hk:k=n;subst hk;rw[if_pos rfl,ih];simp only[find];by_cases hm:m=k;rw[if_pos hm,if_pos hm];rw[if_neg hm,if_neg hm,if_neg (by omega)];rw[if_neg hk];simp only[find,ih];by_cases hm:m=n;subst hm;rw[if_neg hk,if_pos rfl,if_pos rfl];rw[if_neg hm,if_neg hm]
theorem vv{l l':List (Nat×Ob)}{m:Nat}:find (l++l') m=match find l m with|some o=>some o|none=>find l' m:=by
 induction l with
 | nil=>simp[find]
 | cons x l ih =>
   obtain⟨k,x⟩:=x;simp only[List.cons_append,find];by_cases hk:k=m;rw[if_pos hk,if_pos hk];rw[if_neg hk,if_neg hk,ih]
theorem af.jC{S:af}{n m:Nat}{o:Ob}:(S.put n o).get m=if m=n then(S.get n).map (fun _=>o) else S.get m:=Wx
theorem af.iB{S:af}{n m:Nat}:(S.del n).get m=if m=n then none else S.get m:=Wy
def Ob.isMap(o:Ob):Prop:=o.cells[0]? = some .mh
def Ob.j5(o:Ob)(k:Nat)(aA:List (List Int)):Prop:=o.cells[0]? = some (.th k aA)
def Ob.gG(o:Ob):Prop:=o.isMap∨∃ k aA,o.j5 k aA
theorem Ob.Ft{o:Ob}{k:Nat}{aA:List (List Int)}(h:o.isMap)(h':o.j5 k aA):False:=by
 unfold Ob.isMap at h;unfold Ob.j5 at h';rw[h] at h';cases h'
theorem Ob.isT_T{o:Ob}{k k':Nat}{aA rows':List (List Int)}(h:o.j5 k aA)(h':o.j5 k' rows'):k'=k/\rows'=aA:=by
 unfold Ob.j5 at h h';rw[h] at h';cases h';exact⟨rfl,rfl⟩
def cD.sats(p:cD):List Nat:=p.aA.map (·.1)
def cD.has(p:cD)(b:Nat):Prop:=p.block=b∨b∈p.sats
theorem cD.iQ(p:cD):p.has p.block:=.inl rfl
theorem cD.NG{p:cD}{i:Nat}{r:Nat×Nat}(h:p.aA[i]? = some r):p.has r.1:=.inr (List.mem_map.2 ⟨r,List.mem_of_getElem? h,rfl⟩)
theorem cD.vU{b off room c:Nat}(h:(⟨b,off,room,[]⟩:cD).has c):c=b:=by
 rcases h with h|h;exact h.symm;cases h
def fF(η:Eta)(Z:av):List W->List MapEntry->Prop
 | [],[]=>True
 | k::v::l,e::es=>(k≠.dL/\ay η Z k e.key)/\(v≠.dL/\ay η Z v e.val)/\fF η Z l es
 | _,_=>False
theorem fF.map{η aF:Eta}{Z Z':av}{g:W->W->Prop}(h:∀ x y v,g x y->ay η Z x v->y≠.dL/\ay aF Z' y v):∀{l l':List W}{es:List MapEntry},l'.length=l.length->(∀(i:Nat) y,l'[i]? = some y->∃ x,l[i]? = some x/\g x y)->fF η Z l es->fF aF Z' l' es
 | [],[],[],_,_,_=>trivial
 | k::v::l,[],_,e,_,_=>by simp at e
 | k::v::l,[_],_,e,_,_=>by simp at e
 | k::v::l,k'::v'::l',e::es,hl,hg,⟨⟨_,h1⟩,⟨_,h2⟩,h3⟩=>by
   obtain⟨x,hx,gx⟩:=hg 0 k' rfl;obtain⟨y,hy,gy⟩:=hg 1 v' rfl;cases hx;cases hy;exact⟨h _ _ _ gx h1,h _ _ _ gy h2,fF.map h (by simpa using hl) (fun i y hy=>by simpa using hg (i+2) y (by simpa using hy)) h3⟩
 | [_],_,_,_,_,h=>by simp[fF] at h
theorem fF.mono{η aF:Eta}{Z Z':av}(h:η.le aF)(hz:Z.le Z'):∀{l:List W}{es:List MapEntry},fF η Z l es->fF aF Z' l es
 | [],[],_=>trivial
 | _::_::_,_::_,⟨⟨a,b⟩,⟨c,d⟩,e⟩=>⟨⟨a,b.mono h hz⟩,⟨c,d.mono h hz⟩,fF.mono h hz e⟩
 | [_],_,h=>by simp[fF] at h
structure qC(k:Nat)(aA:List (List Int))(ty:TypeId)(p:cD)(w:World):Prop where
 outer:∃ c fz,w.heap[p.block]? = some (.cells c ty fz)/\p.off+p.room<=c.size/\(∀(i:Nat) r,p.aA[i]? = some r->∃ cp ad,c[p.off+i]? = some (.slice ad k cp)/\k<=cp/\(0<k->ad=some ⟨r.1,r.2,none⟩))/\(∀ j,p.off<=j->j<c.size->¬(fz.1<=j/\j<fz.2))
 len:p.aA.length=aA.length
 room:aA.length<=p.room
 row:∀(i:Nat) r l,p.aA[i]? = some r->aA[i]? = some l->l.length=k/\∃ c t fz,w.heap[r.1]? = some (.cells c t fz)/\r.2+k<=c.size/\(∀(j:Nat) x,l[j]? = some x->c[r.2+j]? = some (.int .i64 x))/\(∀ j,r.2<=j->j<c.size->¬(fz.1<=j/\j<fz.2))
 nodup:(p.block::p.sats).Nodup
theorem qC.mono{k:Nat}{aA:List (List Int)}{ty:TypeId}{p:cD}{w w':World}(L:qC k aA ty p w)(e:∀ b,p.has b->w'.heap[b]? = w.heap[b]?):qC k aA ty p w' where
 outer:=let ⟨c,fz,h1,h2⟩:=L.outer;⟨c,fz,(e _ p.iQ).trans h1,h2⟩
 len:=L.len
 room:=L.room
 row:=fun i r l hr hl=>let ⟨h0,c,t,fz,h1,h2⟩:=L.row i r l hr hl;⟨h0,c,t,fz,(e _ (cD.NG hr)).trans h1,h2⟩
 nodup:=L.nodup
def Ob.bytes(o:Ob):Prop:=∀ x∈o.cells,∃ n,x=W.int .u8 n
def Ob.wb(o:Ob):Prop:=o.cells≠[]/\∀ x∈o.cells,∃ n,x=W.l9 n
theorem Ob.s8{o:Ob}{x:W}(hx:x∈o.cells)(h:∀ n,x≠.l9 n):¬o.wb:=fun hw=>let ⟨n,e⟩:=hw.2 x hx;h n e
theorem Ob.qD{o:Ob}{d:D}{l:List d.ty}(h:o.cells=l.map d.w):¬o.wb:=by
 rintro⟨h1,h2⟩;cases l with
 | nil=>exact h1 (by rw[h];rfl)
 | cons x l =>
   obtain⟨n,e⟩:=h2 (d.w x) (by rw[h];simp);exact D.w_by d x e
def y9(m:Nat)(o:Ob)(p:cD)(fz:Nat×Nat):Prop:=(fz.1=fz.2∨fz.2<=p.off)∨(o.bytes/\fz.2<=p.off+o.cells.length)∨(o.wb/\m<=fz.1)
theorem y9.plain{m:Nat}{o:Ob}{p:cD}{fz:Nat×Nat}(h:y9 m o p fz)(hb:¬o.bytes)(hw:¬o.wb):fz.1=fz.2∨fz.2<=p.off:=by
 rcases h with h|h|h;exact h;exact absurd h.1 hb;exact absurd h.1 hw
theorem y9.strong{m:Nat}{o:Ob}{p:cD}{fz:Nat×Nat}(h:y9 m o p fz)(hb:¬o.bytes):∀ k,p.off<=k->k<m->¬(fz.1<=k/\k<fz.2):=by
 intro k a _;rcases h with h|h|h;omega;exact absurd h.1 hb;omega
theorem y9.tail{m:Nat}{o:Ob}{p:cD}{fz:Nat×Nat}(h:y9 m o p fz):fz.1=fz.2∨fz.2<=p.off+o.cells.length∨(o.wb/\m<=fz.1):=by
 rcases h with (h|h)|h|h;exact .inl h;exact .inr (.inl (by omega));exact .inr (.inl h.2);exact .inr (.inr h)
structure fQ(η:Eta)(Z:av)(o:Ob)(p:cD)(w:World):Prop where
 there:¬o.gG->∃ c fz,w.heap[p.block]? = some (.cells c o.ty fz)/\p.off+p.room<=c.size/\(∀(i:Nat) x,o.cells[i]? = some x->∃ v,c[p.off+i]? = some v/\ay η Z x v/\v.oneCell'=true)/\y9 c.size o p fz
 size:¬o.gG->o.cells.length<=p.room
 tabs:∀ k aA,o.j5 k aA->qC k aA o.ty p w
 maps:o.isMap->∃ es clock,w.heap[p.block]? = some (.map es clock)/\fF η Z o.cells.tail es.toList
def pS:Obj->Bool
 | .cells _ _ _=>true
 | .map _ _=>true
 | _=>false
theorem fQ.data{η:Eta}{Z:av}{o:Ob}{p:cD}{w:World}(L:fQ η Z o p w):∃ ob,w.heap[p.block]? = some ob/\pS ob=true:=by
 by_cases h:o.gG;rcases h with h|⟨k,aA,h⟩;obtain⟨es,k,e,_⟩:=L.maps h;exact⟨_,e,rfl⟩;obtain⟨c,fz,e,_⟩:=(L.tabs k aA h).outer;exact⟨_,e,rfl⟩;obtain⟨c,fz,e,_⟩:=L.there h;exact⟨_,e,rfl⟩
theorem fQ.plain{η:Eta}{Z:av}{o:Ob}{p:cD}{w:World}(hm:¬o.gG) (h:∃ c fz,w.heap[p.block]? = some (.cells c o.ty fz)/\p.off+p.room<=c.size/\(∀(i:Nat) x,o.cells[i]? = some x->∃ v,c[p.off+i]? = some v/\ay η Z x v/\v.oneCell'=true)/\
 (fz.1=fz.2∨fz.2<=p.off)) (hs:o.cells.length<=p.room):fQ η Z o p w :=
 ⟨fun _=>let ⟨c,fz,a,b,d,e⟩:=h;⟨c,fz,a,b,d,.inl e⟩,fun _=>hs,fun k aA ht=>absurd (.inr ⟨k,aA,ht⟩) hm,fun ht=>absurd (.inl ht) hm⟩
theorem fQ.DZ{η:Eta}{Z:av}{o:Ob}{p:cD}{w:World}(hm:¬o.gG)(h:∃ c fz,w.heap[p.block]? = some (.cells c o.ty fz)/\p.off+p.room<=c.size/\(∀(i:Nat) x,o.cells[i]? = some x->∃ v,c[p.off+i]? = some v/\ay η Z x v/\v.oneCell'=true)/\y9 c.size o p fz)(hs:o.cells.length<=p.room):fQ η Z o p w :=
 ⟨fun _=>h,fun _=>hs,fun k aA ht=>absurd (.inr ⟨k,aA,ht⟩) hm,fun ht=>absurd (.inl ht) hm⟩
theorem fQ.map{η:Eta}{Z:av}{o:Ob}{p:cD}{w:World}(hm:o.isMap)(h:∃ es clock,w.heap[p.block]? = some (.map es clock)/\fF η Z o.cells.tail es.toList):fQ η Z o p w :=
 ⟨fun hn=>absurd (.inl hm) hn,fun hn=>absurd (.inl hm) hn,fun _ _ ht=>(Ob.Ft hm ht).elim,fun _=>h⟩
theorem fQ.tab{η:Eta}{Z:av}{o:Ob}{p:cD}{w:World}{k:Nat}{aA:List (List Int)}(hm:o.j5 k aA)(h:qC k aA o.ty p w):fQ η Z o p w :=
 ⟨fun hn=>absurd (.inr ⟨_,_,hm⟩) hn,fun hn=>absurd (.inr ⟨_,_,hm⟩) hn,fun k' rows' ht=>by obtain⟨rfl,rfl⟩:=Ob.isT_T hm ht;exact h,fun ht=>(Ob.Ft ht hm).elim⟩
structure St(base:Nat)(η:Eta)(Z:av)(S:af)(w:World):Prop where
 ak:∀ n o p,S.get n=some o->η n=some p->base<=p.block/\Z p.block=none/\fQ η Z o p w
 cX:∀ n o,S.get n=some o->η n=none->o.cells=[]
 known:∀ n o,S.get n=some o->n<S.next
 j6:∀ n n' o o' p p' b,S.get n=some o->S.get n'=some o'->n≠n'->η n=some p->η n'=some p'->p.has b->¬p'.has b
 zs:∀ b cs,Z b=some cs->∃ ty fz,w.heap[b]? = some (.cells cs ty fz)
 fresh:∀ n,S.next<=n->η n=none
 iF:base<=w.heap.size
 sat:∀ n o p,S.get n=some o->η n=some p->∀ b∈p.sats,base<=b/\Z b=none/\∃ ob,w.heap[b]? = some ob/\pS ob=true
theorem St.inj{base:Nat}{η:Eta}{Z:av}{S:af}{w:World}(R:St base η Z S w):∀ n n' o o' p p',S.get n=some o->S.get n'=some o'->n≠n'->η n=some p->η n'=some p'->p.block≠p'.block :=
 fun n n' o o' p p' h h' hn hp hp' e=>R.j6 n n' o o' p p' _ h h' hn hp hp' p.iQ (.inl e.symm)
theorem St.lt{base:Nat}{η:Eta}{Z:av}{S:af}{w:World}(R:St base η Z S w){n:Nat}{p:cD}(h:η n=some p):n<S.next:=by
 rcases Nat.lt_or_ge n S.next with k|k
 exact k;rw[R.fresh n k] at h;cases h
theorem dF{w:World}{b:Nat}{o:Obj}(h:w.heap[b]? = some o):b<w.heap.size:=by
 rcases Nat.lt_or_ge b w.heap.size with k|k;exact k;rw[Array.getElem?_eq_none k] at h;cases h
theorem St.Wz{base:Nat}{η:Eta}{Z:av}{S:af}{w:World}(R:St base η Z S w){n:Nat}{o:Ob}{p:cD}(h:S.get n=some o)(hp:η n=some p):p.block<w.heap.size:=by
 obtain⟨_,_,L⟩:=R.ak n o p h hp;obtain⟨c,hc,_⟩:=L.data;exact dF hc
theorem St.all{base:Nat}{η:Eta}{Z:av}{S:af}{w:World}(R:St base η Z S w){n:Nat}{o:Ob}{p:cD}(h:S.get n=some o)(hp:η n=some p){b:Nat}(hb:p.has b):base<=b/\Z b=none/\∃ ob,w.heap[b]? = some ob/\pS ob=true:=by
 rcases hb with rfl|hb;obtain⟨h1,h2,L⟩:=R.ak n o p h hp;exact⟨h1,h2,L.data⟩;exact R.sat n o p h hp b hb
theorem St.j7{base:Nat}{η:Eta}{Z:av}{S:af}{w:World}(R:St base η Z S w){n:Nat}{o:Ob}{p:cD}(h:S.get n=some o)(hp:η n=some p){b:Nat}(hb:p.has b):b<w.heap.size:=by
 obtain⟨_,_,ob,e,_⟩:=R.all h hp hb;exact dF e
theorem St.WA{base:Nat}{η:Eta}{Z:av}{S:af}{w:World}(R:St base η Z S w){b:Nat}{c:Array Value}(h:Z b=some c):b<w.heap.size:=by
 obtain⟨ty,fz,e⟩:=R.zs b c h;exact dF e
def Own(η:Eta)(S:af)(b:Nat):Prop:=∃ n o p,S.get n=some o/\η n=some p/\p.has b
structure Step(η:Eta)(Z:av)(S:af)(w:World)(aF:Eta)(Z':av)(S':af)(w':World):Prop where
 os:w'.os=w.os
 tape:w'.tape=w.tape
 output:w'.output=w.output
 size:w.heap.size<=w'.heap.size
 block:∀ b,b<w.heap.size->¬Own η S b->w'.heap[b]? = w.heap[b]?
 own:∀ b,Own aF S' b->Own η S b∨w.heap.size<=b
 dh:Z.le Z'
 iL:∀ b c,Z' b=some c->Z b=some c∨Own η S b∨w.heap.size<=b
 gh:S'.cX=S.cX
theorem Step.refl(η:Eta)(Z:av)(S:af)(w:World):Step η Z S w η Z S w :=
 ⟨rfl,rfl,rfl,Nat.le_refl _,fun _ _ _=>rfl,fun _ h=>.inl h,av.le.refl _,fun _ _ h=>.inl h,rfl⟩
theorem Step.trans{η fG gH:Eta}{Z Z1 Z2:av}{S S1 S2:af}{w w1 w2:World}(h:Step η Z S w fG Z1 S1 w1)(k:Step fG Z1 S1 w1 gH Z2 S2 w2):Step η Z S w gH Z2 S2 w2 where
 os:=k.os.trans h.os
 tape:=k.tape.trans h.tape
 output:=k.output.trans h.output
 size:=Nat.le_trans h.size k.size
 block:=fun b hb ho=>(k.block b (Nat.lt_of_lt_of_le hb h.size) (fun ho'=>by
  rcases h.own b ho' with hh|hh;exact ho hh;omega)).trans (h.block b hb ho)
 own:=fun b ho=>by
  rcases k.own b ho with hh|hh;exact h.own b hh;exact .inr (Nat.le_trans h.size hh)
 dh:=h.dh.trans k.dh
 iL:=fun b c hc=>by
  rcases k.iL b c hc with hh|hh|hh;exact h.iL b c hh;exact .inr (h.own b hh);exact .inr (.inr (Nat.le_trans h.size hh))
 gh:=k.gh.trans h.gh
structure qE(base:Nat)(η:Eta)(Z:av)(S:af)(w:World)(aF:Eta)(S':af)(w':World):Prop where
 le:η.le aF
 st:St base aF Z S' w'
 step:Step η Z S w aF Z S' w'
def Eta.add(η:Eta)(n:Nat)(p:cD):Eta:=fun i=>if i=n then some p else η i
theorem Eta.gj{η:Eta}{n:Nat}{p:cD}:(η.add n p) n=some p:=by unfold Eta.add;rw[if_pos rfl]
theorem Eta.jm{η:Eta}{n m:Nat}{p:cD}(h:m≠n):(η.add n p) m=η m:=by unfold Eta.add;rw[if_neg h]
theorem Eta.s9{η:Eta}{n:Nat}{p:cD}(h:η n=none):η.le (η.add n p):=by
 intro i q e;unfold Eta.add;by_cases hi:i=n;subst hi;rw[h] at e;cases e;rw[if_neg hi];exact e
theorem fQ.mono{η aF:Eta}{Z Z':av}{o:Ob}{p:cD}{w w':World}(h:η.le aF)(hz:Z.le Z')(L:fQ η Z o p w)(es:∀ b,p.has b->w'.heap[b]? = w.heap[b]?):fQ aF Z' o p w':=by
 have e:=es _ p.iQ;refine⟨fun hm=>?_,L.size,fun k aA ht=>(L.tabs k aA ht).mono es,fun hm=>?_⟩;obtain⟨c,fz,h1,h2,h3,h4⟩:=L.there hm;exact⟨c,fz,e.trans h1,h2,fun i x hx=>let ⟨v,a,b,d⟩:=h3 i x hx;⟨v,a,b.mono h hz,d⟩,h4⟩;obtain⟨es,k,h1,h2⟩:=L.maps hm;exact⟨es,k,e.trans h1,h2.mono h hz⟩
theorem af.fU{S:af}{o:Ob}{m:Nat}(h:S.get S.next=none):(S.add o).get m=if m=S.next then some o else S.get m:=by
 show find (S.ak++[(S.next,o)]) m=_;rw[vv];by_cases hm:m=S.next
 . subst hm;have:find S.ak S.next=none:=h
   rw[this,if_pos rfl];simp[find]
 . rw[if_neg hm];show (match find S.ak m with|some o=>some o|none=>find [(S.next,o)] m)=find S.ak m;cases e:find S.ak m with
   | some x=>rfl
   | none=>simp only[find];rw[if_neg (by omega)]
theorem St.fJ{base:Nat}{η:Eta}{Z:av}{S:af}{w:World}(R:St base η Z S w):S.get S.next=none:=by
 cases e:S.get S.next with
 | none=>rfl
 | some o =>
   exact absurd (R.known _ _ e) (Nat.lt_irrefl _)
theorem St.push{base:Nat}{η:Eta}{Z:av}{S:af}{w w':World}(R:St base η Z S w)(o:Ob)(ob:Obj)(room:Nat)(hw:w'.heap=w.heap.push ob)(hos:w'.os=w.os)(nG:w'.tape=w.tape)(hout:w'.output=w.output)
 (hL:∀ aF,η.le aF->fQ aF Z o ⟨w.heap.size,0,room,[]⟩ w') :
 qE base η Z S w (η.add S.next ⟨w.heap.size,0,room,[]⟩) (S.add o) w'/\(η.add S.next ⟨w.heap.size,0,room,[]⟩) S.next=some ⟨w.heap.size,0,room,[]⟩:=by
 have hfr:=R.fresh S.next (Nat.le_refl _)
 have hle:η.le (η.add S.next ⟨w.heap.size,0,room,[]⟩):=Eta.s9 hfr;have hget:∀ m,(S.add o).get m=if m=S.next then some o else S.get m:=fun m=>af.fU R.fJ
 have hold:∀ b,b<w.heap.size->w'.heap[b]? = w.heap[b]?:=fun b hb=>by rw[hw,Array.getElem?_push,if_neg (by omega)]
 refine⟨⟨hle,⟨?_,?_,?_,?_,?_,?_,?_,?_⟩,⟨hos,nG,hout,by rw[hw];simp,fun b hb _=>hold b hb,?_,av.le.refl _,fun _ _ h=>.inl h,rfl⟩⟩,Eta.gj⟩
 . intro n x q hx hq;rw[hget] at hx;by_cases hn:n=S.next
   . subst hn;rw[if_pos rfl] at hx;cases hx;rw[Eta.gj] at hq;cases hq;refine⟨R.iF,?_,hL _ hle⟩;cases e:Z w.heap.size with
     | none=>rfl
     | some cs=>have:=R.WA e;omega
   rw[if_neg hn] at hx;rw[Eta.jm hn] at hq;obtain⟨hb,hz,L⟩:=R.ak n x q hx hq;exact⟨hb,hz,L.mono hle (av.le.refl _) fun b hb=>hold _ (R.j7 hx hq hb)⟩
 . intro n x hx hq;rw[hget] at hx;by_cases hn:n=S.next
   subst hn;rw[Eta.gj] at hq;cases hq;rw[if_neg hn] at hx;rw[Eta.jm hn] at hq;exact R.cX n x hx hq
 . intro n x hx;show n<S.next+1
   rw[hget] at hx;by_cases hn:n=S.next
   omega;rw[if_neg hn] at hx;have:=R.known n x hx;omega
 . intro n n' x x' p p' b hx hx' hne hp hp' hb hb';rw[hget] at hx hx';by_cases hn:n=S.next
   subst hn;rw[Eta.gj] at hp;cases hp;rw[if_neg (Ne.symm hne)] at hx';rw[Eta.jm (Ne.symm hne)] at hp';have h1:=R.j7 hx' hp' hb';have h2:=cD.vU hb;omega
   . rw[if_neg hn] at hx;rw[Eta.jm hn] at hp;by_cases hn':n'=S.next
     subst hn';rw[Eta.gj] at hp';cases hp';have h1:=R.j7 hx hp hb;have h2:=cD.vU hb';omega;rw[if_neg hn'] at hx';rw[Eta.jm hn'] at hp';exact R.j6 n n' x x' p p' b hx hx' hne hp hp' hb hb'
 intro b cs hb;obtain⟨ty,fz,e⟩:=R.zs b cs hb;exact⟨ty,fz,(hold b (dF e)).trans e⟩
 . intro n hn;rw[Eta.jm (by have:(S.add o).next=S.next+1:=rfl;omega)];exact R.fresh n (by have:(S.add o).next=S.next+1:=rfl;omega)
 rw[hw];have:=R.iF;simp;omega
 . intro n x q hx hq b hb;rw[hget] at hx;by_cases hn:n=S.next
   subst hn;rw[Eta.gj] at hq;cases hq;cases hb;rw[if_neg hn] at hx;rw[Eta.jm hn] at hq;obtain⟨h1,h2,ob,h3,h4⟩:=R.sat n x q hx hq b hb;exact⟨h1,h2,ob,(hold _ (dF h3)).trans h3,h4⟩
 . rintro b ⟨n,x,p,hx,hp,hb⟩;rw[hget] at hx;by_cases hn:n=S.next
   subst hn;rw[Eta.gj] at hp;cases hp;exact .inr (Nat.le_of_eq (cD.vU hb).symm);rw[if_neg hn] at hx;rw[Eta.jm hn] at hp;exact .inl ⟨n,x,p,hx,hp,hb⟩
theorem St.new{base:Nat}{η:Eta}{Z:av}{S:af}{w w':World}(R:St base η Z S w)(o:Ob)(c:Array Value){fz:Nat×Nat}(hw:w'.heap=w.heap.push (.cells c o.ty fz))(hos:w'.os=w.os)(nG:w'.tape=w.tape)(hout:w'.output=w.output)
 (bS:o.cells.length<=c.size) (hc:∀(i:Nat) x,o.cells[i]? = some x->∃ v,c[i]? = some v/\ay η Z x v/\v.oneCell'=true) (hfz:fz.1=fz.2) :
 qE base η Z S w (η.add S.next ⟨w.heap.size,0,c.size,[]⟩) (S.add o) w'/\(η.add S.next ⟨w.heap.size,0,c.size,[]⟩) S.next=some ⟨w.heap.size,0,c.size,[]⟩:=by
 have hm:¬o.gG:=by
  rintro (hm|⟨k,aA,hm⟩)<;>obtain⟨v,_,b,_⟩:=hc 0 _ hm<;>simp only[ay,aL] at b
 refine R.push o (.cells c o.ty fz) c.size hw hos nG hout fun aF hle=>fQ.plain hm ⟨c,fz,by simp[hw],by simp,?_,?_⟩ bS;intro i x hx;obtain⟨v,a,b,d⟩:=hc i x hx;exact⟨v,by simpa using a,b.mono hle (av.le.refl _),d⟩;exact .inl hfz
theorem St.newF{base:Nat}{η:Eta}{Z:av}{S:af}{w w':World}(R:St base η Z S w)(o:Ob)(c:Array Value){fz:Nat×Nat}(hw:w'.heap=w.heap.push (.cells c o.ty fz))(hos:w'.os=w.os)(nG:w'.tape=w.tape)(hout:w'.output=w.output)
 (bS:o.cells.length<=c.size) (hc:∀(i:Nat) x,o.cells[i]? = some x->∃ v,c[i]? = some v/\ay η Z x v/\v.oneCell'=true) (SA:o.wb) (hfz:c.size<=fz.1) :
 qE base η Z S w (η.add S.next ⟨w.heap.size,0,c.size,[]⟩) (S.add o) w'/\(η.add S.next ⟨w.heap.size,0,c.size,[]⟩) S.next=some ⟨w.heap.size,0,c.size,[]⟩:=by
 have hm:¬o.gG:=by
  rintro (hm|⟨k,aA,hm⟩)<;>obtain⟨v,_,b,_⟩:=hc 0 _ hm<;>simp only[ay,aL] at b
 refine R.push o (.cells c o.ty fz) c.size hw hos nG hout fun aF hle=>fQ.DZ hm ⟨c,fz,by simp[hw],by simp,?_,.inr (.inr ⟨SA,hfz⟩)⟩ bS;intro i x hx;obtain⟨v,a,b,d⟩:=hc i x hx;exact⟨v,by simpa using a,b.mono hle (av.le.refl _),d⟩
theorem St.SB{base:Nat}{η:Eta}{Z:av}{S:af}{w w':World}(R:St base η Z S w)(o:Ob)(ho:o.cells=[.mh])(hw:w'.heap=w.heap.push (.map #[] 0))(hos:w'.os=w.os)(nG:w'.tape=w.tape)(hout:w'.output=w.output) :
 qE base η Z S w (η.add S.next ⟨w.heap.size,0,0,[]⟩) (S.add o) w'/\(η.add S.next ⟨w.heap.size,0,0,[]⟩) S.next=some ⟨w.heap.size,0,0,[]⟩:=by
 have hm:o.isMap:=by unfold Ob.isMap;rw[ho];rfl
 exact R.push o (.map #[] 0) 0 hw hos nG hout fun aF _=>fQ.map hm ⟨#[],0,by simp[hw],by rw[ho];trivial⟩
def W.okC:W->Bool
 | .mh=>false
 | .th _ _=>false
 | _=>true
def Fd.okF:Fd->Bool
 | .c x=>x.okC
 | .a _ _ _=>true
 | .m _ _ _=>false
 | .b _=>true
def Qd:List Fd->Bool
 | []=>true
 | f::fs=>f.okF&&Qd fs
def W.special:W->Prop
 | .mh=>True
 | .th _ _=>True
 | _=>False
theorem D.za:∀(d:D)(x:d.ty),¬(d.w x).special
 | .int _,_=>by simp[D.w,W.special]
 | .bool,_=>by simp[D.w,W.special]
 | .str,_=>by simp[D.w,W.special]
 | .sl _,_=>by simp[D.w,W.special]
 | .pv,x=>by cases x<;>simp[D.w,PV.w,W.special]
theorem Ob.SC{o:Ob}(h:o.gG):∃ x,o.cells[0]? = some x/\x.special:=by
 rcases h with h|⟨k,aA,h⟩;exact⟨_,h,trivial⟩;exact⟨_,h,trivial⟩
theorem D1:∀{fs:List Fd},Qd fs=true->∀ x∈fs.flatMap Fd.cells,¬x.special
 | [],_=>by simp
 | f :: fs, h => by
   simp only[Qd,Bool.and_eq_true] at h;intro x hx;rw[List.flatMap_cons] at hx;rcases List.mem_append.1 hx with hx|hx
   . cases f with
     | c y =>
       simp only[Fd.cells,List.mem_singleton] at hx;subst hx;have h1:=h.1;cases x<;>simp_all[Fd.okF,W.okC,W.special]
     | a n d l =>
       simp only[Fd.cells,List.mem_map] at hx;obtain⟨y,_,rfl⟩:=hx;exact D.za _ _
     | m kd vd l=>cases h.1
     | b l =>
       simp only[Fd.cells,List.mem_map] at hx;obtain⟨y,_,rfl⟩:=hx;exact id
   exact D1 h.2 x hx
theorem Ob.lA{o:Ob}(h:∀ x∈o.cells,¬x.special):¬o.gG:=fun hm=>let ⟨_,e,hs⟩:=Ob.SC hm;h _ (List.mem_of_getElem? e) hs
theorem Ob.gQ{o:Ob}{d:D}{l:List d.ty}(h:o.cells=l.map d.w):¬o.gG:=Ob.lA fun x hx=>by
 rw[h,List.mem_map] at hx;obtain⟨y,_,rfl⟩:=hx;exact D.za _ _
def af.rW(S:af)(n:Nat):Option Ob:=match S.get n with
 | some o=>bif Qd o.fs then some o else none
 | none=>none
theorem jX{S:af}{n:Nat}{o:Ob}(h:S.rW n=some o):S.get n=some o/\¬o.gG:=by
 unfold af.rW at h;split at h;rename_i o' ho;obtain⟨h1,h⟩:=aj.aC h;cases h;exact⟨ho,Ob.lA (D1 h1)⟩;cases h
theorem St.read{base:Nat}{η:Eta}{Z:av}{S:af}{w:World}(R:St base η Z S w){n:Nat}{o:Ob}{p:cD}(h:S.get n=some o)(hp:η n=some p)(hm:¬o.gG){i:Nat}{x:W}(hx:o.cells[i]? = some x) :
 ∃ v,w.cell? ⟨p.block,p.off+i,none⟩=some v/\ay η Z x v/\v.oneCell'=true:=by
 obtain⟨_,_,L⟩:=R.ak n o p h hp;obtain⟨c,fz,hc,_,hv,_⟩:=L.there hm;obtain⟨v,a,b,d⟩:=hv i x hx;exact⟨v,by simp[World.cell?,hc,a],b,d⟩
theorem St.ZA{base:Nat}{η:Eta}{Z:av}{S:af}{w:World}(R:St base η Z S w){b:Nat}{cells:Array Value}(h:Z b=some cells){o:Nat}{cs:List W}(hs:fE Z cells o cs){i:Nat}{x:W}(hx:cs[i]? = some x) :
 ∃ v,w.cell? ⟨b,o+i,none⟩=some v/\aL Z x v:=by
 obtain⟨ty,fz,hc⟩:=R.zs b cells h;obtain⟨v,a,d⟩:=hs.get hx;exact⟨v,by simp[World.cell?,hc,a],d⟩
theorem St.SE{base:Nat}{η:Eta}{Z:av}{S:af}{w w':World}(R:St base η Z S w){n:Nat}{o:Ob}{p:cD}(h:S.get n=some o)(hp:η n=some p){o':Ob}{b0:Nat}(hb0:p.has b0)
 (hos:w'.os=w.os) (nG:w'.tape=w.tape) (hout:w'.output=w.output) (hsz:w'.heap.size=w.heap.size) (gN:∀ b,b≠b0->w'.heap[b]? = w.heap[b]?) (hdata:∃ ob,w'.heap[b0]? = some ob/\pS ob=true)
 (L':fQ η Z o' p w'):qE base η Z S w η (S.put n o') w':=by
 have hget:∀ m,(S.put n o').get m=if m=n then some o' else S.get m:=fun m=>by rw[af.jC,h];rfl
 have f:∀ k y,(S.put n o').get k=some y->∃ z,S.get k=some z:=by
  intro k y hy;rw[hget] at hy;by_cases hk:k=n;subst hk;exact⟨o,h⟩;rw[if_neg hk] at hy;exact⟨y,hy⟩
 have hown:∀ b,Own η (S.put n o') b->Own η S b:=by
  rintro b ⟨m,x,q,hx,hq,hb⟩;obtain⟨z,hz⟩:=f m x hx;exact⟨m,z,q,hz,hq,hb⟩
 have Jq:∀ b:Nat,(∃ ob,w.heap[b]? = some ob/\pS ob=true)->∃ ob,w'.heap[b]? = some ob/\pS ob=true:=by
  rintro b ⟨ob,e,hd⟩;by_cases hb:b=b0;subst hb;exact hdata;exact⟨ob,(gN b hb).trans e,hd⟩
 refine⟨Eta.le.refl _,⟨?_,?_,?_,?_,?_,R.fresh,by rw[hsz];exact R.iF,?_⟩,⟨hos,nG,hout,by omega,?_,fun b hb=>.inl (hown b hb),av.le.refl _,fun _ _ hh=>.inl hh,rfl⟩⟩;intro m x q hx hq;rw[hget] at hx;by_cases hm:m=n;subst hm;rw[if_pos rfl] at hx;cases hx;rw[hp] at hq;cases hq;obtain⟨hb,hz,_⟩:=R.ak m o p h hp;exact⟨hb,hz,L'⟩;rw[if_neg hm] at hx;obtain⟨hb,hz,L⟩:=R.ak m x q hx hq;exact⟨hb,hz,L.mono (Eta.le.refl _) (av.le.refl _) fun b hb=>gN _ fun e=>R.j6 m n x o q p b hx h hm hq hp hb (e▸hb0)⟩;intro m x hx hq;rw[hget] at hx;by_cases hm:m=n;subst hm;rw[hp] at hq;cases hq;rw[if_neg hm] at hx;exact R.cX m x hx hq
 . intro m x hx;show m<S.next
   obtain⟨z,hz⟩:=f m x hx;exact R.known m z hz
 intro m m' x x' q q' b hx hx' hne hq nX hb;obtain⟨z,hz⟩:=f m x hx;obtain⟨z',hz'⟩:=f m' x' hx';exact R.j6 m m' z z' q q' b hz hz' hne hq nX hb;intro b c hb;obtain⟨ty,fz,e⟩:=R.zs b c hb;obtain⟨_,hz,_⟩:=R.all h hp hb0;exact⟨ty,fz,(gN b (fun e=>by rw[e,hz] at hb;cases hb)).trans e⟩;intro m x q hx hq b hb;obtain⟨z,hz⟩:=f m x hx;obtain⟨h1,h2,h3⟩:=R.sat m z q hz hq b hb;exact⟨h1,h2,Jq b h3⟩;intro b _ ho;exact gN b fun e=>ho ⟨n,o,p,h,hp,e▸hb0⟩
theorem St.write{base:Nat}{η:Eta}{Z:av}{S:af}{w w':World}(R:St base η Z S w){n:Nat}{o:Ob}{p:cD}(h:S.get n=some o)(hp:η n=some p){o':Ob}
 (hos:w'.os=w.os) (nG:w'.tape=w.tape) (hout:w'.output=w.output) (hsz:w'.heap.size=w.heap.size) (gN:∀ b,b≠p.block->w'.heap[b]? = w.heap[b]?)
 (L':fQ η Z o' p w'):qE base η Z S w η (S.put n o') w' :=
 R.SE h hp p.iQ hos nG hout hsz gN L'.data L'
def rX(P:Program)(t:TypeId):Option Bool:=match P.underlying t with|some (.struct _)=>some true|some (.array _ _)=>some true|some _=>some false|none=>none
theorem oH{P:Program}{t:TypeId}{b:Bool}(e:rX P t=some b)(w:World):(isAgg t).run P w=.ok b w:=by
 unfold rX at e;split at e<;>cases e<;>rename_i hu
 all_goals simp[isAgg,run_underlying hu]
def gO(P:Program)(t:TypeId):Option Nat:=match P.info? t with|some i=>some i.size|none=>none
theorem eE{P:Program}{t:TypeId}{n:Nat}(e:gO P t=some n)(w:World):(sizeOf t).run P w=.ok n w:=by
 unfold gO at e;split at e;rename_i i hi;cases e;simp[sizeOf,typeInfo,hi];cases e
def NH:Value->Option W
 | .bool b=>some (.bool b)
 | .int k n=>some (.int k n)
 | .string s=>some (.str s)
 | .pointer none=>some .ef
 | .slice none 0 0=>some .nil
 | .nilFunc=>some .mD
 | .nilIface=>some .kO
 | .map none=>some (.val (.map none))
 | _=>none
theorem NI{Z:av}{v:Value}{x:W}(e:NH v=some x):aL Z x v/\x≠.dL/\v.oneCell'=true:=by
 unfold NH at e;split at e<;>cases e<;>simp[aL,Value.oneCell']
def Jr:List Value->Option (List W)
 | []=>some []
 | v::l=>match NH v with|some x=>(match Jr l with|some r=>some (x::r)|none=>none)|none=>none
theorem wY{η:Eta}{Z:av}:∀{l:List Value}{xs:List W},Jr l=some xs->aO (ay η Z) xs l/\(∀ x∈xs,x≠.dL)/\(∀ v∈l,v.oneCell'=true)
 | [],xs,e=>by cases e;exact⟨trivial,by simp,by simp⟩
 | v :: l, xs, e => by
   simp only[Jr] at e;split at e;rename_i x hx;split at e;rename_i r hr;cases e;obtain⟨a,b,c⟩:=wY (η:=η) (Z:=Z) hr;obtain⟨d,f,g⟩:=NI (Z:=Z) hx;refine⟨⟨d.Qc,a⟩,?_,?_⟩;intro y hy;rcases List.mem_cons.1 hy with rfl|hy
   exact f;exact b y hy;intro y hy;rcases List.mem_cons.1 hy with rfl|hy
   exact g;exact c y hy;cases e;cases e
def NJ:Value->Option V
 | .agg cs=>match Jr cs.toList with|some xs=>some (.agg xs)|none=>none
 | v=>match NH v with|some x=>some (.c x)|none=>none
theorem Bj{η:Eta}{Z:av}{v:Value}{x:V}(e:NJ v=some x):dI η Z x v:=by
 unfold NJ at e;split at e;rename_i cs;split at e;rename_i xs hxs;cases e;obtain⟨a,b,_⟩:=wY (η:=η) (Z:=Z) hxs;exact⟨cs.toList,by simp,b,a⟩;cases e;split at e;rename_i x hx;cases e;obtain⟨a,b,_⟩:=NI (Z:=Z) hx;exact⟨b,a.Qc⟩;cases e
inductive Cd where
 | t
 | p (c:Prop)
 | and (a b:Cd)
 | imp (g:Prop) (c:Cd)
def Cd.holds:Cd->Prop
 | .t=>True
 | .p c=>c
 | .and a b=>a.holds/\b.holds
 | .imp g c=>g->c.holds
instance:CoeSort Cd Prop:=⟨Cd.holds⟩
def Cd.list:Cd->List Prop
 | .t=>[]
 | .p c=>[c]
 | .and a b=>a.list++b.list
 | .imp g c=>c.list.map (g->·)
def gW:List Prop->Prop->Prop
 | [],k=>k
 | p::l,k=>p/\gW l k
theorem Cd.Bk:∀{c:Cd},(∀ p∈c.list,p)->c
 | .t,_=>trivial
 | .p c,h=>h c (by simp[Cd.list])
 | .and a b,h=>⟨Cd.Bk fun p hp=>h p (by simp[Cd.list,hp]),Cd.Bk fun p hp=>h p (by simp[Cd.list,hp])⟩
 | .imp g c,h=>fun hg=>Cd.Bk fun p hp=>h (g->p) (List.mem_map.2 ⟨p,hp,rfl⟩) hg
theorem C3:∀{l:List Prop}{k:Prop},gW l k->(∀ p∈l,p)/\k
 | [],_,h=>⟨by simp,h⟩
 | p::l,k,⟨h1,h2⟩=>by
   obtain⟨a,b⟩:=C3 h2;refine⟨fun x hx=>?_,b⟩;rcases List.mem_cons.1 hx with rfl|hx;exact h1;exact a x hx
theorem iC{c:Cd}{k:Prop}(h:gW c.list k):c/\k:=⟨Cd.Bk (C3 h).1,(C3 h).2⟩
inductive bY where
 | tmp (t:Nat)
 | w (x:W)
 | agg (cs:List W)
def cw:Operand->Option bY
 | .tmp t=>some (.tmp t)
 | .const v=>match NJ v with|some (.c x)=>some (.w x)|some (.agg cs)=>some (.agg cs)|none=>none
 | .global _=>none
 | .func f=>some (.w (.func f []))
noncomputable def mX(F:Fr):bY->Option (Cd×V)
 | .tmp t=>match F.get t with|some (.p v)=>some (.t,v)|some (.cond c v)=>some (.p c,v)|some (.dec b)=>some (.t,.c (.bool b))|_=>none
 | .w x=>some (.t,.c x)
 | .agg cs=>some (.t,.agg cs)
theorem eP{n:Nat}{η:Eta}{Z:av}{F:Fr}{a:Act}(R:aW n η Z F a.tmps){x':Operand}{x:bY}(hx:cw x'=some x){c:Cd}{v:V}(e:mX F x=some (c,v))(hc:c):dI η Z v (a.eval x'):=by
 cases x' with
 | tmp t =>
   cases hx;simp only[mX] at e;split at e;rename_i v' hv;cases e;obtain⟨u,hu,hr⟩:=R.2 t _ hv;simpa[Act.eval,Array.getD_eq_getD_getElem?,hu,cH] using hr;rename_i c' v' hv;cases e;obtain⟨u,hu,hr⟩:=R.2 t _ hv;simpa[Act.eval,Array.getD_eq_getD_getElem?,hu] using hr.1 hc;rename_i b hv;cases e;obtain⟨u,hu,hr⟩:=R.2 t _ hv;have hr':u=.bool b:=hr;subst hr';have:a.eval (.tmp t)=.bool b:=by simp[Act.eval,Array.getD_eq_getD_getElem?,hu]
   rw[this];exact⟨by simp,by simp[ay,aL]⟩;cases e
 | const u =>
   simp only[cw] at hx;split at hx;rename_i y hy;cases hx;cases e;exact Bj hy;rename_i cs hy;cases hx;cases e;exact Bj hy;cases hx
 | global g=>cases hx
 | func f =>
   cases hx;cases e;exact⟨by simp,[],rfl,trivial⟩
noncomputable def fZ(F:Fr)(x:bY):Option (Cd×W):=match mX F x with|some (c,.c v)=>some (c,v)|_=>none
theorem aJ{n:Nat}{η:Eta}{Z:av}{F:Fr}{a:Act}(R:aW n η Z F a.tmps){x':Operand}{x:bY}(hx:cw x'=some x){c:Cd}{v:W}(e:fZ F x=some (c,v))(hc:c):v≠.dL/\ay η Z v (a.eval x'):=by
 unfold fZ at e;split at e;rename_i c' v' h;cases e;exact eP R hx h hc;cases e
noncomputable def jY(F:Fr)(x:bY):Option (Cd×IntKind×Int):=match mX F x with|some (c,.c (.int k n))=>some (c,k,n)|_=>none
theorem cY{n:Nat}{η:Eta}{Z:av}{F:Fr}{a:Act}(R:aW n η Z F a.tmps){x':Operand}{x:bY}(hx:cw x'=some x){c:Cd}{k:IntKind}{i:Int}(e:jY F x=some (c,k,i))(hc:c):a.eval x'=.int k i:=by
 unfold jY at e;split at e;rename_i c' k' n' h;cases e;have:=(eP R hx h hc).2;simpa[ay,aL] using this;cases e
noncomputable def vV(F:Fr)(x:bY):Option (Cd×Bool):=match mX F x with|some (c,.c (.bool b))=>some (c,b)|_=>none
theorem nH{n:Nat}{η:Eta}{Z:av}{F:Fr}{a:Act}(R:aW n η Z F a.tmps){x':Operand}{x:bY}(hx:cw x'=some x){c:Cd}{b:Bool}(e:vV F x=some (c,b))(hc:c):a.eval x'=.bool b:=by
 unfold vV at e;split at e;rename_i c' b' h;cases e;have:=(eP R hx h hc).2;simpa[ay,aL] using this;cases e
noncomputable def ze(F:Fr)(x:bY):Option (Cd×ByteArray):=match mX F x with|some (c,.c (.str s))=>some (c,s)|_=>none
theorem mF{n:Nat}{η:Eta}{Z:av}{F:Fr}{a:Act}(R:aW n η Z F a.tmps){x':Operand}{x:bY}(hx:cw x'=some x){c:Cd}{s:ByteArray}(e:ze F x=some (c,s))(hc:c):a.eval x'=.string s:=by
 unfold ze at e;split at e;rename_i c' b' h;cases e;have:=(eP R hx h hc).2;simpa[ay,aL] using this;cases e
def V.cells:V->List W
 | .c x=>[x]
 | .agg cs=>cs
def jQ(l:List W)(off:Nat):List W->List W
 | []=>l
 | c::cs=>jQ (l.set off c) (off+1) cs
noncomputable def vW(F:Fr):List W->List (Nat×Nat×bY)->Option (Cd×List W)
 | cs,[]=>some (.t,cs)
 | cs,(off,n,x)::r=>match mX F x with
   | some (p,v)=>bif Nat.beq v.cells.length n&&Nat.ble (off+n) cs.length then(match vW F (jQ cs off v.cells) r with|some (q,out)=>some (.and p q,out)|none=>none) else none
   | none=>none
def Js(P:Program):List Field->Option (List (Nat×Nat))
 | []=>some []
 | f::l=>match gO P f.type,Js P l with|some n,some r=>some ((f.offset,n)::r)|_,_=>none
def tf(pl:Nat->Option (Nat×Nat)):List (Nat×Operand)->Option (List (Nat×Nat×bY))
 | []=>some []
 | (i,x)::l=>match pl i,cw x,tf pl l with|some (o,n),some y,some r=>some ((o,n,y)::r)|_,_,_=>none
def GH:D->W->W->Option Bool
 | .int _,.int k a,.int k' b=>if k=k' then some (decide (a=b)) else none
 | .bool,.bool a,.bool b=>some (a==b)
 | .str,.str a,.str b=>some (decide (a=b))
 | _,_,_=>none
def Jt(xs ys:List W):List (Nat×D)->Option Bool
 | []=>some true
 | (o,d)::l=>match xs[o]?,ys[o]? with
   | some x,some y=>(match GH d x y,Jt xs ys l with|some b,some r=>some (b&&r)|_,_=>none)
   | _,_=>none
def uh:TypeDesc->Option D
 | .int k=>some (.int k)
 | .bool=>some .bool
 | .string=>some .str
 | _=>none
def sX(P:Program):List Field->Option (List (Nat×D))
 | []=>some []
 | f::l=>if f.name = "_" then none else match P.underlying f.type with
   | some u=>(match uh u,sX P l with|some d,some r=>some ((f.offset,d)::r)|_,_=>none)
   | none=>none
inductive Q where
 | move (x:bY)
 | pick (c x y:bY)
 | load (d:W) (z:List PV) (x:bY)
 | uj (n:Nat) (z:List PV) (x:bY)
 | nilCheck (x:bY)
 | ibin (op:BinOp) (x y:bY)
 | WB (op:BinOp) (x y:bY)
 | shift (op:BinOp) (x y:bY)
 | icmp (op:BinOp) (x y:bY)
 | scmp (op:BinOp) (x y:bY)
 | scat (x y:bY)
 | beq (op:BinOp) (x y:bY)
 | ZB (neg:Bool) (x y:bY)
 | ieq (neg:Bool) (x:bY)
 | ZC (x:bY)
 | neg (x:bY)
 | not (x:bY)
 | conv (k:IntKind) (x:bY)
 | rune (x:bY)
 | text (x:bY)
 | slen (x:bY)
 | llen (sz:Nat) (x:bY)
 | ncap (x:bY)
 | alen (n:Nat)
 | min (x y:bY)
 | max (x y:bY)
 | min3 (x y z:bY)
 | max3 (x y z:bY)
 | index (x i:bY)
 | field (off:Nat) (d:W) (x:bY)
 | Ju (off n:Nat) (x:bY)
 | fieldAddr (off:Nat) (x:bY)
 | indexAddr (sz:Nat) (x i:bY)
 | wZ (len sz:Nat) (x i:bY)
 | slice (sz:Nat) (x:bY) (lo hi:Option bY)
 | Jv (x:bY) (lo hi:Option bY)
 | extract (i:Nat) (x:bY)
 | func (f:FuncId) (caps:List bY)
 | mval (f:FuncId) (x:bY)
 | build (z:List W) (parts:List (Nat×Nat×bY))
 | aeq (op:BinOp) (l:List (Nat×D)) (x y:bY)
def iop(op:BinOp)(k:IntKind)(a b:Int):Int :=
 match op with
 | .add=>k.wrap (a+b)
 | .sub=>k.wrap (a-b)
 | .mul=>k.wrap (a*b)
 | .and=>k.wrap (BitVec.ofInt k.bits a &&& BitVec.ofInt k.bits b).toNat
 | .or=>k.wrap (BitVec.ofInt k.bits a ||| BitVec.ofInt k.bits b).toNat
 | .xor=>k.wrap (BitVec.ofInt k.bits a ^^^ BitVec.ofInt k.bits b).toNat
 | .andNot=>k.wrap (BitVec.ofInt k.bits a &&& ~~~ (BitVec.ofInt k.bits b)).toNat
 | _=>0
def D2:BinOp->Bool
 | .add | .sub | .mul | .and | .or | .xor | .andNot=>true
 | _=>false
def Jw(op:BinOp)(k:IntKind)(a b:Int):Int :=
 match op with
 | .quo=>k.wrap (a.tdiv b)
 | _=>a.tmod b
def shiftOp(op:BinOp)(k:IntKind)(a b:Int):Int :=
 match op with
 | .shl=>k.wrap (a*2 ^ (Min.min b.toNat k.bits))
 | _=>a.fdiv (2 ^ (Min.min b.toNat k.bits))
def Jy(op:BinOp)(a b:Int):Bool :=
 match op with
 | .eql=>decide (a=b)
 | .neq=>!decide (a=b)
 | .lss=>decide (a<b)
 | .leq=>decide (a<=b)
 | .gtr=>decide (b<a)
 | .geq=>decide (b<=a)
 | _=>false
def Bl:BinOp->Bool
 | .eql | .neq | .lss | .leq | .gtr | .geq=>true
 | _=>false
def Jz(op:BinOp)(a b:ByteArray):Bool :=
 match op with
 | .eql=>decide (a=b)
 | .neq=>!decide (a=b)
 | .lss=>Op.bytesLess a.toList b.toList
 | .leq=>Op.bytesLess a.toList b.toList||decide (a=b)
 | .gtr=>!(Op.bytesLess a.toList b.toList||decide (a=b))
 | .geq=>!Op.bytesLess a.toList b.toList
 | _=>false
def bV(s:ByteArray)(i:Nat):Int:=((s.data.toList.getD i 0).toNat:Int)
noncomputable def ul(F:Fr)(x:Option bY)(d:Int):Option (Cd×Int) :=
 match x with
 | none=>some (.t,d)
 | some x=>match jY F x with|some (c,_,n)=>some (c,n)|none=>none
noncomputable def zf(F:Fr):List bY->Option (Cd×List (Nat×Nat))
 | []=>some (.t,[])
 | x::l=>match fZ F x with
   | some (c,.ptr n off)=>(match zf F l with|some (d,r)=>some (.and c d,(n,off)::r)|none=>none)
   | _=>none
def shOf(P:Program):Nat->TypeId->Option (List PV)
 | 0,_=>none
 | k + 1, t => match P.underlying t with
   | some (.int .i64)=>some [.int 0]
   | some .bool=>some [.bool false]
   | some .string=>some [.str ⟨#[]⟩]
   | some (.slice el)=>(match P.underlying el with
     | some .string=>some [.strs []]
     | some (.struct _)=>(match gO P el with|some n=>some [.aH n []]|none=>none)
     | _=>none)
   | some (.struct fs)=>fs.toList.foldr (fun f r=>match shOf P k f.type,r with|some a,some b=>some (a++b)|_,_=>none) (some [])
   | _=>none
def shapes(P:Program)(t:TypeId):List PV:=match shOf P 8 t with|some l=>l|none=>[]
def vz:List PV->List W->List W
 | .aH n _::zs,.nil::l=>.rs n []::vz zs l
 | _::zs,x::l=>x::vz zs l
 | _,l=>l
def jK(P:Program)(t:TypeId):Option (List W):=match P.info? t with|some i=>(match i.zero with|some z=>(match Jr z.cells.toList with|some l=>some (vz (shapes P t) l)|none=>none)|none=>none)|none=>none
def PV.like:PV->PV->Bool
 | .int _,.int _=>true
 | .bool _,.bool _=>true
 | .str _,.str _=>true
 | .strs _,.strs _=>true
 | .aH n _,.aH n' _=>Nat.beq n' n
 | _,_=>false
def PV.asInt:PV->Int
 | .int n=>n
 | _=>0
def PV.asBool:PV->Bool
 | .bool b=>b
 | _=>false
def PV.bM:PV->ByteArray
 | .str s=>s
 | _=>⟨#[]⟩
def PV.mg:PV->List ByteArray
 | .strs l=>l
 | _=>[]
def PV.aB:PV->List PV
 | .aH _ l=>l
 | _=>[]
def PV.at(z x:PV):W:=match z with
 | .int _=>.int .i64 x.asInt
 | .bool _=>.bool x.asBool
 | .str _=>.str x.bM
 | .strs _=>.rd .str x.mg
 | .aH n _=>.rs n x.aB
theorem PV.ZE{z x:PV}(h:z.like x=true):z.at x=x.w:=by
 cases z<;>cases x<;>simp only[PV.like] at h<;>first|(cases h;done)|skip
 rfl;rfl;rfl;rfl;have:=Nat.eq_of_beq_eq_true h;subst this;rfl
def jD(l:List PV):Nat->List PV->Cd×List W
 | _,[]=>(.t,[])
 | i,z::zs=>(.and (.p (z.like (l.getD i (.bool false))=true)) (jD l (i+1) zs).1,z.at (l.getD i (.bool false))::(jD l (i+1) zs).2)
theorem JA{l:List PV}:∀{zs:List PV}{i:Nat},(jD l i zs).1.holds->i+zs.length<=l.length->(jD l i zs).2=((l.drop i).take zs.length).map PV.w
 | [],i,_,_=>by simp[jD]
 | z::zs,i,h,hl=>by
   simp only[jD] at h ⊢;have hlt:i<l.length:=by rw[List.length_cons] at hl;omega
   rw[JA h.2 (by rw[List.length_cons] at hl;omega),PV.ZE h.1,List.drop_eq_getElem_cons hlt,List.length_cons,List.take_succ_cons,List.map_cons];congr 1;rw[List.getD_eq_getElem?_getD,List.getElem?_eq_getElem hlt];rfl
def ldD:(e:D)->List PV->e.ty->Option (Cd×W)
 | .pv,[z],x=>some (.p (z.like x=true),z.at x)
 | .pv,_,_=>none
 | .int k,_,x=>some (.t,.int k x)
 | .bool,_,x=>some (.t,.bool x)
 | .str,_,x=>some (.t,.str x)
 | .sl d,_,x=>some (.t,.rd d x)
theorem ldD_eq:∀{e:D}{z:List PV}{x:e.ty}{c:Cd}{y:W},ldD e z x=some (c,y)->c->y=e.w x
 | .int _,_,_,_,_,h,_=>by cases h;rfl
 | .bool,_,_,_,_,h,_=>by cases h;rfl
 | .str,_,_,_,_,h,_=>by cases h;rfl
 | .sl _,_,_,_,_,h,_=>by cases h;rfl
 | .pv,[z],x,_,_,h,hc=>by cases h;exact PV.ZE hc
 | .pv,[],x,_,_,h,_=>by cases h
 | .pv,_::_::_,x,_,_,h,_=>by cases h
def pvL:(e:D)->List e.ty->Option (List PV)
 | .pv,l=>some l
 | _,_=>none
theorem pvL_eq{e:D}{l:List e.ty}{m:List PV}(h:pvL e l=some m):∃ h':e=.pv,(cast (by rw[h']) l:List PV)=m:=by
 cases e<;>simp only[pvL] at h<;>cases h;exact⟨rfl,rfl⟩
def jj:List Fd->Nat->Option (Cd×Fd)
 | [],_=>none
 | .c x::fs,k=>match k with
   | 0=>some (.t,.c x)
   | k+1=>jj fs k
 | .a n d l::fs,k=>match k with
   | 0=>some (.t,.a n d l)
   | k+1=>bif Nat.blt (k+1) n then none else match jj fs (k+1-n) with
     | some (c,f)=>some (.and (.p (l.length=n)) c,f)
     | none=>none
 | .m _ _ _::_,_=>none
 | .b _::_,_=>none
def W.aK:W->Bool
 | .dL=>false
 | _=>true
theorem W.Fu{x:W}(h:x.aK=true):x≠.dL:=by rintro rfl;cases h
def Bm:List W->Bool
 | []=>true
 | x::l=>x.aK&&Bm l
theorem D3:∀{l:List W},Bm l=true->∀ x∈l,x≠.dL
 | [],_=>by simp
 | y::l,h=>by
   simp only[Bm,Bool.and_eq_true] at h;intro x hx;rcases List.mem_cons.1 hx with rfl|hx;exact W.Fu h.1;exact D3 h.2 x hx
def JB:List Fd->Option (Nat×W)
 | [.a k _ l,.c x,.a k' _ _]=>bif Nat.beq k 1&&Nat.beq k' 1 then some (l.length,x) else none
 | _=>none
def JC:List Fd->Option (List Int)
 | [.b l]=>some l
 | _=>none
theorem Fv{fs:List Fd}{l:List Int}(e:JC fs=some l):fs=[.b l]:=by
 unfold JC at e;split at e;cases e;rfl;cases e
def WC:List Fd->Option (Nat×List (List Int))
 | [.c (.th k aA)]=>some (k,aA)
 | _=>none
def um(S:af)(n:Nat):Option (Nat×List (List Int)):=match S.get n with|some o=>WC o.fs|none=>none
theorem GI{fs:List Fd}{k:Nat}{aA:List (List Int)}(e:WC fs=some (k,aA)):fs=[.c (.th k aA)]:=by
 unfold WC at e;split at e;cases e;rfl;cases e
theorem JD{o:Ob}{k:Nat}{aA:List (List Int)}(e:o.fs=[.c (.th k aA)]):o.j5 k aA:=by
 unfold Ob.j5 Ob.cells;rw[e];rfl
theorem nJ{S:af}{n k:Nat}{aA:List (List Int)}(e:um S n=some (k,aA)):∃ o,S.get n=some o/\o.fs=[.c (.th k aA)]/\o.j5 k aA:=by
 unfold um at e;split at e;rename_i o ho;exact⟨o,ho,GI e,JD (GI e)⟩;cases e
noncomputable def eG(F:Fr)(S:af):Q->Option (Cd×V)
 | .move x=>mX F x
 | .pick c x y=>match vV F c,vV F x,vV F y with
   | some (p,b),some (q,u),some (r,v)=>some (.and p (.and (.imp (b=true) q) (.imp (b=false) r)),.c (.bool (bif b then u else v)))
   | _,_,_=>none
 | .load d z x => match fZ F x with
   | some (p,.ptr n off)=>match S.rW n with
     | some o=>match jj o.fs off with
       | some (q,.c x)=>bif x.aK then some (.and p q,.c x) else none
       | some (q,.a _ e l)=>some (.and p (.and q (.p (0<l.length))),.c (e.w (l.getD 0 e.zero)))
       | _=>none
     | none=>none
   | some (p,.pR n i j)=>match um S n with
     | some (k,aA)=>some (.and p (.p (i<aA.length/\j<k)),.c (.int .i64 ((aA.getD i []).getD j 0)))
     | none=>none
   | some (p,.pe n off i)=>match um S n with
    | some (k,aA)=>bif Nat.beq off 0 then some (.and p (.p (i<aA.length)),.c (.row n i k)) else none
    | none=>match S.rW n with
     | some o=>match JC o.fs with
      | some l=>bif Nat.beq off 0 then some (.and p (.p (i<l.length)),.c (.int .u8 (l.getD i 0))) else none
      | none=>match JB o.fs with
       | some (k,x)=>bif x.aK&&Nat.beq off 0 then some (.and p (.p (i=k)),.c x) else none
       | none=>match jj o.fs off with
         | some (q,.a _ e l)=>some (.and p (.and q (.p (i<l.length))),.c (e.w (l.getD i e.zero)))
         | some (_,.c _)=>some (.and p (.p (off+i<o.cells.length/\o.cells.getD (off+i) d≠.dL)),.c (o.cells.getD (off+i) d))
         | _=>none
     | none=>none
   | some (p,.rp cs off)=>some (.and p (.p (off<cs.length)),.c (cs.getD off d))
   | some (p,.re e l i)=>match ldD e z (l.getD i e.zero) with
     | some (c,y)=>some (.and p (.and (.p (i<l.length)) c),.c y)
     | none=>none
   | _=>none
 | .uj n z x=>match fZ F x with
   | some (p,.ptr m off)=>match S.rW m with
     | some o=>bif Nat.ble (off+n) o.cells.length&&Bm ((o.cells.drop off).take n) then some (p,.agg ((o.cells.drop off).take n)) else none
     | none=>none
   | some (p,.rp cs off)=>some (.and p (.p (off+n<=cs.length)),.agg ((cs.drop off).take n))
   | some (p,.re e l i)=>match pvL e l with
     | some m=>bif Nat.beq z.length n then some (.and p (.and (.p (i+n<=m.length)) (jD m i z).1),.agg (jD m i z).2) else none
     | none=>none
   | _=>none
 | .nilCheck x=>match fZ F x with
   | some (p,.ptr n off)=>some (p,.c (.ptr n off))
   | some (p,.pe n off i)=>some (p,.c (.pe n off i))
   | some (p,.rp cs off)=>some (p,.c (.rp cs off))
   | some (p,.re e l i)=>some (p,.c (.re e l i))
   | some (p,.pR n i j)=>some (p,.c (.pR n i j))
   | some (p,.func f caps)=>some (p,.c (.func f caps))
   | some (p,.yield l)=>some (p,.c (.yield l))
   | _=>none
 | .ibin op x y=>match jY F x,jY F y with
   | some (p,k,a),some (q,k',b)=>if k=k' then some (.and p q,.c (.int k (iop op k a b))) else none
   | _,_=>none
 | .WB op x y=>match jY F x,jY F y with
   | some (p,k,a),some (q,k',b)=>if k=k' then some (.and p (.and q (.p (b≠0))),.c (.int k (Jw op k a b))) else none
   | _,_=>none
 | .shift op x y=>match jY F x,jY F y with
   | some (p,k,a),some (q,_,b)=>some (.and p (.and q (.p (0<=b))),.c (.int k (shiftOp op k a b)))
   | _,_=>none
 | .icmp op x y=>match jY F x,jY F y with
   | some (p,k,a),some (q,k',b)=>if k=k' then some (.and p q,.c (.bool (Jy op a b))) else none
   | _,_=>none
 | .scmp op x y=>match ze F x,ze F y with
   | some (p,a),some (q,b)=>some (.and p q,.c (.bool (Jz op a b)))
   | _,_=>none
 | .scat x y=>match ze F x,ze F y with
   | some (p,a),some (q,b)=>some (.and p (.and q (.p (a.size+b.size<=9223372036854775807))),.c (.str (a++b)))
   | _,_=>none
 | .beq op x y=>match vV F x,vV F y with
   | some (p,a),some (q,b)=>some (.and p q,.c (.bool (match op with | .eql=>a==b|_=>!(a==b))))
   | _,_=>none
 | .ZB neg x y=>match fZ F x,fZ F y with
   | some (p,.ef),some (q,.ef)=>some (.and p q,.c (.bool (!neg)))
   | some (p,.ptr _ _),some (q,.ef)=>some (.and p q,.c (.bool neg))
   | some (p,.ef),some (q,.ptr _ _)=>some (.and p q,.c (.bool neg))
   | some (p,.ptr n off),some (q,.ptr m off')=>bif Nat.beq n m then some (.and p q,.c (.bool (bif neg then !(Nat.beq off off') else Nat.beq off off'))) else none
   | _,_=>none
 | .ieq neg x=>match fZ F x with
   | some (p,.kO)=>some (p,.c (.bool (!neg)))
   | some (p,.val (.iface _ _))=>some (p,.c (.bool neg))
   | some (p,.y8 b)=>some (p,.c (.bool (bif neg then b else !b)))
   | _=>none
 | .ZC x=>match fZ F x with
   | some (p,.sl n off len sz)=>bif Nat.beq sz 1 then some (.and p (.p (0<len)),.c (.pe n 0 off)) else none
   | _=>none
 | .neg x=>match jY F x with
   | some (p,k,a)=>some (p,.c (.int k (k.wrap (0-a))))
   | none=>none
 | .not x=>match vV F x with
   | some (p,a)=>some (p,.c (.bool (!a)))
   | none=>none
 | .conv k x=>match jY F x with
   | some (p,_,a)=>some (p,.c (.int k (k.wrap a)))
   | none=>none
 | .rune x=>match jY F x with
   | some (p,_,a)=>some (p,.c (.str (Utf8.encode a)))
   | none=>none
 | .text x=>match ze F x with
   | some (p,s)=>some (p,.c (.str s))
   | none=>none
 | .slen x=>match ze F x with
   | some (p,s)=>some (p,.c (.int .i64 s.size))
   | none=>none
 | .llen sz x=>match fZ F x with
   | some (p,.nil)=>some (p,.c (.int .i64 0))
   | some (p,.sl _ _ len _)=>some (p,.c (.int .i64 len))
   | some (p,.ro sz' cs)=>if sz'=sz then some (p,.c (.int .i64 ((cs.length/sz:Nat):Int))) else none
   | some (p,.rd _ l)=>some (p,.c (.int .i64 (l.length:Int)))
   | some (p,.row _ _ len)=>some (p,.c (.int .i64 len))
   | some (p,.rs sz' l)=>if sz'=sz then some (p,.c (.int .i64 ((l.length/sz:Nat):Int))) else none
   | _=>none
 | .ncap x=>match fZ F x with
   | some (p,.nil)=>some (p,.c (.int .i64 0))
   | _=>none
 | .alen n=>some (.t,.c (.int .i64 n))
 | .min x y=>match jY F x,jY F y with
   | some (p,k,a),some (q,_,b)=>some (.and p q,.c (.int k (Min.min a b)))
   | _,_=>none
 | .max x y=>match jY F x,jY F y with
   | some (p,k,a),some (q,_,b)=>some (.and p q,.c (.int k (Max.max a b)))
   | _,_=>none
 | .min3 x y z=>match jY F x,jY F y,jY F z with
   | some (p,k,a),some (q,_,b),some (r,_,c)=>some (.and p (.and q r),.c (.int k (Min.min (Min.min a b) c)))
   | _,_,_=>none
 | .max3 x y z=>match jY F x,jY F y,jY F z with
   | some (p,k,a),some (q,_,b),some (r,_,c)=>some (.and p (.and q r),.c (.int k (Max.max (Max.max a b) c)))
   | _,_,_=>none
 | .index x i=>match ze F x,jY F i with
   | some (p,s),some (q,_,n)=>some (.and p (.and q (.p (0<=n/\n<s.size))),.c (.int .u8 (bV s n.toNat)))
   | _,_=>none
 | .field off _ x=>match mX F x with
   | some (p,.agg cs)=>match cs[off]? with|some x=>some (p,.c x)|none=>none
   | _=>none
 | .Ju off n x=>match mX F x with
   | some (p,.agg cs)=>bif Nat.ble (off+n) cs.length then some (p,.agg ((cs.drop off).take n)) else none
   | _=>none
 | .fieldAddr off x=>match fZ F x with
   | some (p,.ptr n o)=>some (p,.c (.ptr n (o+off)))
   | some (p,.rp cs o)=>some (p,.c (.rp cs (o+off)))
   | some (p,.re d l i)=>some (p,.c (.re d l (i+off)))
   | _=>none
 | .indexAddr sz x i=>match fZ F x,jY F i with
   | some (p,.sl n off len sz'),some (q,_,i)=>if sz'=sz then some (.and p (.and q (.p (0<=i/\i<len))),.c (bif Nat.beq sz 1 then .pe n 0 (off+i.toNat) else .ptr n (off+i.toNat*sz))) else none
   | some (p,.ro sz' cs),some (q,_,i)=>if sz'=sz then some (.and p (.and q (.p (0<=i/\i.toNat*sz<cs.length))),.c (.rp cs (i.toNat*sz))) else none
   | some (p,.rd d l),some (q,_,i)=>if sz=1 then some (.and p (.and q (.p (0<=i/\i<(l.length:Int)))),.c (.re d l i.toNat)) else none
   | some (p,.row n r len),some (q,_,i)=>if sz=1 then some (.and p (.and q (.p (0<=i/\i<(len:Int)))),.c (.pR n r i.toNat)) else none
   | some (p,.rs sz' l),some (q,_,i)=>if sz'=sz then some (.and p (.and q (.p (0<=i/\i.toNat*sz<l.length))),.c (.re .pv l (i.toNat*sz))) else none
   | _,_=>none
 | .wZ len sz x i=>match fZ F x,jY F i with
   | some (p,.ptr n off),some (q,_,i)=>some (.and p (.and q (.p (0<=i/\i<len))),.c (bif Nat.beq sz 1 then .pe n off i.toNat else .ptr n (off+i.toNat*sz)))
   | some (p,.rp cs off),some (q,_,i)=>some (.and p (.and q (.p (0<=i/\i<len))),.c (.rp cs (off+i.toNat*sz)))
   | _,_=>none
 | .slice sz x lo hi=>match fZ F x with
   | some (p,.nil)=>match ul F lo 0,ul F hi 0 with
     | some (q,l),some (r,h)=>some (.and p (.and q (.and r (.p (l=0/\h=0)))),.c .nil)
     | _,_=>none
   | some (p,.sl n off len sz')=>if sz'=sz then match ul F lo 0,ul F hi len with
     | some (q,l),some (r,h)=>some (.and p (.and q (.and r (.p (0<=l/\l<=h/\h<=len)))),.c (.sl n (off+l.toNat*sz) (h-l).toNat sz))
     | _,_=>none
     else none
   | some (p,.ro sz' cs)=>if sz'=sz then match ul F lo 0,ul F hi ((cs.length/sz:Nat):Int) with
     | some (q,l),some (r,h)=>some (.and p (.and q (.and r (.p (0<=l/\l<=h/\h<=((cs.length/sz:Nat):Int))))),.c (.ro sz ((cs.take (h.toNat*sz)).drop (l.toNat*sz))))
     | _,_=>none
     else none
   | some (p,.rd d xs)=>if sz=1 then match ul F lo 0,ul F hi (xs.length:Int) with
     | some (q,l),some (r,h)=>some (.and p (.and q (.and r (.p (0<=l/\l<=h/\h<=(xs.length:Int))))),.c (.rd d ((xs.take h.toNat).drop l.toNat)))
     | _,_=>none
     else none
   | some (p,.rs sz' xs)=>if sz'=sz then match ul F lo 0,ul F hi ((xs.length/sz:Nat):Int) with
     | some (q,l),some (r,h)=>some (.and p (.and q (.and r (.p (0<=l/\l<=h/\h<=((xs.length/sz:Nat):Int))))),.c (.rs sz ((xs.take (h.toNat*sz)).drop (l.toNat*sz))))
     | _,_=>none
     else none
   | _=>none
 | .Jv x lo hi=>match ze F x with
   | some (p,s)=>match ul F lo 0,ul F hi s.size with
     | some (q,l),some (r,h)=>some (.and p (.and q (.and r (.p (0<=l/\l<=h/\h<=s.size)))),.c (.str (s.extract l.toNat h.toNat)))
     | _,_=>none
   | none=>none
 | .extract i x=>match x with
   | .tmp t=>match F.get t with
     | some (.bC vs)=>match vs[i]? with|some v=>some (.t,v)|none=>none
     | _=>none
   | _=>none
 | .mval f x=>match fZ F x with
   | some (c,.ptr n off)=>some (c,.c (.oh f n off))
   | _=>none
 | .func f caps=>match zf F caps with
   | some (p,cs)=>some (p,.c (.func f cs))
   | none=>none
 | .build z parts=>match vW F z parts with
   | some (p,cs)=>some (p,.agg cs)
   | none=>none
 | .aeq op l x y=>match mX F x,mX F y with
   | some (p,.agg xs),some (q,.agg ys)=>match Jt xs ys l with
     | some b=>some (.and p q,.c (.bool (match op with | .eql=>b|_=>!b)))
     | none=>none
   | _,_=>none
def Qe(P:Program)(t:TypeId):Option W:=match P.info? t with|some i=>(match i.zero with|some z=>NH z|none=>none)|none=>none
def zh:Option Operand->Option (Option bY)
 | none=>some none
 | some x=>match cw x with|some y=>some (some y)|none=>none
def oJ:List Operand->Option (List bY)
 | []=>some []
 | x::l=>match cw x with|some y=>(match oJ l with|some r=>some (y::r)|none=>none)|none=>none
def uo(P : Program)(o : Op) : Option Q :=
 match o with
 | .move x=>(cw x).map .move
 | .assign x=>(cw x).map .move
 | .pick c x y=>match cw c,cw x,cw y with|some c,some x,some y=>some (.pick c x y)|_,_,_=>none
 | .load t x=>match rX P t,cw x with
   | some false,some x=>(Qe P t).map fun d=>.load d (shapes P t) x
   | some true,some x=>(gO P t).map fun n=>.uj n (shapes P t) x
   | _,_=>none
 | .nilCheck x=>(cw x).map .nilCheck
 | .binOp op t x y _=>match P.underlying t,cw x,cw y with
   | some (.int _),some x,some y=>if D2 op then some (.ibin op x y) else match op with
     | .quo=>some (.WB .quo x y)
     | .rem=>some (.WB .rem x y)
     | .shl=>some (.shift .shl x y)
     | .shr=>some (.shift .shr x y)
     | _=>if Bl op then some (.icmp op x y) else none
   | some .string,some x,some y=>match op with
     | .add=>some (.scat x y)
     | _=>if Bl op then some (.scmp op x y) else none
   | some .bool,some x,some y=>match op with
     | .eql=>some (.beq .eql x y)
     | .neq=>some (.beq .neq x y)
     | _=>none
   | some (.pointer el),some x,some y=>match gO P el with
     | some k=>if k=0 then none else(match op with
       | .eql=>some (.ZB false x y)
       | .neq=>some (.ZB true x y)
       | _=>none)
     | none=>none
   | some (.interface _),some x,some (.w .kO)=>(match op with
     | .eql=>some (.ieq false x)
     | .neq=>some (.ieq true x)
     | _=>none)
   | some (.struct fs),some x,some y=>if P.stoodInHeld t=false/\P.eqGuardType P.depth t=false then(match sX P fs.toList with
     | some l=>(match op with
       | .eql=>some (.aeq .eql l x y)
       | .neq=>some (.aeq .neq l x y)
       | _=>none)
     | none=>none) else none
   | _,_,_=>none
 | .unOp .neg _ x=>(cw x).map .neg
 | .unOp .not _ x=>(cw x).map .not
 | .convert src dst x=>match P.underlying src,P.underlying dst,cw x with
   | some (.int _),some (.int k),some x=>some (.conv k x)
   | some (.int _),some .string,some x=>some (.rune x)
   | some .string,some .string,some x=>some (.text x)
   | _,_,_=>none
 | .call { callee:=.builtin .len,args:=⟨[x]⟩,argTypes:=⟨[t]⟩ }=>match P.underlying t,cw x with
   | some .string,some x=>some (.slen x)
   | some (.slice el),some x=>match gO P el with|some n=>if n=0 then none else some (.llen n x)|none=>none
   | some (.array n _),_=>some (.alen n)
   | _,_=>none
 | .call { callee:=.builtin .cap,args:=⟨[x]⟩,argTypes:=⟨[t]⟩ }=>match P.underlying t,cw x with
   | some (.slice _),some x=>some (.ncap x)
   | _,_=>none
 | .call { callee:=.builtin .unsafeSliceData,args:=⟨[x]⟩,.. }=>(cw x).map .ZC
 | .call { callee:=.builtin .min,args:=⟨[x,y]⟩,.. }=>match cw x,cw y with|some x,some y=>some (.min x y)|_,_=>none
 | .call { callee:=.builtin .max,args:=⟨[x,y]⟩,.. }=>match cw x,cw y with|some x,some y=>some (.max x y)|_,_=>none
 | .call { callee:=.builtin .min,args:=⟨[x,y,z]⟩,.. }=>match cw x,cw y,cw z with|some x,some y,some z=>some (.min3 x y z)|_,_,_=>none
 | .call { callee:=.builtin .max,args:=⟨[x,y,z]⟩,.. }=>match cw x,cw y,cw z with|some x,some y,some z=>some (.max3 x y z)|_,_,_=>none
 | .index t x i=>match P.underlying t,cw x,cw i with
   | some .string,some x,some i=>some (.index x i)
   | _,_,_=>none
 | .field t x f=>match P.underlying t,cw x with
   | some (.struct fs),some x=>match fs[f]? with
     | some fd=>match rX P fd.type with
       | some false=>(Qe P fd.type).map fun d=>.field fd.offset d x
       | some true=>(gO P fd.type).map fun n=>.Ju fd.offset n x
       | none=>none
     | none=>none
   | _,_=>none
 | .fieldAddr s x f=>match P.underlying s,cw x with
   | some (.struct fs),some x=>match fs[f]? with
     | some fd=>match gO P fd.type with
       | some n=>if n=0 then none else some (.fieldAddr fd.offset x)
       | none=>none
     | none=>none
   | _,_=>none
 | .indexAddr t x i=>match P.underlying t,cw x,cw i with
   | some (.slice el),some x,some i=>match gO P el with|some n=>if n=0 then none else some (.indexAddr n x i)|none=>none
   | some (.array len el),some x,some i=>(gO P el).map fun n=>.wZ len n x i
   | _,_,_=>none
 | .slice t x lo hi none=>match P.underlying t,cw x,zh lo,zh hi with
   | some (.slice el),some x,some lo,some hi=>match gO P el with|some n=>if n=0 then none else some (.slice n x lo hi)|none=>none
   | some .string,some x,some lo,some hi=>some (.Jv x lo hi)
   | _,_,_,_=>none
 | .extract x i=>(cw x).map (.extract i)
 | .makeFunc (.func f) ⟨[]⟩ caps=>(oJ caps.toList).map (.func f)
 | .makeFunc (.func f) ⟨[x]⟩ ⟨[]⟩=>(cw x).map (.mval f)
 | .build t parts=>match P.underlying t,jK P t with
   | some (.struct fs),some z=>match Js P fs.toList with
     | some pl=>(tf (fun i=>pl[i]?) parts.toList).map (.build z)
     | none=>none
   | some (.array _ el),some z=>match gO P el with
     | some n=>(tf (fun i=>some (i*n,n)) parts.toList).map (.build z)
     | none=>none
   | _,_=>none
 | _=>none
theorem map_some{α β:Type}{x:Option α}{f:α->β}{y:β}(h:x.map f=some y):∃ a,x=some a/\f a=y:=by
 cases x with
 | none=>cases h
 | some a=>exact⟨a,rfl,Option.some.inj h⟩
theorem dR{α:Type}{c:Prop}[Decidable c]{x:Option α}{y:α}(h:(if c then x else none)=some y):c/\x=some y:=by
 by_cases hc:c;rw[if_pos hc] at h;exact⟨hc,h⟩;rw[if_neg hc] at h;cases h
theorem aL.one{Z:av}:∀{x:W}{v:Value},aL Z x v->v.oneCell'=true
 | .bool _,_,e | .int _ _,_,e | .str _,_,e | .ef,_,e | .nil,_,e | .mD,_,e | .kO,_,e=>by simp only[aL] at e;subst e;rfl
 | .val _,_,e=>by simp only[aL] at e;rw[e.1];exact e.2
 | .ro _ _,_,e=>by simp only[aL] at e;obtain⟨_,_,_,rfl,_⟩:=e;rfl
 | .rp _ _,_,e=>by simp only[aL] at e;obtain⟨_,_,_,rfl,_⟩:=e;rfl
 | .rd d l,_,e=>by simp only[aL] at e;exact cM.one (.sl d) e
 | .re _ _ _,_,e=>by simp only[aL] at e;obtain⟨_,_,_,rfl,_⟩:=e;rfl
 | .func _ _,_,e=>by simp only[aL] at e;obtain⟨_,rfl⟩:=e;rfl
 | .ptr _ _,_,e=>by simp only[aL] at e
 | .pe _ _ _,_,e=>by simp only[aL] at e
 | .sl _ _ _ _,_,e=>by simp only[aL] at e
 | .yield _,_,e=>by simp only[aL] at e
 | .dL,_,e=>by simp only[aL] at e
 | .mp _,_,e=>by simp only[aL] at e
 | .mh,_,e=>by simp only[aL] at e
 | .ba _,_,e=>by simp only[aL] at e
 | .oh _ _ _,_,e=>by simp only[aL] at e
 | .th _ _,_,e=>by simp only[aL] at e
 | .row _ _ _,_,e=>by simp only[aL] at e
 | .pR _ _ _,_,e=>by simp only[aL] at e
 | .l9 _,_,e=>by simp only[aL] at e
 | .rs _ _,_,e=>by simp only[aL] at e;exact dV.one e
 | .y8 _,_,e=>by simp only[aL] at e;rcases e with ⟨_,_,_,rfl⟩|⟨_,rfl⟩<;>rfl
theorem ay.one{η:Eta}{Z:av}:∀{x:W}{v:Value},x≠.dL->ay η Z x v->v.oneCell'=true
 | .bool _,_,_,e | .int _ _,_,_,e | .str _,_,_,e | .ef,_,_,e | .nil,_,_,e | .ro _ _,_,_,e | .rp _ _,_,_,e | .rd _ _,_,_,e | .re _ _ _,_,_,e | .mD,_,_,e | .kO,_,_,e | .val _,_,_,e | .rs _ _,_,_,e | .y8 _,_,_,e=>aL.one e
 | .ptr _ _,_,_,⟨_,_,rfl⟩=>rfl
 | .pe _ _ _,_,_,⟨_,_,rfl⟩=>rfl
 | .sl _ _ _ _,_,_,.inl ⟨_,rfl⟩=>rfl
 | .sl _ _ _ _,_,_,.inr ⟨_,_,_,_,rfl,_⟩=>rfl
 | .func _ _,_,_,⟨_,rfl,_⟩=>rfl
 | .yield _,_,_,h=>by simp only[ay] at h;subst h;rfl
 | .dL,_,h,_=>absurd rfl h
 | .mp _,_,_,⟨_,_,rfl⟩=>rfl
 | .mh,_,_,h=>by simp only[ay,aL] at h
 | .ba _,_,_,⟨_,_,_,.inl rfl⟩=>rfl
 | .ba _,_,_,⟨_,_,_,.inr rfl⟩=>rfl
 | .oh _ _ _,_,_,⟨_,rfl,_⟩=>rfl
 | .th _ _,_,_,h=>by simp only[ay,aL] at h
 | .row _ _ _,_,_,⟨_,_,_,_,_,_,rfl,_⟩=>rfl
 | .pR _ _ _,_,_,⟨_,_,_,_,rfl⟩=>rfl
 | .l9 _,_,_,h=>by simp only[ay] at h;subst h;rfl
theorem aL.aK{Z:av}{x:W}{v:Value}(h:aL Z x v):x≠.dL:=by
 rintro rfl;simp only[aL] at h
theorem ay.ro{η:Eta}{Z:av}{sz:Nat}{cs:List W}{v:Value}(h:ay η Z (.ro sz cs) v) :
 ∃ a len c,v=.slice a len c/\cs.length=len*sz/\len<=c/\(cs=[]∨∃ b off cells,a=some ⟨b,off,none⟩/\Z b=some cells/\fE Z cells off cs):=by
 simpa only[ay,aL] using h
theorem ay.rp{η:Eta}{Z:av}{cs:List W}{off:Nat}{v:Value}(h:ay η Z (.rp cs off) v):∃ b o cells,v=.pointer (some ⟨b,o+off,none⟩)/\Z b=some cells/\fE Z cells o cs:=by
 simpa only[ay,aL] using h
theorem ay.rd{η:Eta}{Z:av}{d:D}{l:List d.ty}{v:Value}(h:ay η Z (.rd d l) v) :
 ∃ a len c,v=.slice a len c/\l.length=len/\len<=c/\(l=[]∨∃ b off cells,a=some ⟨b,off,none⟩/\Z b=some cells/\lT Z d cells off l):=by
 simp only[ay,aL,cM] at h;exact h
theorem ay.rs{η:Eta}{Z:av}{sz:Nat}{l:List PV}{v:Value}(h:ay η Z (.rs sz l) v) :
 ∃ a len c,v=.slice a len c/\l.length=len*sz/\len<=c/\(l=[]∨∃ b off cells,a=some ⟨b,off,none⟩/\Z b=some cells/\lT Z .pv cells off l):=by
 simp only[ay,aL,dV,jl.iff] at h;exact h
theorem ay.ZF{η:Eta}{Z:av}{sz:Nat}{l:List PV}{v:Value}(h:∃ a len c,v=.slice a len c/\l.length=len*sz/\len<=c/\(l=[]∨∃ b off cells,a=some ⟨b,off,none⟩/\Z b=some cells/\lT Z .pv cells off l)):ay η Z (.rs sz l) v:=by
 simp only[ay,aL,dV,jl.iff];exact h
theorem ay.re{η:Eta}{Z:av}{d:D}{l:List d.ty}{i:Nat}{v:Value}(h:ay η Z (.re d l i) v):∃ b o cells,v=.pointer (some ⟨b,o+i,none⟩)/\Z b=some cells/\lT Z d cells o l:=by
 simpa only[ay,aL] using h
theorem w6:∀{fs:List Fd}{off:Nat}{c:Cd}{f:Fd},jj fs off=some (c,f)->c->∃ pre post,fs=pre++f::post/\(pre.flatMap Fd.cells).length=off
 | [],_,_,_,e,_=>by cases e
 | .c x::fs,0,c,f,e,_=>by
   simp only[jj] at e;cases e;exact⟨[],fs,rfl,rfl⟩
 | .c x::fs,k+1,c,f,e,hc=>by
   simp only[jj] at e;obtain⟨pre,post,rfl,h⟩:=w6 e hc;exact⟨.c x::pre,post,rfl,by rw[List.flatMap_cons,List.length_append,h];simp only[Fd.cells,List.length_singleton];omega⟩
 | .a n d l::fs,0,c,f,e,_=>by
   simp only[jj] at e;cases e;exact⟨[],fs,rfl,rfl⟩
 | .a n d l :: fs, k + 1, c, f, e, hc => by
   simp only[jj] at e;cases hb:Nat.blt (k+1) n with
   | true=>rw[hb] at e;cases e
   | false =>
     rw[hb] at e;simp only[cond_false] at e;have hn:n<=k+1:=by
      rcases Nat.lt_or_ge (k+1) n with h|h;rw[(Nat.blt_eq (x:=k+1) (y:=n)).mpr h] at hb;cases hb;exact h
     split at e;rename_i c' f' he;cases e;obtain⟨pre,post,rfl,h⟩:=w6 he hc.2;exact⟨.a n d l::pre,post,rfl,by rw[List.flatMap_cons,List.length_append,h];simp only[Fd.cells,List.length_map];have:l.length=n:=hc.1;omega⟩;cases e
 | .m _ _ _::_,_,_,_,e,_=>by simp only[jj] at e;cases e
 | .b _::_,_,_,_,e,_=>by simp only[jj] at e;cases e
theorem fdGet_c{o:Ob}{off:Nat}{c:Cd}{x:W}(e:jj o.fs off=some (c,.c x))(hc:c):o.cells[off]? = some x:=by
 obtain⟨pre,post,h,hl⟩:=w6 e hc;unfold Ob.cells;rw[h,List.flatMap_append,List.getElem?_append_right (by omega)];simp[Fd.cells,hl]
theorem Na{o:Ob}{k:Nat}{x:W}(e:JB o.fs=some (k,x)):o.cells[k]? = some x:=by
 unfold Ob.cells;generalize o.fs=fs at e;unfold JB at e;split at e;rename_i n d l x' n' d' l';obtain⟨_,e⟩:=aj.aC e;cases e;simp[Fd.cells];cases e
theorem NK{o:Ob}{off n:Nat}{d:D}{l:List d.ty}{c:Cd}(e:jj o.fs off=some (c,.a n d l))(hc:c){i:Nat}(hi:i<l.length)(z:d.ty):o.cells[off+i]? = some (d.w (l.getD i z)):=by
 obtain⟨pre,post,h,hl⟩:=w6 e hc;unfold Ob.cells;rw[h,List.flatMap_append,List.getElem?_append_right (by omega),List.flatMap_cons,List.getElem?_append_left (by simp only[Fd.cells,List.length_map];omega)];have:off+i-(pre.flatMap Fd.cells).length=i:=by omega
 rw[this];simp only[Fd.cells,List.getElem?_map,List.getD_eq_getElem?_getD,List.getElem?_eq_getElem hi,Option.map_some,Option.getD_some]
theorem getD_some{l:List W}{i:Nat}{d:W}(h:i<l.length):l[i]? = some (l.getD i d):=by
 rw[List.getD_eq_getElem?_getD,List.getElem?_eq_getElem h];rfl
section
variable {P:Program} {base n:Nat} {η:Eta} {Z:av} {S:af} {w:World} {F:Fr} {a:Act}
theorem iW{t:TypeId}{p:Addr}{v:Value}(ht:rX P t=some false)(h:w.cell? p=some v):(Instr.loadAt t (.pointer (some p))).run P w=.ok v w:=by
 simp[Instr.loadAt,Instr.sureAddr,loadVar,oH ht,h]
theorem tg{t:TypeId}{b o m:Nat}{vs:List Value}(ht:rX P t=some true)(hs:gO P t=some m)(hl:vs.length=m)(h:∀(j:Nat) v,vs[j]? = some v->w.cell? ⟨b,o+j,none⟩=some v) :
 (Instr.loadAt t (.pointer (some ⟨b,o,none⟩))).run P w=.ok (.agg vs.toArray) w:=by
 by_cases h0:m=0;subst h0;have:vs=[]:=List.length_eq_zero_iff.1 hl;subst this;simp[Instr.loadAt,Instr.sureAddr,loadVar,oH ht,eE hs,loadCells,loadCellsFrom];have:=run_loadCells_list (P:=P) w ⟨b,o,none⟩ vs (fun j v hv=>by rw[Addr.add_lit];exact h j v hv);rw[hl] at this;simp[Instr.loadAt,Instr.sureAddr,loadVar,oH ht,eE hs,this]
theorem St.readRow(R:St base η Z S w){m:Nat}{o:Ob}{k:Nat}{aA:List (List Int)}(h:S.get m=some o)(ht:o.j5 k aA){p:cD}(hp:η m=some p){i:Nat}(hi:i<aA.length) :
 ∃ v,w.cell? ⟨p.block,p.off+i,none⟩=some v/\ay η Z (.row m i k) v:=by
 obtain⟨_,_,L⟩:=R.ak m o p h hp;have T:=L.tabs k aA ht;obtain⟨c,fz,hc,_,hr,_⟩:=T.outer;have hi':i<p.aA.length:=by rw[T.len];exact hi
 obtain⟨cp,ad,h1,h2,h3⟩:=hr i p.aA[i] (List.getElem?_eq_getElem hi');exact⟨_,by simp[World.cell?,hc,h1],p,p.aA[i],cp,ad,hp,List.getElem?_eq_getElem hi',rfl,h2,h3⟩
theorem St.readNum(R:St base η Z S w){m:Nat}{o:Ob}{k:Nat}{aA:List (List Int)}(h:S.get m=some o)(ht:o.j5 k aA){p:cD}(hp:η m=some p){i:Nat}(hi:i<aA.length){r:Nat×Nat}(hr:p.aA[i]? = some r){j:Nat}(hj:j<k) :
 w.cell? ⟨r.1,r.2+j,none⟩=some (.int .i64 ((aA.getD i []).getD j 0)):=by
 obtain⟨_,_,L⟩:=R.ak m o p h hp;have T:=L.tabs k aA ht;obtain⟨hl,c,t,fz,hc,_,hv,_⟩:=T.row i r aA[i] hr (List.getElem?_eq_getElem hi);have e:aA.getD i []=aA[i]:=by rw[List.getD_eq_getElem?_getD,List.getElem?_eq_getElem hi];rfl
 rw[e];have hj':j<aA[i].length:=by rw[hl];exact hj
 have:=hv j aA[i][j] (List.getElem?_eq_getElem hj');have e2:aA[i].getD j 0=aA[i][j]:=by rw[List.getD_eq_getElem?_getD,List.getElem?_eq_getElem hj'];rfl
 rw[e2];simp[World.cell?,hc,this]
theorem St.reads(R : St base η Z S w){m : Nat}{o : Ob}{p : cD}(h : S.get m = some o)(hp : η m = some p)(hm : ¬o.gG){off k : Nat}(hk : off + k ≤ o.cells.length) :
 ∃ vs:List Value,aO (ay η Z) ((o.cells.drop off).take k) vs/\vs.length=k/\(∀ v∈vs,v.oneCell'=true)/\∀(j:Nat) v,vs[j]? = some v->w.cell? ⟨p.block,p.off+off+j,none⟩=some v:=by
 induction k with
 | zero=>exact⟨[],by simp[aO],rfl,by simp,by simp⟩
 | succ k ih =>
   obtain⟨vs,h1,h2,h3,h4⟩:=ih (by omega);have hlt:off+k<o.cells.length:=by omega
   obtain⟨v,hv,hr,h1c⟩:=R.read h hp hm (i:=off+k) (x:=o.cells[off+k]) (List.getElem?_eq_getElem hlt);refine⟨vs++[v],?_,by simp[h2],?_,?_⟩;have:(o.cells.drop off).take (k+1)=(o.cells.drop off).take k++[o.cells[off+k]]:=by
    rw[List.take_add_one];congr 1;rw[List.getElem?_drop,List.getElem?_eq_getElem hlt];rfl
   rw[this];exact h1.append ⟨hr,trivial⟩;intro u hu;rcases List.mem_append.1 hu with hu|hu;exact h3 u hu;simp at hu;subst hu;exact h1c;intro j u hu;by_cases hj:j<k;rw[List.getElem?_append_left (by omega)] at hu;exact h4 j u hu;have hjk:j=k:=by
    have:=(List.getElem?_eq_some_iff.1 hu).1;simp[h2] at this;omega
   subst hjk;rw[List.getElem?_append_right (by omega)] at hu;simp[h2] at hu;subst hu;rw[<-hv];congr 2;omega
theorem St.SF(R : St base η Z S w){b : Nat}{cells : Array Value}(h : Z b = some cells){o : Nat}{cs : List W}(hs : fE Z cells o cs){off k : Nat}(hk : off + k ≤ cs.length) :
 ∃ vs:List Value,aO (aL Z) ((cs.drop off).take k) vs/\vs.length=k/\∀(j:Nat) v,vs[j]? = some v->w.cell? ⟨b,o+off+j,none⟩=some v:=by
 induction k with
 | zero=>exact⟨[],by simp[aO],rfl,by simp⟩
 | succ k ih =>
   obtain⟨vs,h1,h2,h4⟩:=ih (by omega);have hlt:off+k<cs.length:=by omega
   obtain⟨v,hv,hr⟩:=R.ZA h hs (i:=off+k) (x:=cs[off+k]) (List.getElem?_eq_getElem hlt);refine⟨vs++[v],?_,by simp[h2],?_⟩;have:(cs.drop off).take (k+1)=(cs.drop off).take k++[cs[off+k]]:=by
    rw[List.take_add_one];congr 1;rw[List.getElem?_drop,List.getElem?_eq_getElem hlt];rfl
   rw[this];exact h1.append ⟨hr,trivial⟩;intro j u hu;by_cases hj:j<k;rw[List.getElem?_append_left (by omega)] at hu;exact h4 j u hu;have hjk:j=k:=by
    have:=(List.getElem?_eq_some_iff.1 hu).1;simp[h2] at this;omega
   subst hjk;rw[List.getElem?_append_right (by omega)] at hu;simp[h2] at hu;subst hu;rw[<-hv];congr 2;omega
theorem aO.frozen{cs:List W}{vs:List Value}(h:aO (aL Z) cs vs):aO (ay η Z) cs vs/\∀ x∈cs,x≠.dL:=by
 refine⟨h.mono fun _ _=>aL.Qc,?_⟩
 induction cs generalizing vs with
 | nil=>simp
 | cons c cs ih =>
   cases vs with
   | nil=>exact h.elim
   | cons v vs =>
     intro x hx;rcases List.mem_cons.1 hx with rfl|hx;exact h.1.aK;exact ih h.2 x hx
def ck(P:Program)(η:Eta)(Z:av)(w:World)(s:Sem Next)(v:V):Prop:=∃ u,s.run P w=.ok (.value u) w/\dI η Z v u
theorem ck.of{s:Sem Value}{v:V}{u:Value}(h:s.run P w=.ok u w)(r:dI η Z v u):ck P η Z w (do pure (Next.value (<-s))) v:=⟨u,by simp[h],r⟩
theorem SG(R:St base η Z S w)(FR:aW n η Z F a.tmps){t:TypeId}{x':Operand}{x:bY}{d:W}{z:List PV}(hx:cw x'=some x)(ht:rX P t=some false){c:Cd}{v:V}(e:eG F S (.load d z x)=some (c,v))(hc:c) :
 ck P η Z w (do pure (Next.value (<-Instr.loadAt t (a.eval x')))) v:=by
 simp only[eG] at e;split at e;rename_i p m off hv;split at e;rename_i o ho;obtain⟨ho,hmo⟩:=jX ho;split at e;rename_i qc x hg;obtain⟨hl,e⟩:=aj.aC e;cases e;obtain⟨hp,Cj⟩:=hc;obtain⟨_,q,hq,hu⟩:=aJ FR hx hv hp;rw[hu];obtain⟨u,h1,h2,_⟩:=R.read ho hq hmo (fdGet_c hg Cj);exact ck.of (iW ht h1) ⟨W.Fu hl,h2⟩;rename_i qc k e' l hg;cases e;obtain⟨hp,Cj,hlt⟩:=hc;obtain⟨_,q,hq,hu⟩:=aJ FR hx hv hp;rw[hu];obtain⟨u,h1,h2,_⟩:=R.read ho hq hmo (NK hg Cj hlt e'.zero);exact ck.of (iW ht (by simpa using h1)) ⟨D.jv _ _,h2⟩;cases e;cases e;rename_i p m i j hv;split at e;rename_i k aA hk;obtain⟨o,ho,_,hto⟩:=nJ hk;cases e;obtain⟨hp,hi,hj⟩:=hc;obtain⟨_,q,r,hq,hr,hu⟩:=aJ FR hx hv hp;rw[hu];exact ck.of (iW ht (R.readNum ho hto hq hi hr hj)) ⟨by simp,by simp[ay,aL]⟩;cases e;rename_i p m off i hv;split at e;rename_i k aA hk;obtain⟨o,ho,_,hto⟩:=nJ hk;obtain⟨tj,e⟩:=aj.aC e;have tj:=Nat.eq_of_beq_eq_true tj;subst tj;cases e;obtain⟨hp,hi⟩:=hc;obtain⟨_,q,hq,hu⟩:=aJ FR hx hv hp;rw[hu];obtain⟨u,h1,h2⟩:=R.readRow ho hto hq hi;exact ck.of (iW ht (by simpa using h1)) ⟨by simp,h2⟩;split at e;rename_i o ho;obtain⟨ho,hmo⟩:=jX ho;split at e;rename_i l hl;obtain⟨tj,e⟩:=aj.aC e;have tj:=Nat.eq_of_beq_eq_true tj;subst tj;cases e;obtain⟨hp,hlt⟩:=hc;have hlt:i<l.length:=hlt;obtain⟨_,q,hq,hu⟩:=aJ FR hx hv hp;rw[hu];have hg:o.cells[0+i]? = some (.l9 (l.getD i 0)):=by
  unfold Ob.cells;rw[Fv hl];simp[Fd.cells,List.getD_eq_getElem?_getD,List.getElem?_eq_getElem hlt]
 obtain⟨u,h1,h2,_⟩:=R.read ho hq hmo hg;have h2:u=.int .u8 (l.getD i 0):=h2;rw[h2] at h1;exact ck.of (iW ht (by simpa using h1)) ⟨by simp,by simp[ay,aL]⟩;split at e;rename_i k x hh;obtain⟨hl,e1⟩:=aj.aC e;clear e;simp only[Bool.and_eq_true] at hl;have tj:=Nat.eq_of_beq_eq_true hl.2;subst tj;cases e1;obtain⟨hp,hik⟩:=hc;have hik':i=k:=hik;subst hik';obtain⟨_,q,hq,hu⟩:=aJ FR hx hv hp;rw[hu];obtain⟨u,h1,h2,_⟩:=R.read ho hq hmo (Na hh);exact ck.of (iW ht (by simpa using h1)) ⟨W.Fu hl.1,h2⟩;split at e;rename_i qc k e' l hg;cases e;obtain⟨hp,Cj,hlt⟩:=hc;obtain⟨_,q,hq,hu⟩:=aJ FR hx hv hp;rw[hu];obtain⟨u,h1,h2,_⟩:=R.read ho hq hmo (NK hg Cj hlt e'.zero);exact ck.of (iW ht h1) ⟨D.jv _ _,h2⟩;cases e;obtain⟨hp,hlt,hd⟩:=hc;obtain⟨_,q,hq,hu⟩:=aJ FR hx hv hp;rw[hu];obtain⟨u,h1,h2,_⟩:=R.read ho hq hmo (getD_some (d:=d) hlt);exact ck.of (iW ht h1) ⟨hd,h2⟩;cases e;cases e;rename_i p cs off hv;cases e;obtain⟨hp,hlt⟩:=hc;obtain⟨b,o,cells,hu,hz,hs⟩:=(aJ FR hx hv hp).2.rp;rw[hu];obtain⟨u,h1,h2⟩:=R.ZA hz hs (getD_some (d:=d) hlt);exact ck.of (iW ht h1) ⟨h2.aK,h2.Qc⟩
 . rename_i p e' l i hv;split at e
   case h_2=>cases e
   rename_i c2 y hy;cases e;obtain⟨hp,hlt,hc2⟩:=hc;rw[ldD_eq hy hc2];obtain⟨b,o,cells,hu,hz,hs⟩:=(aJ FR hx hv hp).2.re;rw[hu];obtain⟨u,h1,h2⟩:=hs i (l.getD i e'.zero) (by rw[List.getD_eq_getElem?_getD,List.getElem?_eq_getElem hlt];rfl);obtain⟨ty,fz,hw⟩:=R.zs b cells hz;exact ck.of (iW (v:=u) ht (by simp[World.cell?,hw,h1])) ⟨D.jv _ _,(D.fO _).2 h2⟩
 cases e
theorem Qf(R:St base η Z S w)(FR:aW n η Z F a.tmps){t:TypeId}{x':Operand}{x:bY}{k:Nat}{z:List PV}(hx:cw x'=some x)(ht:rX P t=some true)(hs:gO P t=some k){c:Cd}{v:V}(e:eG F S (.uj k z x)=some (c,v))(hc:c) :
 ck P η Z w (do pure (Next.value (<-Instr.loadAt t (a.eval x')))) v:=by
 simp only[eG] at e;split at e;rename_i p m off hv;split at e;rename_i o ho;obtain⟨ho,hmo⟩:=jX ho;obtain⟨hb,e⟩:=aj.aC e;simp only[Bool.and_eq_true,Nat.ble_eq] at hb;cases e;obtain⟨_,q,hq,hu⟩:=aJ FR hx hv hc;rw[hu];obtain⟨vs,h1,h2,_,h4⟩:=R.reads ho hq hmo hb.1;exact ck.of (tg ht hs h2 h4) ⟨vs,rfl,D3 hb.2,h1⟩;cases e;rename_i p cs off hv;cases e;obtain⟨hp,hlt⟩:=hc;obtain⟨b,o,cells,hu,hz,hfs⟩:=(aJ FR hx hv hp).2.rp;rw[hu];obtain⟨vs,h1,h2,h4⟩:=R.SF hz hfs hlt;exact ck.of (tg ht hs h2 h4) ⟨vs,rfl,(aO.frozen (η:=η) h1).2,(aO.frozen h1).1⟩
 . rename_i p e' l i hv;split at e
   case h_2=>cases e
   rename_i m hm;obtain⟨rfl,hm⟩:=pvL_eq hm;have hm:l=m:=hm;subst hm;obtain⟨hzl,e⟩:=aj.aC e;have hzl:=Nat.eq_of_beq_eq_true hzl;cases e;obtain⟨hp,hlt,hc2⟩:=hc;have hlt:i+k<=l.length:=hlt;rw[JA hc2 (by omega),hzl];obtain⟨b,o,cells,hu,hz,hfs⟩:=(aJ FR hx hv hp).2.re;rw[hu];have hfs':fE Z cells o (l.map PV.w):=by
    refine fE.ox fun j x hx'=>?_;rw[List.getElem?_map] at hx';cases hj:l[j]? with
    | none=>rw[hj] at hx';cases hx'
    | some y =>
      rw[hj] at hx';cases hx';obtain⟨u,a1,a2⟩:=hfs j y hj;exact⟨u,a1,PV.Zz.2 a2⟩
   obtain⟨vs,h1,h2,h4⟩:=R.SF hz hfs' (off:=i) (k:=k) (by rw[List.length_map];exact hlt);rw[<-List.map_drop,<-List.map_take] at h1;exact ck.of (tg ht hs h2 h4) ⟨vs,rfl,(aO.frozen (η:=η) h1).2,(aO.frozen h1).1⟩
 cases e
theorem fC{k:IntKind}{i:Int}:dI η Z (.c (.int k i)) (.int k i):=⟨by simp,by simp[ay,aL]⟩
theorem iX{b:Bool}:dI η Z (.c (.bool b)) (.bool b):=⟨by simp,by simp[ay,aL]⟩
theorem qF{s:ByteArray}:dI η Z (.c (.str s)) (.string s):=⟨by simp,by simp[ay,aL]⟩
theorem qW{op:BinOp}{t:TypeId}{x y:Operand}{k k':IntKind}{i j:Int}:eqGuard op t x y (.int k i) (.int k' j)=pure ():=by
 unfold eqGuard;cases op<;>rfl
theorem Ck{op:BinOp}{t:TypeId}{x y:Operand}{i j:ByteArray}:eqGuard op t x y (.string i) (.string j)=pure ():=by
 unfold eqGuard;cases op<;>rfl
theorem JE{op:BinOp}{t:TypeId}{x y:Operand}{i j:Bool}:eqGuard op t x y (.bool i) (.bool j)=pure ():=by
 unfold eqGuard;cases op<;>rfl
theorem WD{op:BinOp}{t:TypeId}{x y:Operand}{k:IntKind}{i j:Int}(h:D2 op=true):(do eqGuard op t x y (.int k i) (.int k j);binOp op t (.int k i) (.int k j)).run P w=.ok (.int k (iop op k i j)) w:=by
 rw[qW];cases op<;>simp[D2] at h<;>simp[binOp,Op.intArith,Op.intBits,iop]
theorem JF{op:BinOp}{t:TypeId}{x y:Operand}{k:IntKind}{i j:Int}(h:op=.quo∨op=.rem)(hj:j≠0):(do eqGuard op t x y (.int k i) (.int k j);binOp op t (.int k i) (.int k j)).run P w=.ok (.int k (Jw op k i j)) w:=by
 rw[qW];rcases h with rfl|rfl<;>simp[binOp,Op.intDiv,hj,Jw]
theorem GJ{op:BinOp}{t:TypeId}{x y:Operand}{k k':IntKind}{i j:Int}(h:op=.shl∨op=.shr)(hj:0<=j):(do eqGuard op t x y (.int k i) (.int k' j);binOp op t (.int k i) (.int k' j)).run P w=.ok (.int k (shiftOp op k i j)) w:=by
 rw[qW];have:¬j<0:=by omega
 rcases h with rfl|rfl<;>simp[binOp,Op.shift,this,shiftOp]
theorem WE{op:BinOp}{t:TypeId}{x y:Operand}{k:IntKind}{i j:Int}(h:Bl op=true):(do eqGuard op t x y (.int k i) (.int k j);binOp op t (.int k i) (.int k j)).run P w=.ok (.bool (Jy op i j)) w:=by
 rw[qW];cases op<;>simp[Bl] at h<;>simp[binOp,Op.intCmp,Jy]
 all_goals rfl
theorem WG{a b:ByteArray}:(a.toList==b.toList)=decide (a=b):=by
 rw[Bool.eq_iff_iff];simp only[beq_iff_eq,decide_eq_true_eq];constructor;intro h;apply ByteArray.ext;have h1:a.data.toList=b.data.toList:=by rw[<-ByteArray.toList_eq,<-ByteArray.toList_eq];exact h
 exact Array.ext' h1;rintro rfl;rfl
theorem WH{op:BinOp}{t:TypeId}{x y:Operand}{i j:ByteArray}(h:Bl op=true):(do eqGuard op t x y (.string i) (.string j);binOp op t (.string i) (.string j)).run P w=.ok (.bool (Jz op i j)) w:=by
 rw[Ck];cases op<;>simp[Bl] at h<;>simp only[binOp,Op.stringOp,Jz,WG,Sem.run_pure,pure_bind]
theorem WI{t:TypeId}{x y:Operand}{i j:ByteArray}(h:i.size+j.size<=9223372036854775807):(do eqGuard .add t x y (.string i) (.string j);binOp .add t (.string i) (.string j)).run P w=.ok (.string (i++j)) w:=by
 rw[Ck];have:¬((i.size+j.size:Nat):Int)>IntKind.i64.max:=by
  have:IntKind.i64.max=9223372036854775807:=by rfl
  omega
 simp only[pure_bind,binOp,Op.stringOp,this,if_false,Sem.run_pure]
theorem JG{t:TypeId}{i j:Bool}(hu:P.underlying t=some .bool)(d:Nat):(Op.equalIn (d+1) t (.bool i) (.bool j)).run P w=.ok (i==j) w:=by
 simp only[Op.equalIn,Sem.run_bind,run_underlying hu,Result.andThen_ok,Sem.run_pure]
theorem NM{op:BinOp}{t:TypeId}{x y:Operand}{i j:Bool}(hu:P.underlying t=some .bool)(h:op=.eql∨op=.neq):(do eqGuard op t x y (.bool i) (.bool j);binOp op t (.bool i) (.bool j)).run P w=.ok (.bool (match op with | .eql=>i==j|_=>!(i==j))) w:=by
 rw[JE];have h1:(Op.equal t (.bool i) (.bool j)).run P w=.ok (i==j) w:=JG hu 9999;rcases h with rfl|rfl<;>simp[binOp,h1]
end
theorem dI.cells{η:Eta}{Z:av}{x:V}{v:Value}(h:dI η Z x v):aO (ay η Z) x.cells v.cells.toList/\(∀ y∈x.cells,y≠.dL)/\(∀ u∈v.cells.toList,u.oneCell'=true):=by
 cases x with
 | c x =>
   have h1:=ay.one h.1 h.2;have hc:v.cells=#[v]:=by cases v<;>simp[Value.oneCell'] at h1<;>rfl
   rw[hc];exact⟨⟨h.2,trivial⟩,by simpa[V.cells] using h.1,by simpa using h1⟩
 | agg cs =>
   obtain⟨vs,rfl,hd,hl⟩:=h;refine⟨by simpa[Value.cells,V.cells] using hl,hd,?_⟩;intro u hu;simp[Value.cells] at hu
   induction cs generalizing vs with
   | nil=>cases vs with|nil=>simp at hu|cons _ _=>exact hl.elim
   | cons c cs ih =>
     cases vs with
     | nil=>exact hl.elim
     | cons v vs =>
       rcases List.mem_cons.1 hu with rfl|hu;exact ay.one (hd _ (by simp)) hl.1;exact ih vs (fun y hy=>hd y (List.mem_cons_of_mem _ hy)) hl.2 hu
section
variable {P:Program} {base n:Nat} {η:Eta} {Z:av} {S:af} {w:World} {F:Fr} {a:Act}
theorem ay.nil_eq{v:Value}(h:ay η Z .nil v):v=.slice none 0 0:=by simpa only[ay,aL] using h
theorem jE(FR:aW n η Z F a.tmps){x':Option Operand}{x:Option bY}(hx:zh x'=some x){d:Int}{c:Cd}{i:Int}(e:ul F x d=some (c,i))(hc:c):(x'=none/\i=d)∨∃ y k,x'=some y/\a.eval y=.int k i:=by
 cases x' with
 | none =>
   cases hx;cases e;exact .inl ⟨rfl,rfl⟩
 | some y =>
   simp only[zh] at hx;split at hx;rename_i z hz;cases hx;simp only[ul] at e;split at e;rename_i c' k n' hk;cases e;exact .inr ⟨y,k,rfl,cY FR hz hk hc⟩;cases e;cases hx
theorem nK{k:IntKind}{i:Int}{y:Nat}{code:BoundsCode}(h0:0<=i)(h1:i<=y):(Instr.sliceBound (.int k i) y code).run P w=.ok i.toNat w:=by
 simp[Instr.sliceBound,asIntOf,h0,h1]
theorem uq{isS:Bool}{len cap:Nat}{lo hi:Option Operand}{l h:Int}(hc:len<=cap)(hl:(lo=none/\l=0)∨∃ y k,lo=some y/\a.eval y=.int k l)(hh:(hi=none/\h=len)∨∃ y k,hi=some y/\a.eval y=.int k h)(h0:0<=l)(h1:l<=h)(h2:h<=len) :
 (Instr.sliceBounds isS len cap (lo.map a.eval) (hi.map a.eval) none).run P w=.ok (l.toNat,h.toNat,cap) w:=by
 have e1:h<=(cap:Int):=by omega
 have e2:l<=((h.toNat:Nat):Int):=by omega
 rcases hh with ⟨rfl,rfl⟩|⟨y,k,rfl,hy⟩;rcases hl with ⟨rfl,rfl⟩|⟨z,k',rfl,hz⟩;simp[Instr.sliceBounds];have:=nK (P:=P) (w:=w) (k:=k') (code:=.sliceB) h0 (y:=len) (by omega);simp[Instr.sliceBounds,hz,this];rcases hl with ⟨rfl,rfl⟩|⟨z,k',rfl,hz⟩;have:=fun code=>nK (P:=P) (w:=w) (k:=k) (code:=code) (y:=cap) (i:=h) (by omega) e1;simp[Instr.sliceBounds,hy,this];have:=fun code=>nK (P:=P) (w:=w) (k:=k) (code:=code) (y:=cap) (i:=h) (by omega) e1;have t:=nK (P:=P) (w:=w) (k:=k') (code:=.sliceB) h0 e2;simp[Instr.sliceBounds,hy,hz,this,t]
theorem mG{t el:TypeId}{sz:Nat}(hu:P.underlying t=some (.slice el))(hs:gO P el=some sz){ad:Option Addr}{len cap:Nat}{lo hi:Option Operand}{l h:Int}(hc:len<=cap)
 (hl:(lo=none/\l=0)∨∃ y k,lo=some y/\a.eval y=.int k l) (hh:(hi=none/\h=len)∨∃ y k,hi=some y/\a.eval y=.int k h) (h0:0<=l) (h1:l<=h) (h2:h<=len) :
 (Instr.sliceAt t (.slice ad len cap) (lo.map a.eval) (hi.map a.eval) none).run P w=.ok (.slice (if cap=l.toNat then ad else ad.map (·.add (l.toNat*sz))) (h.toNat-l.toNat) (cap-l.toNat)) w:=by
 simp only[Instr.sliceAt,Sem.run_bind,run_underlying hu,Result.andThen_ok,Instr.slice,uq hc hl hh h0 h1 h2,eE hs,Sem.run_pure]
theorem Qg(FR:aW n η Z F a.tmps){t el:TypeId}{sz:Nat}(hu:P.underlying t=some (.slice el))(hs:gO P el=some sz)(hsz:sz≠0){x':Operand}{x:bY}{lo' hi':Option Operand}{lo hi:Option bY}(hx:cw x'=some x)(hlo:zh lo'=some lo)(hhi:zh hi'=some hi)
 {c:Cd} {v:V} (e:eG F S (.slice sz x lo hi)=some (c,v)) (hc:c):ck P η Z w (do pure (Next.value (<-Instr.sliceAt t (a.eval x') (lo'.map a.eval) (hi'.map a.eval) none))) v:=by
 simp only[eG] at e;split at e;rename_i p hv;split at e;rename_i q l r h hl hh;cases e;obtain⟨hp,hq,hr,rfl,rfl⟩:=hc;have:=(aJ FR hx hv hp).2.nil_eq;rw[this];have hrun:=mG (P:=P) (w:=w) (a:=a) hu hs (ad:=none) (len:=0) (cap:=0) (Nat.le_refl _) (jE FR hlo hl hq) (jE FR hhi hh hr) (by omega) (by omega) (by omega);exact ck.of hrun ⟨by simp,by simp[ay,aL]⟩;cases e;rename_i p m off len sz' hv;obtain⟨rfl,e⟩:=dR e;split at e;rename_i q l r h hl hh;cases e;obtain⟨hp,hq,hr,h0,h1,h2⟩:=hc;obtain⟨_,⟨ZG,hev⟩|⟨pl,cap,ad,hpl,hev,hcap,hroom,had⟩⟩:=aJ FR hx hv hp;subst ZG;rw[hev];have hrun:=mG (P:=P) (w:=w) (a:=a) hu hs (ad:=none) (len:=0) (cap:=0) (Nat.le_refl _) (jE FR hlo hl hq) (jE FR hhi hh hr) h0 h1 h2;refine ck.of hrun ⟨by simp,?_⟩;refine .inl ⟨by omega,?_⟩;have e1:h.toNat-l.toNat=0:=by omega
 simp[e1];rw[hev];have hrun:=mG (P:=P) (w:=w) (a:=a) hu hs (ad:=some ad) hcap (jE FR hlo hl hq) (jE FR hhi hh hr) h0 h1 h2;refine ck.of hrun ⟨by simp,?_⟩;refine .inr ⟨pl,cap-l.toNat,if cap=l.toNat then ad else ad.add (l.toNat*sz'),hpl,?_,by omega,?_,?_⟩;have:h.toNat-l.toNat=(h-l).toNat:=by omega
 rw[this];split<;>rfl;have:(cap-l.toNat)*sz'+l.toNat*sz'=cap*sz':=by rw[<-Nat.add_mul];congr 1;omega
 omega;by_cases bU:cap=l.toNat;exact .inl (by omega);rcases had with rfl|rfl;exact .inl (by omega);rw[if_neg bU,Addr.add_lit];exact .inr (by simp);cases e;rename_i p sz' cs hv;obtain⟨rfl,e⟩:=dR e;split at e;rename_i q l r h hl hh;cases e;obtain⟨hp,hq,hr,h0,h1,h2⟩:=hc;obtain⟨ad,len,cap,hev,bS,hcap,hcs⟩:=(aJ FR hx hv hp).2.ro;have w7:cs.length/sz'=len:=by rw[bS];exact Nat.mul_div_cancel _ (by omega)
 rw[w7] at h2 hh;rw[hev];have hrun:=mG (P:=P) (w:=w) (a:=a) hu hs (ad:=ad) hcap (jE FR hlo hl hq) (jE FR hhi hh hr) h0 h1 h2;refine ck.of hrun ⟨by simp,?_⟩;simp only[ay,aL];refine⟨_,_,_,rfl,?_,by omega,?_⟩;simp only[List.length_drop,List.length_take,bS];have:h.toNat*sz'<=len*sz':=Nat.mul_le_mul_right _ (by omega);rw[Nat.min_eq_left this,<-Nat.sub_mul];rcases hcs with rfl|⟨b,off,cells,rfl,hz,hf⟩;exact .inl (by simp);by_cases bU:cap=l.toNat;left;apply List.eq_nil_of_length_eq_zero;simp only[List.length_drop,List.length_take,bS];have:h.toNat*sz'<=l.toNat*sz':=Nat.mul_le_mul_right _ (by omega);omega;right;refine⟨b,off+l.toNat*sz',cells,?_,hz,?_⟩;rw[if_neg bU];simp[Addr.add_lit];exact(hf.take _).drop _;cases e
 rotate_left
 rename_i p sz' cs hv;obtain⟨rfl,e⟩:=dR e;split at e;rename_i q l r h hl hh;cases e;obtain⟨hp,hq,hr,h0,h1,h2⟩:=hc;obtain⟨ad,len,cap,hev,bS,hcap,hcs⟩:=(aJ FR hx hv hp).2.rs;have w7:cs.length/sz'=len:=by rw[bS];exact Nat.mul_div_cancel _ (by omega)
 rw[w7] at h2 hh;rw[hev];have hrun:=mG (P:=P) (w:=w) (a:=a) hu hs (ad:=ad) hcap (jE FR hlo hl hq) (jE FR hhi hh hr) h0 h1 h2;refine ck.of hrun ⟨by simp,ay.ZF ?_⟩;refine⟨_,_,_,rfl,?_,by omega,?_⟩;simp only[List.length_drop,List.length_take,bS];have:h.toNat*sz'<=len*sz':=Nat.mul_le_mul_right _ (by omega);rw[Nat.min_eq_left this,<-Nat.sub_mul];rcases hcs with rfl|⟨b,off,cells,rfl,hz,hf⟩;exact .inl (by simp);by_cases bU:cap=l.toNat;left;apply List.eq_nil_of_length_eq_zero;simp only[List.length_drop,List.length_take,bS];have:h.toNat*sz'<=l.toNat*sz':=Nat.mul_le_mul_right _ (by omega);omega;right;refine⟨b,off+l.toNat*sz',cells,?_,hz,?_⟩;rw[if_neg bU];simp[Addr.add_lit];exact(hf.take _).drop _;cases e;cases e;rename_i p d xs hv;obtain⟨hs1,e2⟩:=dR e;subst hs1;split at e2;rename_i q l r h hl hh;cases e2;obtain⟨hp,hq,hr,h0,h1,h2⟩:=hc;obtain⟨ad,len,cap,hev,bS,hcap,hcs⟩:=(aJ FR hx hv hp).2.rd;rw[bS] at h2 hh;rw[hev];have hrun:=mG (P:=P) (w:=w) (a:=a) hu hs (ad:=ad) hcap (jE FR hlo hl hq) (jE FR hhi hh hr) h0 h1 h2;refine ck.of hrun ⟨by simp,?_⟩;simp only[ay,aL,cM];refine⟨_,_,_,rfl,?_,by omega,?_⟩;simp only[List.length_drop,List.length_take,bS];rw[Nat.min_eq_left (by omega)];rcases hcs with rfl|⟨b,off,cells,rfl,hz,hf⟩;exact .inl (by simp);by_cases bU:cap=l.toNat;left;apply List.eq_nil_of_length_eq_zero;simp only[List.length_drop,List.length_take,bS];omega;right;refine⟨b,off+l.toNat,cells,?_,hz,?_⟩;rw[if_neg bU];simp[Addr.add_lit];exact(hf.take _).drop _;cases e2
theorem Nb(FR:aW n η Z F a.tmps){t:TypeId}(hu:P.underlying t=some .string){x':Operand}{x:bY}{lo' hi':Option Operand}{lo hi:Option bY}(hx:cw x'=some x)(hlo:zh lo'=some lo)(hhi:zh hi'=some hi)
 {c:Cd} {v:V} (e:eG F S (.Jv x lo hi)=some (c,v)) (hc:c):ck P η Z w (do pure (Next.value (<-Instr.sliceAt t (a.eval x') (lo'.map a.eval) (hi'.map a.eval) none))) v:=by
 simp only[eG] at e;split at e;rename_i p s hv;split at e;rename_i q l r h hl hh;cases e;obtain⟨hp,hq,hr,h0,h1,h2⟩:=hc;rw[mF FR hx hv hp];have hb:=uq (P:=P) (w:=w) (a:=a) (isS:=false) (Nat.le_refl s.size) (jE FR hlo hl hq) (jE FR hhi hh hr) h0 h1 h2;refine ck.of (u:=.string (s.extract l.toNat h.toNat)) ?_ qF;simp[Instr.sliceAt,run_underlying hu,Instr.slice,hb];cases e;cases e
theorem Fw(FR:aW n η Z F a.tmps){t el:TypeId}{sz:Nat}(hu:P.underlying t=some (.slice el))(hs:gO P el=some sz)(hsz:sz≠0){x' i':Operand}{x i:bY}(hx:cw x'=some x)(hi:cw i'=some i)
 {c:Cd} {v:V} (e:eG F S (.indexAddr sz x i)=some (c,v)) (hc:c):ck P η Z w (do pure (Next.value (<-Instr.indexAt t (a.eval x') (a.eval i')))) v:=by
 simp only[eG] at e;split at e;rename_i p m off len sz' q k j hv hk;obtain⟨rfl,e⟩:=dR e;cases e;obtain⟨hp,hq,h0,h1⟩:=hc;obtain⟨_,⟨ZG,hev⟩|⟨pl,cap,ad,hpl,hev,hcap,hroom,had⟩⟩:=aJ FR hx hv hp;omega;rw[hev,cY FR hi hk hq];have hca:ad=⟨pl.block,pl.off+off,none⟩:=by
  rcases had with rfl|rfl;omega;rfl
 subst hca;refine ck.of (u:=.pointer (some ⟨pl.block,pl.off+off+j.toNat*sz',none⟩)) ?_ ?_;simp[Instr.indexAt,asIntOf,run_underlying hu,h0,h1,eE hs,Addr.add_lit]
 . cases hb:Nat.beq sz' 1 with
   | false=>exact⟨by simp,pl,hpl,by simp[Nat.add_assoc]⟩
   | true =>
     have:sz'=1:=Nat.eq_of_beq_eq_true hb;subst this;exact⟨by simp,pl,hpl,by simp[Nat.add_assoc]⟩
 rename_i p sz' cs q k j hv hk;obtain⟨rfl,e⟩:=dR e;cases e;obtain⟨hp,hq,h0,h1⟩:=hc;obtain⟨ad,len,cap,hev,bS,hcap,hcs⟩:=(aJ FR hx hv hp).2.ro;rw[hev,cY FR hi hk hq];rcases hcs with rfl|⟨b,off,cells,rfl,hz,hf⟩;simp at h1;have h2:j<(len:Int):=by
  rw[bS] at h1;have:=Nat.lt_of_mul_lt_mul_right h1;omega
 refine ck.of (u:=.pointer (some ⟨b,off+j.toNat*sz',none⟩)) ?_ ⟨by simp,?_⟩;simp[Instr.indexAt,asIntOf,run_underlying hu,h0,h2,eE hs,Addr.add_lit];simp only[ay,aL];exact⟨b,off,cells,rfl,hz,hf⟩;rename_i p d l q k j hv hk;obtain⟨hs1,e2⟩:=dR e;subst hs1;cases e2;obtain⟨hp,hq,h0,h1⟩:=hc;obtain⟨ad,len,cap,hev,bS,hcap,hcs⟩:=(aJ FR hx hv hp).2.rd;rw[hev,cY FR hi hk hq];rcases hcs with rfl|⟨b,off,cells,rfl,hz,hf⟩;simp at h1;omega;have h2:j<(len:Int):=by omega
 refine ck.of (u:=.pointer (some ⟨b,off+j.toNat,none⟩)) ?_ ⟨by simp,?_⟩;simp[Instr.indexAt,asIntOf,run_underlying hu,h0,h2,eE hs,Addr.add_lit];simp only[ay,aL];exact⟨b,off,cells,rfl,hz,hf⟩;rename_i p m r len q k j hv hk;obtain⟨hs1,e2⟩:=dR e;subst hs1;cases e2;obtain⟨hp,hq,h0,h1⟩:=hc;obtain⟨_,pl,r0,cap,ad,hpl,hr,hev,hcap,had⟩:=aJ FR hx hv hp;rw[had (by omega)] at hev;rw[hev,cY FR hi hk hq];refine ck.of (u:=.pointer (some ⟨r0.1,r0.2+j.toNat,none⟩)) ?_ ⟨by simp,pl,r0,hpl,hr,rfl⟩;simp[Instr.indexAt,asIntOf,run_underlying hu,h0,h1,eE hs,Addr.add_lit];rename_i p sz' cs q k j hv hk;obtain⟨rfl,e⟩:=dR e;cases e;obtain⟨hp,hq,h0,h1⟩:=hc;obtain⟨ad,len,cap,hev,bS,hcap,hcs⟩:=(aJ FR hx hv hp).2.rs;rw[hev,cY FR hi hk hq];rcases hcs with rfl|⟨b,off,cells,rfl,hz,hf⟩;simp at h1;have h2:j<(len:Int):=by
  rw[bS] at h1;have:=Nat.lt_of_mul_lt_mul_right h1;omega
 refine ck.of (u:=.pointer (some ⟨b,off+j.toNat*sz',none⟩)) ?_ ⟨by simp,?_⟩;simp[Instr.indexAt,asIntOf,run_underlying hu,h0,h2,eE hs,Addr.add_lit];simp only[ay,aL];exact⟨b,off,cells,rfl,hz,hf⟩;cases e
theorem D4(FR:aW n η Z F a.tmps){t el:TypeId}{sz len:Nat}(hu:P.underlying t=some (.array len el))(hs:gO P el=some sz){x' i':Operand}{x i:bY}(hx:cw x'=some x)(hi:cw i'=some i)
 {c:Cd} {v:V} (e:eG F S (.wZ len sz x i)=some (c,v)) (hc:c):ck P η Z w (do pure (Next.value (<-Instr.indexAt t (a.eval x') (a.eval i')))) v:=by
 simp only[eG] at e;split at e;rename_i p m off q k j hv hk;cases e;obtain⟨hp,hq,h0,h1⟩:=hc;obtain⟨_,pl,hpl,hev⟩:=aJ FR hx hv hp;rw[hev,cY FR hi hk hq];refine ck.of (u:=.pointer (some ⟨pl.block,pl.off+off+j.toNat*sz,none⟩)) ?_ ?_;simp[Instr.indexAt,asIntOf,run_underlying hu,h0,h1,eE hs,Addr.add_lit,Instr.sureAddr]
 . cases hb:Nat.beq sz 1 with
   | false=>exact⟨by simp,pl,hpl,by simp[Nat.add_assoc]⟩
   | true =>
     have:sz=1:=Nat.eq_of_beq_eq_true hb;subst this;exact⟨by simp,pl,hpl,by simp[Nat.add_assoc]⟩
 rename_i p cs off q k j hv hk;cases e;obtain⟨hp,hq,h0,h1⟩:=hc;obtain⟨b,o,cells,hev,hz,hf⟩:=(aJ FR hx hv hp).2.rp;rw[hev,cY FR hi hk hq];refine ck.of (u:=.pointer (some ⟨b,o+off+j.toNat*sz,none⟩)) ?_ ⟨by simp,?_⟩;simp[Instr.indexAt,asIntOf,run_underlying hu,h0,h1,eE hs,Addr.add_lit,Instr.sureAddr];simp only[ay,aL];exact⟨b,o,cells,by simp[Nat.add_assoc],hz,hf⟩;cases e
theorem Fx(FR:aW n η Z F a.tmps){s:TypeId}{fs:_}(hu:P.underlying s=some (.struct fs)){f:Nat}{fd:_}(hf:fs[f]? = some fd){k:Nat}(hs:gO P fd.type=some k)(hk:k≠0){x':Operand}{x:bY}(hx:cw x'=some x)
 {c:Cd} {v:V} (e:eG F S (.fieldAddr fd.offset x)=some (c,v)) (hc:c):ck P η Z w (do pure (Next.value (<-Instr.fieldAt s (a.eval x') f))) v:=by
 simp only[eG] at e;split at e;rename_i p m off hv;cases e;obtain⟨_,pl,hpl,hev⟩:=aJ FR hx hv hc;rw[hev];refine ck.of (u:=.pointer (some ⟨pl.block,pl.off+off+fd.offset,none⟩)) ?_ ⟨by simp,pl,hpl,by simp[Nat.add_assoc]⟩;simp[Instr.fieldAt,run_underlying hu,hf,Instr.sureAddr,fieldPlace,eE hs,hk,Addr.add_lit];rename_i p cs off hv;cases e;obtain⟨b,o,cells,hev,hz,hfs⟩:=(aJ FR hx hv hc).2.rp;rw[hev];refine ck.of (u:=.pointer (some ⟨b,o+off+fd.offset,none⟩)) ?_ ⟨by simp,?_⟩;simp[Instr.fieldAt,run_underlying hu,hf,Instr.sureAddr,fieldPlace,eE hs,hk,Addr.add_lit];simp only[ay,aL];exact⟨b,o,cells,by simp[Nat.add_assoc],hz,hfs⟩;rename_i p d l i hv;cases e;obtain⟨b,o,cells,hev,hz,hfs⟩:=(aJ FR hx hv hc).2.re;rw[hev];refine ck.of (u:=.pointer (some ⟨b,o+i+fd.offset,none⟩)) ?_ ⟨by simp,?_⟩;simp[Instr.fieldAt,run_underlying hu,hf,Instr.sureAddr,fieldPlace,eE hs,hk,Addr.add_lit];simp only[ay,aL];exact⟨b,o,cells,by simp[Nat.add_assoc],hz,hfs⟩;cases e
theorem aO.drop{α β:Type}{R:α->β->Prop}:∀{l:List α}{m:List β}(n:Nat),aO R l m->aO R (l.drop n) (m.drop n)
 | _,_,0,h=>h
 | [],[],_+1,_=>trivial
 | _::_,_::_,n+1,⟨_,h⟩=>by simpa using aO.drop n h
theorem aO.take{α β:Type}{R:α->β->Prop}:∀{l:List α}{m:List β}(n:Nat),aO R l m->aO R (l.take n) (m.take n)
 | _,_,0,_=>trivial
 | [],[],_+1,_=>trivial
 | _::_,_::_,n+1,⟨a,h⟩=>⟨a,aO.take n h⟩
theorem Qh(FR:aW n η Z F a.tmps){t:TypeId}{fs:_}(hu:P.underlying t=some (.struct fs)){f:Nat}{fd:_}(hf:fs[f]? = some fd)(hag:rX P fd.type=some false){d:W}{x':Operand}{x:bY}(hx:cw x'=some x)
 {c:Cd} {v:V} (e:eG F S (.field fd.offset d x)=some (c,v)) (hc:c):ck P η Z w (do pure (Next.value (<-Instr.field t (a.eval x') f))) v:=by
 simp only[eG] at e;split at e;rename_i p cs hv;split at e;rename_i y hy;cases e;obtain⟨vs,hev,hd,hl⟩:=eP FR hx hv hc;rw[hev];obtain⟨u,h1,h2⟩:=hl.get hy;refine ck.of (u:=u) ?_ ⟨hd _ (List.mem_of_getElem? hy),h2⟩;simp[Instr.field,run_underlying hu,hf,asAgg,part,oH hag,h1];cases e;cases e
theorem Nc(FR:aW n η Z F a.tmps){t:TypeId}{fs:_}(hu:P.underlying t=some (.struct fs)){f:Nat}{fd:_}(hf:fs[f]? = some fd)(hag:rX P fd.type=some true){k:Nat}(hs:gO P fd.type=some k){x':Operand}{x:bY}(hx:cw x'=some x)
 {c:Cd} {v:V} (e:eG F S (.Ju fd.offset k x)=some (c,v)) (hc:c):ck P η Z w (do pure (Next.value (<-Instr.field t (a.eval x') f))) v:=by
 simp only[eG] at e;split at e;rename_i p cs hv;obtain⟨_,e⟩:=aj.aC e;cases e;obtain⟨vs,hev,hd,hl⟩:=eP FR hx hv hc;rw[hev];refine ck.of (u:=.agg ((vs.drop fd.offset).take k).toArray) ?_ ⟨_,rfl,fun y hy=>hd y (List.mem_of_mem_drop (List.mem_of_mem_take hy)),(hl.drop _).take _⟩;simp[Instr.field,run_underlying hu,hf,asAgg,part,oH hag,eE hs,List.extract_toArray,Nat.add_sub_cancel_left];cases e
theorem SH(FR:aW n η Z F a.tmps){t el ty:TypeId}{sz:Nat}(hu:P.underlying t=some (.slice el))(hsz:sz≠0){x':Operand}{x:bY}(hx:cw x'=some x)
 {c:Cd} {v:V} (e:eG F S (.llen sz x)=some (c,v)) (hc:c):ck P η Z w (do pure (Next.value (<-Builtin.len_ #[t] ty #[a.eval x']))) v:=by
 simp only[eG] at e;split at e;rename_i p hv;cases e;rw[(aJ FR hx hv hc).2.nil_eq];exact ck.of (u:=goInt 0) (by simp[Builtin.len_,run_underlying hu]) fC;rename_i p m off len sz' hv;cases e;obtain⟨_,⟨ZG,hev⟩|⟨pl,cap,ad,hpl,hev,_⟩⟩:=aJ FR hx hv hc;subst ZG;rw[hev];exact ck.of (u:=goInt 0) (by simp[Builtin.len_,run_underlying hu]) fC;rw[hev];exact ck.of (u:=goInt len) (by simp[Builtin.len_,run_underlying hu]) fC;rename_i p sz' cs hv;obtain⟨rfl,e⟩:=dR e;cases e;obtain⟨ad,len,cap,hev,bS,_⟩:=(aJ FR hx hv hc).2.ro;have w7:cs.length/sz'=len:=by rw[bS];exact Nat.mul_div_cancel _ (by omega)
 rw[hev,w7];exact ck.of (u:=goInt len) (by simp[Builtin.len_,run_underlying hu]) fC;rename_i p d l hv;cases e;obtain⟨ad,len,cap,hev,bS,_⟩:=(aJ FR hx hv hc).2.rd;rw[hev,bS];exact ck.of (u:=goInt len) (by simp[Builtin.len_,run_underlying hu]) fC;rename_i p m r len hv;cases e;obtain⟨_,pl,r0,cap,ad,hpl,hr,hev,hcap,had⟩:=aJ FR hx hv hc;rw[hev];exact ck.of (u:=goInt len) (by simp[Builtin.len_,run_underlying hu]) fC;rename_i p sz' cs hv;obtain⟨rfl,e⟩:=dR e;cases e;obtain⟨ad,len,cap,hev,bS,_⟩:=(aJ FR hx hv hc).2.rs;have w7:cs.length/sz'=len:=by rw[bS];exact Nat.mul_div_cancel _ (by omega)
 rw[hev,w7];exact ck.of (u:=goInt len) (by simp[Builtin.len_,run_underlying hu]) fC;cases e
theorem JH(FR : aW n η Z F a.tmps) : ∀{l' : List Operand}{l : List bY}, oJ l' = some l → ∀{c : Cd}{r : List (Nat × Nat)}, zf F l = some (c, r) → c → aO (dZ η) r (l'.map a.eval)
 | [],l,hl,c,r,e,hc=>by
   cases hl;simp only[zf] at e;cases e;trivial
 | x :: l', l, hl, c, r, e, hc => by
   simp only[oJ] at hl;split at hl;rename_i y hy;split at hl;rename_i l2 hl2;cases hl;simp only[zf] at e;split at e;rename_i p m off hv;split at e;rename_i d r' hr';cases e;exact⟨(aJ FR hy hv hc.1).2,JH FR hl2 hr' hc.2⟩;cases e;cases e;cases hl;cases hl
theorem JI:∀{cs:List W}{vs:List Value}{l:List W}{m:List Value}{off:Nat},aO (ay η Z) l m->aO (ay η Z) cs vs->aO (ay η Z) (jQ l off cs) (aj.vl m off vs)
 | [],[],_,_,_,h,_=>h
 | _::_,_::_,_,_,_,h,⟨a,b⟩=>by rw[jQ,aj.vl];exact JI (h.set a) b
theorem GK:∀{cs l:List W}{off:Nat},(∀ x∈l,x≠.dL)->(∀ x∈cs,x≠.dL)->∀ x∈jQ l off cs,x≠.dL
 | [],_,_,h,_,x,hx=>h x hx
 | c::cs,l,off,h,k,x,hx=>by
   rw[jQ] at hx;refine GK (fun y hy=>?_) (fun y hy=>k y (List.mem_cons_of_mem _ hy)) x hx;rcases List.mem_or_eq_of_mem_set hy with h1|h1;exact h y h1;subst h1;exact k y (by simp)
theorem vA(FR:aW n η Z F a.tmps){place:Nat->Option (Nat×Nat)}:∀{l:List (Nat×Operand)}{ps:List (Nat×Nat×bY)}{cs out:List W}{q:Cd}{c:Array Value},tf place l=some ps->aO (ay η Z) cs c.toList->(∀ x∈cs,x≠.dL)->vW F cs ps=some (q,out)->q->
 ∃ c',Instr.fill place c (l.map fun(i,x)=>(i,a.eval x))=some c'/\aO (ay η Z) out c'.toList/\∀ x∈out,x≠.dL
 | [],ps,cs,out,q,c,h,hl,hd,e,_=>by
   cases h;simp only[vW] at e;cases e;exact⟨c,rfl,hl,hd⟩
 | (i, x) :: l, ps, cs, out, q, c, h, hl, hd, e, hq => by
   simp only[tf] at h;split at h;rename_i off k y r h1 h2 h3;cases h;simp only[vW] at e;split at e;rename_i p v hv;obtain⟨hb,e⟩:=aj.aC e;split at e;rename_i q' out' ho;cases e;simp only[Bool.and_eq_true,Nat.beq_eq,Nat.ble_eq] at hb;obtain⟨g1,g2,_⟩:=(eP FR h2 hv hq.1).cells;have e1:(a.eval x).cells.size=k:=by have:=g1.length;rw[<-hb.1,this];simp
   have e2:c.size=cs.length:=by have:=hl.length;rw[this];simp
   have hput:aO (ay η Z) (jQ cs off v.cells) (((a.eval x).cells.zipIdx.foldl (fun(cs:Array Value) (x:Value×Nat)=>cs.setIfInBounds (off+x.2) x.1) c)).toList:=by
    rw[<-Array.foldl_toList,Array.toList_zipIdx,aj.ud];simpa using JI hl g1
   obtain⟨c',h4,h5⟩:=vA FR h3 hput (GK hd g2) ho hq.2;refine⟨c',?_,h5⟩;have h6:¬(off+k>c.size):=by omega
   simp only[List.map_cons,Instr.fill,h1,e1];simp only[ne_eq,not_true_eq_false,decide_false,h6,Bool.or_self,Bool.false_eq_true,if_false];exact h4;cases e;cases e;cases h
theorem JJ:∀{fs:List Field}{l:List (Nat×Nat)},Js P fs=some l->(fs.mapM (fun f=>do Pure.pure (f.offset,<-sizeOf f.type)):Sem (List (Nat×Nat))).run P w=.ok l w
 | [],l,e=>by cases e;simp
 | f :: fs, l, e => by
   simp only[Js] at e;split at e;rename_i k r h1 h2;cases e;have:=JJ h2;simp only[List.mapM_cons,Sem.run_bind,eE h1,Result.andThen_ok,Sem.run_pure] at this ⊢;rw[this];simp;cases e
theorem JK{n:Nat}{η:Eta}{Z:av}:ay η Z (.rs n []) (.slice none 0 0):=by
 simp only[ay,aL,dV];exact⟨none,0,0,rfl,by simp,Nat.le_refl _,.inl trivial⟩
theorem JL{η : Eta}{Z : av} : ∀{zs : List PV}{l : List W}{m : List Value}, aO (ay η Z) l m → (∀ x ∈ l, x ≠ .dL) → aO (ay η Z) (vz zs l) m ∧ ∀ x ∈ vz zs l, x ≠ .dL := by
 intro zs
 induction zs with
 | nil=>intro l m h hd;simpa only[vz] using ⟨h,hd⟩
 | cons z zs ih =>
   intro l m h hd;cases l with
   | nil=>cases z<;>simpa only[vz] using ⟨h,hd⟩
   | cons x l =>
     cases m with
     | nil=>exact h.elim
     | cons v m =>
       obtain⟨a,b⟩:=ih h.2 (fun y hy=>hd y (List.mem_cons_of_mem _ hy));have plain:aO (ay η Z) (x::vz zs l) (v::m)/\∀ y∈x::vz zs l,y≠.dL:=by
        refine⟨⟨h.1,a⟩,fun y hy=>?_⟩;rcases List.mem_cons.1 hy with rfl|hy;exact hd _ (by simp);exact b y hy
       unfold vz;split;rename_i hx;cases hx;rename_i hx;cases hx;have hv:v=.slice none 0 0:=h.1.nil_eq;subst hv;refine⟨⟨JK,a⟩,fun y hy=>?_⟩;rcases List.mem_cons.1 hy with rfl|hy;intro h;cases h;exact b y hy;rename_i h1 h2;cases h1;cases h2;exact plain;exact⟨h,hd⟩
theorem Cl{t:TypeId}{zs:List W}(e:jK P t=some zs):∃ z,(zeroValue t).run P w=.ok z w/\aO (ay η Z) zs z.cells.toList/\∀ x∈zs,x≠.dL:=by
 unfold jK at e;split at e;rename_i i hi;split at e;rename_i z hz;split at e;rename_i l hl;cases e;obtain⟨h1,h2,_⟩:=wY (η:=η) (Z:=Z) hl;obtain⟨h1,h2⟩:=JL (zs:=shapes P t) h1 h2;exact⟨z,by simp[zeroValue,typeInfo,hi,hz],h1,h2⟩;cases e;cases e;cases e
theorem Qi(FR:aW n η Z F a.tmps){t:TypeId}{fs:Array Field}(hu:P.underlying t=some (.struct fs)){z:List W}(hz:jK P t=some z){pl:List (Nat×Nat)}(hpl:Js P fs.toList=some pl){parts:Array (Nat×Operand)}{ps:List (Nat×Nat×bY)}(hp:tf (fun i=>pl[i]?) parts.toList=some ps){c:Cd}{v:V}(e:eG F S (.build z ps)=some (c,v))(hc:c) :
 ck P η Z w (do pure (Next.value (<-Instr.build t (parts.map fun(i,x)=>(i,a.eval x))))) v:=by
 simp only[eG] at e;split at e;rename_i p cs hb;cases e;obtain⟨zv,Cm,hz1,hz2⟩:=Cl (η:=η) (Z:=Z) (w:=w) hz;obtain⟨c',h1,h2,h3⟩:=vA FR hp hz1 hz2 hb hc;refine ck.of (u:=.agg c') ?_ ⟨c'.toList,by simp,h3,h2⟩;have hm:(fs.mapM (fun f=>do Pure.pure (f.offset,<-sizeOf f.type)):Sem (Array (Nat×Nat))).run P w=.ok pl.toArray w:=by
  rw[<-Array.toArray_toList (xs:=fs),List.mapM_toArray];have:=JJ (w:=w) hpl;simp only[Sem.run_map,this,Result.andThen_ok]
 have hg:(fun i:Nat=>(pl.toArray)[i]?)=fun i=>pl[i]?:=by funext i;simp
 simp only[Instr.build,Sem.run_bind,Cm,Result.andThen_ok,run_underlying hu,hm,hg,Array.toList_map,h1];rfl;cases e
theorem Nd(FR:aW n η Z F a.tmps){t el:TypeId}{len sz:Nat}(hu:P.underlying t=some (.array len el)){z:List W}(hz:jK P t=some z)(hs:gO P el=some sz){parts:Array (Nat×Operand)}{ps:List (Nat×Nat×bY)}(hp:tf (fun i=>some (i*sz,sz)) parts.toList=some ps){c:Cd}{v:V}(e:eG F S (.build z ps)=some (c,v))(hc:c) :
 ck P η Z w (do pure (Next.value (<-Instr.build t (parts.map fun(i,x)=>(i,a.eval x))))) v:=by
 simp only[eG] at e;split at e;rename_i p cs hb;cases e;obtain⟨zv,Cm,hz1,hz2⟩:=Cl (η:=η) (Z:=Z) (w:=w) hz;obtain⟨c',h1,h2,h3⟩:=vA FR hp hz1 hz2 hb hc;refine ck.of (u:=.agg c') ?_ ⟨c'.toList,by simp,h3,h2⟩;simp only[Instr.build,Sem.run_bind,Cm,Result.andThen_ok,run_underlying hu,eE hs,Array.toList_map,h1];rfl;cases e
theorem Qj{a b:ByteArray}:(a==b)=decide (a=b):=by
 have h:(a==b)=(a.data==b.data):=rfl;rw[h,Bool.eq_iff_iff,beq_iff_eq,decide_eq_true_iff];exact⟨fun e=>ByteArray.ext e,fun e=>by rw[e]⟩
theorem eqD_run{t:TypeId}{u:TypeDesc}{d:D}(hu:P.underlying t=some u)(hk:uh u=some d){x y:W}{v v':Value}{b:Bool}(hx:ay η Z x v)(hy:ay η Z y v')(e:GH d x y=some b)(k:Nat):(Op.equalIn (k+1) t v v').run P w=.ok b w:=by
 cases d with
 | int k0 =>
   cases x<;>simp only[GH] at e<;>try cases e
   cases y<;>simp only[] at e<;>try cases e
   rename_i k1 i k2 j;obtain⟨h1,h2⟩:=dR e;subst h1;injection h2 with h2
   subst h2;simp only[ay,aL] at hx hy;subst hx hy;cases u<;>simp only[uh] at hk<;>cases hk;simp only[Op.equalIn,Sem.run_bind,run_underlying hu,Result.andThen_ok,if_true,Sem.run_pure];rfl
 | bool =>
   cases x<;>simp only[GH] at e<;>try cases e
   cases y<;>simp only[] at e<;>try cases e
   simp only[ay,aL] at hx hy;subst hx hy;cases u<;>simp only[uh] at hk<;>cases hk;simp only[Op.equalIn,Sem.run_bind,run_underlying hu,Result.andThen_ok,Sem.run_pure]
 | str =>
   cases x<;>simp only[GH] at e<;>try cases e
   cases y<;>simp only[] at e<;>try cases e
   simp only[ay,aL] at hx hy;subst hx hy;cases u<;>simp only[uh] at hk<;>cases hk;simp only[Op.equalIn,Sem.run_bind,run_underlying hu,Result.andThen_ok,Sem.run_pure];congr 1;exact Qj
 | sl d=>cases x<;>simp only[GH] at e<;>cases e
 | pv=>cases x<;>simp only[GH] at e<;>cases e
theorem JM{xs ys : List W}{us vs : List Value}(hx : aO (ay η Z) xs us)(hy : aO (ay η Z) ys vs){g : Field → Option Bool × Unit → Sem (ForInStep (Option Bool × Unit))}
 (hg:∀ f s x y u v b k d,f.name≠ "_"->P.underlying f.type=some k->uh k=some d->us[f.offset]? = some u->vs[f.offset]? = some v->ay η Z x u->ay η Z y v->GH d x y=some b->(g f s).run P w=.ok (if b then .yield (none,()) else .done (some false,())) w) :
 ∀{fs:List Field}{Qk:List (Nat×D)}{b:Bool},sX P fs=some Qk->Jt xs ys Qk=some b->(forIn fs (none,()) g:Sem (Option Bool×Unit)).run P w=.ok (if b then none else some false,()) w
 | [],Qk,b,h,e=>by
   cases h;cases e;simp
 | f :: fs, Qk, b, h, e => by
   simp only[sX] at h;split at h;cases h;rename_i hn;split at h;rename_i k hk;split at h;rename_i d r hd hr;cases h;simp only[Jt] at e;split at e;rename_i x y h1 h2;split at e
   . rename_i b1 b2 h3 h4;cases e;obtain⟨u,hu,hxu⟩:=hx.get h1;obtain⟨v,hv,Cn⟩:=hy.get h2;have:=hg f (none,()) x y u v b1 k d hn hk hd hu hv hxu Cn h3;have ih:=JM hx hy hg hr h4;simp only[List.forIn_cons,Sem.run_bind,this,Result.andThen_ok];cases b1 with
     | true=>simpa using ih
     | false=>simp
   cases e;cases e;cases h;cases h
theorem GL{t:TypeId}{k:TypeDesc}{d:D}(hu:P.underlying t=some k)(hk:uh k=some d):rX P t=some false:=by
 unfold rX;rw[hu];cases k<;>simp only[uh] at hk<;>first|rfl|cases hk
theorem aeq_run{t:TypeId}{fs:Array Field}(hu:P.underlying t=some (.struct fs))(hs:P.stoodInHeld t=false){l:List (Nat×D)}(hl:sX P fs.toList=some l){xs ys:List W}{us vs:List Value}(hx:aO (ay η Z) xs us)(hy:aO (ay η Z) ys vs){b:Bool}(e:Jt xs ys l=some b)(k:Nat) :
 (Op.equalIn (k+1+1) t (.agg us.toArray) (.agg vs.toArray)).run P w=.ok b w:=by
 rw[Op.equalIn];simp only[Sem.run_bind,run_underlying hu,Result.andThen_ok];have hp:Sem.run P program w=.ok P w:=rfl;simp only[hp,Result.andThen_ok,hs,Bool.false_eq_true,if_false,<-Array.forIn_toList,Sem.run_bind];rw[JM hx hy (fun f s x y u v b k' d hn hk hd hu' hv' hxu Cn he=>?_) hl e];cases b<;>simp;have h1:(part f.type us.toArray f.offset).run P w=.ok u w:=by simp[part,oH (GL hk hd),hu']
 have h2:(part f.type vs.toArray f.offset).run P w=.ok v w:=by simp[part,oH (GL hk hd),hv']
 simp only[ne_eq,hn,not_false_eq_true,if_true,Sem.run_bind,h1,h2,Result.andThen_ok,eqD_run hk hd hxu Cn he];cases b<;>simp
theorem JN(FR:aW n η Z F a.tmps){t:TypeId}{fs:Array Field}(hu:P.underlying t=some (.struct fs))(hs:P.stoodInHeld t=false)(hgd:P.eqGuardType P.depth t=false){l:List (Nat×D)}(hl:sX P fs.toList=some l){op:BinOp}(hop:op=.eql∨op=.neq){x' y':Operand}{x y:bY}(hx:cw x'=some x)(hy:cw y'=some y){c:Cd}{v:V}(e:eG F S (.aeq op l x y)=some (c,v))(hc:c) :
 ck P η Z w ((do eqGuard op t x' y' (a.eval x') (a.eval y');binOp op t (a.eval x') (a.eval y'):Sem Value) >>= fun u=>Pure.pure (Next.value u)) v:=by
 simp only[eG] at e;split at e;rename_i p xs q ys hvx hvy;split at e;rename_i b hb;cases e;obtain⟨us,h1,_,h3⟩:=eP FR hx hvx hc.1;obtain⟨vs,g1,_,g3⟩:=eP FR hy hvy hc.2;rw[h1,g1];have h4:(Op.equal t (.agg us.toArray) (.agg vs.toArray)).run P w=.ok b w:=aeq_run hu hs hl h3 g3 hb 9998;have hp:Sem.run P program w=.ok P w:=rfl;have h5:(eqGuard op t x' y' (.agg us.toArray) (.agg vs.toArray)).run P w=.ok () w:=by
  rcases hop with rfl|rfl<;>simp[eqGuard,hp,hgd]
 rcases hop with rfl|rfl<;>refine ck.of ?_ iX;have:binOp .eql t (.agg us.toArray) (.agg vs.toArray)=(do pure (.bool (<-Op.equal t (.agg us.toArray) (.agg vs.toArray)))):=rfl;simp only[Sem.run_bind,h5,Result.andThen_ok,this,h4,Sem.run_pure];have:binOp .neq t (.agg us.toArray) (.agg vs.toArray)=(do pure (.bool (!(<-Op.equal t (.agg us.toArray) (.agg vs.toArray))))):=rfl;simp only[Sem.run_bind,h5,Result.andThen_ok,this,h4,Sem.run_pure];cases e;cases e
end
section
variable {P:Program} {base n:Nat} {η:Eta} {Z:av} {S:af} {w:World} {F:Fr} {a:Act}
theorem WJ{s:ByteArray}{i:Nat}(h:i<s.size):s[i]? = some (s.data.toList.getD i 0):=by
 have h1:i<s.data.toList.length:=by simpa using h
 have:s[i]? = some s[i]:=getElem?_pos s i h;rw[this];congr 1;rw[List.getD_eq_getElem?_getD,List.getElem?_eq_getElem h1];rfl
theorem SI{x:Operand}(h:cw x=some (.w .kO)):x=.const .nilIface:=by
 cases x with
 | tmp t=>cases h
 | global g=>cases h
 | func f=>cases h
 | const v =>
   simp only[cw] at h;split at h;rename_i y hy;cases h;unfold NJ at hy;split at hy;split at hy<;>cases hy;split at hy;rename_i x hx;cases hy;unfold NH at hx;split at hx<;>cases hx;rfl;cases hy;cases h;cases h
theorem JO(FR:aW n η Z F a.tmps){t:TypeId}{ms:_}(hu:P.underlying t=some (.interface ms)){op:BinOp}{neg:Bool}(hop:(op=.eql/\neg=false)∨(op=.neq/\neg=true)){x' y':Operand}{x:bY}(hx:cw x'=some x)(hy:cw y'=some (.w .kO))
 {c:Cd} {v:V} (e:eG F S (.ieq neg x)=some (c,v)) (hc:c):ck P η Z w (do pure (Next.value (<-(do eqGuard op t x' y' (a.eval x') (a.eval y');binOp op t (a.eval x') (a.eval y'))))) v:=by
 have hy':=SI hy;subst hy';have h2:a.eval (.const .nilIface)=.nilIface:=rfl;have h3:(Op.equal t .nilIface .nilIface).run P w=.ok true w:=by
  have d:∀ d:Nat,(Op.equalIn (d+1) t .nilIface .nilIface).run P w=.ok true w:=fun d=>by simp[Op.equalIn,run_underlying hu]
  exact d 9999
 have none_:a.eval x'=.nilIface->ck P η Z w (do pure (Next.value (<-(do eqGuard op t x' (.const .nilIface) (a.eval x') (a.eval (.const .nilIface));binOp op t (a.eval x') (a.eval (.const .nilIface)))))) (.c (.bool (!neg))):=by
  intro h1;rw[h1,h2,eqGuard_nil_constR];rcases hop with ⟨rfl,rfl⟩|⟨rfl,rfl⟩;exact ck.of (u:=.bool true) (by simp[binOp,h3]) iX;exact ck.of (u:=.bool false) (by simp[binOp,h3]) iX
 have some_:∀ t' v',a.eval x'=.iface t' v'->ck P η Z w (do pure (Next.value (<-(do eqGuard op t x' (.const .nilIface) (a.eval x') (a.eval (.const .nilIface));binOp op t (a.eval x') (a.eval (.const .nilIface)))))) (.c (.bool neg)):=by
  intro t' v' h1;have h4:(Op.equal t (.iface t' v') .nilIface).run P w=.ok false w:=by
   have d:∀ d:Nat,(Op.equalIn (d+1) t (.iface t' v') .nilIface).run P w=.ok false w:=fun d=>by simp[Op.equalIn,run_underlying hu]
   exact d 9999
  have hg:eqGuard op t x' (.const .nilIface) (.iface t' v') .nilIface=pure ():=by
   rcases hop with ⟨rfl,_⟩|⟨rfl,_⟩<;>rfl
  rw[h1,h2,hg];rcases hop with ⟨rfl,rfl⟩|⟨rfl,rfl⟩;exact ck.of (u:=.bool false) (by simp[binOp,h4]) iX;exact ck.of (u:=.bool true) (by simp[binOp,h4]) iX
 simp only[eG] at e;split at e;rename_i p hxe;cases e;exact none_ (by have:=(aJ FR hx hxe hc).2;simpa only[ay,aL] using this);rename_i p t' v' hxe;cases e;have h1:a.eval x'=.iface t' v':=by have:=(aJ FR hx hxe hc).2;simp only[ay,aL] at this;exact this.1
 exact some_ t' v' h1;rename_i p b hxe;cases e;have h1:=(aJ FR hx hxe hc).2;simp only[ay,aL] at h1;rcases h1 with ⟨rfl,t',v',h1⟩|⟨rfl,h1⟩;have:=some_ t' v' h1;cases neg<;>exact this;have:=none_ h1;cases neg<;>exact this;cases e
theorem JQ(FR:aW n η Z F a.tmps){t el:TypeId}(hu:P.underlying t=some (.pointer el)){k:Nat}(hk:gO P el=some k)(h0:k≠0){op:BinOp}{neg:Bool}(hop:(op=.eql/\neg=false)∨(op=.neq/\neg=true)){x' y':Operand}{x y:bY}(hx:cw x'=some x)(hy:cw y'=some y)
 {c:Cd} {v:V} (e:eG F S (.ZB neg x y)=some (c,v)) (hc:c) :
 ck P η Z w (do pure (Next.value (<-(do eqGuard op t x' y' (a.eval x') (a.eval y');binOp op t (a.eval x') (a.eval y'))))) v:=by
 have hsz:∀ w',(sizeOf el).run P w'=.ok k w':=fun w'=>eE hk w';have step:∀(x y:Value),Op.equal t x y=Op.equalIn (9999+1) t x y:=fun _ _=>rfl;have d0:∀(d:Nat)(b:Option Addr),(Op.equalIn (d+1) t (.pointer none) (.pointer b)).run P w=.ok b.isNone w:=fun d b=>by simp[Op.equalIn,run_underlying hu]
 have d1:∀(d:Nat)(b:Addr),(Op.equalIn (d+1) t (.pointer (some b)) (.pointer none)).run P w=.ok false w:=fun d b=>by simp[Op.equalIn,run_underlying hu]
 have d2:∀(d:Nat)(q q':Addr),q.block=q'.block->(Op.equalIn (d+1) t (.pointer (some q)) (.pointer (some q'))).run P w=.ok (q==q') w:=fun d q q' hq=>by simp[Op.equalIn,run_underlying hu,hsz,h0,sameAddr,hq]
 have eq0:∀ b:Option Addr,(Op.equal t (.pointer none) (.pointer b)).run P w=.ok b.isNone w:=fun b=>by rw[step];exact d0 _ b
 have eq1:∀ b:Addr,(Op.equal t (.pointer (some b)) (.pointer none)).run P w=.ok false w:=fun b=>by rw[step];exact d1 _ b
 have fin:∀(u u':Option Addr)(b:Bool),a.eval x'=.pointer u->a.eval y'=.pointer u'->(Op.equal t (.pointer u) (.pointer u')).run P w=.ok b w->ck P η Z w (do pure (Next.value (<-(do eqGuard op t x' y' (a.eval x') (a.eval y');binOp op t (a.eval x') (a.eval y'))))) (.c (.bool (bif neg then !b else b))):=by
  intro u u' b h1 h2 h3;rw[h1,h2];rcases hop with ⟨rfl,rfl⟩|⟨rfl,rfl⟩;exact ck.of (u:=.bool b) (by simp[eqGuard,binOp,h3]) iX;exact ck.of (u:=.bool (!b)) (by simp[eqGuard,binOp,h3]) iX
 simp only[eG] at e;split at e;rename_i p q hxe qv;cases e;have h1:a.eval x'=.pointer none:=by have:=(aJ FR hx hxe hc.1).2;simpa only[ay,aL] using this
 have h2:a.eval y'=.pointer none:=by have:=(aJ FR hy qv hc.2).2;simpa only[ay,aL] using this
 have:=fin none none true h1 h2 (eq0 none);cases neg<;>simpa using this;rename_i p m off q hxe qv;cases e;obtain⟨_,pl,_,h1⟩:=aJ FR hx hxe hc.1;have h2:a.eval y'=.pointer none:=by have:=(aJ FR hy qv hc.2).2;simpa only[ay,aL] using this
 have:=fin _ none false h1 h2 (eq1 _);cases neg<;>simpa using this;rename_i p q m off hxe qv;cases e;have h1:a.eval x'=.pointer none:=by have:=(aJ FR hx hxe hc.1).2;simpa only[ay,aL] using this
 obtain⟨_,pl,_,h2⟩:=aJ FR hy qv hc.2;have:=fin none _ false h1 h2 (eq0 _);cases neg<;>simpa using this;rename_i p m off q m' off' hxe qv;obtain⟨hm,e1⟩:=aj.aC e;clear e;have hm:=Nat.eq_of_beq_eq_true hm;subst hm;cases e1;obtain⟨_,pl,hpl,h1⟩:=aJ FR hx hxe hc.1;obtain⟨_,pl',hpl',h2⟩:=aJ FR hy qv hc.2;have:pl=pl':=Option.some.inj (hpl.symm.trans hpl');subst this;refine fin _ _ (Nat.beq off off') h1 h2 ?_;have e2:(((⟨pl.block,pl.off+off,none⟩:Addr)) == ⟨pl.block,pl.off+off',none⟩)=Nat.beq off off':=by
  rw[Bool.eq_iff_iff];simp[Nat.beq_eq]
 rw[step,<-e2];exact d2 _ _ _ rfl;cases e
set_option maxHeartbeats 1000000 in
theorem SJ(R:St base η Z S w)(FR:aW n η Z F a.tmps){o:Oper}{q:Q}(ht:uo P o.op=some q){c:Cd}{v:V}(e:eG F S q=some (c,v))(hc:c):ck P η Z w (execOp a.eval o) v:=by
 unfold uo at ht;unfold execOp;split at ht<;>rename_i hop<;>simp only[hop]
 -- move
 obtain⟨x,hx,rfl⟩:=map_some ht;exact⟨_,rfl,eP FR hx e hc⟩
 -- assign
 obtain⟨x,hx,rfl⟩:=map_some ht;exact⟨_,rfl,eP FR hx e hc⟩
 -- pick
 split at ht;rename_i c' x' y' hc' hx hy;cases ht;simp only[eG] at e;split at e
 . rename_i p b q u r v' hb hu hv;cases e;obtain⟨hp,hq,hr⟩:=hc;have h1:=nH FR hc' hb hp;rw[h1];cases b with
   | true=>exact⟨.bool u,by simp[asBool,nH FR hx hu (hq rfl)],iX⟩
   | false=>exact⟨.bool v',by simp[asBool,nH FR hy hv (hr rfl)],iX⟩
 cases e;cases ht
 -- load
 split at ht;rename_i hag hx;obtain⟨d,_,rfl⟩:=map_some ht;exact SG R FR hx hag e hc;rename_i hag hx;obtain⟨k,hk,rfl⟩:=map_some ht;exact Qf R FR hx hag hk e hc;cases ht
 -- nilCheck
 obtain⟨x,hx,rfl⟩:=map_some ht;simp only[eG] at e;split at e;rename_i p m off hv;cases e;obtain⟨_,pl,hpl,hev⟩:=aJ FR hx hv hc;rw[hev];exact⟨_,rfl,by simp,pl,hpl,rfl⟩;rename_i p m off i hv;cases e;obtain⟨_,pl,hpl,hev⟩:=aJ FR hx hv hc;rw[hev];exact⟨_,rfl,by simp,pl,hpl,rfl⟩;rename_i p cs off hv;cases e;obtain⟨b,o',cells,hev,hz,hf⟩:=(aJ FR hx hv hc).2.rp;rw[hev];exact⟨_,rfl,by simp,by simp only[ay,aL];exact⟨b,o',cells,rfl,hz,hf⟩⟩;rename_i p d l i hv;cases e;obtain⟨b,o',cells,hev,hz,hf⟩:=(aJ FR hx hv hc).2.re;rw[hev];exact⟨_,rfl,by simp,by simp only[ay,aL];exact⟨b,o',cells,rfl,hz,hf⟩⟩;rename_i p m i j hv;cases e;obtain⟨_,pl,r0,hpl,hr,hev⟩:=aJ FR hx hv hc;rw[hev];exact⟨_,rfl,by simp,pl,r0,hpl,hr,rfl⟩;rename_i p f caps hv;cases e;obtain⟨_,vs,hev,hl⟩:=aJ FR hx hv hc;rw[hev];exact⟨_,rfl,by simp,vs,rfl,hl⟩;rename_i p l hv;cases e;have hev:a.eval _=Value.func (.yield l) #[] #[]:=(aJ FR hx hv hc).2;rw[hev];exact⟨_,rfl,by simp,rfl⟩;cases e
 -- binOp
 rename_i op t x' y' ty;split at ht;rename_i k hu hx hy;by_cases hib:D2 op=true;rw[if_pos hib] at ht;cases ht;simp only[eG] at e;split at e;rename_i p k1 i q k2 j hi hj;obtain⟨hkk,e2⟩:=dR e;subst hkk;cases e2;rw[cY FR hx hi hc.1,cY FR hy hj hc.2];exact ck.of (WD hib) fC;cases e;rw[if_neg hib] at ht;split at ht;cases ht;simp only[eG] at e;split at e;rename_i p k1 i q k2 j hi hj;obtain⟨hkk,e2⟩:=dR e;subst hkk;cases e2;rw[cY FR hx hi hc.1,cY FR hy hj hc.2.1];exact ck.of (JF (.inl rfl) hc.2.2) fC;cases e;cases ht;simp only[eG] at e;split at e;rename_i p k1 i q k2 j hi hj;obtain⟨hkk,e2⟩:=dR e;subst hkk;cases e2;rw[cY FR hx hi hc.1,cY FR hy hj hc.2.1];exact ck.of (JF (.inr rfl) hc.2.2) fC;cases e;cases ht;simp only[eG] at e;split at e;rename_i p k1 i q k2 j hi hj;cases e;rw[cY FR hx hi hc.1,cY FR hy hj hc.2.1];exact ck.of (GJ (.inl rfl) hc.2.2) fC;cases e;cases ht;simp only[eG] at e;split at e;rename_i p k1 i q k2 j hi hj;cases e;rw[cY FR hx hi hc.1,cY FR hy hj hc.2.1];exact ck.of (GJ (.inr rfl) hc.2.2) fC;cases e;obtain⟨hcmp,ht⟩:=dR ht;cases ht;simp only[eG] at e;split at e;rename_i p k1 i q k2 j hi hj;obtain⟨hkk,e2⟩:=dR e;subst hkk;cases e2;rw[cY FR hx hi hc.1,cY FR hy hj hc.2];exact ck.of (WE hcmp) iX;cases e;rename_i hu hx hy;split at ht;cases ht;simp only[eG] at e;split at e;rename_i p i q j hi hj;cases e;rw[mF FR hx hi hc.1,mF FR hy hj hc.2.1];exact ck.of (WI hc.2.2) qF;cases e;obtain⟨hcmp,ht⟩:=dR ht;cases ht;simp only[eG] at e;split at e;rename_i p i q j hi hj;cases e;rw[mF FR hx hi hc.1,mF FR hy hj hc.2];exact ck.of (WH hcmp) iX;cases e;rename_i hu hx hy;split at ht;cases ht;simp only[eG] at e;split at e;rename_i p i q j hi hj;cases e;rw[nH FR hx hi hc.1,nH FR hy hj hc.2];exact ck.of (NM hu (.inl rfl)) iX;cases e;cases ht;simp only[eG] at e;split at e;rename_i p i q j hi hj;cases e;rw[nH FR hx hi hc.1,nH FR hy hj hc.2];exact ck.of (NM hu (.inr rfl)) iX;cases e;cases ht;rename_i el hu hx hy;split at ht;rename_i k hk;by_cases h0:k=0;rw[if_pos h0] at ht;cases ht;rw[if_neg h0] at ht;split at ht;cases ht;exact JQ FR hu hk h0 (.inl ⟨rfl,rfl⟩) hx hy e hc;cases ht;exact JQ FR hu hk h0 (.inr ⟨rfl,rfl⟩) hx hy e hc;cases ht;cases ht;rename_i ms hu hx hy;split at ht;cases ht;exact JO FR hu (.inl ⟨rfl,rfl⟩) hx hy e hc;cases ht;exact JO FR hu (.inr ⟨rfl,rfl⟩) hx hy e hc;cases ht;rename_i fs hu hx hy;obtain⟨⟨hs,hgd⟩,ht⟩:=dR ht;split at ht;rename_i l hl;split at ht;cases ht;exact JN FR hu hs hgd hl (.inl rfl) hx hy e hc;cases ht;exact JN FR hu hs hgd hl (.inr rfl) hx hy e hc;cases ht;cases ht;cases ht
 -- neg
 obtain⟨x,hx,rfl⟩:=map_some ht;simp only[eG] at e;split at e;rename_i p k i hi;cases e;rw[cY FR hx hi hc];exact ck.of (by simp[Op.unary,Op.intArith]) fC;cases e
 -- not
 obtain⟨x,hx,rfl⟩:=map_some ht;simp only[eG] at e;split at e;rename_i p i hi;cases e;rw[nH FR hx hi hc];exact ck.of (by simp[Op.unary]) iX;cases e
 -- convert
 split at ht;rename_i k zm SK hx;cases ht;simp only[eG] at e;split at e;rename_i p k1 i hi;cases e;rw[cY FR hx hi hc];exact ck.of (by simp[convert,run_underlying zm,run_underlying SK,Conv.intToInt]) fC;cases e;rename_i zm SK hx;cases ht;simp only[eG] at e;split at e;rename_i p k1 i hi;cases e;rw[cY FR hx hi hc];exact ck.of (by simp[convert,run_underlying zm,run_underlying SK,Conv.intToString]) qF;cases e;rename_i zm SK hx;cases ht;simp only[eG] at e;split at e;rename_i p s hs;cases e;rw[mF FR hx hs hc];exact ck.of (by simp[convert,run_underlying zm,run_underlying SK]) qF;cases e;cases ht
 -- len
 rename_i x' t;split at ht;rename_i hu hx;cases ht;simp only[eG] at e;split at e;rename_i p s hs;cases e;have:=mF FR hx hs hc;exact⟨goInt s.size,by simp[resolve,invoke,builtin,Builtin.len_,run_underlying hu,this],fC⟩;cases e;rename_i el hu hx;split at ht;rename_i k hk;by_cases h0:k=0;rw[if_pos h0] at ht;cases ht;rw[if_neg h0] at ht;cases ht;obtain⟨u,h1,h2⟩:=SH (P:=P) (ty:=o.type) (w:=w) FR hu h0 hx e hc;exact⟨u,by simpa[resolve,invoke,builtin] using h1,h2⟩;cases ht;rename_i k el hu;cases ht;cases e;exact⟨goInt k,by simp[resolve,invoke,builtin,Builtin.len_,run_underlying hu],fC⟩;cases ht
 -- cap
 split at ht;rename_i el x1 hu hx;cases ht;simp only[eG] at e;split at e;rename_i p hv;cases e;have:=(aJ FR hx hv hc).2.nil_eq;exact⟨goInt 0,by simp[resolve,invoke,builtin,Builtin.cap_,run_underlying hu,this],fC⟩;cases e;cases ht
 -- where a slice begins
 obtain⟨x,hx,rfl⟩:=map_some ht;simp only[eG] at e;split at e;rename_i p m off len sz hv;obtain⟨hsz,e1⟩:=aj.aC e;clear e;have hsz:=Nat.eq_of_beq_eq_true hsz;subst hsz;cases e1;obtain⟨hp,h0⟩:=hc;rcases (aJ FR hx hv hp).2 with ⟨h1,_⟩|⟨pl,c,ad,hpl,hev,hcap,hroom,had⟩;exact absurd h1 (by have:0<len:=h0;omega);have h0:0<len:=h0;obtain⟨k,rfl⟩:∃ k,c=k+1:=⟨c-1,by omega⟩;rcases had with had|had;cases had;subst had;refine⟨.pointer (some ⟨pl.block,pl.off+off,none⟩),?_,by simp,pl,hpl,by simp⟩;simp[resolve,invoke,builtin,hev];rfl;cases e
 -- min
 split at ht;rename_i hx hy;cases ht;simp only[eG] at e;split at e;rename_i p k i q k' j hi hj;cases e;have h1:=cY FR hx hi hc.1;have h2:=cY FR hy hj hc.2;refine⟨.int k (Min.min i j),?_,fC⟩;have:(if j<i then j else i)=Min.min i j:=by omega
 simp[resolve,invoke,builtin,Builtin.min_,Builtin.min2,h1,h2,this];cases e;cases ht
 -- max
 split at ht;rename_i hx hy;cases ht;simp only[eG] at e;split at e;rename_i p k i q k' j hi hj;cases e;have h1:=cY FR hx hi hc.1;have h2:=cY FR hy hj hc.2;refine⟨.int k (Max.max i j),?_,fC⟩;have:(if i<j then j else i)=Max.max i j:=by omega
 simp[resolve,invoke,builtin,Builtin.max_,Builtin.max2,h1,h2,this];cases e;cases ht
 -- min, max of three
 split at ht;rename_i hx hy hz;cases ht;simp only[eG] at e;split at e;rename_i p k i q k' j r k'' l hi hj hl;cases e;have h1:=cY FR hx hi hc.1;have h2:=cY FR hy hj hc.2.1;have h3:=cY FR hz hl hc.2.2;refine⟨.int k (Min.min (Min.min i j) l),?_,fC⟩;have e1:(if j<i then j else i)=Min.min i j:=by omega
 have e2:(if l<Min.min i j then l else Min.min i j)=Min.min (Min.min i j) l:=by omega
 simp[resolve,invoke,builtin,Builtin.min_,Builtin.min2,h1,h2,h3,e1,e2];cases e;cases ht;split at ht;rename_i hx hy hz;cases ht;simp only[eG] at e;split at e;rename_i p k i q k' j r k'' l hi hj hl;cases e;have h1:=cY FR hx hi hc.1;have h2:=cY FR hy hj hc.2.1;have h3:=cY FR hz hl hc.2.2;refine⟨.int k (Max.max (Max.max i j) l),?_,fC⟩;have e1:(if i<j then j else i)=Max.max i j:=by omega
 have e2:(if Max.max i j<l then l else Max.max i j)=Max.max (Max.max i j) l:=by omega
 simp[resolve,invoke,builtin,Builtin.max_,Builtin.max2,h1,h2,h3,e1,e2];cases e;cases ht
 -- index
 split at ht;rename_i hu hx hi;cases ht;simp only[eG] at e;split at e;rename_i p s q k j hs hj;cases e;obtain⟨hp,hq,h0,h1⟩:=hc;rw[mF FR hx hs hp,cY FR hi hj hq];refine ck.of (u:=.int .u8 (bV s j.toNat)) ?_ fC;have:s[j.toNat]? = some (s.data.toList.getD j.toNat 0):=WJ (by omega);simp[Instr.index,asIntOf,run_underlying hu,h0,this,bV];cases e;cases ht
 -- field
 · split at ht
   rename_i fs hu hx;split at ht;rename_i fd hf;split at ht;rename_i hag;obtain⟨d,_,rfl⟩:=map_some ht;exact Qh FR hu hf hag hx e hc;rename_i hag;obtain⟨k,hk,rfl⟩:=map_some ht;exact Nc FR hu hf hag hk hx e hc;cases ht;cases ht;cases ht
 -- fieldAddr
 · split at ht
   rename_i fs hu hx;split at ht;rename_i fd hf;split at ht;rename_i k hk;by_cases h0:k=0;rw[if_pos h0] at ht;cases ht;rw[if_neg h0] at ht;cases ht;exact Fx FR hu hf hk h0 hx e hc;cases ht;cases ht;cases ht
 -- indexAddr
 · split at ht
   rename_i el hu hx hi;split at ht;rename_i k hk;by_cases h0:k=0;rw[if_pos h0] at ht;cases ht;rw[if_neg h0] at ht;cases ht;exact Fw FR hu hk h0 hx hi e hc;cases ht;rename_i len el hu hx hi;obtain⟨k,hk,rfl⟩:=map_some ht;exact D4 FR hu hk hx hi e hc;cases ht
 -- slice
 · split at ht
   rename_i el hu hx hlo hhi;split at ht;rename_i k hk;by_cases h0:k=0;rw[if_pos h0] at ht;cases ht;rw[if_neg h0] at ht;cases ht;exact Qg FR hu hk h0 hx hlo hhi e hc;cases ht;rename_i hu hx hlo hhi;cases ht;exact Nb FR hu hx hlo hhi e hc;cases ht
 -- extract
 rename_i x' i;obtain⟨x,hx,rfl⟩:=map_some ht;simp only[eG] at e;split at e;rename_i t;split at e;rename_i vs hvs;split at e
 . rename_i v' hv';cases e;cases x' with
   | tmp t' =>
     cases hx;obtain⟨u,hu,us,rfl,hl⟩:=FR.2 t _ hvs;obtain⟨y,hy,hr⟩:=hl.get hv';have hev:a.eval (.tmp t)=.tuple us.toArray:=by simp[Act.eval,Array.getD_eq_getD_getElem?,hu]
     rw[hev];refine ck.of (u:=y) ?_ hr;simp[Instr.extract,hy]
   | const _=>simp only[cw] at hx;split at hx<;>cases hx
   | global _=>cases hx
   | func _=>cases hx
 cases e;cases e;cases e
 -- makeFunc
 rename_i f caps;obtain⟨l,hl,rfl⟩:=map_some ht;simp only[eG] at e;split at e;rename_i p cs hcs;cases e;have:=JH FR hl hcs hc;refine⟨.func (.func f) #[] (caps.map a.eval),by simp[Instr.makeFunc],by simp,caps.toList.map a.eval,?_,this⟩;congr 1;apply Array.ext';simp;cases e
 -- a method with its receiver
 rename_i f x;obtain⟨x',hx,rfl⟩:=map_some ht;simp only[eG] at e;split at e;rename_i p n off hev;cases e;exact⟨.func (.func f) #[a.eval x] #[],by simp[Instr.makeFunc],by simp,a.eval x,rfl,(aJ FR hx hev hc).2⟩;cases e
 -- build
 split at ht;rename_i fs z hu hz;split at ht;rename_i pl hpl;obtain⟨ps,hp,rfl⟩:=map_some ht;exact Qi FR hu hz hpl hp e hc;cases ht;rename_i len el z hu hz;split at ht;rename_i k hk;obtain⟨ps,hp,rfl⟩:=map_some ht;exact Nd FR hu hz hk hp e hc;cases ht;cases ht;cases ht
end
theorem Co:∀{cs l:List W}{off:Nat},(jQ l off cs).length=l.length
 | [],_,_=>rfl
 | c::cs,l,off=>by rw[jQ,Co,List.length_set]
theorem C4:∀{cs l:List W}{off i:Nat},off+cs.length<=l.length->(jQ l off cs)[i]? = if off<=i/\i<off+cs.length then cs[i-off]? else l[i]?
 | [],l,off,i,_=>by rw[if_neg (by simp)];rfl
 | c :: cs, l, off, i, h => by
   simp only[List.length_cons] at h;rw[jQ,C4 (by simp;omega)];by_cases h1:i=off;subst h1;rw[if_neg (by omega),if_pos (by simp)];simp[List.getElem?_set];omega;by_cases h2:off+1<=i/\i<off+1+cs.length;rw[if_pos h2,if_pos (by simp;omega)];have:i-off=(i-(off+1))+1:=by omega
   rw[this];simp;rw[if_neg h2,if_neg (by simp;omega),List.getElem?_set_ne (by omega)]
theorem St.store{P:Program}{base:Nat}{η:Eta}{Z:av}{S:af}{w:World}(R:St base η Z S w){m:Nat}{o:Ob}{p:cD}(h:S.get m=some o)(hp:η m=some p)(hm:¬o.gG)(hnb:¬o.bytes)(SA:¬o.wb){off:Nat}{cs:List W}{vs:List Value}(hl:aO (ay η Z) cs vs)(h1:∀ v∈vs,v.oneCell'=true)(hk:off+cs.length<=o.cells.length){o':Ob}(hty:o'.ty=o.ty)(hcs:o'.cells=jQ o.cells off cs) :
 (storeCells ⟨p.block,p.off+off,none⟩ vs).run P w=.ok () (w.setCells p.block (p.off+off) vs)/\qE base η Z S w η (S.put m o') (w.setCells p.block (p.off+off) vs):=by
 obtain⟨hbase,hz,L⟩:=R.ak m o p h hp;obtain⟨c,fz,hc,hroom,hv,qw⟩:=L.there hm;have hfz:=qw.strong hnb;have hsize:=L.size hm;have bS:=hl.length;have hcell:∀ j,j<vs.length->(w.cell? ⟨p.block,p.off+off+j,none⟩).isSome=true:=by
  intro j hj;have:p.off+off+j<c.size:=by omega
  simp[World.cell?,hc,this]
 have hfr:∀ j,j<vs.length->w.frozen? ⟨p.block,p.off+off+j,none⟩=false:=by
  intro j hj;have:=hfz (p.off+off+j) (by omega) (by omega);simp only[World.frozen?,hc];simpa using this
 have hst:=run_storeCells_cells (P:=P) p.block (p.off+off) vs 0 w (by simpa using hcell) (by simpa using hfr) h1;simp only[Nat.add_zero] at hst;refine⟨hst,R.write h hp (aj.iP (Nat.zero_le _) _ _ _).os (aj.iP (Nat.zero_le _) _ _ _).tape (aj.iP (Nat.zero_le _) _ _ _).output (aj.kJ _ _ _) (fun b hb=>aj.gK hb _ _ _) ?_⟩;obtain⟨c',h1',h2',h3',h4'⟩:=aj.kI vs (p.off+off) w c hc;have main:∀(i:Nat) x,o'.cells[i]? = some x->∃ v,c'[p.off+i]? = some v/\ay η Z x v/\v.oneCell'=true:=?_;refine fQ.plain (fun hm'=>?_) ⟨c',fz,by rw[hty];exact h1',by omega,main,qw.plain hnb SA⟩ (by rw[hcs,Co];exact hsize);rcases hm' with hm'|⟨k,aA,hm'⟩<;>obtain⟨v,_,b,_⟩:=main 0 _ hm'<;>simp only[ay,aL] at b;intro i x hx;rw[hcs,C4 hk] at hx;split at hx;rename_i hi;obtain⟨v,hv',hr⟩:=hl.get hx;have hj:=(List.getElem?_eq_some_iff.1 hv').1;refine⟨v,?_,hr,h1 v (List.mem_of_getElem? hv')⟩;have:=h4' (i-off) hj (by omega);rw[show p.off+off+(i-off)=p.off+i by omega] at this;rw[this];exact hv';rename_i hi;obtain⟨v,hv',hr,h1c⟩:=hv i x hx;refine⟨v,?_,hr,h1c⟩;rw[h3' (p.off+i) (by omega)];exact hv'
theorem St.del{base:Nat}{η:Eta}{Z:av}{S:af}{w:World}(R:St base η Z S w)(m:Nat):St base η Z (S.del m) w:=by
 have h:∀ n o,(S.del m).get n=some o->S.get n=some o:=by
  intro n o hn;rw[af.iB] at hn;split at hn;cases hn;exact hn
 exact⟨fun n o p hn=>R.ak n o p (h n o hn),fun n o hn=>R.cX n o (h n o hn),fun n o hn=>R.known n o (h n o hn),fun n n' o o' p p' b hn hn'=>R.j6 n n' o o' p p' b (h n o hn) (h n' o' hn'),R.zs,R.fresh,R.iF,fun n o p hn=>R.sat n o p (h n o hn)⟩
theorem vX{η:Eta}{S:af}{m b:Nat}(h:Own η (S.del m) b):Own η S b:=by
 obtain⟨n,o,p,hn,hp,hb⟩:=h;rw[af.iB] at hn;split at hn;cases hn;exact⟨n,o,p,hn,hp,hb⟩
theorem Step.del{η:Eta}{Z:av}{S:af}{w:World}(m:Nat):Step η Z S w η Z (S.del m) w :=
 ⟨rfl,rfl,rfl,Nat.le_refl _,fun _ _ _=>rfl,fun _ h=>.inl (vX h),av.le.refl _,fun _ _ h=>.inl h,rfl⟩
theorem St.SL{base:Nat}{η:Eta}{Z:av}{S:af}{w w':World}(R:St base η Z S w){o:Ob}{p:cD}
 (hall:∀ b,p.has b->base<=b/\Z b=none/\(∃ ob,w'.heap[b]? = some ob/\pS ob=true)/\∀ n x q,S.get n=some x->η n=some q->¬q.has b)
 (gN:∀ k,k<w.heap.size->¬p.has k->w'.heap[k]? = w.heap[k]?) (hsz:w.heap.size<=w'.heap.size) (L:fQ (η.add S.next p) Z o p w'):St base (η.add S.next p) Z (S.add o) w':=by
 have hfr:=R.fresh S.next (Nat.le_refl _)
 have hle:η.le (η.add S.next p):=Eta.s9 hfr;have hget:∀ m,(S.add o).get m=if m=S.next then some o else S.get m:=fun m=>af.fU R.fJ
 have hold:∀ n x q,S.get n=some x->η n=some q->∀ b,q.has b->w'.heap[b]? = w.heap[b]?:=fun n x q hx hq b hb=>gN b (R.j7 hx hq hb) fun hp=>(hall b hp).2.2.2 n x q hx hq hb;refine⟨?_,?_,?_,?_,?_,?_,?_,?_⟩
 . intro n x q hx hq;rw[hget] at hx;by_cases hn:n=S.next
   subst hn;rw[if_pos rfl] at hx;cases hx;rw[Eta.gj] at hq;cases hq;exact⟨(hall _ p.iQ).1,(hall _ p.iQ).2.1,L⟩;rw[if_neg hn] at hx;rw[Eta.jm hn] at hq;obtain⟨hb',hz',L'⟩:=R.ak n x q hx hq;exact⟨hb',hz',L'.mono hle (av.le.refl _) (hold n x q hx hq)⟩
 . intro n x hx hq;rw[hget] at hx;by_cases hn:n=S.next
   subst hn;rw[Eta.gj] at hq;cases hq;rw[if_neg hn] at hx;rw[Eta.jm hn] at hq;exact R.cX n x hx hq
 . intro n x hx;show n<S.next+1
   rw[hget] at hx;by_cases hn:n=S.next
   omega;rw[if_neg hn] at hx;have:=R.known n x hx;omega
 . intro n n' x x' q q' b hx hx' hne hq nX hb hb';rw[hget] at hx hx';by_cases hn:n=S.next
   subst hn;rw[Eta.gj] at hq;cases hq;rw[if_neg (Ne.symm hne)] at hx';rw[Eta.jm (Ne.symm hne)] at nX;exact(hall b hb).2.2.2 n' x' q' hx' nX hb'
   . rw[if_neg hn] at hx;rw[Eta.jm hn] at hq;by_cases hn':n'=S.next
     subst hn';rw[Eta.gj] at nX;cases nX;exact(hall b hb').2.2.2 n x q hx hq hb;rw[if_neg hn'] at hx';rw[Eta.jm hn'] at nX;exact R.j6 n n' x x' q q' b hx hx' hne hq nX hb hb'
 intro k c hk;obtain⟨ty,fz,e⟩:=R.zs k c hk;exact⟨ty,fz,(gN k (dF e) (fun hh=>by rw[(hall k hh).2.1] at hk;cases hk)).trans e⟩
 . intro n hn;have:(S.add o).next=S.next+1:=rfl
   rw[Eta.jm (by omega)];exact R.fresh n (by omega)
 exact Nat.le_trans R.iF hsz
 . intro n x q hx hq b hb;rw[hget] at hx;by_cases hn:n=S.next
   subst hn;rw[Eta.gj] at hq;cases hq;obtain⟨h1,h2,h3,_⟩:=hall b (.inr hb);exact⟨h1,h2,h3⟩;rw[if_neg hn] at hx;rw[Eta.jm hn] at hq;obtain⟨h1,h2,ob,h3,h4⟩:=R.sat n x q hx hq b hb;exact⟨h1,h2,ob,(hold n x q hx hq b (.inr hb)).trans h3,h4⟩
theorem St.ZH{base:Nat}{η:Eta}{Z:av}{S:af}{w w':World}(R:St base η Z S w){b:Nat}(hb:base<=b)(hz:Z b=none)(hfree:∀ n o p,S.get n=some o->η n=some p->¬p.has b)
 (gN:∀ k,k≠b->w'.heap[k]? = w.heap[k]?) (hsz:w'.heap.size=w.heap.size) {o:Ob} {p:cD} (hp:p.block=b) (hrows:p.aA=[]) (L:fQ (η.add S.next p) Z o p w'):St base (η.add S.next p) Z (S.add o) w':=by
 have hhas:∀ c,p.has c->c=b:=by
  rintro c (h|h);exact h.symm.trans hp;unfold cD.sats at h;rw[hrows] at h;cases h
 refine R.SL (fun c hc=>?_) (fun k _ hk=>gN k fun e=>hk (by subst e;exact .inl hp)) (by omega) L;obtain rfl:=hhas c hc;refine⟨hb,hz,?_,hfree⟩;rw[<-hp];exact L.data
structure bN(base:Nat)(η:Eta)(Z:av)(S:af)(w:World)(aF:Eta)(Z':av)(S':af)(w':World):Prop where
 le:η.le aF
 st:St base aF Z' S' w'
 step:Step η Z S w aF Z' S' w'
theorem qE.up{base:Nat}{η aF:Eta}{Z:av}{S S':af}{w w':World}(g:qE base η Z S w aF S' w'):bN base η Z S w aF Z S' w':=⟨g.le,g.st,g.step⟩
theorem bN.trans{base:Nat}{η fG gH:Eta}{Z Z1 Z2:av}{S S1 S2:af}{w w1 w2:World}(g:bN base η Z S w fG Z1 S1 w1)(h:bN base fG Z1 S1 w1 gH Z2 S2 w2):bN base η Z S w gH Z2 S2 w2 :=
 ⟨g.le.trans h.le,h.st,g.step.trans h.step⟩
theorem bN.refl{base:Nat}{η:Eta}{Z:av}{S:af}{w:World}(R:St base η Z S w):bN base η Z S w η Z S w:=⟨Eta.le.refl _,R,Step.refl _ _ _ _⟩
def af.Alike(S S':af):Prop:=(S'.next=S.next/\S'.cX=S.cX)/\∀ n,match S.get n,S'.get n with
 | none,none=>True
 | some o,some o'=>o'.ty=o.ty/\o'.cells=o.cells
 | _,_=>False
theorem af.Alike.ga{S S':af}(h:S.Alike S'){n:Nat}{o':Ob}(e:S'.get n=some o'):∃ o,S.get n=some o/\o'.ty=o.ty/\o'.cells=o.cells:=by
 have:=h.2 n;rw[e] at this;cases hh:S.get n with
 | none=>rw[hh] at this;exact this.elim
 | some o=>rw[hh] at this;exact⟨o,rfl,this⟩
theorem fQ.alike{η:Eta}{Z:av}{o o':Ob}{p:cD}{w:World}(L:fQ η Z o p w)(h1:o'.ty=o.ty)(h2:o'.cells=o.cells):fQ η Z o' p w:=by
 have hi:o'.gG↔o.gG:=by unfold Ob.gG Ob.isMap Ob.j5;rw[h2]
 refine⟨fun hm=>?_,fun hm=>by rw[h2];exact L.size fun h=>hm (hi.2 h),fun k aA ht=>by rw[h1];exact L.tabs k aA (by unfold Ob.j5 at ht ⊢;rw[<-h2];exact ht),fun hm=>by rw[h2];exact L.maps (by unfold Ob.isMap at hm ⊢;rw[<-h2];exact hm)⟩;obtain⟨c,fz,a,b,d,e⟩:=L.there fun h=>hm (hi.2 h);exact⟨c,fz,by rw[h1];exact a,b,by rw[h2];exact d,by unfold y9 Ob.bytes Ob.wb at e ⊢;rw[h2];exact e⟩
theorem St.alike{base:Nat}{η:Eta}{Z:av}{S S':af}{w:World}(R:St base η Z S w)(h:S.Alike S'):St base η Z S' w:=by
 refine⟨?_,?_,?_,?_,R.zs,by rw[h.1.1];exact R.fresh,R.iF,?_⟩;intro n o' p e hp;obtain⟨o,e1,e2,e3⟩:=h.ga e;obtain⟨a,b,L⟩:=R.ak n o p e1 hp;exact⟨a,b,L.alike e2 e3⟩;intro n o' e hn;obtain⟨o,e1,e2,e3⟩:=h.ga e;rw[e3];exact R.cX n o e1 hn;intro n o' e;obtain⟨o,e1,_⟩:=h.ga e;rw[h.1.1];exact R.known n o e1;intro n n' o o' p p' b e e' hne hp hp';obtain⟨x,e1,_⟩:=h.ga e;obtain⟨x',e1',_⟩:=h.ga e';exact R.j6 n n' x x' p p' b e1 e1' hne hp hp';intro n o' p e hp;obtain⟨x,e1,_⟩:=h.ga e;exact R.sat n x p e1 hp
theorem Own.alike{η:Eta}{S S':af}(h:S.Alike S'){b:Nat}:Own η S' b->Own η S b
 | ⟨n,_,p,e,hp,hb⟩=>let ⟨x,e1,_⟩:=h.ga e;⟨n,x,p,e1,hp,hb⟩
theorem bN.alike{base:Nat}{η aF:Eta}{Z Z':av}{S S' vY:af}{w w':World}(g:bN base η Z S w aF Z' S' w')(h:S'.Alike vY):bN base η Z S w aF Z' vY w' :=
 ⟨g.le,g.st.alike h,⟨g.step.os,g.step.tape,g.step.output,g.step.size,g.step.block,fun b hb=>g.step.own b (hb.alike h),g.step.dh,g.step.iL,h.1.2.trans g.step.gh⟩⟩
theorem af.oW{S:af}{n:Nat}{o o':Ob}(h1:o'.ty=o.ty)(h2:o'.cells=o.cells):(S.put n o).Alike (S.put n o'):=by
 refine⟨⟨rfl,rfl⟩,fun m=>?_⟩;rw[af.jC,af.jC];by_cases hm:m=n
 . rw[if_pos hm,if_pos hm];cases S.get n with
   | none=>trivial
   | some x=>exact⟨h1,h2⟩
 rw[if_neg hm,if_neg hm];cases S.get m with
 | none=>trivial
 | some x=>exact⟨rfl,rfl⟩
theorem af.jw{S:af}{o o':Ob}(h1:o'.ty=o.ty)(h2:o'.cells=o.cells):(S.add o).Alike (S.add o'):=by
 refine⟨⟨rfl,rfl⟩,fun m=>?_⟩;show (match find (S.ak++[(S.next,o)]) m,find (S.ak++[(S.next,o')]) m with|none,none=>True|some o,some o'=>o'.ty=o.ty/\o'.cells=o.cells|_,_=>False);rw[vv,vv];cases find S.ak m with
 | some x=>exact⟨rfl,rfl⟩
 | none =>
   simp only[find];by_cases hm:S.next=m
   rw[if_pos hm,if_pos hm];exact⟨h1,h2⟩;rw[if_neg hm,if_neg hm];trivial
theorem af.w8{base:Nat}{η:Eta}{Z:av}{S:af}{w:World}(R:St base η Z S w)(o:Ob)(m:Nat):(S.add o).get m=if m=S.next then some o else S.get m:=af.fU R.fJ
theorem St.mY{base:Nat}{η:Eta}{Z:av}{S:af}{w:World}(R:St base η Z S w){o:Ob}(h:o.cells=[]):bN base η Z S w η Z (S.add o) w:=by
 have hn:=R.fresh S.next (Nat.le_refl _)
 have hget:=af.w8 R o;have ga:∀ m x p,(S.add o).get m=some x->η m=some p->S.get m=some x:=by
  intro m x p hx hp;rw[hget] at hx;by_cases hm:m=S.next
  subst hm;rw[hn] at hp;cases hp;rw[if_neg hm] at hx;exact hx
 refine⟨Eta.le.refl _,⟨fun m x p hx hp=>R.ak m x p (ga m x p hx hp) hp,?_,?_,fun m m' x x' p p' b hx hx' hne hp hp'=>R.j6 m m' x x' p p' b (ga m x p hx hp) (ga m' x' p' hx' hp') hne hp hp',R.zs,fun m hm=>R.fresh m (by have:(S.add o).next=S.next+1:=rfl;omega),R.iF,fun m x p hx hp=>R.sat m x p (ga m x p hx hp) hp⟩,
  ⟨rfl,rfl,rfl,Nat.le_refl _,fun _ _ _=>rfl,?_,av.le.refl _,fun _ _ hh=>.inl hh,rfl⟩⟩
 . intro m x hx hp;rw[hget] at hx;by_cases hm:m=S.next
   rw[if_pos hm] at hx;cases hx;exact h;rw[if_neg hm] at hx;exact R.cX m x hx hp
 . intro m x hx;show m<S.next+1
   rw[hget] at hx;by_cases hm:m=S.next
   omega;rw[if_neg hm] at hx;have:=R.known m x hx;omega
 rintro b ⟨m,x,p,hx,hp,hb⟩;exact .inl ⟨m,x,p,ga m x p hx hp,hp,hb⟩
def av.add(Z:av)(b:Nat)(c:Array Value):av:=fun i=>if i=b then some c else Z i
theorem av.s9{Z:av}{b:Nat}{c:Array Value}(h:Z b=none):Z.le (Z.add b c):=by
 intro i x e;unfold av.add;by_cases hi:i=b;subst hi;rw[h] at e;cases e;rw[if_neg hi];exact e
theorem St.freeze{base:Nat}{η:Eta}{Z:av}{S:af}{w:World}(R:St base η Z S w){m:Nat}{o:Ob}{p:cD}(h:S.get m=some o)(hp:η m=some p)(hm:¬o.gG) :
 ∃ c ty fz,w.heap[p.block]? = some (.cells c ty fz)/\bN base η Z S w η (Z.add p.block c) (S.del m) w/\∀(i:Nat) x,o.cells[i]? = some x->∃ v,c[p.off+i]? = some v/\ay η Z x v:=by
 obtain⟨hb,hz,L0⟩:=R.ak m o p h hp;obtain⟨c,fz,hc,hroom,hv,hfz⟩:=L0.there hm;refine⟨c,o.ty,fz,hc,?_,fun i x hx=>let ⟨v,a,b,_⟩:=hv i x hx;⟨v,a,b⟩⟩;have hle:Z.le (Z.add p.block c):=av.s9 hz;have R1:=R.del m;have ga:∀ n x,(S.del m).get n=some x->n≠m/\S.get n=some x:=by
  intro n x hx;rw[af.iB] at hx;by_cases hn:n=m;rw[if_pos hn] at hx;cases hx;rw[if_neg hn] at hx;exact⟨hn,hx⟩
 refine⟨Eta.le.refl _,⟨?_,R1.cX,R1.known,R1.j6,?_,R1.fresh,R1.iF,?_⟩,⟨rfl,rfl,rfl,Nat.le_refl _,fun _ _ _=>rfl,fun b hb=>.inl (vX hb),hle,?_,rfl⟩⟩;intro n x q hx hq;obtain⟨a,b,L⟩:=R1.ak n x q hx hq;obtain⟨hne,hx'⟩:=ga n x hx;refine⟨a,?_,L.mono (Eta.le.refl _) hle fun _ _=>rfl⟩;unfold av.add;rw[if_neg (R.inj n m x o q p hx' h hne hq hp)];exact b;intro b cs e;unfold av.add at e;by_cases Ci:b=p.block;rw[if_pos Ci] at e;cases e;subst Ci;exact⟨_,_,hc⟩;rw[if_neg Ci] at e;exact R.zs b cs e;intro n x q hx hq b hb;obtain⟨h1,h2,h3⟩:=R1.sat n x q hx hq b hb;obtain⟨hne,hx'⟩:=ga n x hx;refine⟨h1,?_,h3⟩;unfold av.add;rw[if_neg fun e=>R.j6 n m x o q p b hx' h hne hq hp (.inr hb) (.inl e.symm)];exact h2;intro b cs e;unfold av.add at e;by_cases Ci:b=p.block;exact .inr (.inl ⟨m,o,p,h,hp,.inl Ci.symm⟩);rw[if_neg Ci] at e;exact .inl e
theorem qC.sat{k:Nat}{aA:List (List Int)}{ty:TypeId}{p:cD}{w:World}(T:qC k aA ty p w){b:Nat}(hb:b∈p.sats):∃ c t fz,w.heap[b]? = some (.cells c t fz):=by
 obtain⟨r,hr,rfl⟩:=List.mem_map.1 hb;obtain⟨i,hi⟩:=List.getElem?_of_mem hr;have hlt:=(List.getElem?_eq_some_iff.1 hi).1;have hlt':i<aA.length:=by rw[<-T.len];exact hlt
 obtain⟨_,c,t,fz,h,_⟩:=T.row i r aA[i] hi (List.getElem?_eq_getElem hlt');exact⟨c,t,fz,h⟩
open Classical in
theorem St.SN{base:Nat}{η:Eta}{Z:av}{S:af}{w:World}(R:St base η Z S w){m:Nat}{o:Ob}{p:cD}(h:S.get m=some o)(hp:η m=some p){k:Nat}{aA:List (List Int)}(ht:o.j5 k aA) :
 ∃ Z',bN base η Z S w η Z' (S.del m) w/\∀ b∈p.sats,∃ c ty fz,w.heap[b]? = some (.cells c ty fz)/\Z' b=some c:=by
 obtain⟨_,_,L0⟩:=R.ak m o p h hp;have T:=L0.tabs k aA ht;let Z':av:=fun b=>if b∈p.sats then(match w.heap[b]? with|some (.cells c _ _)=>some c|_=>none) else Z b;have hZ:∀ b∈p.sats,∃ c ty fz,w.heap[b]? = some (.cells c ty fz)/\Z' b=some c:=by
  intro b hb;obtain⟨c,t,fz,e⟩:=T.sat hb;refine⟨c,t,fz,e,?_⟩;show (if b∈p.sats then _ else _)=_;rw[if_pos hb,e]
 have hle:Z.le Z':=by
  intro b c e;show (if b∈p.sats then _ else _)=_;rw[if_neg];exact e;intro hb;rw[(R.sat m o p h hp b hb).2.1] at e;cases e
 have R1:=R.del m;have ga:∀ n x,(S.del m).get n=some x->n≠m/\S.get n=some x:=by
  intro n x hx;rw[af.iB] at hx;by_cases hn:n=m;rw[if_pos hn] at hx;cases hx;rw[if_neg hn] at hx;exact⟨hn,hx⟩
 have hno:∀ n x q,(S.del m).get n=some x->η n=some q->∀ b,q.has b->Z' b=Z b:=by
  intro n x q hx hq b hb;obtain⟨hne,hx'⟩:=ga n x hx;show (if b∈p.sats then _ else _)=_;rw[if_neg fun e=>R.j6 n m x o q p b hx' h hne hq hp hb (.inr e)]
 refine⟨Z',⟨Eta.le.refl _,⟨?_,R1.cX,R1.known,R1.j6,?_,R1.fresh,R1.iF,?_⟩,⟨rfl,rfl,rfl,Nat.le_refl _,fun _ _ _=>rfl,fun b hb=>.inl (vX hb),hle,?_,rfl⟩⟩,hZ⟩;intro n x q hx hq;obtain⟨a,b,L⟩:=R1.ak n x q hx hq;exact⟨a,(hno n x q hx hq _ q.iQ).trans b,L.mono (Eta.le.refl _) hle fun _ _=>rfl⟩;intro b cs e;by_cases hb:b∈p.sats;obtain⟨c,t,fz,e1,_⟩:=hZ b hb;obtain⟨c',t',zn,e2,e3⟩:=hZ b hb;rw[e] at e3;cases e3;exact⟨_,_,e2⟩;have e':(if b∈p.sats then(match w.heap[b]? with|some (.cells c _ _)=>some c|_=>none) else Z b)=some cs:=e;rw[if_neg hb] at e';exact R.zs b cs e';intro n x q hx hq b hb;obtain⟨h1,h2,h3⟩:=R1.sat n x q hx hq b hb;exact⟨h1,(hno n x q hx hq b (.inr hb)).trans h2,h3⟩;intro b cs e;by_cases hb:b∈p.sats;exact .inr (.inl ⟨m,o,p,h,hp,.inr hb⟩);have e':(if b∈p.sats then(match w.heap[b]? with|some (.cells c _ _)=>some c|_=>none) else Z b)=some cs:=e;rw[if_neg hb] at e';exact .inl e'
theorem St.lU{base:Nat}{η:Eta}{Z:av}{S:af}{w:World}(R:St base η Z S w){b:Nat}(h:Own η S b):∃ ob,w.heap[b]? = some ob/\Z b=none/\pS ob=true:=by
 obtain⟨n,o,p,h1,h2,hb⟩:=h;obtain⟨_,a2,c,hc,hd⟩:=R.all h1 h2 hb;exact⟨c,hc,a2,hd⟩
theorem St.vZ{base:Nat}{η:Eta}{Z Z':av}{S:af}{w w':World}(R:St base η Z S w)(hz:Z.le Z')(hzs:∀ b cs,Z' b=some cs->∃ ty fz,w'.heap[b]? = some (.cells cs ty fz))(hsz:w.heap.size<=w'.heap.size)(hb:∀ b,Own η S b->w'.heap[b]? = w.heap[b]?)(hn:∀ b,Own η S b->Z' b=none):St base η Z' S w':=by
 refine⟨fun n o p h1 h2=>?_,R.cX,R.known,R.j6,hzs,R.fresh,Nat.le_trans R.iF hsz,fun n o p h1 h2 b hbs=>?_⟩;obtain⟨a1,_,L⟩:=R.ak n o p h1 h2;exact⟨a1,hn _ ⟨n,o,p,h1,h2,p.iQ⟩,L.mono (Eta.le.refl _) hz fun b hh=>hb b ⟨n,o,p,h1,h2,hh⟩⟩;obtain⟨a1,_,c,hc,hd⟩:=R.sat n o p h1 h2 b hbs;exact⟨a1,hn _ ⟨n,o,p,h1,h2,.inr hbs⟩,c,(hb _ ⟨n,o,p,h1,h2,.inr hbs⟩).trans hc,hd⟩
def zo(l:List UInt8):List W:=l.map fun b=>.int .u8 (b.toNat:Int)
noncomputable def mH(F:Fr):List bY->Option (Cd×List V)
 | []=>some (.t,[])
 | x::l=>match mX F x with
   | some (c,v)=>(match mH F l with|some (d,r)=>some (.and c d,v::r)|none=>none)
   | none=>none
def D5(k:Nat):List (Nat×Operand)->Option (List bY)
 | []=>some []
 | (i,x)::l=>if i=k then(match cw x,D5 (k+1) l with|some y,some r=>some (y::r)|_,_=>none) else none
section
variable {P:Program} {base n:Nat} {η:Eta} {Z:av} {S:af} {w:World} {F:Fr} {a:Act}
def bG(P:Program)(base:Nat)(η:Eta)(Z:av)(S:af)(w:World)(s:Sem Next)(v:A)(S':af):Prop :=
 ∃ nx u w' aF Z',s.run P w=.ok nx w'/\(nx=.value u∨(nx=.skip/\u=undef))/\bN base η Z S w aF Z' S' w'/\cH aF Z' v u
theorem bG.of{s:Sem Value}{v:A}{S':af}{u:Value}{w':World}{aF:Eta}{Z':av}(h:s.run P w=.ok u w')(g:bN base η Z S w aF Z' S' w')(r:cH aF Z' v u):bG P base η Z S w (do pure (Next.value (<-s))) v S' :=
 ⟨.value u,u,w',aF,Z',by simp[h],.inl rfl,g,r⟩
theorem bG.NN{s:Sem Unit}{S':af}{w':World}{aF:Eta}{Z':av}(h:s.run P w=.ok () w')(g:bN base η Z S w aF Z' S' w'):bG P base η Z S w (do s;pure Next.skip) (.bC []) S' :=
 ⟨.skip,undef,w',aF,Z',by simp[h],.inr ⟨rfl,rfl⟩,g,⟨[],rfl,trivial⟩⟩
theorem bG.alike{s:Sem Next}{v:A}{S' vY:af}(g:bG P base η Z S w s v S')(h:S'.Alike vY):bG P base η Z S w s v vY :=
 let ⟨nx,u,w',aF,Z',a,b,c,d⟩:=g
 ⟨nx,u,w',aF,Z',a,b,c.alike h,d⟩
theorem bG.before{s:Sem Next}{v:A}{S1 S':af}{fG:Eta}{Z1:av}(m:bN base η Z S w fG Z1 S1 w)(g:bG P base fG Z1 S1 w s v S'):bG P base η Z S w s v S' :=
 let ⟨nx,u,w',aF,Z',a,b,c,d⟩:=g
 ⟨nx,u,w',aF,Z',a,b,m.trans c,d⟩
theorem sK{t:TypeId}{zs:List W}(e:jK P t=some zs):∃ i z,P.info? t=some i/\i.zero=some z/\aO (ay (fun _=>none) (fun _=>none)) zs z.cells.toList/\(zeroValue t).run P w=.ok z w:=by
 unfold jK at e;split at e;rename_i i hi;split at e;rename_i z hz;split at e;rename_i l hl;cases e;obtain⟨h1,h2,_⟩:=wY (η:=fun _=>none) (Z:=fun _=>none) hl;exact⟨i,z,hi,hz,(JL h1 h2).1,by simp[zeroValue,typeInfo,hi,hz]⟩;cases e;cases e;cases e
theorem oX(R:St base η Z S w)(t:TypeId){cs:List W}{c:Array Value}(hc:aO (ay η Z) cs c.toList)(h1:∀ v∈c.toList,v.oneCell'=true) :
 ∃ w',(newRow t c).run P w=.ok ⟨w.heap.size,0,none⟩ w'/\qE base η Z S w (η.add S.next ⟨w.heap.size,0,c.size,[]⟩) (S.add (Ob.of t cs)) w'/\(η.add S.next ⟨w.heap.size,0,c.size,[]⟩) S.next=some ⟨w.heap.size,0,c.size,[]⟩:=by
 have bS:=hc.length;obtain⟨g,hn⟩:=R.new (w':={ w with heap:=w.heap.push (.cells c t (0,0)) }) (Ob.of t cs) c rfl rfl rfl rfl (by rw[Ob.eU];simp at bS;omega) (fun i x hx=>by
  rw[Ob.eU] at hx;obtain⟨v,hv,hr⟩:=hc.get hx;exact⟨v,by simpa using hv,hr,h1 v (List.mem_of_getElem? hv)⟩) rfl
 exact⟨_,by simp[newRow,newObj,Sem.run],g,hn⟩
theorem Ql(R:St base η Z S w){t:TypeId}{i:TypeInfo}{z:Value}(hi:P.info? t=some i)(hz:i.zero=some z){zs:List W}(h1:aO (ay η Z) zs z.cells.toList)(h3:∀ v∈z.cells.toList,v.oneCell'=true):bG P base η Z S w (do pure (Next.value (<-Instr.alloc t true (.tuple #[])))) (.p (.c (.ptr S.next 0))) (S.add (Ob.of t zs)):=by
 have hz':(zeroValue t).run P w=.ok z w:=by simp[zeroValue,typeInfo,hi,hz]
 obtain⟨w',hr,g,hn⟩:=oX (P:=P) R t h1 h3;exact bG.of (u:=.pointer (some ⟨w.heap.size,0,none⟩)) (by simp[Instr.alloc,hz',newVar,hr]) g.up ⟨by simp,_,hn,by simp⟩
theorem WK(R:St base η Z S w){t:TypeId}{v:V}{u:Value}(h:dI η Z v u):bG P base η Z S w (do pure (Next.value (<-Instr.box t u))) (.p (.c (.ptr S.next 0))) (S.add (Ob.of t v.cells)):=by
 obtain⟨h1,h2,h3⟩:=h.cells;obtain⟨w',hr,g,hn⟩:=oX (P:=P) R t h1 h3;exact bG.of (u:=.pointer (some ⟨w.heap.size,0,none⟩)) (by simp[Instr.box,newVar,hr]) g.up ⟨by simp,_,hn,by simp⟩
theorem sM(R:St base η Z S w){t:TypeId}{k:Nat}(hs:gO P t=some k){m off:Nat}{o:Ob}(ho:S.get m=some o)(hmo:¬o.gG)(hnb:¬o.bytes)(hnw:¬o.wb){u:Value}(hp:ay η Z (.ptr m off) u){v:V}{x:Value}(hv:dI η Z v x)(hk:v.cells.length=k)(hb:off+k<=o.cells.length) :
 bG P base η Z S w (do Instr.storeAt t u x;pure Next.skip) (.bC []) (S.put m (Ob.of o.ty (jQ o.cells off v.cells))):=by
 obtain⟨p,hpl,rfl⟩:=hp;obtain⟨h1,h2,h3⟩:=hv.cells;obtain⟨hst,g⟩:=R.store (P:=P) ho hpl hmo hnb hnw h1 h3 (off:=off) (by omega) (o':=Ob.of o.ty (jQ o.cells off v.cells)) rfl (by simp);refine bG.NN ?_ g.up;have bS:x.cells.size=k:=by have:=h1.length;simp at this;omega
 simp[Instr.storeAt,Instr.sureAddr,storeVar,eE hs,bS,hst]
def zq:W->Value->Bool
 | .bool a,.bool b=>a==b
 | .int k a,.int k' b=>decide (k=k')&&a==b
 | .str a,.string b=>Nat.beq a.size 0&&Nat.beq b.size 0
 | .ef,.pointer none=>true
 | .nil,.slice none 0 0=>true
 | .rd _ [],.slice none 0 0=>true
 | .rs _ [],.slice none 0 0=>true
 | .mD,.nilFunc=>true
 | .kO,.nilIface=>true
 | _,_=>false
theorem wg{x:W}{v:Value}(h:zq x v=true):ay η Z x v/\x≠.dL/\v.oneCell'=true/\v.cells=#[v]:=by
 unfold zq at h;split at h;simp at h;subst h;exact⟨by simp[ay,aL],by simp,rfl,rfl⟩;simp at h;obtain⟨rfl,rfl⟩:=h;exact⟨by simp[ay,aL],by simp,rfl,rfl⟩;rename_i a b;simp only[Bool.and_eq_true,Nat.beq_eq] at h;have:a=b:=by
  apply ByteArray.ext;apply Array.ext;have h1:a.data.size=a.size:=rfl;have h2:b.data.size=b.size:=rfl;omega;intro i h1 _;have h2:a.data.size=a.size:=rfl;omega
 subst this;exact⟨by simp[ay,aL],by simp,rfl,rfl⟩;exact⟨by simp[ay,aL],by simp,rfl,rfl⟩;exact⟨by simp[ay,aL],by simp,rfl,rfl⟩;exact⟨by simp only[ay,aL,cM];exact⟨none,0,0,rfl,rfl,Nat.le_refl _,.inl trivial⟩,by simp,rfl,rfl⟩;exact⟨JK,by simp,rfl,rfl⟩;exact⟨by simp[ay,aL],by simp,rfl,rfl⟩;exact⟨by simp[ay,aL],by simp,rfl,rfl⟩;cases h
theorem SQ(R:St base η Z S w){t el:TypeId}{i:TypeInfo}{z:W}{zv:Value}(hu:P.underlying t=some (.slice el))(hi:P.info? el=some i)(h1:i.size=1)(hzv:i.zero=some zv)(hz:zq z zv=true){kl kc:IntKind}{l c:Int}(h0:0<=l)(hlc:l<=c)(hby:(i.bytes:Int)*c<=140737488355328)(hc:c<=140737488355328) :
 bG P base η Z S w (do pure (Next.value (<-Instr.makeSlice t (.int kl l) (.int kc c)))) (.p (.c (.sl S.next 0 l.toNat 1))) (S.add (Ob.of el (List.replicate c.toNat z))):=by
 have hrun:=run_make (P:=P) w t el i zv hu hi hzv kl kc l c h0 hlc (by omega) (by omega);obtain⟨hr,_,hone,hy⟩:=wg (η:=η) (Z:=Z) hz;have hcells:madeCells zv.cells (c.toNat*i.size)=Array.replicate c.toNat zv:=by
  rw[hy,h1,Nat.mul_one];unfold madeCells;apply Array.ext;simp;intro j hj1 hj2;simp[Nat.mod_one]
 have hrel : aO (ay η Z) (List.replicate c.toNat z) (Array.replicate c.toNat zv).toList := by
  apply aO.ox;simp;intro j x v hx hv;rw[Array.toList_replicate] at hv;rw[List.getElem?_replicate] at hx hv;split at hx;rename_i hj;rw[if_pos hj] at hv;cases hx;cases hv;exact hr;cases hx
 obtain⟨w',hw,g,hn⟩:=oX (P:=P) R el hrel (by intro v hv;rw[Array.toList_replicate] at hv;rw[List.eq_of_mem_replicate hv];exact hone);have hww:w'=w.alloc (.cells (madeCells zv.cells (c.toNat*i.size)) el):=by
  simp[newRow,newObj,Sem.run] at hw;rw[hcells,<-hw]
 subst hww;refine bG.of hrun g.up ⟨by simp,.inr ⟨_,c.toNat,⟨w.heap.size,0,none⟩,hn,rfl,by omega,by simp,.inr (by simp)⟩⟩
theorem NP:∀(vs l:List Value)(off:Nat),off+vs.length<=l.length->aj.vl l off vs=l.take off++vs++l.drop (off+vs.length)
 | [],l,off,_=>by simp[aj.vl]
 | v::vs,l,off,h=>by
   simp only[List.length_cons] at h;rw[aj.vl,NP vs (l.set off v) (off+1) (by simp;omega)];have h1:(l.set off v).take (off+1)=l.take off++[v]:=by
    rw[List.take_add_one,List.take_set_of_le (Nat.le_refl _)];simp[List.getElem?_set];omega
   have h2:(l.set off v).drop (off+1+vs.length)=l.drop (off+(vs.length+1)):=by
    rw[List.drop_set_of_lt (by omega)];congr 1;omega
   rw[h1,h2];simp
theorem GN{sz:Nat}:∀{l:List (Nat×Value)}{k:Nat}{vs:List Value}{c:Array Value},l=(vs.zipIdx k).map (fun x=>(x.2,x.1))->(∀ v∈vs,v.cells.size=sz)->(k+vs.length)*sz=c.size->
 ∃ c',Instr.fill (fun i=>some (i*sz,sz)) c l=some c'/\c'.toList=c.toList.take (k*sz)++vs.flatMap (fun v=>v.cells.toList)
 | [],k,vs,c,hl,hv,hc=>by
   cases vs with
   | nil =>
     refine⟨c,rfl,?_⟩;simp only[List.flatMap_nil,List.append_nil];rw[List.take_of_length_le (by simp at hc ⊢;omega)]
   | cons _ _=>simp at hl
 | x :: l, k, vs, c, hl, hv, hc => by
   cases vs with
   | nil=>simp at hl
   | cons v vs =>
     simp only[List.zipIdx_cons,List.map_cons,List.cons.injEq] at hl;obtain⟨rfl,hl⟩:=hl;have hvs:v.cells.size=sz:=hv v (by simp);have hk1:(k+1)*sz=k*sz+sz:=Nat.succ_mul _ _;have hle:k*sz+sz<=c.size:=by
      rw[<-hc,<-hk1];exact Nat.mul_le_mul_right _ (by simp)
     simp only[Instr.fill];have h3:¬(k*sz+v.cells.size>c.size):=by omega
     simp only[hvs,ne_eq,not_true_eq_false,decide_false,Bool.false_or];have h4:(decide (k*sz+sz>c.size))=false:=by simp;omega
     rw[h4];simp only[Bool.false_eq_true,if_false];obtain⟨c',h1,h2⟩:=GN (sz:=sz) (k:=k+1) (vs:=vs) (c:=v.cells.zipIdx.foldl (fun cs (x:Value×Nat)=>cs.setIfInBounds (k*sz+x.2) x.1) c) hl (fun u hu=>hv u (by simp[hu])) (by
      have:=aj.ud (k*sz) v.cells.toList 0 c;have hsz:(v.cells.zipIdx.foldl (fun(cs:Array Value) (x:Value×Nat)=>cs.setIfInBounds (k*sz+x.2) x.1) c).size=c.size:=by
       rw[<-Array.foldl_toList,Array.toList_zipIdx,<-Array.length_toList,this,aj.Cg];simp
      rw[hsz,<-hc];congr 1;simp;omega)
     refine⟨c',h1,?_⟩;rw[h2];have:=aj.ud (k*sz) v.cells.toList 0 c;rw[Nat.add_zero,NP _ _ _ (by simp;omega)] at this;rw[<-Array.foldl_toList,Array.toList_zipIdx,this];have hl1:((c.toList.take (k*sz))++v.cells.toList).length=(k+1)*sz:=by simp;omega
     rw[List.append_assoc,<-List.append_assoc,List.take_append_of_le_length (by omega),List.take_of_length_le (by omega)];simp
theorem zu(FR:aW n η Z F a.tmps):∀{l':List (Nat×Operand)}{k:Nat}{l:List bY},D5 k l'=some l->∀{c:Cd}{vs:List V},mH F l=some (c,vs)->c->
 ∃ us:List Value,aO (dI η Z) vs us/\l'.map (fun x=>(x.1,a.eval x.2))=(us.zipIdx k).map (fun x=>(x.2,x.1))/\us.length=l.length
 | [],k,l,hl,c,vs,e,hc=>by
   cases hl;simp only[mH] at e;cases e;exact⟨[],trivial,rfl,rfl⟩
 | (i, x) :: l', k, l, hl, c, vs, e, hc => by
   simp only[D5] at hl;obtain⟨hik,hl⟩:=dR hl;subst hik;split at hl;rename_i y r hy hr;cases hl;simp only[mH] at e;split at e;rename_i p v hv;split at e;rename_i d r' hr';cases e;obtain⟨us,h1,h2,h3⟩:=zu FR hr hr' hc.2;exact⟨a.eval x::us,⟨eP FR hy hv hc.1,h1⟩,by simp[h2],by simp[h3]⟩;cases e;cases e;cases hl
theorem JR{sz:Nat}:∀{vs:List V}{us:List Value},aO (dI η Z) vs us->(∀ v∈vs,v.cells.length=sz)->aO (ay η Z) (vs.flatMap V.cells) (us.flatMap fun v=>v.cells.toList)/\(∀ u∈us,u.cells.size=sz)/\(∀ v∈us.flatMap (fun v=>v.cells.toList),v.oneCell'=true)
 | [],[],_,_=>⟨trivial,by simp,by simp⟩
 | v :: vs, u :: us, ⟨h1, h2⟩, hs => by
   obtain⟨a1,a2,a3⟩:=JR h2 (fun v hv=>hs v (by simp[hv]));obtain⟨b1,b2,b3⟩:=h1.cells;have hl:=b1.length;rw[hs v (by simp)] at hl;refine⟨?_,?_,?_⟩;simp only[List.flatMap_cons];exact b1.append a1;intro x hx;rcases List.mem_cons.1 hx with rfl|hx
   simpa using hl.symm;exact a2 x hx;intro x hx;simp only[List.flatMap_cons] at hx;rcases List.mem_append.1 hx with hx|hx;exact b3 x hx;exact a3 x hx
theorem C5(R:St base η Z S w){t el:TypeId}{sz:Nat}{parts:Array (Nat×Operand)}{ps:List bY}{z:List W}(hu:P.underlying t=some (.slice el))(hs:gO P el=some sz)(hz:jK P el=some z)(hbig:ps.length*sz<=16777216)(hzl:z.length=sz)
 {vs:List V} {us:List Value} (h1:aO (dI η Z) vs us) (h2:parts.toList.map (fun x=>(x.1,a.eval x.2))=(us.zipIdx 0).map (fun x=>(x.2,x.1))) (h3:us.length=ps.length) (hv:∀ v∈vs,v.cells.length=sz) :
 bG P base η Z S w (do pure (Next.value (<-Instr.buildSlice t ps.length (parts.map fun(i,x)=>(i,a.eval x))))) (.p (.c (.sl S.next 0 ps.length sz))) (S.add (Ob.of el (vs.flatMap V.cells))):=by
 obtain⟨f1,f2,f3⟩:=JR h1 hv;obtain⟨i,zv,_,_,hzs,Cm⟩:=sK (w:=w) hz;have hzl':zv.cells.size=sz:=by
  have hr:=hzs;have:=hr.length;simp at this;omega
 have h24:¬(ps.length*sz>2 ^ 24):=by omega
 have SR:(parts.map fun(x:Nat×Operand)=>(x.1,a.eval x.2)).toList=(us.zipIdx 0).map (fun x=>(x.2,x.1)):=by
  rw[Array.toList_map];exact h2
 have key:∀ zero:Array Value,∃ c',Instr.fill (fun i=>some (i*sz,sz)) ((Array.range (ps.length*sz)).map (zero[· % zero.size]!)) ((us.zipIdx 0).map (fun x=>(x.2,x.1)))=some c'/\c'.toList=us.flatMap (fun v=>v.cells.toList):=by
  intro zero;obtain⟨c',g1,g2⟩:=GN (sz:=sz) (k:=0) (vs:=us) (c:=(Array.range (ps.length*sz)).map (zero[· % zero.size]!)) rfl f2 (by simp[h3]);exact⟨c',g1,by simpa using g2⟩
 have fin:∀ c':Array Value,c'.toList=us.flatMap (fun v=>v.cells.toList)->∃ w',(newRow el c').run P w=.ok ⟨w.heap.size,0,none⟩ w'/\qE base η Z S w (η.add S.next ⟨w.heap.size,0,c'.size,[]⟩) (S.add (Ob.of el (vs.flatMap V.cells))) w'/\(η.add S.next ⟨w.heap.size,0,c'.size,[]⟩) S.next=some ⟨w.heap.size,0,c'.size,[]⟩:=by
  intro c' hc';exact oX (P:=P) R el (by rw[hc'];exact f1) (by rw[hc'];exact f3)
 have hsize:∀ c':Array Value,c'.toList=us.flatMap (fun v=>v.cells.toList)->c'.size=ps.length*sz:=by
  intro c' hc';rw[<-Array.length_toList,hc',<-h3];have:∀ us:List Value,(∀ u∈us,u.cells.size=sz)->(us.flatMap (fun v=>v.cells.toList)).length=us.length*sz:=by
   intro us
   induction us with
   | nil=>simp
   | cons u us ih =>
     intro hh;simp only[List.flatMap_cons,List.length_append,List.length_cons,ih (fun x hx=>hh x (by simp[hx])),Nat.succ_mul];have:=hh u (by simp);simp;omega
  exact this us f2
 by_cases h0:ps.length*sz=0;obtain⟨c',g1,g2⟩:=key #[];obtain⟨w',hr,g,hn⟩:=fin c' g2;refine bG.of (u:=.slice (some ⟨w.heap.size,0,none⟩) ps.length ps.length) (w':=w') ?_ g.up ⟨by simp,.inr ⟨_,ps.length,⟨w.heap.size,0,none⟩,hn,rfl,Nat.le_refl _,by rw[hsize c' g2];simp,.inr (by simp)⟩⟩;simp only[Instr.buildSlice,Sem.run_bind,run_underlying hu,Result.andThen_ok,eE hs,h24,if_false,SR];rw[if_pos h0];simp only[Sem.run_pure,Result.andThen_ok,g1,Sem.run_bind,hr];obtain⟨c',g1,g2⟩:=key zv.cells;obtain⟨w',hr,g,hn⟩:=fin c' g2;refine bG.of (u:=.slice (some ⟨w.heap.size,0,none⟩) ps.length ps.length) (w':=w') ?_ g.up ⟨by simp,.inr ⟨_,ps.length,⟨w.heap.size,0,none⟩,hn,rfl,Nat.le_refl _,by rw[hsize c' g2];simp,.inr (by simp)⟩⟩;simp only[Instr.buildSlice,Sem.run_bind,run_underlying hu,Result.andThen_ok,eE hs,h24,if_false,SR];rw[if_neg h0];simp only[Sem.run_bind,Cm,Sem.run_pure,Result.andThen_ok,g1,hr]
end
section
variable {P:Program} {base n:Nat} {η:Eta} {Z:av} {S:af} {w:World} {F:Fr} {a:Act}
theorem rY{b o:Nat}{vs:List Value}{w':World}(h:∀(j:Nat) v,vs[j]? = some v->w.cell? ⟨b,o+j,none⟩=some v)(hw:w'.heap=w.heap):(loadCells ⟨b,o,none⟩ vs.length).run P w'=.ok vs.toArray w':=by
 by_cases h0:vs.length=0;have:vs=[]:=List.length_eq_zero_iff.1 h0;subst this;simp[loadCells,loadCellsFrom];have hcell:∀ a,w'.cell? a=w.cell? a:=fun a=>by simp[World.cell?,hw]
 exact run_loadCells_list (P:=P) w' ⟨b,o,none⟩ vs (fun j v hv=>by rw[Addr.add_lit,hcell];exact h j v hv)
theorem Qm(l:List UInt8):aO (ay η Z) (zo l) (l.map fun b=>Value.int .u8 b.toNat):=by
 induction l with
 | nil=>trivial
 | cons b l ih=>exact⟨by simp[ay,aL],ih⟩
def Src(P:Program)(η:Eta)(Z:av)(w:World)(u:Value)(sz:Nat)(cs:List W):Prop :=
 ∃ m vs,cs.length=m*sz/\vs.length=m*sz/\aO (ay η Z) cs vs/\(∀ v∈vs,v.oneCell'=true)/\(∀ w',(Builtin.lenOf u).run P w'=.ok m w')/\(∀ w' k,w'.heap=w.heap->k<=m->(Builtin.firstCells sz k u).run P w'=.ok (vs.take (k*sz)).toArray w')
theorem oY(sz:Nat){ad:Option Addr}{cap:Nat}:Src P η Z w (.slice ad 0 cap) sz []:=by
 refine⟨0,[],by simp,by simp,trivial,by simp,fun w'=>by simp[Builtin.lenOf],fun w' k _ hk=>?_⟩;have:k=0:=by omega
 subst this;cases ad with
 | none=>simp[Builtin.firstCells]
 | some ad=>simp[Builtin.firstCells,loadCells,loadCellsFrom]
theorem JS{sz len cap b o:Nat}{cs:List W}{vs:List Value}(h1:aO (ay η Z) cs vs)(h2:vs.length=len*sz)(h3:∀ v∈vs,v.oneCell'=true)(h4:∀(j:Nat) v,vs[j]? = some v->w.cell? ⟨b,o+j,none⟩=some v) :
 Src P η Z w (.slice (some ⟨b,o,none⟩) len cap) sz cs:=by
 have hl:=h1.length;refine⟨len,vs,by omega,h2,h1,h3,fun w'=>by simp[Builtin.lenOf],fun w' k hw hk=>?_⟩;have hkl:k*sz<=len*sz:=Nat.mul_le_mul_right _ hk;have:=rY (P:=P) (b:=b) (o:=o) (vs:=vs.take (k*sz)) (fun j v hv=>h4 j v (by rw[List.getElem?_take] at hv;split at hv;exact hv;cases hv)) hw;have hl:(vs.take (k*sz)).length=k*sz:=by simp;omega
 rw[hl] at this;simp[Builtin.firstCells,this]
theorem w9{d:D}{cells:Array Value}{o:Nat}:∀{l:List d.ty}{off:Nat},lT Z d cells (o+off) l->∃ vs:List Value,aO (ay η Z) (l.map d.w) vs/\vs.length=l.length/\(∀ v∈vs,v.oneCell'=true)/\∀(j:Nat) v,vs[j]? = some v->cells[o+off+j]? = some v
 | [],_,_=>⟨[],trivial,rfl,by simp,by simp⟩
 | x :: l, off, h => by
   obtain⟨u,hu,hr⟩:=h 0 x rfl;obtain⟨vs,h1,h2,h3,h4⟩:=w9 (l:=l) (o:=o) (off:=off+1) (fun i y hy=>by
    obtain⟨v,a,b⟩:=h (i+1) y (by simpa using hy);exact⟨v,by rw[<-a];congr 1;omega,b⟩)
   refine⟨u::vs,⟨(D.fO d).2 hr,h1⟩,by simp[h2],?_,?_⟩;intro v hv;rcases List.mem_cons.1 hv with rfl|hv;exact cM.one d hr;exact h3 v hv;intro j v hv;cases j with
   | zero=>simp at hv;subst hv;simpa using hu
   | succ j =>
     have:=h4 j v (by simpa using hv);rw[<-this];congr 1;omega
theorem src_rd(R:St base η Z S w){d:D}{l:List d.ty}{u:Value}(h:ay η Z (.rd d l) u):Src P η Z w u 1 (l.map d.w):=by
 obtain⟨ad,len,cap,hev,bS,hcap,hcs⟩:=h.rd;rw[hev];rcases hcs with rfl|⟨b,off,cells,rfl,hz,hf⟩;simp at bS;subst bS;exact oY _;obtain⟨vs,h1,h2,h3,h4⟩:=w9 (η:=η) (o:=off) (off:=0) hf;obtain⟨ty,fz,hc⟩:=R.zs b cells hz;exact JS h1 (by omega) h3 (fun j v hv=>by simp[World.cell?,hc];simpa using h4 j v hv)
theorem wh(R:St base η Z S w){sz:Nat}{m off len:Nat}{u:Value}(h:ay η Z (.sl m off len sz) u){o:Ob}(ho:S.get m=some o)(hmo:¬o.gG)(hb:off+len*sz<=o.cells.length):Src P η Z w u sz ((o.cells.drop off).take (len*sz)):=by
 rcases h with ⟨rfl,rfl⟩|⟨pl,cap,ad,hpl,rfl,hcap,hroom,had⟩;simp only[Nat.zero_mul,List.take_zero];exact oY _;obtain⟨vs,h1,h2,h3,h4⟩:=R.reads ho hpl hmo hb;by_cases h0:len=0;subst h0;simp only[Nat.zero_mul,List.take_zero];exact oY _;have hca:ad=⟨pl.block,pl.off+off,none⟩:=by
  rcases had with rfl|rfl;omega;rfl
 subst hca;exact JS h1 h2 h3 h4
theorem src_str{s:ByteArray}:Src P η Z w (.string s) 1 (zo s.data.toList):=by
 refine⟨s.size,s.data.toList.map fun b=>Value.int .u8 b.toNat,by simp[zo],by simp,Qm _,?_,fun w'=>by simp[Builtin.lenOf],fun w' k _ hk=>?_⟩;intro v hv;simp at hv;obtain⟨b,_,rfl⟩:=hv;rfl;simp only[Builtin.firstCells,Sem.run_pure];congr 1;apply Array.ext';have:(s.extract 0 k).data.toList=s.data.toList.take k:=by
  simp[ByteArray.data_extract]
 simp
theorem xg(R:St base η Z S w){el:TypeId}{z:Value}{sz need sCap:Nat}{cells:List W}{vs:List Value}(hl:aO (ay η Z) cells vs)(h1:∀ v∈vs,v.oneCell'=true)(bS:vs.length=need*sz)(hzs:z.cells.size=sz) :
 ∃ aF,qE base η Z S w aF (S.add (Ob.of el cells)) (w.drew.alloc (.cells (vs.toArray++Builtin.zeroCells z.cells (grownCap w need sCap el-need)) el))/\
  ay aF Z (.sl S.next 0 need sz) (.slice (some ⟨w.heap.size,0,none⟩) need (grownCap w need sCap el)):=by
 have hge:=grownCap_ge w need sCap el;have hcs:(vs.toArray++Builtin.zeroCells z.cells (grownCap w need sCap el-need)).size=grownCap w need sCap el*sz:=by
  simp only[Array.size_append,List.size_toArray,size_zeroCells,hzs,bS,<-Nat.add_mul];congr 1;omega
 have hlen2:=hl.length
 obtain⟨g,hn⟩:=R.new (w':=w.drew.alloc (.cells (vs.toArray++Builtin.zeroCells z.cells (grownCap w need sCap el-need)) el)) (Ob.of el cells) (vs.toArray++Builtin.zeroCells z.cells (grownCap w need sCap el-need)) rfl rfl rfl rfl
  (by rw[Ob.eU];simp;omega) (fun i x hx=>by
   rw[Ob.eU] at hx;obtain⟨v,hv,hr⟩:=hl.get hx;refine⟨v,?_,hr,h1 v (List.mem_of_getElem? hv)⟩;have:=(List.getElem?_eq_some_iff.1 hv).1;rw[Array.getElem?_append_left (by simpa using this)];simpa using hv) rfl
 refine⟨_,g,.inr ⟨_,grownCap w need sCap el,⟨w.heap.size,0,none⟩,hn,rfl,hge,?_,.inr (by simp)⟩⟩;rw[hcs];simp
theorem pT(R:St base η Z S w){t ts ty el:TypeId}{i:TypeInfo}{d:TypeDesc}{z:List W}(hu:P.underlying t=some (.slice el))(hts:P.underlying ts=some d)(hd:∀ k,d≠.int k)(hi:P.info? el=some i)(hz:jK P el=some z)(hzl:z.length=i.size)(hsz:i.size≠0)
 {uy:Value} {cs:List W} (hsrc:Src P η Z w uy i.size cs) (hby:cs.length/i.size*i.bytes<=140737488355328) (h63:cs.length/i.size<=140737488355328) :
 bG P base η Z S w (do pure (Next.value (<-Builtin.append_ #[t,ts] ty #[.slice none 0 0,uy]))) (.p (.c (.sl S.next 0 (cs.length/i.size) i.size))) (S.add (Ob.of el cs)):=by
 obtain⟨m,vs,h1,h2,h3,h4,h5,h6⟩:=hsrc;obtain⟨i',zv,hi',hzv,hzs,_⟩:=sK (w:=w) hz;rw[hi] at hi';cases hi';have JT:zv.cells.size=i.size:=by
  have hr:=hzs;have:=hr.length;simp at this;omega
 have hdiv:cs.length/i.size=m:=by rw[h1];exact Nat.mul_div_cancel _ (by omega)
 by_cases hm:m=0;subst hm;have hcs:cs=[]:=List.eq_nil_of_length_eq_zero (by simpa using h1);subst hcs;have hnew:=h6 w 0 rfl (Nat.le_refl _);refine bG.of (u:=.slice none 0 0) ?_ (R.mY (o:=Ob.of el []) (by simp)) ⟨by simp,.inl ⟨by simp,rfl⟩⟩;simp[Builtin.append_,run_underlying hu,run_underlying hts,sizeOf,typeInfo,hi,h5,hnew];rw[hdiv] at hby h63 ⊢;have hv:(vs.take (m*i.size))=vs:=List.take_of_length_le (by omega);have hnew:=h6 w.drew m rfl (Nat.le_refl _);rw[hv] at hnew;have hrun:=aj.pN (P:=P) (ty:=ty) (m:=m) (olds:=[]) w hu hts hd hi hzv (b:=none) (sLen:=0) (sCap:=0) (by simp[Builtin.firstCells]) (h5 w) hnew (by omega) (by omega) (by simpa using hby);obtain⟨aF,g,hr⟩:=xg (z:=zv) (need:=m) (sCap:=0) (el:=el) R h3 h4 h2 JT;simp only[Nat.zero_add,Array.empty_append] at hrun;exact bG.of hrun g.up ⟨by simp,hr⟩
theorem Qn(R:St base η Z S w){t tn ty el:TypeId}{i:TypeInfo}{z:W}{zv:Value}{kn k:IntKind}(hu:P.underlying t=some (.slice el))(htn:P.underlying tn=some (.int kn))(hi:P.info? el=some i)(h1:i.size=1)(hzv:i.zero=some zv)(hz:zq z zv=true)
 {n:Int} (h0:0<n) (hb:1<=i.bytes) (h48:(i.bytes:Int)*n<=140737488355328) :
 bG P base η Z S w (do pure (Next.value (<-Builtin.append_ #[t,tn] ty #[.slice none 0 0,.int k n]))) (.p (.c (.sl S.next 0 n.toNat 1))) (S.add (Ob.of el (List.replicate n.toNat z))):=by
 obtain⟨m,rfl⟩:∃ m:Nat,n=m:=⟨n.toNat,by omega⟩;rw[Int.toNat_natCast];have hm:m<=m*i.bytes:=Nat.le_mul_of_pos_right _ hb;have h48':m*i.bytes<=140737488355328:=by rw[Int.mul_comm,<-Int.natCast_mul] at h48;omega
 have hrun:=Lib.run_append_nil_zeros (P:=P) w t tn ty el i zv k kn hu htn hi hzv m (by omega) (by omega) (by omega) (by omega);obtain⟨hr,_,hone,hy⟩:=wg (η:=η) (Z:=Z) hz;have hcells:Builtin.zeroCells zv.cells m=(List.replicate m zv).toArray:=by
  rw[hy];unfold Builtin.zeroCells;apply Array.ext;simp;intro j hj1 hj2;simp[Nat.mod_one]
 have hrel : aO (ay η Z) (List.replicate m z) (List.replicate m zv) := by
  apply aO.ox;simp;intro j x v hx hv;rw[List.getElem?_replicate] at hx hv;split at hx;rename_i hj;rw[if_pos hj] at hv;cases hx;cases hv;exact hr;cases hx
 obtain⟨aF,g,hr'⟩:=xg (z:=zv) (need:=m) (sCap:=0) (sz:=1) (el:=el) R hrel (by intro v hv;rw[List.eq_of_mem_replicate hv];exact hone) (by simp) (by rw[hy];rfl);rw[hcells] at hrun;exact bG.of hrun g.up ⟨by simp,hr'⟩
def rC(zs:List PV)(sz m:Nat):List PV:=(List.range m).map fun i=>zs.getD (i%sz) (.bool false)
theorem Nf(R:St base η Z S w){t tn ty el:TypeId}{i:TypeInfo}{zs:List PV}{zv:Value}{kn k:IntKind}(hu:P.underlying t=some (.slice el))(htn:P.underlying tn=some (.int kn))(hi:P.info? el=some i)(h1:0<i.size)(hzv:i.zero=some zv)(hsz:zv.cells.size=i.size)(hz:aO (ay η Z) (zs.map PV.w) zv.cells.toList)(hone:∀ v∈zv.cells.toList,v.oneCell'=true)
 {n:Int} (h0:0<n) (hb:1<=i.bytes) (h48:(i.bytes:Int)*n<=140737488355328) :
 bG P base η Z S w (do pure (Next.value (<-Builtin.append_ #[t,tn] ty #[.slice none 0 0,.int k n]))) (.p (.c (.sl S.next 0 n.toNat i.size))) (S.add (Ob.of el ((rC zs i.size (n.toNat*i.size)).map PV.w))):=by
 obtain⟨m,rfl⟩:∃ m:Nat,n=m:=⟨n.toNat,by omega⟩;rw[Int.toNat_natCast];have hm:m<=m*i.bytes:=Nat.le_mul_of_pos_right _ hb;have h48':m*i.bytes<=140737488355328:=by rw[Int.mul_comm,<-Int.natCast_mul] at h48;omega
 have hrun:=Lib.run_append_nil_zeros (P:=P) w t tn ty el i zv k kn hu htn hi hzv m (by omega) h1 (by omega) (by omega);have bS:=hz.length;simp only[List.length_map,Array.length_toList] at bS;have hcs:(Builtin.zeroCells zv.cells m).toList.length=m*i.size:=by rw[Array.length_toList,size_zeroCells,hsz]
 have hget:∀ j v,(Builtin.zeroCells zv.cells m).toList[j]? = some v->zv.cells.toList[j%i.size]? = some v:=by
  intro j v hv;have hj:j<m*i.size:=by have:=(List.getElem?_eq_some_iff.1 hv).1;omega
  have hmod:j%i.size<zv.cells.size:=by rw[hsz];exact Nat.mod_lt _ h1
  unfold Builtin.zeroCells at hv;rw[hsz] at hv;simp only[Array.toList_map,Array.toList_range,List.getElem?_map,List.getElem?_range hj,Option.map_some,Option.some.injEq] at hv;rw[<-hv,Array.getElem?_toList,getElem!_pos zv.cells _ hmod,Array.getElem?_eq_getElem hmod]
 have hrel:aO (ay η Z) ((rC zs i.size (m*i.size)).map PV.w) (Builtin.zeroCells zv.cells m).toList:=by
  apply aO.ox;rw[hcs];simp[rC];intro j x v hx hv;have hj:j<m*i.size:=by have:=(List.getElem?_eq_some_iff.1 hv).1;omega
  have hg:=hget j v hv;simp only[rC,List.map_map,List.getElem?_map,List.getElem?_range hj,Option.map_some,Option.some.injEq,Function.comp] at hx;have hzl:j%i.size<zs.length:=by rw[bS,hsz];exact Nat.mod_lt _ h1
  rw[List.getD_eq_getElem?_getD,List.getElem?_eq_getElem hzl] at hx;have hx':(zs.map PV.w)[j%i.size]? = some x:=by rw[List.getElem?_map,List.getElem?_eq_getElem hzl,<-hx];rfl
  obtain⟨v',a,b⟩:=hz.get hx';rw[hg] at a;cases a;exact b
 have h1c:∀ v∈(Builtin.zeroCells zv.cells m).toList,v.oneCell'=true:=by
  intro v hv;obtain⟨j,hj⟩:=List.getElem?_of_mem hv;exact hone v (List.mem_of_getElem? (hget j v hj))
 obtain⟨aF,g,hr'⟩:=xg (z:=zv) (need:=m) (sCap:=0) (sz:=i.size) (el:=el) R hrel h1c hcs hsz;rw[Array.toArray_toList] at g;exact bG.of hrun g.up ⟨by simp,hr'⟩
theorem ur(R:St base η Z S w){t ts ty el:TypeId}{i:TypeInfo}{d:TypeDesc}{z:List W}(hu:P.underlying t=some (.slice el))(hts:P.underlying ts=some d)(hd:∀ k,d≠.int k)(hi:P.info? el=some i)(hz:jK P el=some z)(hzl:z.length=i.size)(hsz:i.size≠0)
 {uy:Value} {cs:List W} (hsrc:Src P η Z w uy i.size cs) {u:Value} {m off len:Nat} (hx:ay η Z (.sl m off len i.size) u) {o:Ob} (ho:S.get m=some o) (hmo:¬o.gG) (hnw:¬o.wb) (hty:o.ty=el)
 (hb:off+len*i.size<=o.cells.length) (hap:¬o.bytes∨o.cells=[]∨(off=0/\len*i.size=o.cells.length/\∀ x∈cs,∃ n,x=W.int .u8 n)) (hby:(len+cs.length/i.size)*i.bytes<=140737488355328) (h63:len+cs.length/i.size<=140737488355328) :
 bG P base η Z S w (do pure (Next.value (<-Builtin.append_ #[t,ts] ty #[u,uy]))) (.p (.c (.sl S.next 0 (len+cs.length/i.size) i.size))) ((S.del m).add (Ob.of el ((o.cells.drop off).take (len*i.size)++cs))):=by
 obtain⟨k,vs,h1,h2,h3,h4,h5,h6⟩:=id hsrc;obtain⟨i',zv,hi',hzv,hzs,_⟩:=sK (w:=w) hz;rw[hi] at hi';cases hi';have JT:zv.cells.size=i.size:=by
  have hr:=hzs;have:=hr.length;simp at this;omega
 have hdiv:cs.length/i.size=k:=by rw[h1];exact Nat.mul_div_cancel _ (by omega)
 rw[hdiv] at hby h63 ⊢;rcases hx with ⟨rfl,rfl⟩|⟨pl,cap,ad,hpl,rfl,hcap,hroom,had⟩;have hg:=pT (base:=base) (S:=S.del m) (ty:=ty) (R.del m) hu hts hd hi hz hzl hsz hsrc (by rw[hdiv];simpa using hby) (by rw[hdiv];simpa using h63);rw[hdiv] at hg;have e1:(o.cells.drop off).take (0*i.size)++cs=cs:=by simp
 rw[e1,Nat.zero_add];obtain⟨nx,u,w',aF,Z',q1,q2,q3,q4⟩:=hg;exact⟨nx,u,w',aF,Z',q1,q2,⟨q3.le,q3.st,(Step.del m).trans q3.step⟩,q4⟩;obtain⟨olds,o1,o2,o3,o4⟩:=R.reads ho hpl hmo hb;have hvt:(vs.take (k*i.size))=vs:=List.take_of_length_le (by omega);by_cases hfit:len+k<=cap
 · -- in place
   by_cases hc0:cap=0
   · -- nothing is there, nothing comes
     have hl0:len=0:=by omega
     have hk0:k=0:=by omega
     subst hl0;subst hk0;have hcs:cs=[]:=by simpa using h1
     subst hcs;have hnew:=h6 w 0 rfl (Nat.le_refl _);have hrun:(Builtin.append_ #[t,ts] ty #[.slice (some ad) 0 cap,uy]).run P w=.ok (.slice (some ad) 0 cap) w:=by
      simp[Builtin.append_,run_underlying hu,run_underlying hts,sizeOf,typeInfo,hi,h5,hnew,storeCells]
     obtain⟨hbase,hzq,L⟩:=R.ak m o pl ho hpl;obtain⟨cc,fz,hcc,hroom',hv',qw⟩:=L.there hmo;have hfz:fz.1=fz.2∨fz.2<=pl.off:=by
      rcases hap with h|h|⟨h1,h2,_⟩;exact qw.plain h hnw;have:=qw.tail.imp_right (·.resolve_right fun h=>hnw h.1);rw[h] at this;simpa using this;have:=qw.tail.imp_right (·.resolve_right fun h=>hnw h.1);omega
     have hsize:=L.size hmo;let p0:cD:=⟨pl.block,pl.off,pl.room,[]⟩;have R':St base (η.add (S.del m).next p0) Z ((S.del m).add (Ob.of el [])) w:=(R.del m).ZH hbase hzq (fun n' o' p' hn' hp' hb'=>by
      rw[af.iB] at hn';split at hn';cases hn';rename_i hne;exact R.j6 n' m o' o p' pl _ hn' ho hne hp' hpl hb' (.inl rfl)) (fun _ _=>rfl) rfl rfl rfl (fQ.plain (by simp[Ob.gG,Ob.isMap,Ob.j5]) ⟨cc,fz,by rw[<-hty];exact hcc,hroom',by simp,hfz⟩ (by simp))
     refine bG.of (Z':=Z) hrun ⟨Eta.s9 (R.fresh _ (Nat.le_refl _)),by simpa using (show St base (η.add S.next p0) Z ((S.del m).add (Ob.of el [])) w from R'),⟨rfl,rfl,rfl,Nat.le_refl _,fun _ _ _=>rfl,?_,av.le.refl _,fun _ _ hh=>.inl hh,rfl⟩⟩ ⟨by simp,.inr ⟨p0,cap,ad,Eta.gj,rfl,by omega,by subst hc0;simp,.inl hc0⟩⟩;rintro b ⟨n',o',p',hn',hp',hb'⟩;have hg:∀ j,((S.del m).add (Ob.of el [])).get j=if j=S.next then some (Ob.of el []) else(S.del m).get j:=fun j=>af.fU (R.del m).fJ
     have hn'':=(hg n').symm.trans (by simpa using hn');by_cases hj:n'=S.next
     subst hj;rw[Eta.gj] at hp';cases hp';exact .inl ⟨m,o,pl,ho,hpl,.inl (cD.vU hb').symm⟩;rw[if_neg hj] at hn'';rw[Eta.jm hj] at hp';exact .inl (vX ⟨n',o',p',hn'',hp',hb'⟩)
   . have hca:ad=⟨pl.block,pl.off+off,none⟩:=by
      rcases had with h|h;exact absurd h hc0;exact h
     subst hca;obtain⟨hbase,hzq,L⟩:=R.ak m o pl ho hpl;obtain⟨cc,fz,hcc,hroom',hv',qw⟩:=L.there hmo;have hfz:∀ k,pl.off+off+len*i.size<=k->k<cc.size->¬(fz.1<=k/\k<fz.2):=by
      intro k a b;rcases hap with h|h|⟨h1,h2,_⟩;have:=qw.plain h hnw;omega;have:=qw.tail.imp_right (·.resolve_right fun h=>hnw h.1);rw[h] at this;simp at this;omega;have:=qw.tail.imp_right (·.resolve_right fun h=>hnw h.1);omega
     have hsize:=L.size hmo;have hmul:(len+k)*i.size<=cap*i.size:=Nat.mul_le_mul_right _ hfit;rw[Nat.add_mul] at hmul
     have hrun:=aj.uf (P:=P) (ty:=ty) w hu hts hd hi (bk:=pl.block) (off:=pl.off+off) (sLen:=len) (sCap:=cap) (news:=vs) (h5 w) (by have:=h6 w k rfl (Nat.le_refl _);rwa [hvt] at this) hfit
      (fun j hj=>by
       have:pl.off+off+len*i.size+j<cc.size:=by omega
       simp[World.cell?,hcc,this])
      (fun j hj=>by
       have:=hfz (pl.off+off+len*i.size+j) (by omega) (by omega);simp only[World.frozen?,hcc];simpa using this) h4
     obtain⟨c',g1,g2,g3,g4⟩:=aj.kI vs (pl.off+off+len*i.size) w cc hcc;have sy:=aj.iP (base:=0) (bk:=pl.block) (Nat.zero_le _) vs (pl.off+off+len*i.size) w;let p':cD:=⟨pl.block,pl.off+off,pl.room-off,[]⟩;have hle:η.le (η.add S.next p'):=Eta.s9 (R.fresh _ (Nat.le_refl _));have hlold:olds.length=len*i.size:=o2;have main:∀(j:Nat) x,(Ob.of el ((o.cells.drop off).take (len*i.size)++cs)).cells[j]? = some x->∃ v,c'[p'.off+j]? = some v/\ay (η.add S.next p') Z x v/\v.oneCell'=true:=fun j x hx=>by
      show ∃ v,c'[pl.off+off+j]? = some v/\_;rw[Ob.eU] at hx;have hlen1:((o.cells.drop off).take (len*i.size)).length=len*i.size:=by simp;omega
      by_cases hj:j<len*i.size;rw[List.getElem?_append_left (by omega)] at hx;have hx':o.cells[off+j]? = some x:=by
       rw[List.getElem?_take,if_pos hj,List.getElem?_drop] at hx;exact hx
      obtain⟨v,q1,q2,q3⟩:=hv' _ _ hx';refine⟨v,?_,q2.mono hle (av.le.refl _),q3⟩;rw[g3 _ (by omega),<-q1];congr 1;omega;rw[List.getElem?_append_right (by omega),hlen1] at hx;obtain⟨v,q1,q2⟩:=h3.get hx;have hjv:=(List.getElem?_eq_some_iff.1 q1).1;refine⟨v,?_,q2.mono hle (av.le.refl _),h4 v (List.mem_of_getElem? q1)⟩;have:=g4 (j-len*i.size) hjv (by omega);rw[show pl.off+off+len*i.size+(j-len*i.size)=pl.off+off+j by omega] at this;rw[this];exact q1
     have R' : St base (η.add (S.del m).next p') Z ((S.del m).add (Ob.of el ((o.cells.drop off).take (len * i.size) ++ cs))) (w.setCells pl.block (pl.off + off + len * i.size) vs) := (R.del m).ZH hbase hzq (fun n' o' p'' hn' hp' hb' => by
      rw[af.iB] at hn';split at hn';cases hn';rename_i hne;exact R.j6 n' m o' o p'' pl _ hn' ho hne hp' hpl hb' (.inl rfl)) (fun b hb'=>aj.gK hb' _ _ _) (aj.kJ _ _ _) rfl rfl
      (fQ.DZ (fun hm'=>by
       rcases hm' with hm'|⟨_,_,hm'⟩<;>obtain⟨v,_,b,_⟩:=main 0 _ hm'<;>simp only[ay,aL] at b)
       ⟨c', fz, by rw[← hty]; exact g1, by show pl.off + off + (pl.room - off) ≤ _; omega, main, by
        have hpo:p'.off=pl.off+off:=rfl;rcases Classical.em o.bytes with hB|hB;rcases hap with h|h|⟨q1,q2,q3⟩;exact absurd hB h;left;have:=qw.tail.imp_right (·.resolve_right fun h=>hnw h.1);rw[h] at this;simp at this;omega;have bU:(Ob.of el ((o.cells.drop off).take (len*i.size)++cs)).cells.length=len*i.size+cs.length:=by rw[Ob.eU];simp;omega
        rcases qw.tail.imp_right (·.resolve_right fun h=>hnw h.1) with ht|ht;exact .inl (.inl ht);refine .inr (.inl ⟨fun x hx=>?_,by omega⟩);rw[Ob.eU] at hx;rcases List.mem_append.1 hx with hx|hx;exact hB x (List.mem_of_mem_drop (List.mem_of_mem_take hx));exact q3 x hx;left;have:=qw.plain hB hnw;omega⟩
       (by rw[Ob.eU];show ((o.cells.drop off).take (len*i.size)++cs).length<=pl.room-off;simp;omega))
     refine bG.of (Z':=Z) hrun ⟨hle,R',⟨sy.os,sy.tape,sy.output,sy.size,?_,?_,av.le.refl _,fun _ _ hh=>.inl hh,rfl⟩⟩ ⟨by simp,.inr ⟨p',cap,_,Eta.gj,rfl,hfit,?_,.inr rfl⟩⟩;intro b _ hno;exact aj.gK (fun hh=>hno ⟨m,o,pl,ho,hpl,.inl hh.symm⟩) _ _ _
     . rintro b ⟨n',o',p'',hn',hp',hb'⟩;have hg:∀ j,((S.del m).add (Ob.of el ((o.cells.drop off).take (len*i.size)++cs))).get j=if j=S.next then some (Ob.of el ((o.cells.drop off).take (len*i.size)++cs)) else(S.del m).get j:=fun j=>af.fU (R.del m).fJ
       rw[hg] at hn';by_cases hj:n'=S.next
       subst hj;rw[Eta.gj] at hp';cases hp';exact .inl ⟨m,o,pl,ho,hpl,.inl (cD.vU hb').symm⟩;rw[if_neg hj] at hn';rw[Eta.jm hj] at hp';exact .inl (vX ⟨n',o',p'',hn',hp',hb'⟩)
     show 0+cap*i.size<=pl.room-off;omega
 · -- into new memory
   have hold:(Builtin.firstCells i.size len (.slice (some ad) len cap)).run P w.drew=.ok olds.toArray w.drew:=by
    by_cases hl0:len=0;subst hl0;have:olds=[]:=List.length_eq_zero_iff.1 (by simpa using o2);subst this;simp[Builtin.firstCells,loadCells,loadCellsFrom];have hca:ad=⟨pl.block,pl.off+off,none⟩:=by
     rcases had with h|h;omega;exact h
    subst hca;have:=rY (P:=P) (w:=w) (w':=w.drew) o4 rfl;rw[o2] at this;simp[Builtin.firstCells,this]
   have hnew:=h6 w.drew k rfl (Nat.le_refl _);rw[hvt] at hnew;have hrun:=aj.pN (P:=P) (ty:=ty) w hu hts hd hi hzv (b:=some ad) (sLen:=len) (sCap:=cap) hold (h5 w) hnew (by omega) (by omega) hby;obtain⟨aF,g,hr⟩:=xg (z:=zv) (need:=len+k) (sCap:=cap) (el:=el) (R.del m) (o1.append h3) (fun v hv=>by
    rcases List.mem_append.1 hv with hv|hv;exact o3 v hv;exact h4 v hv) (by simp[o2,h2,Nat.add_mul]) JT
   have happ:(olds++vs).toArray=olds.toArray++vs.toArray:=by simp
   rw[happ] at g;exact bG.of (Z':=Z) hrun ⟨g.le,g.st,(Step.del m).trans g.step⟩ ⟨by simp,hr⟩
structure D6(η:Eta)(S:af)(w:World)(n m k:Nat)(aA:List (List Int))(rs:List (Nat×Nat))(b0:Nat):Prop where
 len:rs.length=aA.length
 nodup:(rs.map (·.1)).Nodup
 own:∀ b∈rs.map (·.1),b≠b0/\n≠m/\∃ o pn,S.get n=some o/\η n=some pn/\pn.has b
 row:∀(i:Nat) r l,rs[i]? = some r->aA[i]? = some l->l.length=k/\∃ c t fz,w.heap[r.1]? = some (.cells c t fz)/\r.2+k<=c.size/\(∀(j:Nat) x,l[j]? = some x->c[r.2+j]? = some (.int .i64 x))/\(∀ j,r.2<=j->j<c.size->¬(fz.1<=j/\j<fz.2))
 b0:b0=w.heap.size∨(n≠m/\∃ o pn,S.get n=some o/\η n=some pn/\pn.has b0)
def NQ(rs:List (Nat×Nat))(k:Nat)(vs:List Value):Prop:=vs.length=rs.length/\∀(i:Nat) r,rs[i]? = some r->∃ cp ad,vs[i]? = some (.slice ad k cp)/\k<=cp/\(0<k->ad=some ⟨r.1,r.2,none⟩)
theorem St.SS(R:St base η Z S w){n m k b0:Nat}{aA:List (List Int)}{rs:List (Nat×Nat)}(hpre:D6 η S w n m k aA rs b0){om:Ob}{pm:cD}{l l0:List Int}{ro:Nat}(hm:S.get m=some om)(hpm:η m=some pm)(hcm:om.cells=l0.map (W.int .i64))(hl0:l=l0.drop ro)(hl:l.length=k)
 {w':World} {p:cD} {el:TypeId} (hrows:p.aA=rs++[(pm.block,if k=0 then pm.off else pm.off+ro)]) (hsz:w.heap.size<=w'.heap.size) (JU:p.block=w.heap.size∨p.block=b0)
 (gN:∀ b,b<w.heap.size->b≠p.block->w'.heap[b]? = w.heap[b]?)
 (houter:∃ c fz,w'.heap[p.block]? = some (.cells c el fz)/\p.off+p.room<=c.size/\(∀(i:Nat) r,p.aA[i]? = some r->∃ cp ad,c[p.off+i]? = some (.slice ad k cp)/\k<=cp/\(0<k->ad=some ⟨r.1,r.2,none⟩))/\(∀ j,p.off<=j->j<c.size->¬(fz.1<=j/\j<fz.2)))
 (hroom:aA.length+1<=p.room) (hos:w'.os=w.os) (nG:w'.tape=w.tape) (hout:w'.output=w.output) :
 bN base η Z S w (η.add S.next p) Z (((S.del n).del m).add ⟨el,[.c (.th k (aA++[l]))]⟩) w':=by
 have hle:η.le (η.add S.next p):=Eta.s9 (R.fresh _ (Nat.le_refl _));have hmlt:=R.Wz hm hpm;have hdel:∀ n' x,((S.del n).del m).get n'=some x->n'≠n/\n'≠m/\S.get n'=some x:=by
  intro n' x hx;rw[af.iB] at hx;split at hx;cases hx;rename_i h1;rw[af.iB] at hx;split at hx;cases hx;rename_i h2;exact⟨h2,h1,hx⟩
 -- where b0 lies
 have hb0:∀ b,b<w.heap.size->b=b0->n≠m/\∃ o pn,S.get n=some o/\η n=some pn/\pn.has b:=by
  rintro b hb rfl;rcases hpre.b0 with h|h;omega;exact h
 have hmp:pm.block≠p.block:=by
  intro e;rcases JU with h|h;omega;obtain⟨hnm,o,pn,h1,h2,h3⟩:=hb0 pm.block hmlt (e.trans h);exact R.j6 n m o om pn pm _ h1 hm hnm h2 hpm h3 pm.iQ
 have hsp:∀ b∈rs.map (·.1),b≠p.block/\b<w.heap.size/\b≠pm.block:=by
  intro b hb;obtain⟨h1,hnm,o,pn,h2,h3,h4⟩:=hpre.own b hb;have hlt:=R.j7 h2 h3 h4;refine⟨?_,hlt,fun e=>R.j6 n m o om pn pm _ h2 hm hnm h3 hpm h4 (.inl e.symm)⟩;rcases JU with h|h;omega;rw[h];exact h1
 have Qo:p.sats=rs.map (·.1)++[pm.block]:=by unfold cD.sats;rw[hrows,List.map_append];rfl
 obtain⟨co,fo,kz,D7,ho3,ho4⟩:=houter
 -- who has the new blocks
 have hown : ∀ b, p.has b → w.heap.size ≤ b ∨ ((∃ o pn, n ≠ m ∧ S.get n = some o ∧ η n = some pn ∧ pn.has b) ∨ pm.has b) := by
  rintro b (h|h);rcases JU with h'|h';left;omega;rcases Nat.lt_or_ge b w.heap.size with hlt|hge;obtain⟨hnm,o,pn,h2,h3,h4⟩:=hb0 b hlt (h.symm.trans h');exact .inr (.inl ⟨o,pn,hnm,h2,h3,h4⟩);exact .inl hge;rw[Qo] at h;rcases List.mem_append.1 h with h|h;obtain⟨_,hnm,o,pn,h2,h3,h4⟩:=hpre.own b h;exact .inr (.inl ⟨o,pn,hnm,h2,h3,h4⟩);rw[List.mem_singleton] at h;subst h;exact .inr (.inr pm.iQ)
 have hL : fQ (η.add ((S.del n).del m).next p) Z ⟨el, [.c (.th k (aA ++ [l]))]⟩ p w' := by
  obtain⟨_,_,Lm⟩:=R.ak m om pm hm hpm;have hmM:¬om.gG:=by
   rintro (h|⟨k',rows',h⟩);unfold Ob.isMap at h;rw[hcm] at h;cases l0<;>simp at h;unfold Ob.j5 at h;rw[hcm] at h;cases l0<;>simp at h
  obtain⟨cm,fm,hc1,hc2,hc3,hcu⟩:=Lm.there hmM;have hc4:∀ q,pm.off<=q->q<cm.size->¬(fm.1<=q/\q<fm.2):=by
   cases hl1:l0 with
   | nil =>
     intro q a b;have:=hcu.tail;rw[hcm,hl1] at this;simp at this;omega
   | cons x l' =>
     refine hcu.strong (fun hB=>?_);obtain⟨n',e⟩:=hB (.int .i64 x) (by rw[hcm,hl1];simp);cases e
  have hsm:=Lm.size hmM;refine fQ.tab (k:=k) (aA:=aA++[l]) (JD rfl) ⟨⟨co,fo,kz,D7,ho3,ho4⟩,?_,by simpa using hroom,?_,?_⟩;rw[hrows];simp[hpre.len];intro i r l' hr hl';rw[hrows] at hr;by_cases hi:i<rs.length;rw[List.getElem?_append_left hi] at hr;rw[List.getElem?_append_left (by rw[<-hpre.len];exact hi)] at hl';obtain⟨q1,c,t,fz,q2,q3⟩:=hpre.row i r l' hr hl';have hb:=hsp r.1 (List.mem_map.2 ⟨r,List.mem_of_getElem? hr,rfl⟩);exact⟨q1,c,t,fz,(gN _ hb.2.1 hb.1).trans q2,q3⟩;rw[List.getElem?_append_right (by omega)] at hr;rw[List.getElem?_append_right (by rw[<-hpre.len];omega)] at hl';have hi0:i-rs.length=0:=by
   have:=(List.getElem?_eq_some_iff.1 hr).1;simpa using this
  rw[hi0] at hr;have:i-aA.length=0:=by rw[<-hpre.len];exact hi0
  rw[this] at hl';cases hr;cases hl';refine⟨hl,cm,om.ty,fm,(gN _ hmlt hmp).trans hc1,?_,?_,fun q a b=>hc4 q (Nat.le_trans (by show pm.off<=(if k=0 then pm.off else pm.off+ro);split<;>omega) a) b⟩;show (if k=0 then pm.off else pm.off+ro)+k<=cm.size;split;omega;have hl':=hl;rw[hl0,List.length_drop] at hl';rw[hcm,List.length_map] at hsm;omega;intro j x hx;have hk0:¬k=0:=fun h=>by rw[List.eq_nil_of_length_eq_zero (hl.trans h)] at hx;cases hx
  show cm[(if k=0 then pm.off else pm.off+ro)+j]? = _;rw[if_neg hk0];have hx':l0[ro+j]? = some x:=by rw[hl0,List.getElem?_drop] at hx;exact hx
  obtain⟨v,e1,e2,_⟩:=hc3 (ro+j) (.int .i64 x) (by rw[hcm,List.getElem?_map,hx'];rfl);simp only[ay,aL] at e2;rw[<-Nat.add_assoc] at e1;rw[e1,e2];rw[Qo,List.nodup_cons];constructor;intro h;rcases List.mem_append.1 h with h|h;exact(hsp _ h).1 rfl;rw[List.mem_singleton] at h;exact hmp h.symm;rw[List.nodup_append];refine⟨hpre.nodup,by simp,?_⟩;intro a ha b hb;rw[List.mem_singleton] at hb;subst hb;exact(hsp a ha).2.2
 refine⟨hle,((R.del n).del m).SL (p:=p) (w':=w') ?_ (fun k hk hp=>gN k hk fun e=>hp (.inl e.symm)) hsz hL,⟨hos,nG,hout,hsz,?_,?_,av.le.refl _,fun _ _ h=>.inl h,rfl⟩⟩;intro b hb;have Jq : ∃ ob, w'.heap[b]? = some ob ∧ pS ob = true := by
  by_cases NR:b=p.block;subst NR;exact⟨_,kz,rfl⟩;rcases hb with h|h;exact absurd h.symm NR;rw[Qo] at h;rcases List.mem_append.1 h with h|h;obtain⟨_,hnm,o,pn,h2,h3,h4⟩:=hpre.own b h;obtain⟨_,_,ob,e1,e2⟩:=R.all h2 h3 h4;exact⟨ob,(gN b (dF e1) NR).trans e1,e2⟩;rw[List.mem_singleton] at h;obtain⟨_,_,ob,e1,e2⟩:=R.all hm hpm (b:=b) (.inl h.symm);exact⟨ob,(gN b (dF e1) NR).trans e1,e2⟩
 rcases hown b hb with h|⟨o,pn,hnm,h2,h3,h4⟩|h;refine⟨Nat.le_trans R.iF h,?_,Jq,fun n' x q hx hq hb'=>?_⟩
 . cases e:Z b with
   | none=>rfl
   | some cs=>have:=R.WA e;omega
 have:=R.j7 (hdel n' x hx).2.2 hq hb';omega;obtain⟨q1,q2,_⟩:=R.all h2 h3 h4;exact⟨q1,q2,Jq,fun n' x q hx hq hb'=>R.j6 n' n x o q pn b (hdel n' x hx).2.2 h2 (hdel n' x hx).1 hq h3 hb' h4⟩;obtain⟨q1,q2,_⟩:=R.all hm hpm h;exact⟨q1,q2,Jq,fun n' x q hx hq hb'=>R.j6 n' m x om q pm b (hdel n' x hx).2.2 hm (hdel n' x hx).2.1 hq hpm hb' h⟩;intro b hb hno;refine gN b hb fun e=>?_;rcases hown b (.inl e.symm) with h|⟨o,pn,_,h2,h3,h4⟩|h;omega;exact hno ⟨n,o,pn,h2,h3,h4⟩;exact hno ⟨m,om,pm,hm,hpm,h⟩
 . rintro b ⟨n',x,q,hx,hq,hb⟩;have hg:∀ j,(((S.del n).del m).add ⟨el,[.c (.th k (aA++[l]))]⟩).get j=if j=S.next then some ⟨el,[.c (.th k (aA++[l]))]⟩ else((S.del n).del m).get j:=fun j=>af.fU ((R.del n).del m).fJ
   rw[hg] at hx;by_cases hj:n'=S.next
   subst hj;rw[Eta.gj] at hq;cases hq;rcases hown b hb with h|⟨o,pn,_,h2,h3,h4⟩|h;exact .inr h;exact .inl ⟨n,o,pn,h2,h3,h4⟩;exact .inl ⟨m,om,pm,hm,hpm,h⟩;rw[if_neg hj] at hx;rw[Eta.jm hj] at hq;exact .inl ⟨n',x,q,(hdel n' x hx).2.2,hq,hb⟩
theorem NS(R:St base η Z S w){uy:Value}{m k ro:Nat}(hsrc:Src P η Z w uy 1 [.sl m ro k 1]){om:Ob}{l0:List Int}(hm:S.get m=some om)(hcm:om.cells=l0.map (W.int .i64))(hk:0<k∨0<l0.length):∃ pm cp ad,η m=some pm/\k<=cp/\(0<k->ad=some ⟨pm.block,pm.off+ro,none⟩)/\(∀ w',(Builtin.lenOf uy).run P w'=.ok 1 w')/\∀ w',w'.heap=w.heap->(Builtin.firstCells 1 1 uy).run P w'=.ok #[.slice ad k cp] w':=by
 obtain⟨mm,vs,h1,h2,h3,_,h5,h6⟩:=hsrc;have hmm:mm=1:=by simpa using h1.symm
 subst hmm;cases vs with
 | nil=>simp at h2
 | cons v vs =>
   have:vs=[]:=List.eq_nil_of_length_eq_zero (by simpa using h2);subst this;rcases h3.1 with ⟨h0,rfl⟩|⟨pm,cp,ad,q1,rfl,q2,q3,q4⟩
   . subst h0;cases hp:η m with
     | none =>
       have:=R.cX m om hm hp;rw[hcm,List.map_eq_nil_iff] at this;rw[this] at hk;simp at hk
     | some pm=>exact⟨pm,0,none,rfl,Nat.le_refl _,fun h=>absurd h (Nat.lt_irrefl _),h5,fun w' hw=>by simpa using h6 w' 1 hw (Nat.le_refl _)⟩
   exact⟨pm,cp,some ad,q1,q2,fun h=>by
    rcases q4 with h|h;omega;rw[h],h5,fun w' hw=>by simpa using h6 w' 1 hw (Nat.le_refl _)⟩
theorem pU(R:St base η Z S w){t ts ty el:TypeId}{i:TypeInfo}{d:TypeDesc}{z:List W}(hu:P.underlying t=some (.slice el))(hts:P.underlying ts=some d)(hd:∀ k,d≠.int k)(hi:P.info? el=some i)(hz:jK P el=some z)(hzl:z.length=i.size)(h1:i.size=1)
 {uy:Value} {n m k:Nat} {om:Ob} {l l0:List Int} {ro:Nat} (hsrc:Src P η Z w uy 1 [.sl m ro k 1]) (hm:S.get m=some om) (hcm:om.cells=l0.map (W.int .i64)) (hl0:l=l0.drop ro) (hl:l.length=k) (hk:0<k∨0<l0.length) {aA:List (List Int)} {rs:List (Nat×Nat)} {b0:Nat} (hpre:D6 η S w n m k aA rs b0) {olds:List Value} (hold:NQ rs k olds)
 {ad:Option Addr} {cap:Nat} (hfst:∀ w',w'.heap=w.heap->(Builtin.firstCells 1 aA.length (.slice ad aA.length cap)).run P w'=.ok olds.toArray w') (hfit:cap<aA.length+1)
 (hby:(aA.length+1)*i.bytes<=140737488355328) (h63:aA.length+1<=140737488355328) :
 bG P base η Z S w (do pure (Next.value (<-Builtin.append_ #[t,ts] ty #[.slice ad aA.length cap,uy]))) (.p (.c (.sl S.next 0 (aA.length+1) 1))) (((S.del n).del m).add ⟨el,[.c (.th k (aA++[l]))]⟩):=by
 obtain⟨pm,cp,SV,hpm,hcp,WL,h5,h6⟩:=NS R hsrc hm hcm hk;obtain⟨i',zv,hi',hzv,hzs,_⟩:=sK (w:=w) hz;rw[hi] at hi';cases hi';have JT:zv.cells.size=1:=by
  have hr:=hzs;have:=hr.length;simp at this;omega
 let v:Value:=.slice SV k cp;have hrun:=aj.pN (P:=P) (ty:=ty) (m:=1) (olds:=olds) (news:=[v]) w hu hts hd hi hzv (b:=ad) (sLen:=aA.length) (sCap:=cap) (by rw[h1];exact hfst _ rfl) (h5 w) (by rw[h1];exact h6 _ rfl) hfit h63 hby;generalize DW:grownCap w (aA.length+1) cap el=gc at hrun;have hge:aA.length+1<=gc:=by rw[<-DW];exact grownCap_ge w _ _ _
 have ZI:olds.length=aA.length:=by rw[hold.1,hpre.len]
 have hcs:(olds.toArray++[v].toArray++Builtin.zeroCells zv.cells (gc-(aA.length+1))).size=gc:=by
  simp only[Array.size_append,List.size_toArray,size_zeroCells,JT,List.length_singleton,Nat.mul_one];omega
 let p:cD:=⟨w.heap.size,0,gc,rs++[(pm.block,if k=0 then pm.off else pm.off+ro)]⟩
 have hmv := R.SS hpre hm hpm hcm hl0 hl (w' := w.drew.alloc (.cells (olds.toArray ++ [v].toArray ++ Builtin.zeroCells zv.cells (gc - (aA.length + 1))) el)) (p := p) (el := el) rfl (by show w.heap.size ≤ (w.heap.push _).size; rw[Array.size_push]; omega) (.inl rfl)
  (fun b hb hne=>by
   show (w.heap.push _)[b]? = _;rw[Array.getElem?_push,if_neg (by omega)])
  ⟨olds.toArray++[v].toArray++Builtin.zeroCells zv.cells (gc-(aA.length+1)),(0,0),Array.getElem?_push_size,by rw[hcs];show 0+gc<=gc;omega,by
   intro j r hr;show ∃ SW SX,(olds.toArray++[v].toArray++_)[0+j]? = some (.slice SX k SW)/\_;rw[Nat.zero_add];by_cases hj:j<rs.length;have hr':rs[j]? = some r:=by rw[<-hr];exact(List.getElem?_append_left hj).symm
   obtain⟨SW,SX,e1,e2⟩:=hold.2 j r hr';refine⟨SW,SX,?_,e2⟩;have h0:=hold.1;rw[Array.getElem?_append_left (by simp;omega),Array.getElem?_append_left (by simp;have:=hold.1;omega)];simpa using e1;have hr':[(pm.block,if k=0 then pm.off else pm.off+ro)][j-rs.length]? = some r:=by rw[<-hr];exact(List.getElem?_append_right (by omega)).symm
   have hj0:j-rs.length=0:=by
    have:=(List.getElem?_eq_some_iff.1 hr').1;simpa using this
   rw[hj0] at hr';cases hr';refine⟨cp,SV,?_,hcp,fun h=>by rw[WL h];show _=some (⟨pm.block,if k=0 then pm.off else pm.off+ro,none⟩:Addr);rw[if_neg (by omega)]⟩;have hjr:j=olds.length:=by have:=hold.1;omega
   subst hjr;rw[Array.getElem?_append_left (by simp),Array.getElem?_append_right (by simp)];simp[v],fun _ _ _=>by simp⟩
  hge rfl rfl rfl
 exact bG.of hrun hmv ⟨by simp,.inr ⟨p,gc,⟨w.heap.size,0,none⟩,Eta.gj,rfl,hge,by show 0+gc*1<=gc;omega,.inr rfl⟩⟩
theorem SY(R:St base η Z S w){n m k:Nat}{aA:List (List Int)}{o:Ob}{pn:cD}(hne:n≠m)(hn:S.get n=some o)(ht:o.j5 k aA)(JV:η n=some pn):D6 η S w n m k aA pn.aA pn.block:=by
 obtain⟨_,_,L⟩:=R.ak n o pn hn JV;have T:=L.tabs k aA ht;have hnd:=T.nodup;rw[List.nodup_cons] at hnd;exact⟨T.len,hnd.2,fun b hb=>⟨fun e=>hnd.1 (e▸hb),hne,o,pn,hn,JV,.inr hb⟩,T.row,.inr ⟨hne,o,pn,hn,JV,pn.iQ⟩⟩
theorem Qp(R:St base η Z S w){n k:Nat}{aA:List (List Int)}{o:Ob}{pn:cD}(hn:S.get n=some o)(ht:o.j5 k aA)(JV:η n=some pn) :
 ∃ olds,NQ pn.aA k olds/\∀(j:Nat) v,olds[j]? = some v->w.cell? ⟨pn.block,pn.off+j,none⟩=some v:=by
 obtain⟨_,_,L⟩:=R.ak n o pn hn JV;have T:=L.tabs k aA ht;obtain⟨c,fz,h1,h2,h3,_⟩:=T.outer;have hroom:=T.room;have bS:=T.len;refine⟨(c.toList.drop pn.off).take pn.aA.length,⟨by simp;omega,?_⟩,?_⟩;intro i r hr;obtain⟨cp,ad,e1,e2⟩:=h3 i r hr;have hi:=(List.getElem?_eq_some_iff.1 hr).1;refine⟨cp,ad,?_,e2⟩;rw[List.getElem?_take,if_pos hi,List.getElem?_drop];simpa using e1;intro j v hv;rw[List.getElem?_take] at hv;split at hv;rw[List.getElem?_drop] at hv;simp[World.cell?,h1];simpa using hv;cases hv
theorem D8(R:St base η Z S w){t ts ty el:TypeId}{i:TypeInfo}{d:TypeDesc}{z:List W}(hu:P.underlying t=some (.slice el))(hts:P.underlying ts=some d)(hd:∀ k,d≠.int k)(hi:P.info? el=some i)(hz:jK P el=some z)(hzl:z.length=i.size)(h1:i.size=1)
 {uy:Value} {n m k:Nat} {om:Ob} {l l0:List Int} {ro:Nat} (hsrc:Src P η Z w uy 1 [.sl m ro k 1]) (hm:S.get m=some om) (hcm:om.cells=l0.map (W.int .i64)) (hl0:l=l0.drop ro) (hl:l.length=k) (hk:0<k∨0<l0.length)
 {u:Value} {aA:List (List Int)} {o:Ob} (hx:ay η Z (.sl n 0 aA.length 1) u) (ho:S.get n=some o) (hto:o.j5 k aA) (hty:o.ty=el) (hne:n≠m)
 (hby:(aA.length+1)*i.bytes<=140737488355328) (h63:aA.length+1<=140737488355328) :
 bG P base η Z S w (do pure (Next.value (<-Builtin.append_ #[t,ts] ty #[u,uy]))) (.p (.c (.sl S.next 0 (aA.length+1) 1))) (((S.del n).del m).add ⟨el,[.c (.th k (aA++[l]))]⟩):=by
 have hnil:∀{uy:Value},aA=[]->D6 η S w n m k aA [] w.heap.size:=fun h=>⟨by subst h;rfl,by simp,by simp,by simp,.inl rfl⟩;rcases hx with ⟨h0,rfl⟩|⟨pl,cap,ad,hpl,rfl,hcap,hroom,had⟩;have hr0:aA=[]:=List.eq_nil_of_length_eq_zero h0;subst hr0;exact pU (ad:=none) (cap:=0) (olds:=[]) (n:=n) R hu hts hd hi hz hzl h1 hsrc hm hcm hl0 hl hk (hnil (uy:=uy) rfl) ⟨rfl,by simp⟩ (fun w' _=>by simp[Builtin.firstCells]) (by simp) hby h63;have hpre:=SY R hne ho hto hpl;obtain⟨olds,hold,hcell⟩:=Qp R ho hto hpl;have hca:cap=0∨ad=⟨pl.block,pl.off,none⟩:=by simpa using had
 by_cases hfit:aA.length+1<=cap;obtain⟨pm,cp,SV,hpm,hcp,WL,h5,h6⟩:=NS R hsrc hm hcm hk;have hca:ad=⟨pl.block,pl.off,none⟩:=by
  rcases hca with h|h;omega;exact h
 subst hca;obtain⟨_,_,L⟩:=R.ak n o pl ho hpl;have T:=L.tabs k aA hto;obtain⟨cc,fz,hcc,hsz,hrow,hfz⟩:=T.outer;have hroom':=T.room;let v:Value:=.slice SV k cp
 have hrun:=aj.uf (P:=P) (ty:=ty) (m:=1) w hu hts hd hi (bk:=pl.block) (off:=pl.off) (sLen:=aA.length) (sCap:=cap) (news:=[v]) (h5 w) (by rw[h1];exact h6 w rfl) hfit
  (fun j hj=>by
   have hj0:j=0:=by simpa using hj
   subst hj0;have:pl.off+aA.length*i.size+0<cc.size:=by rw[h1];omega
   simp[World.cell?,hcc];simpa using this)
  (fun j hj=>by
   have hj0:j=0:=by simpa using hj
   subst hj0;have:=hfz (pl.off+aA.length*i.size+0) (by omega) (by rw[h1];omega);simp only[World.frozen?,hcc];simpa using this) (by intro x hx;rw[List.mem_singleton] at hx;subst hx;rfl)
 rw[h1,Nat.mul_one] at hrun;obtain⟨c',g1,g2,g3,g4⟩:=aj.kI [v] (pl.off+aA.length) w cc hcc;have sy:=aj.iP (base:=0) (bk:=pl.block) (Nat.zero_le _) [v] (pl.off+aA.length) w;let p:cD:=⟨pl.block,pl.off,pl.room,pl.aA++[(pm.block,if k=0 then pm.off else pm.off+ro)]⟩
 have hmv := R.SS hpre hm hpm hcm hl0 hl (w' := w.setCells pl.block (pl.off + aA.length) [v]) (p := p) (el := el) rfl (by rw[aj.kJ]; exact Nat.le_refl _) (.inr rfl)
  (fun b _ hb=>aj.gK hb _ _ _)
  ⟨c',fz,by rw[<-hty];exact g1,by rw[g2];exact hsz,by
   intro j r hr;by_cases hj:j<pl.aA.length;have hr':pl.aA[j]? = some r:=by rw[<-hr];exact(List.getElem?_append_left hj).symm
   obtain⟨SW,SX,e1,e2⟩:=hrow j r hr';refine⟨SW,SX,?_,e2⟩;rw[<-e1];have:=T.len;exact g3 (pl.off+j) (.inl (by omega));have hr':[(pm.block,if k=0 then pm.off else pm.off+ro)][j-pl.aA.length]? = some r:=by rw[<-hr];exact(List.getElem?_append_right (by omega)).symm
   have hj0:j-pl.aA.length=0:=by
    have:=(List.getElem?_eq_some_iff.1 hr').1;simpa using this
   rw[hj0] at hr';cases hr';refine⟨cp,SV,?_,hcp,fun h=>by rw[WL h];show _=some (⟨pm.block,if k=0 then pm.off else pm.off+ro,none⟩:Addr);rw[if_neg (by omega)]⟩;have:=T.len;have hjr:j=aA.length:=by omega
   subst hjr;have:=g4 0 (by simp) (by omega);simpa using this,by rw[g2];exact hfz⟩
  (by show aA.length+1<=pl.room;omega) sy.os sy.tape sy.output
 exact bG.of hrun hmv ⟨by simp,.inr ⟨p,cap,_,Eta.gj,rfl,hfit,hroom,.inr rfl⟩⟩;refine pU (n:=n) R hu hts hd hi hz hzl h1 hsrc hm hcm hl0 hl hk hpre hold (fun w' hw'=>?_) (by omega) hby h63;have ZI:olds.length=aA.length:=by rw[hold.1,hpre.len]
 by_cases h0:aA.length=0;have:olds=[]:=List.length_eq_zero_iff.1 (by omega);subst this;rw[h0];simp[Builtin.firstCells,loadCells,loadCellsFrom];have hca:ad=⟨pl.block,pl.off,none⟩:=by
  rcases hca with h|h;omega;exact h
 subst hca;have:=rY (P:=P) (w:=w) (w':=w') hcell hw';rw[ZI] at this;simp[Builtin.firstCells,this]
theorem Fy(R:St base η Z S w){t ts ty el:TypeId}{i:TypeInfo}{d:TypeDesc}{z:List W}(hu:P.underlying t=some (.slice el))(hts:P.underlying ts=some d)(hd:∀ k,d≠.int k)(hi:P.info? el=some i)(hz:jK P el=some z)(hzl:z.length=i.size)(h1:i.size=1)
 {uy:Value} {m k:Nat} {om:Ob} {l l0:List Int} {ro:Nat} (hsrc:Src P η Z w uy 1 [.sl m ro k 1]) (hm:S.get m=some om) (hcm:om.cells=l0.map (W.int .i64)) (hl0:l=l0.drop ro) (hl:l.length=k) (hk:0<k∨0<l0.length)
 (hby:i.bytes<=140737488355328) :
 bG P base η Z S w (do pure (Next.value (<-Builtin.append_ #[t,ts] ty #[.slice none 0 0,uy]))) (.p (.c (.sl S.next 0 1 1))) ((S.del m).add ⟨el,[.c (.th k [l])]⟩):=by
 have g:=pU (ty:=ty) (ad:=none) (cap:=0) (olds:=[]) (n:=S.next) (aA:=[]) (rs:=[]) (b0:=w.heap.size) R hu hts hd hi hz hzl h1 hsrc hm hcm hl0 hl hk ⟨rfl,by simp,by simp,by simp,.inl rfl⟩ ⟨rfl,by simp⟩ (fun w' _=>by simp[Builtin.firstCells]) (by simp) (by simpa using hby) (by simp);refine g.alike ⟨⟨rfl,rfl⟩,fun j=>?_⟩;have e1:∀ j,(((S.del S.next).del m).add ⟨el,[.c (.th k [l])]⟩).get j=if j=S.next then some ⟨el,[.c (.th k [l])]⟩ else((S.del S.next).del m).get j:=fun j=>af.fU ((R.del _).del m).fJ
 have e2:∀ j,((S.del m).add ⟨el,[.c (.th k [l])]⟩).get j=if j=S.next then some ⟨el,[.c (.th k [l])]⟩ else(S.del m).get j:=fun j=>af.fU (R.del m).fJ
 show match (((S.del S.next).del m).add ⟨el,[.c (.th k [l])]⟩).get j,((S.del m).add ⟨el,[.c (.th k [l])]⟩).get j with|none,none=>True|some o,some o'=>o'.ty=o.ty/\o'.cells=o.cells|_,_=>False
 rw[e1,e2];by_cases hj:j=S.next
 rw[if_pos hj,if_pos hj];exact⟨rfl,rfl⟩;rw[if_neg hj,if_neg hj,af.iB,af.iB,af.iB];rw[if_neg hj];by_cases hjm:j=m;rw[if_pos hjm];trivial;rw[if_neg hjm];cases S.get j with
 | none=>trivial
 | some x=>exact⟨rfl,rfl⟩
end
end Go.aU
