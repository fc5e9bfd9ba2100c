/- The walk by values, first part: values, stores, operations. It holds for every program and every world, under the hypotheses that each theorem names. -/
import Derived.Test.YtnbjjocbncblaaaGreatDoorMill1
namespace Go.aN
open Go.RowKit
open Go.ah (T)
inductive PV where
 | int (n:Int)
 | bool (b:Bool)
 | str (s:ByteArray)
 | strs (l:List ByteArray)
 | aZ (sz:Nat) (l:List PV)
inductive D where
 | int (k:IntKind)
 | bool
 | str
 | sl (d:D)
 | pv
def D.dec:(a b:D)->Decidable (a=b)
 | .int k,.int k'=>if h:k=k' then isTrue (by rw[h]) else isFalse (fun e=>by cases e;exact h rfl)
 | .bool,.bool=>isTrue rfl
 | .str,.str=>isTrue rfl
 | .sl a,.sl b=>match D.dec a b with
   | isTrue h=>isTrue (by rw[h])
   | isFalse h=>isFalse (fun e=>by cases e;exact h rfl)
 | .int _,.bool=>isFalse (fun e=>by cases e)
 | .int _,.str=>isFalse (fun e=>by cases e)
 | .int _,.sl _=>isFalse (fun e=>by cases e)
 | .bool,.int _=>isFalse (fun e=>by cases e)
 | .bool,.str=>isFalse (fun e=>by cases e)
 | .bool,.sl _=>isFalse (fun e=>by cases e)
 | .str,.int _=>isFalse (fun e=>by cases e)
 | .str,.bool=>isFalse (fun e=>by cases e)
 | .str,.sl _=>isFalse (fun e=>by cases e)
 | .sl _,.int _=>isFalse (fun e=>by cases e)
 | .sl _,.bool=>isFalse (fun e=>by cases e)
 | .sl _,.str=>isFalse (fun e=>by cases e)
 | .pv,.pv=>isTrue rfl
 | .int _,.pv=>isFalse (fun e=>by cases e)
 | .bool,.pv=>isFalse (fun e=>by cases e)
 | .str,.pv=>isFalse (fun e=>by cases e)
 | .sl _,.pv=>isFalse (fun e=>by cases e)
 | .pv,.int _=>isFalse (fun e=>by cases e)
 | .pv,.bool=>isFalse (fun e=>by cases e)
 | .pv,.str=>isFalse (fun e=>by cases e)
 | .pv,.sl _=>isFalse (fun e=>by cases e)
instance:DecidableEq D:=D.dec
abbrev D.ty:D->Type
 | .int _=>Int
 | .bool=>Bool
 | .str=>ByteArray
 | .sl d=>List d.ty
 | .pv=>PV
def D.zero:(d:D)->d.ty
 | .int _=>(0:Int)
 | .bool=>false
 | .str=>⟨#[]⟩
 | .sl d=>([]:List d.ty)
 | .pv=>PV.bool false
inductive W where
 | bool (b:Bool)
 | int (k:IntKind) (n:Int)
 | str (s:ByteArray)
 | dN
 | ptr (n off:Nat)
 | pe (n off i:Nat)
 | nil
 | sl (n off len sz:Nat)
 | ro (sz:Nat) (cs:List W)
 | rp (cs:List W) (off:Nat)
 | rd (d:D) (l:List d.ty)
 | re (d:D) (l:List d.ty) (i:Nat)
 | nM
 | func (f:FuncId) (caps:List (Nat×Nat))
 | yield (l:Nat)
 | lT
 | dm
 | mp (n:Nat)
 | mh
 | ba (n:Nat)
 | pG (f:FuncId) (n off:Nat)
 | th (k:Nat) (av:List (List Int))
 | row (n i len:Nat)
 | qP (n i j:Nat)
 | val (v:Value)
 | nC (n:Int)
 | rs (sz:Nat) (l:List PV)
 | Ay (b:Bool)
inductive V where
 | c (x:W)
 | agg (cs:List W)
inductive A where
 | p (v:V)
 | bG (vs:List V)
 | cond (c:Prop) (v:V)
 | dec (b:Bool)
structure ck where
 block:Nat
 off:Nat
 room:Nat
 av:List (Nat×Nat)
abbrev Eta:=Nat->Option ck
abbrev ar:=Nat->Option (Array Value)
def Eta.le(η aB:Eta):Prop:=∀ n p,η n=some p->aB n=some p
def ar.le(Z Z':ar):Prop:=∀ b c,Z b=some c->Z' b=some c
theorem Eta.le.refl(η:Eta):η.le η:=fun _ _ h=>h
theorem Eta.le.trans{a b c:Eta}(h:a.le b)(k:b.le c):a.le c:=fun n p e=>k n p (h n p e)
theorem ar.le.refl(Z:ar):Z.le Z:=fun _ _ h=>h
theorem ar.le.trans{a b c:ar}(h:a.le b)(k:b.le c):a.le c:=fun n p e=>k n p (h n p e)
mutual
def dF(Z:ar):PV->Value->Prop
 | .int n,v=>v=.int .i64 n
 | .bool b,v=>v=.bool b
 | .str s,v=>v=.string s
 | .strs l,v=>∃ a len c,v=.slice a len c/\l.length=len/\len<=c/\(l=[]∨∃ b off cells,a=some ⟨b,off,none⟩/\Z b=some cells/\∀(i:Nat)(x:ByteArray),l[i]? = some x->∃ u,cells[off+i]? = some u/\u=.string x)
 | .aZ sz l,v=>∃ a len c,v=.slice a len c/\l.length=len*sz/\len<=c/\(l=[]∨∃ b off cells,a=some ⟨b,off,none⟩/\Z b=some cells/\jF Z cells off l)
def jF(Z:ar)(cells:Array Value):Nat->List PV->Prop
 | _,[]=>True
 | o,x::l=>(∃ u,cells[o]? = some u/\dF Z x u)/\jF Z cells (o+1) l
end
mutual
theorem dF.mono{Z Z':ar}(h:Z.le Z'):∀{x:PV}{v:Value},dF Z x v->dF Z' x v
 | .int _,_,e=>by simpa only[dF] using e
 | .bool _,_,e=>by simpa only[dF] using e
 | .str _,_,e=>by simpa only[dF] using e
 | .strs l,v,e=>by
   simp only[dF] at e ⊢;obtain⟨a,len,c,h1,h2,h3,h4⟩:=e;refine⟨a,len,c,h1,h2,h3,?_⟩;rcases h4 with h4|⟨b,off,cells,h4,h5,h6⟩;exact .inl h4;exact .inr ⟨b,off,cells,h4,h _ _ h5,h6⟩
 | .aZ sz l,v,e=>by
   simp only[dF] at e ⊢;obtain⟨a,len,c,h1,h2,h3,h4⟩:=e;refine⟨a,len,c,h1,h2,h3,?_⟩;rcases h4 with h4|⟨b,off,cells,h4,h5,h6⟩;exact .inl h4;exact .inr ⟨b,off,cells,h4,h _ _ h5,jF.mono h h6⟩
theorem jF.mono{Z Z':ar}(h:Z.le Z'){cells:Array Value}:∀{o:Nat}{l:List PV},jF Z cells o l->jF Z' cells o l
 | _,[],_=>by simp only[jF]
 | o,x::l,e=>by
   simp only[jF] at e ⊢;obtain⟨⟨u,h1,h2⟩,h3⟩:=e;exact⟨⟨u,h1,dF.mono h h2⟩,jF.mono h h3⟩
end
theorem jF.iff{Z:ar}{cells:Array Value}:∀{l:List PV}{o:Nat},jF Z cells o l↔∀(i:Nat)(x:PV),l[i]? = some x->∃ u,cells[o+i]? = some u/\dF Z x u
 | [],_=>by simp[jF]
 | y :: l, o => by
   simp only[jF];rw[jF.iff (l:=l) (o:=o+1)];constructor
   . rintro⟨h0,h1⟩ i x e;cases i with
     | zero=>simp only[List.getElem?_cons_zero,Option.some.injEq] at e;subst e;simpa using h0
     | succ i =>
       simp only[List.getElem?_cons_succ] at e;obtain⟨u,a,b⟩:=h1 i x e;exact⟨u,by rw[<-a];congr 1;omega,b⟩
   intro h;refine⟨by simpa using h 0 y rfl,fun i x e=>?_⟩;obtain⟨u,a,b⟩:=h (i+1) x (by simpa using e);exact⟨u,by rw[<-a];congr 1;omega,b⟩
theorem dF.one{Z:ar}:∀{x:PV}{v:Value},dF Z x v->v.oneCell'=true
 | .int _,_,e=>by simp only[dF] at e;subst e;rfl
 | .bool _,_,e=>by simp only[dF] at e;subst e;rfl
 | .str _,_,e=>by simp only[dF] at e;subst e;rfl
 | .strs _,_,e=>by simp only[dF] at e;obtain⟨_,_,_,rfl,_⟩:=e;rfl
 | .aZ _ _,_,e=>by simp only[dF] at e;obtain⟨_,_,_,rfl,_⟩:=e;rfl
def cG(Z:ar):(d:D)->d.ty->Value->Prop
 | .int k,n,v=>v=.int k n
 | .bool,b,v=>v=.bool b
 | .str,s,v=>v=.string s
 | .sl d,l,v=>∃ a len c,v=.slice a len c/\List.length (α:=d.ty) l=len/\len<=c/\(l=[]∨∃ b off cells,a=some ⟨b,off,none⟩/\Z b=some cells/\∀(i:Nat)(x:d.ty),(show List d.ty from l)[i]? = some x->∃ u,cells[off+i]? = some u/\cG Z d x u)
 | .pv,x,v=>dF Z x v
def mZ(Z:ar)(d:D)(cells:Array Value)(o:Nat)(l:List d.ty):Prop:=∀(i:Nat)(x:d.ty),l[i]? = some x->∃ u,cells[o+i]? = some u/\cG Z d x u
theorem cG.mono{Z Z':ar}(h:Z.le Z'):∀(d:D){x:d.ty}{v:Value},cG Z d x v->cG Z' d x v
 | .int _,_,_,e=>e
 | .bool,_,_,e=>e
 | .str,_,_,e=>e
 | .sl d,l,v,⟨a,len,c,h1,h2,h3,h4⟩=>by
   refine⟨a,len,c,h1,h2,h3,?_⟩;rcases h4 with h4|⟨b,off,cells,h4,h5,h6⟩;exact .inl h4;exact .inr ⟨b,off,cells,h4,h _ _ h5,fun i x hx=>let ⟨u,a,b⟩:=h6 i x hx;⟨u,a,cG.mono h d b⟩⟩
 | .pv,x,_,e=>dF.mono (x:=x) h e
theorem mZ.mono{Z Z':ar}(h:Z.le Z'){d:D}{cells:Array Value}{o:Nat}{l:List d.ty}(r:mZ Z d cells o l):mZ Z' d cells o l :=
 fun i x hx=>let ⟨u,a,b⟩:=r i x hx;⟨u,a,cG.mono h d b⟩
theorem mZ.drop{Z:ar}{d:D}{cells:Array Value}{o:Nat}{l:List d.ty}(r:mZ Z d cells o l)(k:Nat):mZ Z d cells (o+k) (l.drop k):=by
 intro i x hx;rw[List.getElem?_drop] at hx;obtain⟨u,a,b⟩:=r _ _ hx;exact⟨u,by rw[<-a];congr 1;omega,b⟩
theorem mZ.take{Z:ar}{d:D}{cells:Array Value}{o:Nat}{l:List d.ty}(r:mZ Z d cells o l)(k:Nat):mZ Z d cells o (l.take k):=by
 intro i x hx;rw[List.getElem?_take] at hx;split at hx;exact r _ _ hx;cases hx
theorem cG.one{Z:ar}:∀(d:D){x:d.ty}{v:Value},cG Z d x v->v.oneCell'=true
 | .int _,_,_,e=>by simp only[cG] at e;subst e;rfl
 | .bool,_,_,e=>by simp only[cG] at e;subst e;rfl
 | .str,_,_,e=>by simp only[cG] at e;subst e;rfl
 | .sl _,_,_,⟨_,_,_,h,_⟩=>by subst h;rfl
 | .pv,x,_,e=>dF.one (x:=x) e
mutual
def aF(Z:ar):W->Value->Prop
 | .bool b,v=>v=.bool b
 | .int k n,v=>v=.int k n
 | .str s,v=>v=.string s
 | .dN,v=>v=.pointer none
 | .nil,v=>v=.slice none 0 0
 | .ro sz cs,v=>∃ a len c,v=.slice a len c/\cs.length=len*sz/\len<=c/\(cs=[]∨∃ b off cells,a=some ⟨b,off,none⟩/\Z b=some cells/\eU Z cells off cs)
 | .rp cs off,v=>∃ b o cells,v=.pointer (some ⟨b,o+off,none⟩)/\Z b=some cells/\eU Z cells o cs
 | .rd d l,v=>cG Z (.sl d) l v
 | .re d l i,v=>∃ b o cells,v=.pointer (some ⟨b,o+i,none⟩)/\Z b=some cells/\mZ Z d cells o l
 | .nM,v=>v=.nilFunc
 | .func f caps,v=>caps=[]/\v=.func (.func f) #[] #[]
 | .lT,v=>v=.nilIface
 | .val u,v=>v=u/\u.oneCell'=true
 | .ptr _ _,_=>False
 | .pe _ _ _,_=>False
 | .sl _ _ _ _,_=>False
 | .yield _,_=>False
 | .dm,_=>False
 | .mp _,_=>False
 | .mh,_=>False
 | .ba _,_=>False
 | .pG _ _ _,_=>False
 | .th _ _,_=>False
 | .row _ _ _,_=>False
 | .qP _ _ _,_=>False
 | .nC _,_=>False
 | .rs sz l,v=>dF Z (.aZ sz l) v
 | .Ay b,v=>(b=true/\∃ t u,v=.iface t u)∨(b=false/\v=.nilIface)
def eU(Z:ar)(cells:Array Value):Nat->List W->Prop
 | _,[]=>True
 | o,x::l=>(∃ u,cells[o]? = some u/\aF Z x u)/\eU Z cells (o+1) l
end
mutual
theorem aF.mono{Z Z':ar}(h:Z.le Z'):∀{x:W}{v:Value},aF Z x v->aF Z' x v
 | .bool _,_,e=>by simpa only[aF] using e
 | .int _ _,_,e=>by simpa only[aF] using e
 | .str _,_,e=>by simpa only[aF] using e
 | .dN,_,e=>by simpa only[aF] using e
 | .nil,_,e=>by simpa only[aF] using e
 | .ro sz cs,v,e=>by
   simp only[aF] at e ⊢;obtain⟨a,len,c,h1,h2,h3,h4⟩:=e;refine⟨a,len,c,h1,h2,h3,?_⟩;rcases h4 with h4|⟨b,off,cells,h4,h5,h6⟩;exact .inl h4;exact .inr ⟨b,off,cells,h4,h _ _ h5,eU.mono h h6⟩
 | .rp cs off,v,e=>by
   simp only[aF] at e ⊢;obtain⟨b,o,cells,h1,h2,h3⟩:=e;exact⟨b,o,cells,h1,h _ _ h2,eU.mono h h3⟩
 | .rd d l,v,e=>by
   simp only[aF] at e ⊢;exact cG.mono h _ e
 | .re d l i,v,e=>by
   simp only[aF] at e ⊢;obtain⟨b,o,cells,h1,h2,h3⟩:=e;exact⟨b,o,cells,h1,h _ _ h2,h3.mono h⟩
 | .pe _ _ _,_,e=>by simp only[aF] at e
 | .nM,_,e=>by simpa only[aF] using e
 | .func _ _,_,e=>by simpa only[aF] using e
 | .lT,_,e=>by simpa only[aF] using e
 | .val _,_,e=>by simpa only[aF] using e
 | .ptr _ _,_,e=>by simp only[aF] at e
 | .sl _ _ _ _,_,e=>by simp only[aF] at e
 | .yield _,_,e=>by simp only[aF] at e
 | .dm,_,e=>by simp only[aF] at e
 | .mp _,_,e=>by simp only[aF] at e
 | .mh,_,e=>by simp only[aF] at e
 | .ba _,_,e=>by simp only[aF] at e
 | .pG _ _ _,_,e=>by simp only[aF] at e
 | .th _ _,_,e=>by simp only[aF] at e
 | .row _ _ _,_,e=>by simp only[aF] at e
 | .qP _ _ _,_,e=>by simp only[aF] at e
 | .nC _,_,e=>by simp only[aF] at e
 | .rs _ _,_,e=>by
   simp only[aF] at e ⊢;exact dF.mono h e
 | .Ay _,_,e=>by simpa only[aF] using e
theorem eU.mono{Z Z':ar}(h:Z.le Z'){cells:Array Value}:∀{o:Nat}{l:List W},eU Z cells o l->eU Z' cells o l
 | _,[],_=>by simp only[eU]
 | o,x::l,e=>by
   simp only[eU] at e ⊢;obtain⟨⟨u,h1,h2⟩,h3⟩:=e;exact⟨⟨u,h1,aF.mono h h2⟩,eU.mono h h3⟩
end
theorem eU.get{Z:ar}{cells:Array Value}:∀{l:List W}{o:Nat},eU Z cells o l->∀{i:Nat}{x:W},l[i]? = some x->∃ u,cells[o+i]? = some u/\aF Z x u
 | [],_,_,i,x,e=>by simp at e
 | y::l,o,h,0,x,e=>by
   simp only[eU] at h;simp at e;subst e;exact h.1
 | y::l,o,h,i+1,x,e=>by
   simp only[eU] at h;obtain⟨u,a,b⟩:=eU.get h.2 (i:=i) (x:=x) (by simpa using e);exact⟨u,by rw[<-a];congr 1;omega,b⟩
theorem eU.pQ{Z:ar}{cells:Array Value}:∀{l:List W}{o:Nat},(∀ i x,l[i]? = some x->∃ u,cells[o+i]? = some u/\aF Z x u)->eU Z cells o l
 | [],_,_=>by simp only[eU]
 | y::l,o,h=>by
   simp only[eU];refine⟨by simpa using h 0 y rfl,eU.pQ fun i x e=>?_⟩;obtain⟨u,a,b⟩:=h (i+1) x (by simpa using e);exact⟨u,by rw[<-a];congr 1;omega,b⟩
theorem eU.drop{Z:ar}{cells:Array Value}{l:List W}{o:Nat}(h:eU Z cells o l)(k:Nat):eU Z cells (o+k) (l.drop k):=by
 refine eU.pQ fun i x e=>?_;obtain⟨u,a,b⟩:=h.get (i:=k+i) (x:=x) (by simpa using e);exact⟨u,by rw[<-a];congr 1;omega,b⟩
theorem eU.take{Z:ar}{cells:Array Value}{l:List W}{o:Nat}(h:eU Z cells o l)(k:Nat):eU Z cells o (l.take k):=by
 refine eU.pQ fun i x e=>?_;rw[List.getElem?_take] at e;split at e;exact h.get e;cases e
def dJ(η:Eta)(a:Nat×Nat)(v:Value):Prop:=∃ p,η a.1=some p/\v=.pointer (some ⟨p.block,p.off+a.2,none⟩)
def aI{α β:Type}(R:α->β->Prop):List α->List β->Prop
 | [],[]=>True
 | a::l,b::m=>R a b/\aI R l m
 | _,_=>False
theorem aI.mono{α β:Type}{R R':α->β->Prop}(h:∀ a b,R a b->R' a b):∀{l:List α}{m:List β},aI R l m->aI R' l m
 | [],[],_=>trivial
 | _::_,_::_,⟨x,y⟩=>⟨h _ _ x,aI.mono h y⟩
theorem aI.length{α β:Type}{R:α->β->Prop}:∀{l:List α}{m:List β},aI R l m->l.length=m.length
 | [],[],_=>rfl
 | _::_,_::_,⟨_,y⟩=>by simp[aI.length y]
theorem aI.append{α β:Type}{R:α->β->Prop}:∀{l l':List α}{m m':List β},aI R l m->aI R l' m'->aI R (l++l') (m++m')
 | [],_,[],_,_,h=>h
 | _::_,_,_::_,_,⟨x,y⟩,h=>⟨x,aI.append y h⟩
theorem aI.get{α β:Type}{R:α->β->Prop}:∀{l:List α}{m:List β},aI R l m->∀{i:Nat}{x:α},l[i]? = some x->∃ y,m[i]? = some y/\R x y
 | a::l,b::m,⟨x,y⟩,0,_,e=>by simp at e;subst e;exact⟨b,rfl,x⟩
 | a::l,b::m,⟨x,y⟩,i+1,_,e=>by simp at e ⊢;exact aI.get y e
theorem aI.pQ{α β:Type}{R:α->β->Prop}:∀{l:List α}{m:List β},l.length=m.length->(∀(i:Nat) x y,l[i]? = some x->m[i]? = some y->R x y)->aI R l m
 | [],[],_,_=>trivial
 | a::l,b::m,h,k=>⟨k 0 a b rfl rfl,aI.pQ (by simpa using h) fun i x y e f=>k (i+1) x y (by simpa using e) (by simpa using f)⟩
 | [],b::m,h,_=>by simp at h
 | a::l,[],h,_=>by simp at h
theorem aI.set{α β:Type}{R:α->β->Prop}:∀{l:List α}{m:List β},aI R l m->∀{i:Nat}{x:α}{y:β},R x y->aI R (l.set i x) (m.set i y)
 | [],[],_,_,_,_,_=>trivial
 | _::_,_::_,⟨_,t⟩,0,_,_,h=>⟨h,t⟩
 | _::_,_::_,⟨s,t⟩,_+1,_,_,h=>⟨s,aI.set t h⟩
def au(η:Eta)(Z:ar):W->Value->Prop
 | .ptr n off,v=>dJ η (n,off) v
 | .pe n off i,v=>dJ η (n,off+i) v
 | .sl n off len sz,v=>(len=0/\v=.slice none 0 0)∨∃ p c a,η n=some p/\v=.slice (some a) len c/\len<=c/\off+c*sz<=p.room/\(c=0∨a=⟨p.block,p.off+off,none⟩)
 | .func f caps,v=>∃ vs,v=.func (.func f) #[] vs.toArray/\aI (dJ η) caps vs
 | .yield l,v=>v=.func (.yield l) #[] #[]
 | .dm,_=>True
 | .mp n,v=>∃ p,η n=some p/\v=.map (some p.block)
 | .ba n,v=>∃ p,η n=some p/\p.off=0/\(v=.pointer none∨v=.pointer (some ⟨p.block,0,none⟩))
 | .pG f n off,v=>∃ u,v=.func (.func f) #[u] #[]/\dJ η (n,off) u
 | .row n i len,v=>∃ p r c ad,η n=some p/\p.av[i]? = some r/\v=.slice ad len c/\len<=c/\(0<len->ad=some ⟨r.1,r.2,none⟩)
 | .nC n,v=>v=.int .u8 n
 | .qP n i j,v=>∃ p r,η n=some p/\p.av[i]? = some r/\v=.pointer (some ⟨r.1,r.2+j,none⟩)
 | x,v=>aF Z x v
theorem dJ.mono{η aB:Eta}(h:η.le aB){a:Nat×Nat}{v:Value}:dJ η a v->dJ aB a v:=fun⟨p,e,f⟩=>⟨p,h _ _ e,f⟩
theorem au.mono{η aB:Eta}{Z Z':ar}(h:η.le aB)(hz:Z.le Z'):∀{x:W}{v:Value},au η Z x v->au aB Z' x v
 | .ptr _ _,_,e=>dJ.mono h e
 | .pe _ _ _,_,e=>dJ.mono h e
 | .sl _ _ _ _,_,.inl e=>.inl e
 | .sl _ _ _ _,_,.inr ⟨p,c,a,e,r⟩=>.inr ⟨p,c,a,h _ _ e,r⟩
 | .func _ _,_,⟨vs,e,r⟩=>⟨vs,e,r.mono fun _ _=>dJ.mono h⟩
 | .yield _,_,e=>e
 | .dm,_,_=>trivial
 | .mp _,_,⟨p,e,r⟩=>⟨p,h _ _ e,r⟩
 | .ba _,_,⟨p,e,r⟩=>⟨p,h _ _ e,r⟩
 | .pG _ _ _,_,⟨u,e,r⟩=>⟨u,e,dJ.mono h r⟩
 | .row _ _ _,_,⟨p,r,c,ad,e,f⟩=>⟨p,r,c,ad,h _ _ e,f⟩
 | .qP _ _ _,_,⟨p,r,e,f⟩=>⟨p,r,h _ _ e,f⟩
 | .nC _,_,e=>e
 | .bool _,_,e | .int _ _,_,e | .str _,_,e | .dN,_,e | .nil,_,e | .ro _ _,_,e | .rp _ _,_,e | .rd _ _,_,e | .re _ _ _,_,e | .nM,_,e | .lT,_,e | .val _,_,e | .mh,_,e | .th _ _,_,e | .rs _ _,_,e | .Ay _,_,e=>aF.mono hz e
theorem aF.Qy{η:Eta}{Z:ar}:∀{x:W}{v:Value},aF Z x v->au η Z x v
 | .bool _,_,e | .int _ _,_,e | .str _,_,e | .dN,_,e | .nil,_,e | .ro _ _,_,e | .rp _ _,_,e | .rd _ _,_,e | .re _ _ _,_,e | .nM,_,e | .lT,_,e | .val _,_,e | .rs _ _,_,e | .Ay _,_,e=>e
 | .func f caps,v,e=>by
   simp only[aF] at e;obtain⟨rfl,rfl⟩:=e;exact⟨[],rfl,trivial⟩
 | .ptr _ _,_,e=>by simp only[aF] at e
 | .pe _ _ _,_,e=>by simp only[aF] at e
 | .sl _ _ _ _,_,e=>by simp only[aF] at e
 | .yield _,_,e=>by simp only[aF] at e
 | .dm,_,e=>by simp only[aF] at e
 | .mp _,_,e=>by simp only[aF] at e
 | .mh,_,e=>by simp only[aF] at e
 | .ba _,_,e=>by simp only[aF] at e
 | .pG _ _ _,_,e=>by simp only[aF] at e
 | .th _ _,_,e=>by simp only[aF] at e
 | .row _ _ _,_,e=>by simp only[aF] at e
 | .qP _ _ _,_,e=>by simp only[aF] at e
 | .nC _,_,e=>by simp only[aF] at e
def W.clean:W->Bool
 | .ptr _ _ | .pe _ _ _ | .sl _ _ _ _ | .yield _ | .dm | .mp _ | .mh | .ba _ | .pG _ _ _ | .th _ _ | .row _ _ _ | .qP _ _ _ | .nC _=>false
 | .func _ caps=>caps.isEmpty
 | _=>true
theorem au.frel{η:Eta}{Z:ar}:∀{x:W}{v:Value},x.clean=true->au η Z x v->aF Z x v
 | .bool _,_,_,e | .int _ _,_,_,e | .str _,_,_,e | .dN,_,_,e | .nil,_,_,e | .ro _ _,_,_,e | .rp _ _,_,_,e | .rd _ _,_,_,e | .re _ _ _,_,_,e | .nM,_,_,e | .lT,_,_,e | .val _,_,_,e | .rs _ _,_,_,e | .Ay _,_,_,e=>e
 | .func f [],v,_,⟨vs,e,r⟩=>by
   cases vs with
   | nil=>simp only[aF];exact⟨trivial,e⟩
   | cons _ _=>exact r.elim
 | .func f (_::_),v,h,_=>by simp[W.clean] at h
 | .ptr _ _,_,h,_=>by simp[W.clean] at h
 | .pe _ _ _,_,h,_=>by simp[W.clean] at h
 | .sl _ _ _ _,_,h,_=>by simp[W.clean] at h
 | .yield _,_,h,_=>by simp[W.clean] at h
 | .dm,_,h,_=>by simp[W.clean] at h
 | .mp _,_,h,_=>by simp[W.clean] at h
 | .mh,_,h,_=>by simp[W.clean] at h
 | .ba _,_,h,_=>by simp[W.clean] at h
 | .pG _ _ _,_,h,_=>by simp[W.clean] at h
 | .th _ _,_,h,_=>by simp[W.clean] at h
 | .row _ _ _,_,h,_=>by simp[W.clean] at h
 | .qP _ _ _,_,h,_=>by simp[W.clean] at h
 | .nC _,_,h,_=>by simp[W.clean] at h
def PV.w:PV->W
 | .int n=>.int .i64 n
 | .bool b=>.bool b
 | .str s=>.str s
 | .strs l=>.rd .str l
 | .aZ sz l=>.rs sz l
def D.w:(d:D)->d.ty->W
 | .int k,n=>.int k n
 | .bool,b=>.bool b
 | .str,s=>.str s
 | .sl d,l=>.rd d l
 | .pv,x=>PV.w x
theorem dF.strs{Z:ar}{l:List ByteArray}{v:Value}:cG Z (.sl .str) l v↔dF Z (.strs l) v:=by
 simp only[cG,dF]
theorem PV.ZE{Z:ar}{x:PV}{v:Value}:aF Z x.w v↔dF Z x v:=by
 cases x<;>simp only[PV.w,aF]<;>first|exact dF.strs|simp only[dF]
theorem PV.eV{η:Eta}{Z:ar}{x:PV}{v:Value}:au η Z x.w v↔dF Z x v:=by
 cases x<;>simp only[PV.w,au,aF]<;>first|exact dF.strs|simp only[dF]
theorem D.eV{η:Eta}{Z:ar}:∀(d:D){x:d.ty}{v:Value},au η Z (d.w x) v↔cG Z d x v
 | .int _,_,_=>by simp only[D.w,au,aF,cG]
 | .bool,_,_=>by simp only[D.w,au,aF,cG]
 | .str,_,_=>by simp only[D.w,au,aF,cG]
 | .sl _,_,_=>by simp only[D.w,au,aF]
 | .pv,x,_=>PV.eV (x:=x)
theorem D.jG:∀(d:D)(x:d.ty),d.w x≠.dm
 | .int _,_=>by simp[D.w]
 | .bool,_=>by simp[D.w]
 | .str,_=>by simp[D.w]
 | .sl _,_=>by simp[D.w]
 | .pv,x=>by cases x<;>simp[D.w,PV.w]
theorem D.w_mh:∀(d:D)(x:d.ty),d.w x≠.mh
 | .int _,_=>by simp[D.w]
 | .bool,_=>by simp[D.w]
 | .str,_=>by simp[D.w]
 | .sl _,_=>by simp[D.w]
 | .pv,x=>by cases x<;>simp[D.w,PV.w]
theorem D.w_by{n:Int}:∀(d:D)(x:d.ty),d.w x≠.nC n
 | .int _,_=>by simp[D.w]
 | .bool,_=>by simp[D.w]
 | .str,_=>by simp[D.w]
 | .sl _,_=>by simp[D.w]
 | .pv,x=>by cases x<;>simp[D.w,PV.w]
def PV.of:W->Option PV
 | .int .i64 n=>some (.int n)
 | .bool b=>some (.bool b)
 | .str s=>some (.str s)
 | .rd .str l=>some (.strs l)
 | .rs sz l=>some (.aZ sz l)
 | _=>none
theorem PV.of_eq{x:W}{y:PV}(e:PV.of x=some y):x=y.w:=by
 unfold PV.of at e;split at e<;>cases e<;>rfl
def D.of:(d:D)->W->Option d.ty
 | .int k,.int k' n=>if k'=k then some n else none
 | .bool,.bool b=>some b
 | .str,.str s=>some s
 | .sl d,.rd d' l=>if h:d'=d then some (h▸l) else none
 | .sl d,.nil=>some ([]:List d.ty)
 | .pv,x=>PV.of x
 | _,_=>none
theorem D.of_rel{Z:ar}{d:D}{x:W}{y:d.ty}(e:d.of x=some y){v:Value}(h:aF Z x v):cG Z d y v:=by
 by_cases hd:d=.pv;subst hd;have e:PV.of x=some y:=by cases x<;>exact e
 rw[PV.of_eq e] at h;exact PV.ZE.1 h;cases d<;>(try exact absurd rfl hd)<;>clear hd<;>cases x<;>simp only[D.of] at e<;>try cases e
 rename_i k k' n;split at e;rename_i hk;subst hk;cases e;simpa only[aF,cG] using h;cases e;simpa only[aF,cG] using h;simpa only[aF,cG] using h;simp only[aF] at h;subst h;exact⟨none,0,0,rfl,rfl,Nat.le_refl _,.inl rfl⟩;rename_i d d' l;split at e;rename_i hk;subst hk;cases e;simpa only[aF] using h;cases e
theorem D.WQ{d:D}{x:W}{y:d.ty}(e:d.of x=some y):x.clean=true:=by
 by_cases hd:d=.pv;subst hd;have e:PV.of x=some y:=by cases x<;>exact e
 rw[PV.of_eq e];cases y<;>rfl;cases d<;>(try exact absurd rfl hd)<;>clear hd<;>cases x<;>simp only[D.of] at e<;>first|rfl|cases e
def cZ(η:Eta)(Z:ar):V->Value->Prop
 | .c x,v=>x≠.dm/\au η Z x v
 | .agg cs,v=>∃ vs,v=.agg vs.toArray/\(∀ x∈cs,x≠.dm)/\aI (au η Z) cs vs
def cE(η:Eta)(Z:ar):A->Value->Prop
 | .p x,v=>cZ η Z x v
 | .bG xs,v=>∃ vs,v=.tuple vs.toArray/\aI (cZ η Z) xs vs
 | .cond c x,v=>(c->cZ η Z x v)/\(¬c->v=undef)
 | .dec b,v=>v=.bool b
theorem cZ.mono{η aB:Eta}{Z Z':ar}(h:η.le aB)(hz:Z.le Z'):∀{x:V}{v:Value},cZ η Z x v->cZ aB Z' x v
 | .c _,_,⟨n,e⟩=>⟨n,au.mono h hz e⟩
 | .agg _,_,⟨vs,e,n,r⟩=>⟨vs,e,n,r.mono fun _ _=>au.mono h hz⟩
theorem cE.mono{η aB:Eta}{Z Z':ar}(h:η.le aB)(hz:Z.le Z'):∀{x:A}{v:Value},cE η Z x v->cE aB Z' x v
 | .p _,_,e=>cZ.mono h hz e
 | .bG _,_,⟨vs,e,r⟩=>⟨vs,e,r.mono fun _ _=>cZ.mono h hz⟩
 | .cond _ _,_,e=>⟨fun hc=>cZ.mono h hz (e.1 hc),e.2⟩
 | .dec _,_,e=>e
abbrev Fr:=T A
def aT(n:Nat)(η:Eta)(Z:ar)(F:Fr)(tmps:Array Value):Prop:=tmps.size=n/\∀ i x,F.get i=some x->∃ v,tmps[i]? = some v/\cE η Z x v
theorem aT.mono{n:Nat}{η aB:Eta}{Z Z':ar}(h:η.le aB)(hz:Z.le Z'){F:Fr}{tmps:Array Value}(r:aT n η Z F tmps):aT n aB Z' F tmps :=
 ⟨r.1,fun i x e=>let ⟨v,a,b⟩:=r.2 i x e;⟨v,a,cE.mono h hz b⟩⟩
theorem aT.set{n:Nat}{η:Eta}{Z:ar}{F:Fr}{tmps:Array Value}(r:aT n η Z F tmps){i:Nat}{x:A}{v:Value}(hi:i<n)(h:cE η Z x v) :
 aT n η Z (F.set i x) (tmps.setIfInBounds i v):=by
 refine⟨by simpa using r.1,fun j y e=>?_⟩;rw[T.nJ] at e;by_cases hj:j=i;subst hj;rw[if_pos rfl] at e;cases e;exact⟨v,by rw[Array.getElem?_setIfInBounds_self_of_lt (by rw[r.1];exact hi)],h⟩;rw[if_neg hj] at e;obtain⟨u,a,b⟩:=r.2 j y e;exact⟨u,by rw[Array.getElem?_setIfInBounds_ne (by omega)];exact a,b⟩
inductive Fd where
 | c (x:W)
 | a (n:Nat) (d:D) (l:List d.ty)
 | m (kd vd:D) (l:List (kd.ty×vd.ty))
 | b (l:List Int)
def pH(kd vd:D):List (kd.ty×vd.ty)->List W
 | []=>[]
 | (k,v)::l=>kd.w k::vd.w v::pH kd vd l
def Fd.cells:Fd->List W
 | .c x=>[x]
 | .a _ d l=>l.map d.w
 | .m kd vd l=>.mh::pH kd vd l
 | .b l=>l.map W.nC
structure Ob where
 ty:TypeId
 fs:List Fd
def Ob.cells(o:Ob):List W:=o.fs.flatMap Fd.cells
def Ob.of(ty:TypeId)(cs:List W):Ob:=⟨ty,cs.map .c⟩
theorem xC(cs:List W):(cs.map Fd.c).flatMap Fd.cells=cs:=by
 induction cs with
 | nil=>rfl
 | cons x cs ih=>simp[Fd.cells,ih]
@[simp] theorem Ob.ez(ty:TypeId)(cs:List W):(Ob.of ty cs).cells=cs:=xC cs
@[simp] theorem Ob.of_ty(ty:TypeId)(cs:List W):(Ob.of ty cs).ty=ty:=rfl
structure Gh where
 l:Nat
 d:D
 ys:List d.ty
 two:Bool:=false
structure af where
 next:Nat
 ai:List (Nat×Ob)
 cL:Option Gh:=none
def find(l:List (Nat×Ob))(n:Nat):Option Ob :=
 match l with
 | []=>none
 | (k,o)::l=>if k=n then some o else find l n
def af.get(S:af)(n:Nat):Option Ob:=find S.ai n
def put(l:List (Nat×Ob))(n:Nat)(o:Ob):List (Nat×Ob) :=
 match l with
 | []=>[]
 | (k,x)::l=>if k=n then(k,o)::l else(k,x)::put l n o
def del(l:List (Nat×Ob))(n:Nat):List (Nat×Ob) :=
 match l with
 | []=>[]
 | (k,x)::l=>if k=n then del l n else(k,x)::del l n
def af.put(S:af)(n:Nat)(o:Ob):af:={ S with ai:=aN.put S.ai n o }
def af.del(S:af)(n:Nat):af:={ S with ai:=aN.del S.ai n }
def af.skip(S:af):af:={ S with next:=S.next+1 }
def af.add(S:af)(o:Ob):af:={ S with next:=S.next+1,ai:=S.ai++[(S.next,o)] }
theorem WR{l:List (Nat×Ob)}{n m:Nat}{o:Ob}:find (put l n o) m=if m=n then(find l n).map (fun _=>o) else find l m:=by
 induction l with
 | nil=>simp[put,find]
 | cons x l ih =>
   obtain⟨k,x⟩:=x;simp only[put];by_cases hk:k=n;subst hk;rw[if_pos rfl];simp only[find];by_cases hm:m=k;subst hm;simp;rw[if_neg (by omega),if_neg hm,if_neg (by omega)];rw[if_neg hk];simp only[find,ih];by_cases hm:m=n;subst hm;rw[if_neg hk,if_pos rfl,if_pos rfl,if_neg hk];rw[if_neg hm,if_neg hm]
theorem WS{l:List (Nat×Ob)}{n m:Nat}:find (del l n) m=if m=n then none else find l m:=by
 induction l with
 | nil=>simp[del,find]
 | cons x l ih =>
   obtain⟨k,x⟩:=x;simp only[del];by_cases hk:k=n;subst hk;rw[if_pos rfl,ih];simp only[find];by_cases hm:m=k;rw[if_pos hm,if_pos hm];rw[if_neg hm,if_neg hm,if_neg (by omega)];rw[if_neg hk];simp only[find,ih];by_cases hm:m=n;subst hm;rw[if_neg hk,if_pos rfl,if_pos rfl];rw[if_neg hm,if_neg hm]
theorem wO{l l':List (Nat×Ob)}{m:Nat}:find (l++l') m=match find l m with|some o=>some o|none=>find l' m:=by
 induction l with
 | nil=>simp[find]
 | cons x l ih =>
   obtain⟨k,x⟩:=x;simp only[List.cons_append,find];by_cases hk:k=m;rw[if_pos hk,if_pos hk];rw[if_neg hk,if_neg hk,ih]
theorem af.j3{S:af}{n m:Nat}{o:Ob}:(S.put n o).get m=if m=n then(S.get n).map (fun _=>o) else S.get m:=WR
theorem af.iN{S:af}{n m:Nat}:(S.del n).get m=if m=n then none else S.get m:=WS
def Ob.isMap(o:Ob):Prop:=o.cells[0]? = some .mh
def Ob.kQ(o:Ob)(k:Nat)(av:List (List Int)):Prop:=o.cells[0]? = some (.th k av)
def Ob.gF(o:Ob):Prop:=o.isMap∨∃ k av,o.kQ k av
theorem Ob.Gq{o:Ob}{k:Nat}{av:List (List Int)}(h:o.isMap)(h':o.kQ k av):False:=by
 unfold Ob.isMap at h;unfold Ob.kQ at h';rw[h] at h';cases h'
theorem Ob.isT_T{o:Ob}{k k':Nat}{av rows':List (List Int)}(h:o.kQ k av)(h':o.kQ k' rows'):k'=k/\rows'=av:=by
 unfold Ob.kQ at h h';rw[h] at h';cases h';exact⟨rfl,rfl⟩
def ck.sats(p:ck):List Nat:=p.av.map (·.1)
def ck.has(p:ck)(b:Nat):Prop:=p.block=b∨b∈p.sats
theorem ck.jf(p:ck):p.has p.block:=.inl rfl
theorem ck.Og{p:ck}{i:Nat}{r:Nat×Nat}(h:p.av[i]? = some r):p.has r.1:=.inr (List.mem_map.2 ⟨r,List.mem_of_getElem? h,rfl⟩)
theorem ck.xD{b off room c:Nat}(h:(⟨b,off,room,[]⟩:ck).has c):c=b:=by
 rcases h with h|h;exact h.symm;cases h
def eW(η:Eta)(Z:ar):List W->List MapEntry->Prop
 | [],[]=>True
 | k::v::l,e::es=>(k≠.dm/\au η Z k e.key)/\(v≠.dm/\au η Z v e.val)/\eW η Z l es
 | _,_=>False
theorem eW.map{η aB:Eta}{Z Z':ar}{g:W->W->Prop}(h:∀ x y v,g x y->au η Z x v->y≠.dm/\au aB Z' y v):∀{l l':List W}{es:List MapEntry},l'.length=l.length->(∀(i:Nat) y,l'[i]? = some y->∃ x,l[i]? = some x/\g x y)->eW η Z l es->eW aB Z' l' es
 | [],[],[],_,_,_=>trivial
 | k::v::l,[],_,e,_,_=>by simp at e
 | k::v::l,[_],_,e,_,_=>by simp at e
 | k::v::l,k'::v'::l',e::es,hl,hg,⟨⟨_,h1⟩,⟨_,h2⟩,h3⟩=>by
   obtain⟨x,hx,gx⟩:=hg 0 k' rfl;obtain⟨y,hy,gy⟩:=hg 1 v' rfl;cases hx;cases hy;exact⟨h _ _ _ gx h1,h _ _ _ gy h2,eW.map h (by simpa using hl) (fun i y hy=>by simpa using hg (i+2) y (by simpa using hy)) h3⟩
 | [_],_,_,_,_,h=>by simp[eW] at h
theorem eW.mono{η aB:Eta}{Z Z':ar}(h:η.le aB)(hz:Z.le Z'):∀{l:List W}{es:List MapEntry},eW η Z l es->eW aB Z' l es
 | [],[],_=>trivial
 | _::_::_,_::_,⟨⟨a,b⟩,⟨c,d⟩,e⟩=>⟨⟨a,b.mono h hz⟩,⟨c,d.mono h hz⟩,eW.mono h hz e⟩
 | [_],_,h=>by simp[eW] at h
structure rU(k:Nat)(av:List (List Int))(ty:TypeId)(p:ck)(w:World):Prop where
 outer:∃ c fz,w.heap[p.block]? = some (.cells c ty fz)/\p.off+p.room<=c.size/\(∀(i:Nat) r,p.av[i]? = some r->∃ cp ad,c[p.off+i]? = some (.slice ad k cp)/\k<=cp/\(0<k->ad=some ⟨r.1,r.2,none⟩))/\(∀ j,p.off<=j->j<c.size->¬(fz.1<=j/\j<fz.2))
 len:p.av.length=av.length
 room:av.length<=p.room
 row:∀(i:Nat) r l,p.av[i]? = some r->av[i]? = some l->l.length=k/\∃ c t fz,w.heap[r.1]? = some (.cells c t fz)/\r.2+k<=c.size/\(∀(j:Nat) x,l[j]? = some x->c[r.2+j]? = some (.int .i64 x))/\(∀ j,r.2<=j->j<c.size->¬(fz.1<=j/\j<fz.2))
 nodup:(p.block::p.sats).Nodup
theorem rU.mono{k:Nat}{av:List (List Int)}{ty:TypeId}{p:ck}{w w':World}(L:rU k av ty p w)(e:∀ b,p.has b->w'.heap[b]? = w.heap[b]?):rU k av ty p w' where
 outer:=let ⟨c,fz,h1,h2⟩:=L.outer;⟨c,fz,(e _ p.jf).trans h1,h2⟩
 len:=L.len
 room:=L.room
 row:=fun i r l hr hl=>let ⟨h0,c,t,fz,h1,h2⟩:=L.row i r l hr hl;⟨h0,c,t,fz,(e _ (ck.Og hr)).trans h1,h2⟩
 nodup:=L.nodup
def Ob.bytes(o:Ob):Prop:=∀ x∈o.cells,∃ n,x=W.int .u8 n
def Ob.wb(o:Ob):Prop:=o.cells≠[]/\∀ x∈o.cells,∃ n,x=W.nC n
theorem Ob.uH{o:Ob}{x:W}(hx:x∈o.cells)(h:∀ n,x≠.nC n):¬o.wb:=fun hw=>let ⟨n,e⟩:=hw.2 x hx;h n e
theorem Ob.qu{o:Ob}{d:D}{l:List d.ty}(h:o.cells=l.map d.w):¬o.wb:=by
 rintro⟨h1,h2⟩;cases l with
 | nil=>exact h1 (by rw[h];rfl)
 | cons x l =>
   obtain⟨n,e⟩:=h2 (d.w x) (by rw[h];simp);exact D.w_by d x e
def Az(m:Nat)(o:Ob)(p:ck)(fz:Nat×Nat):Prop:=(fz.1=fz.2∨fz.2<=p.off)∨(o.bytes/\fz.2<=p.off+o.cells.length)∨(o.wb/\m<=fz.1)
theorem Az.plain{m:Nat}{o:Ob}{p:ck}{fz:Nat×Nat}(h:Az m o p fz)(hb:¬o.bytes)(hw:¬o.wb):fz.1=fz.2∨fz.2<=p.off:=by
 rcases h with h|h|h;exact h;exact absurd h.1 hb;exact absurd h.1 hw
theorem Az.strong{m:Nat}{o:Ob}{p:ck}{fz:Nat×Nat}(h:Az m o p fz)(hb:¬o.bytes):∀ k,p.off<=k->k<m->¬(fz.1<=k/\k<fz.2):=by
 intro k a _;rcases h with h|h|h;omega;exact absurd h.1 hb;omega
theorem Az.tail{m:Nat}{o:Ob}{p:ck}{fz:Nat×Nat}(h:Az m o p fz):fz.1=fz.2∨fz.2<=p.off+o.cells.length∨(o.wb/\m<=fz.1):=by
 rcases h with (h|h)|h|h;exact .inl h;exact .inr (.inl (by omega));exact .inr (.inl h.2);exact .inr (.inr h)
structure fk(η:Eta)(Z:ar)(o:Ob)(p:ck)(w:World):Prop where
 there:¬o.gF->∃ c fz,w.heap[p.block]? = some (.cells c o.ty fz)/\p.off+p.room<=c.size/\(∀(i:Nat) x,o.cells[i]? = some x->∃ v,c[p.off+i]? = some v/\au η Z x v/\v.oneCell'=true)/\Az c.size o p fz
 size:¬o.gF->o.cells.length<=p.room
 tabs:∀ k av,o.kQ k av->rU k av o.ty p w
 maps:o.isMap->∃ es clock,w.heap[p.block]? = some (.map es clock)/\eW η Z o.cells.tail es.toList
def qQ:Obj->Bool
 | .cells _ _ _=>true
 | .map _ _=>true
 | _=>false
theorem fk.data{η:Eta}{Z:ar}{o:Ob}{p:ck}{w:World}(L:fk η Z o p w):∃ ob,w.heap[p.block]? = some ob/\qQ ob=true:=by
 by_cases h:o.gF;rcases h with h|⟨k,av,h⟩;obtain⟨es,k,e,_⟩:=L.maps h;exact⟨_,e,rfl⟩;obtain⟨c,fz,e,_⟩:=(L.tabs k av h).outer;exact⟨_,e,rfl⟩;obtain⟨c,fz,e,_⟩:=L.there h;exact⟨_,e,rfl⟩
theorem fk.plain{η:Eta}{Z:ar}{o:Ob}{p:ck}{w:World}(hm:¬o.gF) (h:∃ c fz,w.heap[p.block]? = some (.cells c o.ty fz)/\p.off+p.room<=c.size/\(∀(i:Nat) x,o.cells[i]? = some x->∃ v,c[p.off+i]? = some v/\au η Z x v/\v.oneCell'=true)/\
 (fz.1=fz.2∨fz.2<=p.off)) (hs:o.cells.length<=p.room):fk η Z o p w :=
 ⟨fun _=>let ⟨c,fz,a,b,d,e⟩:=h;⟨c,fz,a,b,d,.inl e⟩,fun _=>hs,fun k av ht=>absurd (.inr ⟨k,av,ht⟩) hm,fun ht=>absurd (.inl ht) hm⟩
theorem fk.EL{η:Eta}{Z:ar}{o:Ob}{p:ck}{w:World}(hm:¬o.gF)(h:∃ c fz,w.heap[p.block]? = some (.cells c o.ty fz)/\p.off+p.room<=c.size/\(∀(i:Nat) x,o.cells[i]? = some x->∃ v,c[p.off+i]? = some v/\au η Z x v/\v.oneCell'=true)/\Az c.size o p fz)(hs:o.cells.length<=p.room):fk η Z o p w :=
 ⟨fun _=>h,fun _=>hs,fun k av ht=>absurd (.inr ⟨k,av,ht⟩) hm,fun ht=>absurd (.inl ht) hm⟩
theorem fk.map{η:Eta}{Z:ar}{o:Ob}{p:ck}{w:World}(hm:o.isMap)(h:∃ es clock,w.heap[p.block]? = some (.map es clock)/\eW η Z o.cells.tail es.toList):fk η Z o p w :=
 ⟨fun hn=>absurd (.inl hm) hn,fun hn=>absurd (.inl hm) hn,fun _ _ ht=>(Ob.Gq hm ht).elim,fun _=>h⟩
theorem fk.tab{η:Eta}{Z:ar}{o:Ob}{p:ck}{w:World}{k:Nat}{av:List (List Int)}(hm:o.kQ k av)(h:rU k av o.ty p w):fk η Z o p w :=
 ⟨fun hn=>absurd (.inr ⟨_,_,hm⟩) hn,fun hn=>absurd (.inr ⟨_,_,hm⟩) hn,fun k' rows' ht=>by obtain⟨rfl,rfl⟩:=Ob.isT_T hm ht;exact h,fun ht=>(Ob.Gq ht hm).elim⟩
structure St(base:Nat)(η:Eta)(Z:ar)(S:af)(w:World):Prop where
 ai:∀ n o p,S.get n=some o->η n=some p->base<=p.block/\Z p.block=none/\fk η Z o p w
 cL:∀ n o,S.get n=some o->η n=none->o.cells=[]
 known:∀ n o,S.get n=some o->n<S.next
 kR:∀ n n' o o' p p' b,S.get n=some o->S.get n'=some o'->n≠n'->η n=some p->η n'=some p'->p.has b->¬p'.has b
 zs:∀ b cs,Z b=some cs->∃ ty fz,w.heap[b]? = some (.cells cs ty fz)
 fresh:∀ n,S.next<=n->η n=none
 iR:base<=w.heap.size
 sat:∀ n o p,S.get n=some o->η n=some p->∀ b∈p.sats,base<=b/\Z b=none/\∃ ob,w.heap[b]? = some ob/\qQ ob=true
theorem St.inj{base:Nat}{η:Eta}{Z:ar}{S:af}{w:World}(R:St base η Z S w):∀ n n' o o' p p',S.get n=some o->S.get n'=some o'->n≠n'->η n=some p->η n'=some p'->p.block≠p'.block :=
 fun n n' o o' p p' h h' hn hp hp' e=>R.kR n n' o o' p p' _ h h' hn hp hp' p.jf (.inl e.symm)
theorem St.lt{base:Nat}{η:Eta}{Z:ar}{S:af}{w:World}(R:St base η Z S w){n:Nat}{p:ck}(h:η n=some p):n<S.next:=by
 rcases Nat.lt_or_ge n S.next with k|k
 exact k;rw[R.fresh n k] at h;cases h
theorem cM{w:World}{b:Nat}{o:Obj}(h:w.heap[b]? = some o):b<w.heap.size:=by
 rcases Nat.lt_or_ge b w.heap.size with k|k;exact k;rw[Array.getElem?_eq_none k] at h;cases h
theorem St.WT{base:Nat}{η:Eta}{Z:ar}{S:af}{w:World}(R:St base η Z S w){n:Nat}{o:Ob}{p:ck}(h:S.get n=some o)(hp:η n=some p):p.block<w.heap.size:=by
 obtain⟨_,_,L⟩:=R.ai n o p h hp;obtain⟨c,hc,_⟩:=L.data;exact cM hc
theorem St.all{base:Nat}{η:Eta}{Z:ar}{S:af}{w:World}(R:St base η Z S w){n:Nat}{o:Ob}{p:ck}(h:S.get n=some o)(hp:η n=some p){b:Nat}(hb:p.has b):base<=b/\Z b=none/\∃ ob,w.heap[b]? = some ob/\qQ ob=true:=by
 rcases hb with rfl|hb;obtain⟨h1,h2,L⟩:=R.ai n o p h hp;exact⟨h1,h2,L.data⟩;exact R.sat n o p h hp b hb
theorem St.kq{base:Nat}{η:Eta}{Z:ar}{S:af}{w:World}(R:St base η Z S w){n:Nat}{o:Ob}{p:ck}(h:S.get n=some o)(hp:η n=some p){b:Nat}(hb:p.has b):b<w.heap.size:=by
 obtain⟨_,_,ob,e,_⟩:=R.all h hp hb;exact cM e
theorem St.WU{base:Nat}{η:Eta}{Z:ar}{S:af}{w:World}(R:St base η Z S w){b:Nat}{c:Array Value}(h:Z b=some c):b<w.heap.size:=by
 obtain⟨ty,fz,e⟩:=R.zs b c h;exact cM e
def Own(η:Eta)(S:af)(b:Nat):Prop:=∃ n o p,S.get n=some o/\η n=some p/\p.has b
structure Step(η:Eta)(Z:ar)(S:af)(w:World)(aB:Eta)(Z':ar)(S':af)(w':World):Prop where
 os:w'.os=w.os
 tape:w'.tape=w.tape
 output:w'.output=w.output
 size:w.heap.size<=w'.heap.size
 block:∀ b,b<w.heap.size->¬Own η S b->w'.heap[b]? = w.heap[b]?
 own:∀ b,Own aB S' b->Own η S b∨w.heap.size<=b
 cN:Z.le Z'
 ja:∀ b c,Z' b=some c->Z b=some c∨Own η S b∨w.heap.size<=b
 gh:S'.cL=S.cL
theorem Step.refl(η:Eta)(Z:ar)(S:af)(w:World):Step η Z S w η Z S w :=
 ⟨rfl,rfl,rfl,Nat.le_refl _,fun _ _ _=>rfl,fun _ h=>.inl h,ar.le.refl _,fun _ _ h=>.inl h,rfl⟩
theorem Step.trans{η eM gD:Eta}{Z Z1 Z2:ar}{S S1 S2:af}{w w1 w2:World}(h:Step η Z S w eM Z1 S1 w1)(k:Step eM Z1 S1 w1 gD Z2 S2 w2):Step η Z S w gD Z2 S2 w2 where
 os:=k.os.trans h.os
 tape:=k.tape.trans h.tape
 output:=k.output.trans h.output
 size:=Nat.le_trans h.size k.size
 block:=fun b hb ho=>(k.block b (Nat.lt_of_lt_of_le hb h.size) (fun ho'=>by
  rcases h.own b ho' with hh|hh;exact ho hh;omega)).trans (h.block b hb ho)
 own:=fun b ho=>by
  rcases k.own b ho with hh|hh;exact h.own b hh;exact .inr (Nat.le_trans h.size hh)
 cN:=h.cN.trans k.cN
 ja:=fun b c hc=>by
  rcases k.ja b c hc with hh|hh|hh;exact h.ja b c hh;exact .inr (h.own b hh);exact .inr (.inr (Nat.le_trans h.size hh))
 gh:=k.gh.trans h.gh
structure qR(base:Nat)(η:Eta)(Z:ar)(S:af)(w:World)(aB:Eta)(S':af)(w':World):Prop where
 le:η.le aB
 st:St base aB Z S' w'
 step:Step η Z S w aB Z S' w'
def Eta.add(η:Eta)(n:Nat)(p:ck):Eta:=fun i=>if i=n then some p else η i
theorem Eta.gb{η:Eta}{n:Nat}{p:ck}:(η.add n p) n=some p:=by unfold Eta.add;rw[if_pos rfl]
theorem Eta.jH{η:Eta}{n m:Nat}{p:ck}(h:m≠n):(η.add n p) m=η m:=by unfold Eta.add;rw[if_neg h]
theorem Eta.uI{η:Eta}{n:Nat}{p:ck}(h:η n=none):η.le (η.add n p):=by
 intro i q e;unfold Eta.add;by_cases hi:i=n;subst hi;rw[h] at e;cases e;rw[if_neg hi];exact e
theorem fk.mono{η aB:Eta}{Z Z':ar}{o:Ob}{p:ck}{w w':World}(h:η.le aB)(hz:Z.le Z')(L:fk η Z o p w)(es:∀ b,p.has b->w'.heap[b]? = w.heap[b]?):fk aB Z' o p w':=by
 have e:=es _ p.jf;refine⟨fun hm=>?_,L.size,fun k av ht=>(L.tabs k av ht).mono es,fun hm=>?_⟩;obtain⟨c,fz,h1,h2,h3,h4⟩:=L.there hm;exact⟨c,fz,e.trans h1,h2,fun i x hx=>let ⟨v,a,b,d⟩:=h3 i x hx;⟨v,a,b.mono h hz,d⟩,h4⟩;obtain⟨es,k,h1,h2⟩:=L.maps hm;exact⟨es,k,e.trans h1,h2.mono h hz⟩
theorem af.fH{S:af}{o:Ob}{m:Nat}(h:S.get S.next=none):(S.add o).get m=if m=S.next then some o else S.get m:=by
 show find (S.ai++[(S.next,o)]) m=_;rw[wO];by_cases hm:m=S.next
 . subst hm;have:find S.ai S.next=none:=h
   rw[this,if_pos rfl];simp[find]
 . rw[if_neg hm];show (match find S.ai m with|some o=>some o|none=>find [(S.next,o)] m)=find S.ai m;cases e:find S.ai m with
   | some x=>rfl
   | none=>simp only[find];rw[if_neg (by omega)]
theorem St.fu{base:Nat}{η:Eta}{Z:ar}{S:af}{w:World}(R:St base η Z S w):S.get S.next=none:=by
 cases e:S.get S.next with
 | none=>rfl
 | some o =>
   exact absurd (R.known _ _ e) (Nat.lt_irrefl _)
theorem St.push{base:Nat}{η:Eta}{Z:ar}{S:af}{w w':World}(R:St base η Z S w)(o:Ob)(ob:Obj)(room:Nat)(hw:w'.heap=w.heap.push ob)(hos:w'.os=w.os)(oR:w'.tape=w.tape)(hout:w'.output=w.output)
 (hL:∀ aB,η.le aB->fk aB Z o ⟨w.heap.size,0,room,[]⟩ w') :
 qR base η Z S w (η.add S.next ⟨w.heap.size,0,room,[]⟩) (S.add o) w'/\(η.add S.next ⟨w.heap.size,0,room,[]⟩) S.next=some ⟨w.heap.size,0,room,[]⟩:=by
 have hfr:=R.fresh S.next (Nat.le_refl _)
 have hle:η.le (η.add S.next ⟨w.heap.size,0,room,[]⟩):=Eta.uI hfr;have hget:∀ m,(S.add o).get m=if m=S.next then some o else S.get m:=fun m=>af.fH R.fu
 have hold:∀ b,b<w.heap.size->w'.heap[b]? = w.heap[b]?:=fun b hb=>by rw[hw,Array.getElem?_push,if_neg (by omega)]
 refine⟨⟨hle,⟨?_,?_,?_,?_,?_,?_,?_,?_⟩,⟨hos,oR,hout,by rw[hw];simp,fun b hb _=>hold b hb,?_,ar.le.refl _,fun _ _ h=>.inl h,rfl⟩⟩,Eta.gb⟩
 . intro n x q hx hq;rw[hget] at hx;by_cases hn:n=S.next
   . subst hn;rw[if_pos rfl] at hx;cases hx;rw[Eta.gb] at hq;cases hq;refine⟨R.iR,?_,hL _ hle⟩;cases e:Z w.heap.size with
     | none=>rfl
     | some cs=>have:=R.WU e;omega
   rw[if_neg hn] at hx;rw[Eta.jH hn] at hq;obtain⟨hb,hz,L⟩:=R.ai n x q hx hq;exact⟨hb,hz,L.mono hle (ar.le.refl _) fun b hb=>hold _ (R.kq hx hq hb)⟩
 . intro n x hx hq;rw[hget] at hx;by_cases hn:n=S.next
   subst hn;rw[Eta.gb] at hq;cases hq;rw[if_neg hn] at hx;rw[Eta.jH hn] at hq;exact R.cL n x hx hq
 . intro n x hx;show n<S.next+1
   rw[hget] at hx;by_cases hn:n=S.next
   omega;rw[if_neg hn] at hx;have:=R.known n x hx;omega
 . intro n n' x x' p p' b hx hx' hne hp hp' hb hb';rw[hget] at hx hx';by_cases hn:n=S.next
   subst hn;rw[Eta.gb] at hp;cases hp;rw[if_neg (Ne.symm hne)] at hx';rw[Eta.jH (Ne.symm hne)] at hp';have h1:=R.kq hx' hp' hb';have h2:=ck.xD hb;omega
   . rw[if_neg hn] at hx;rw[Eta.jH hn] at hp;by_cases hn':n'=S.next
     subst hn';rw[Eta.gb] at hp';cases hp';have h1:=R.kq hx hp hb;have h2:=ck.xD hb';omega;rw[if_neg hn'] at hx';rw[Eta.jH hn'] at hp';exact R.kR n n' x x' p p' b hx hx' hne hp hp' hb hb'
 intro b cs hb;obtain⟨ty,fz,e⟩:=R.zs b cs hb;exact⟨ty,fz,(hold b (cM e)).trans e⟩
 . intro n hn;rw[Eta.jH (by have:(S.add o).next=S.next+1:=rfl;omega)];exact R.fresh n (by have:(S.add o).next=S.next+1:=rfl;omega)
 rw[hw];have:=R.iR;simp;omega
 . intro n x q hx hq b hb;rw[hget] at hx;by_cases hn:n=S.next
   subst hn;rw[Eta.gb] at hq;cases hq;cases hb;rw[if_neg hn] at hx;rw[Eta.jH hn] at hq;obtain⟨h1,h2,ob,h3,h4⟩:=R.sat n x q hx hq b hb;exact⟨h1,h2,ob,(hold _ (cM h3)).trans h3,h4⟩
 . rintro b ⟨n,x,p,hx,hp,hb⟩;rw[hget] at hx;by_cases hn:n=S.next
   subst hn;rw[Eta.gb] at hp;cases hp;exact .inr (Nat.le_of_eq (ck.xD hb).symm);rw[if_neg hn] at hx;rw[Eta.jH hn] at hp;exact .inl ⟨n,x,p,hx,hp,hb⟩
theorem St.new{base:Nat}{η:Eta}{Z:ar}{S:af}{w w':World}(R:St base η Z S w)(o:Ob)(c:Array Value){fz:Nat×Nat}(hw:w'.heap=w.heap.push (.cells c o.ty fz))(hos:w'.os=w.os)(oR:w'.tape=w.tape)(hout:w'.output=w.output)
 (bE:o.cells.length<=c.size) (hc:∀(i:Nat) x,o.cells[i]? = some x->∃ v,c[i]? = some v/\au η Z x v/\v.oneCell'=true) (hfz:fz.1=fz.2) :
 qR base η Z S w (η.add S.next ⟨w.heap.size,0,c.size,[]⟩) (S.add o) w'/\(η.add S.next ⟨w.heap.size,0,c.size,[]⟩) S.next=some ⟨w.heap.size,0,c.size,[]⟩:=by
 have hm:¬o.gF:=by
  rintro (hm|⟨k,av,hm⟩)<;>obtain⟨v,_,b,_⟩:=hc 0 _ hm<;>simp only[au,aF] at b
 refine R.push o (.cells c o.ty fz) c.size hw hos oR hout fun aB hle=>fk.plain hm ⟨c,fz,by simp[hw],by simp,?_,?_⟩ bE;intro i x hx;obtain⟨v,a,b,d⟩:=hc i x hx;exact⟨v,by simpa using a,b.mono hle (ar.le.refl _),d⟩;exact .inl hfz
theorem St.newF{base:Nat}{η:Eta}{Z:ar}{S:af}{w w':World}(R:St base η Z S w)(o:Ob)(c:Array Value){fz:Nat×Nat}(hw:w'.heap=w.heap.push (.cells c o.ty fz))(hos:w'.os=w.os)(oR:w'.tape=w.tape)(hout:w'.output=w.output)
 (bE:o.cells.length<=c.size) (hc:∀(i:Nat) x,o.cells[i]? = some x->∃ v,c[i]? = some v/\au η Z x v/\v.oneCell'=true) (Kk:o.wb) (hfz:c.size<=fz.1) :
 qR base η Z S w (η.add S.next ⟨w.heap.size,0,c.size,[]⟩) (S.add o) w'/\(η.add S.next ⟨w.heap.size,0,c.size,[]⟩) S.next=some ⟨w.heap.size,0,c.size,[]⟩:=by
 have hm:¬o.gF:=by
  rintro (hm|⟨k,av,hm⟩)<;>obtain⟨v,_,b,_⟩:=hc 0 _ hm<;>simp only[au,aF] at b
 refine R.push o (.cells c o.ty fz) c.size hw hos oR hout fun aB hle=>fk.EL hm ⟨c,fz,by simp[hw],by simp,?_,.inr (.inr ⟨Kk,hfz⟩)⟩ bE;intro i x hx;obtain⟨v,a,b,d⟩:=hc i x hx;exact⟨v,by simpa using a,b.mono hle (ar.le.refl _),d⟩
theorem St.Tb{base:Nat}{η:Eta}{Z:ar}{S:af}{w w':World}(R:St base η Z S w)(o:Ob)(ho:o.cells=[.mh])(hw:w'.heap=w.heap.push (.map #[] 0))(hos:w'.os=w.os)(oR:w'.tape=w.tape)(hout:w'.output=w.output) :
 qR base η Z S w (η.add S.next ⟨w.heap.size,0,0,[]⟩) (S.add o) w'/\(η.add S.next ⟨w.heap.size,0,0,[]⟩) S.next=some ⟨w.heap.size,0,0,[]⟩:=by
 have hm:o.isMap:=by unfold Ob.isMap;rw[ho];rfl
 exact R.push o (.map #[] 0) 0 hw hos oR hout fun aB _=>fk.map hm ⟨#[],0,by simp[hw],by rw[ho];trivial⟩
def W.okC:W->Bool
 | .mh=>false
 | .th _ _=>false
 | _=>true
def Fd.okF:Fd->Bool
 | .c x=>x.okC
 | .a _ _ _=>true
 | .m _ _ _=>false
 | .b _=>true
def Qz:List Fd->Bool
 | []=>true
 | f::fs=>f.okF&&Qz fs
def W.special:W->Prop
 | .mh=>True
 | .th _ _=>True
 | _=>False
theorem D.AA:∀(d:D)(x:d.ty),¬(d.w x).special
 | .int _,_=>by simp[D.w,W.special]
 | .bool,_=>by simp[D.w,W.special]
 | .str,_=>by simp[D.w,W.special]
 | .sl _,_=>by simp[D.w,W.special]
 | .pv,x=>by cases x<;>simp[D.w,PV.w,W.special]
theorem Ob.Tc{o:Ob}(h:o.gF):∃ x,o.cells[0]? = some x/\x.special:=by
 rcases h with h|⟨k,av,h⟩;exact⟨_,h,trivial⟩;exact⟨_,h,trivial⟩
theorem EM:∀{fs:List Fd},Qz fs=true->∀ x∈fs.flatMap Fd.cells,¬x.special
 | [],_=>by simp
 | f :: fs, h => by
   simp only[Qz,Bool.and_eq_true] at h;intro x hx;rw[List.flatMap_cons] at hx;rcases List.mem_append.1 hx with hx|hx
   . cases f with
     | c y =>
       simp only[Fd.cells,List.mem_singleton] at hx;subst hx;have h1:=h.1;cases x<;>simp_all[Fd.okF,W.okC,W.special]
     | a n d l =>
       simp only[Fd.cells,List.mem_map] at hx;obtain⟨y,_,rfl⟩:=hx;exact D.AA _ _
     | m kd vd l=>cases h.1
     | b l =>
       simp only[Fd.cells,List.mem_map] at hx;obtain⟨y,_,rfl⟩:=hx;exact id
   exact EM h.2 x hx
theorem Ob.rV{o:Ob}(h:∀ x∈o.cells,¬x.special):¬o.gF:=fun hm=>let ⟨_,e,hs⟩:=Ob.Tc hm;h _ (List.mem_of_getElem? e) hs
theorem Ob.fY{o:Ob}{d:D}{l:List d.ty}(h:o.cells=l.map d.w):¬o.gF:=Ob.rV fun x hx=>by
 rw[h,List.mem_map] at hx;obtain⟨y,_,rfl⟩:=hx;exact D.AA _ _
def af.tG(S:af)(n:Nat):Option Ob:=match S.get n with
 | some o=>bif Qz o.fs then some o else none
 | none=>none
theorem kK{S:af}{n:Nat}{o:Ob}(h:S.tG n=some o):S.get n=some o/\¬o.gF:=by
 unfold af.tG at h;split at h;rename_i o' ho;obtain⟨h1,h⟩:=ah.ay h;cases h;exact⟨ho,Ob.rV (EM h1)⟩;cases h
theorem St.read{base:Nat}{η:Eta}{Z:ar}{S:af}{w:World}(R:St base η Z S w){n:Nat}{o:Ob}{p:ck}(h:S.get n=some o)(hp:η n=some p)(hm:¬o.gF){i:Nat}{x:W}(hx:o.cells[i]? = some x) :
 ∃ v,w.cell? ⟨p.block,p.off+i,none⟩=some v/\au η Z x v/\v.oneCell'=true:=by
 obtain⟨_,_,L⟩:=R.ai n o p h hp;obtain⟨c,fz,hc,_,hv,_⟩:=L.there hm;obtain⟨v,a,b,d⟩:=hv i x hx;exact⟨v,by simp[World.cell?,hc,a],b,d⟩
theorem St.ZF{base:Nat}{η:Eta}{Z:ar}{S:af}{w:World}(R:St base η Z S w){b:Nat}{cells:Array Value}(h:Z b=some cells){o:Nat}{cs:List W}(hs:eU Z cells o cs){i:Nat}{x:W}(hx:cs[i]? = some x) :
 ∃ v,w.cell? ⟨b,o+i,none⟩=some v/\aF Z x v:=by
 obtain⟨ty,fz,hc⟩:=R.zs b cells h;obtain⟨v,a,d⟩:=hs.get hx;exact⟨v,by simp[World.cell?,hc,a],d⟩
theorem St.Td{base:Nat}{η:Eta}{Z:ar}{S:af}{w w':World}(R:St base η Z S w){n:Nat}{o:Ob}{p:ck}(h:S.get n=some o)(hp:η n=some p){o':Ob}{b0:Nat}(hb0:p.has b0)
 (hos:w'.os=w.os) (oR:w'.tape=w.tape) (hout:w'.output=w.output) (hsz:w'.heap.size=w.heap.size) (gW:∀ b,b≠b0->w'.heap[b]? = w.heap[b]?) (hdata:∃ ob,w'.heap[b0]? = some ob/\qQ ob=true)
 (L':fk η Z o' p w'):qR base η Z S w η (S.put n o') w':=by
 have hget:∀ m,(S.put n o').get m=if m=n then some o' else S.get m:=fun m=>by rw[af.j3,h];rfl
 have f:∀ k y,(S.put n o').get k=some y->∃ z,S.get k=some z:=by
  intro k y hy;rw[hget] at hy;by_cases hk:k=n;subst hk;exact⟨o,h⟩;rw[if_neg hk] at hy;exact⟨y,hy⟩
 have hown:∀ b,Own η (S.put n o') b->Own η S b:=by
  rintro b ⟨m,x,q,hx,hq,hb⟩;obtain⟨z,hz⟩:=f m x hx;exact⟨m,z,q,hz,hq,hb⟩
 have Kl:∀ b:Nat,(∃ ob,w.heap[b]? = some ob/\qQ ob=true)->∃ ob,w'.heap[b]? = some ob/\qQ ob=true:=by
  rintro b ⟨ob,e,hd⟩;by_cases hb:b=b0;subst hb;exact hdata;exact⟨ob,(gW b hb).trans e,hd⟩
 refine⟨Eta.le.refl _,⟨?_,?_,?_,?_,?_,R.fresh,by rw[hsz];exact R.iR,?_⟩,⟨hos,oR,hout,by omega,?_,fun b hb=>.inl (hown b hb),ar.le.refl _,fun _ _ hh=>.inl hh,rfl⟩⟩;intro m x q hx hq;rw[hget] at hx;by_cases hm:m=n;subst hm;rw[if_pos rfl] at hx;cases hx;rw[hp] at hq;cases hq;obtain⟨hb,hz,_⟩:=R.ai m o p h hp;exact⟨hb,hz,L'⟩;rw[if_neg hm] at hx;obtain⟨hb,hz,L⟩:=R.ai m x q hx hq;exact⟨hb,hz,L.mono (Eta.le.refl _) (ar.le.refl _) fun b hb=>gW _ fun e=>R.kR m n x o q p b hx h hm hq hp hb (e▸hb0)⟩;intro m x hx hq;rw[hget] at hx;by_cases hm:m=n;subst hm;rw[hp] at hq;cases hq;rw[if_neg hm] at hx;exact R.cL m x hx hq
 . intro m x hx;show m<S.next
   obtain⟨z,hz⟩:=f m x hx;exact R.known m z hz
 intro m m' x x' q q' b hx hx' hne hq hq' hb;obtain⟨z,hz⟩:=f m x hx;obtain⟨z',hz'⟩:=f m' x' hx';exact R.kR m m' z z' q q' b hz hz' hne hq hq' hb;intro b c hb;obtain⟨ty,fz,e⟩:=R.zs b c hb;obtain⟨_,hz,_⟩:=R.all h hp hb0;exact⟨ty,fz,(gW b (fun e=>by rw[e,hz] at hb;cases hb)).trans e⟩;intro m x q hx hq b hb;obtain⟨z,hz⟩:=f m x hx;obtain⟨h1,h2,h3⟩:=R.sat m z q hz hq b hb;exact⟨h1,h2,Kl b h3⟩;intro b _ ho;exact gW b fun e=>ho ⟨n,o,p,h,hp,e▸hb0⟩
theorem St.write{base:Nat}{η:Eta}{Z:ar}{S:af}{w w':World}(R:St base η Z S w){n:Nat}{o:Ob}{p:ck}(h:S.get n=some o)(hp:η n=some p){o':Ob}
 (hos:w'.os=w.os) (oR:w'.tape=w.tape) (hout:w'.output=w.output) (hsz:w'.heap.size=w.heap.size) (gW:∀ b,b≠p.block->w'.heap[b]? = w.heap[b]?)
 (L':fk η Z o' p w'):qR base η Z S w η (S.put n o') w' :=
 R.Td h hp p.jf hos oR hout hsz gW L'.data L'
def tH(P:Program)(t:TypeId):Option Bool:=match P.underlying t with|some (.struct _)=>some true|some (.array _ _)=>some true|some _=>some false|none=>none
theorem p7{P:Program}{t:TypeId}{b:Bool}(e:tH P t=some b)(w:World):(isAgg t).run P w=.ok b w:=by
 unfold tH at e;split at e<;>cases e<;>rename_i hu
 all_goals simp[isAgg,run_underlying hu]
def ig(P:Program)(t:TypeId):Option Nat:=match P.info? t with|some i=>some i.size|none=>none
theorem dP{P:Program}{t:TypeId}{n:Nat}(e:ig P t=some n)(w:World):(sizeOf t).run P w=.ok n w:=by
 unfold ig at e;split at e;rename_i i hi;cases e;simp[sizeOf,typeInfo,hi];cases e
def Oh:Value->Option W
 | .bool b=>some (.bool b)
 | .int k n=>some (.int k n)
 | .string s=>some (.str s)
 | .pointer none=>some .dN
 | .slice none 0 0=>some .nil
 | .nilFunc=>some .nM
 | .nilIface=>some .lT
 | .map none=>some (.val (.map none))
 | _=>none
theorem Oi{Z:ar}{v:Value}{x:W}(e:Oh v=some x):aF Z x v/\x≠.dm/\v.oneCell'=true:=by
 unfold Oh at e;split at e<;>cases e<;>simp[aF,Value.oneCell']
def Km:List Value->Option (List W)
 | []=>some []
 | v::l=>match Oh v with|some x=>(match Km l with|some r=>some (x::r)|none=>none)|none=>none
theorem yI{η:Eta}{Z:ar}:∀{l:List Value}{xs:List W},Km l=some xs->aI (au η Z) xs l/\(∀ x∈xs,x≠.dm)/\(∀ v∈l,v.oneCell'=true)
 | [],xs,e=>by cases e;exact⟨trivial,by simp,by simp⟩
 | v :: l, xs, e => by
   simp only[Km] at e;split at e;rename_i x hx;split at e;rename_i r hr;cases e;obtain⟨a,b,c⟩:=yI (η:=η) (Z:=Z) hr;obtain⟨d,f,g⟩:=Oi (Z:=Z) hx;refine⟨⟨d.Qy,a⟩,?_,?_⟩;intro y hy;rcases List.mem_cons.1 hy with rfl|hy
   exact f;exact b y hy;intro y hy;rcases List.mem_cons.1 hy with rfl|hy
   exact g;exact c y hy;cases e;cases e
def Oj:Value->Option V
 | .agg cs=>match Km cs.toList with|some xs=>some (.agg xs)|none=>none
 | v=>match Oh v with|some x=>some (.c x)|none=>none
theorem Cs{η:Eta}{Z:ar}{v:Value}{x:V}(e:Oj v=some x):cZ η Z x v:=by
 unfold Oj at e;split at e;rename_i cs;split at e;rename_i xs hxs;cases e;obtain⟨a,b,_⟩:=yI (η:=η) (Z:=Z) hxs;exact⟨cs.toList,by simp,b,a⟩;cases e;split at e;rename_i x hx;cases e;obtain⟨a,b,_⟩:=Oi (Z:=Z) hx;exact⟨b,a.Qy⟩;cases e
inductive Cd where
 | t
 | p (c:Prop)
 | and (a b:Cd)
 | imp (g:Prop) (c:Cd)
def Cd.holds:Cd->Prop
 | .t=>True
 | .p c=>c
 | .and a b=>a.holds/\b.holds
 | .imp g c=>g->c.holds
instance:CoeSort Cd Prop:=⟨Cd.holds⟩
def Cd.list:Cd->List Prop
 | .t=>[]
 | .p c=>[c]
 | .and a b=>a.list++b.list
 | .imp g c=>c.list.map (g->·)
def iD:List Prop->Prop->Prop
 | [],k=>k
 | p::l,k=>p/\iD l k
theorem Cd.Ct:∀{c:Cd},(∀ p∈c.list,p)->c
 | .t,_=>trivial
 | .p c,h=>h c (by simp[Cd.list])
 | .and a b,h=>⟨Cd.Ct fun p hp=>h p (by simp[Cd.list,hp]),Cd.Ct fun p hp=>h p (by simp[Cd.list,hp])⟩
 | .imp g c,h=>fun hg=>Cd.Ct fun p hp=>h (g->p) (List.mem_map.2 ⟨p,hp,rfl⟩) hg
theorem D3:∀{l:List Prop}{k:Prop},iD l k->(∀ p∈l,p)/\k
 | [],_,h=>⟨by simp,h⟩
 | p::l,k,⟨h1,h2⟩=>by
   obtain⟨a,b⟩:=D3 h2;refine⟨fun x hx=>?_,b⟩;rcases List.mem_cons.1 hx with rfl|hx;exact h1;exact a x hx
theorem iO{c:Cd}{k:Prop}(h:iD c.list k):c/\k:=⟨Cd.Ct (D3 h).1,(D3 h).2⟩
inductive bO where
 | tmp (t:Nat)
 | w (x:W)
 | agg (cs:List W)
def bV:Operand->Option bO
 | .tmp t=>some (.tmp t)
 | .const v=>match Oj v with|some (.c x)=>some (.w x)|some (.agg cs)=>some (.agg cs)|none=>none
 | .global _=>none
 | .func f=>some (.w (.func f []))
noncomputable def ou(F:Fr):bO->Option (Cd×V)
 | .tmp t=>match F.get t with|some (.p v)=>some (.t,v)|some (.cond c v)=>some (.p c,v)|some (.dec b)=>some (.t,.c (.bool b))|_=>none
 | .w x=>some (.t,.c x)
 | .agg cs=>some (.t,.agg cs)
theorem ew{n:Nat}{η:Eta}{Z:ar}{F:Fr}{a:Act}(R:aT n η Z F a.tmps){x':Operand}{x:bO}(hx:bV x'=some x){c:Cd}{v:V}(e:ou F x=some (c,v))(hc:c):cZ η Z v (a.eval x'):=by
 cases x' with
 | tmp t =>
   cases hx;simp only[ou] at e;split at e;rename_i v' hv;cases e;obtain⟨u,hu,hr⟩:=R.2 t _ hv;simpa[Act.eval,Array.getD_eq_getD_getElem?,hu,cE] using hr;rename_i c' v' hv;cases e;obtain⟨u,hu,hr⟩:=R.2 t _ hv;simpa[Act.eval,Array.getD_eq_getD_getElem?,hu] using hr.1 hc;rename_i b hv;cases e;obtain⟨u,hu,hr⟩:=R.2 t _ hv;have hr':u=.bool b:=hr;subst hr';have:a.eval (.tmp t)=.bool b:=by simp[Act.eval,Array.getD_eq_getD_getElem?,hu]
   rw[this];exact⟨by simp,by simp[au,aF]⟩;cases e
 | const u =>
   simp only[bV] at hx;split at hx;rename_i y hy;cases hx;cases e;exact Cs hy;rename_i cs hy;cases hx;cases e;exact Cs hy;cases hx
 | global g=>cases hx
 | func f =>
   cases hx;cases e;exact⟨by simp,[],rfl,trivial⟩
noncomputable def fP(F:Fr)(x:bO):Option (Cd×W):=match ou F x with|some (c,.c v)=>some (c,v)|_=>none
theorem aC{n:Nat}{η:Eta}{Z:ar}{F:Fr}{a:Act}(R:aT n η Z F a.tmps){x':Operand}{x:bO}(hx:bV x'=some x){c:Cd}{v:W}(e:fP F x=some (c,v))(hc:c):v≠.dm/\au η Z v (a.eval x'):=by
 unfold fP at e;split at e;rename_i c' v' h;cases e;exact ew R hx h hc;cases e
noncomputable def kL(F:Fr)(x:bO):Option (Cd×IntKind×Int):=match ou F x with|some (c,.c (.int k n))=>some (c,k,n)|_=>none
theorem cI{n:Nat}{η:Eta}{Z:ar}{F:Fr}{a:Act}(R:aT n η Z F a.tmps){x':Operand}{x:bO}(hx:bV x'=some x){c:Cd}{k:IntKind}{i:Int}(e:kL F x=some (c,k,i))(hc:c):a.eval x'=.int k i:=by
 unfold kL at e;split at e;rename_i c' k' n' h;cases e;have:=(ew R hx h hc).2;simpa[au,aF] using this;cases e
noncomputable def xE(F:Fr)(x:bO):Option (Cd×Bool):=match ou F x with|some (c,.c (.bool b))=>some (c,b)|_=>none
theorem oT{n:Nat}{η:Eta}{Z:ar}{F:Fr}{a:Act}(R:aT n η Z F a.tmps){x':Operand}{x:bO}(hx:bV x'=some x){c:Cd}{b:Bool}(e:xE F x=some (c,b))(hc:c):a.eval x'=.bool b:=by
 unfold xE at e;split at e;rename_i c' b' h;cases e;have:=(ew R hx h hc).2;simpa[au,aF] using this;cases e
noncomputable def AB(F:Fr)(x:bO):Option (Cd×ByteArray):=match ou F x with|some (c,.c (.str s))=>some (c,s)|_=>none
theorem nN{n:Nat}{η:Eta}{Z:ar}{F:Fr}{a:Act}(R:aT n η Z F a.tmps){x':Operand}{x:bO}(hx:bV x'=some x){c:Cd}{s:ByteArray}(e:AB F x=some (c,s))(hc:c):a.eval x'=.string s:=by
 unfold AB at e;split at e;rename_i c' b' h;cases e;have:=(ew R hx h hc).2;simpa[au,aF] using this;cases e
def V.cells:V->List W
 | .c x=>[x]
 | .agg cs=>cs
def kB(l:List W)(off:Nat):List W->List W
 | []=>l
 | c::cs=>kB (l.set off c) (off+1) cs
noncomputable def xG(F:Fr):List W->List (Nat×Nat×bO)->Option (Cd×List W)
 | cs,[]=>some (.t,cs)
 | cs,(off,n,x)::r=>match ou F x with
   | some (p,v)=>bif Nat.beq v.cells.length n&&Nat.ble (off+n) cs.length then(match xG F (kB cs off v.cells) r with|some (q,out)=>some (.and p q,out)|none=>none) else none
   | none=>none
def Kn(P:Program):List Field->Option (List (Nat×Nat))
 | []=>some []
 | f::l=>match ig P f.type,Kn P l with|some n,some r=>some ((f.offset,n)::r)|_,_=>none
def uJ(pl:Nat->Option (Nat×Nat)):List (Nat×Operand)->Option (List (Nat×Nat×bO))
 | []=>some []
 | (i,x)::l=>match pl i,bV x,uJ pl l with|some (o,n),some y,some r=>some ((o,n,y)::r)|_,_,_=>none
def Im:D->W->W->Option Bool
 | .int _,.int k a,.int k' b=>if k=k' then some (decide (a=b)) else none
 | .bool,.bool a,.bool b=>some (a==b)
 | .str,.str a,.str b=>some (decide (a=b))
 | _,_,_=>none
def Ko(xs ys:List W):List (Nat×D)->Option Bool
 | []=>some true
 | (o,d)::l=>match xs[o]?,ys[o]? with
   | some x,some y=>(match Im d x y,Ko xs ys l with|some b,some r=>some (b&&r)|_,_=>none)
   | _,_=>none
def vJ:TypeDesc->Option D
 | .int k=>some (.int k)
 | .bool=>some .bool
 | .string=>some .str
 | _=>none
def uo(P:Program):List Field->Option (List (Nat×D))
 | []=>some []
 | f::l=>if f.name = "_" then none else match P.underlying f.type with
   | some u=>(match vJ u,uo P l with|some d,some r=>some ((f.offset,d)::r)|_,_=>none)
   | none=>none
inductive Q where
 | move (x:bO)
 | pick (c x y:bO)
 | load (d:W) (z:List PV) (x:bO)
 | vK (n:Nat) (z:List PV) (x:bO)
 | nilCheck (x:bO)
 | ibin (op:BinOp) (x y:bO)
 | WV (op:BinOp) (x y:bO)
 | shift (op:BinOp) (x y:bO)
 | icmp (op:BinOp) (x y:bO)
 | scmp (op:BinOp) (x y:bO)
 | scat (x y:bO)
 | beq (op:BinOp) (x y:bO)
 | peq (neg:Bool) (x y:bO)
 | ieq (neg:Bool) (x:bO)
 | ZG (x:bO)
 | neg (x:bO)
 | not (x:bO)
 | conv (k:IntKind) (x:bO)
 | rune (x:bO)
 | text (x:bO)
 | slen (x:bO)
 | llen (sz:Nat) (x:bO)
 | ncap (x:bO)
 | alen (n:Nat)
 | min (x y:bO)
 | max (x y:bO)
 | min3 (x y z:bO)
 | max3 (x y z:bO)
 | index (x i:bO)
 | field (off:Nat) (d:W) (x:bO)
 | Kp (off n:Nat) (x:bO)
 | fieldAddr (off:Nat) (x:bO)
 | indexAddr (sz:Nat) (x i:bO)
 | yJ (len sz:Nat) (x i:bO)
 | slice (sz:Nat) (x:bO) (lo hi:Option bO)
 | Kq (x:bO) (lo hi:Option bO)
 | extract (i:Nat) (x:bO)
 | func (f:FuncId) (caps:List bO)
 | mval (f:FuncId) (x:bO)
 | build (z:List W) (parts:List (Nat×Nat×bO))
 | aeq (op:BinOp) (l:List (Nat×D)) (x y:bO)
def iop(op:BinOp)(k:IntKind)(a b:Int):Int :=
 match op with
 | .add=>k.wrap (a+b)
 | .sub=>k.wrap (a-b)
 | .mul=>k.wrap (a*b)
 | .and=>k.wrap (BitVec.ofInt k.bits a &&& BitVec.ofInt k.bits b).toNat
 | .or=>k.wrap (BitVec.ofInt k.bits a ||| BitVec.ofInt k.bits b).toNat
 | .xor=>k.wrap (BitVec.ofInt k.bits a ^^^ BitVec.ofInt k.bits b).toNat
 | .andNot=>k.wrap (BitVec.ofInt k.bits a &&& ~~~ (BitVec.ofInt k.bits b)).toNat
 | _=>0
def EN:BinOp->Bool
 | .add | .sub | .mul | .and | .or | .xor | .andNot=>true
 | _=>false
def Kr(op:BinOp)(k:IntKind)(a b:Int):Int :=
 match op with
 | .quo=>k.wrap (a.tdiv b)
 | _=>a.tmod b
def shiftOp(op:BinOp)(k:IntKind)(a b:Int):Int :=
 match op with
 | .shl=>k.wrap (a*2 ^ (Min.min b.toNat k.bits))
 | _=>a.fdiv (2 ^ (Min.min b.toNat k.bits))
def Ks(op:BinOp)(a b:Int):Bool :=
 match op with
 | .eql=>decide (a=b)
 | .neq=>!decide (a=b)
 | .lss=>decide (a<b)
 | .leq=>decide (a<=b)
 | .gtr=>decide (b<a)
 | .geq=>decide (b<=a)
 | _=>false
def Cu:BinOp->Bool
 | .eql | .neq | .lss | .leq | .gtr | .geq=>true
 | _=>false
def Kt(op:BinOp)(a b:ByteArray):Bool :=
 match op with
 | .eql=>decide (a=b)
 | .neq=>!decide (a=b)
 | .lss=>Op.bytesLess a.toList b.toList
 | .leq=>Op.bytesLess a.toList b.toList||decide (a=b)
 | .gtr=>!(Op.bytesLess a.toList b.toList||decide (a=b))
 | .geq=>!Op.bytesLess a.toList b.toList
 | _=>false
def aY(s:ByteArray)(i:Nat):Int:=((s.data.toList.getD i 0).toNat:Int)
noncomputable def vL(F:Fr)(x:Option bO)(d:Int):Option (Cd×Int) :=
 match x with
 | none=>some (.t,d)
 | some x=>match kL F x with|some (c,_,n)=>some (c,n)|none=>none
noncomputable def AF(F:Fr):List bO->Option (Cd×List (Nat×Nat))
 | []=>some (.t,[])
 | x::l=>match fP F x with
   | some (c,.ptr n off)=>(match AF F l with|some (d,r)=>some (.and c d,(n,off)::r)|none=>none)
   | _=>none
def WW(P:Program):Nat->TypeId->Option (List PV)
 | 0,_=>none
 | k + 1, t => match P.underlying t with
   | some (.int .i64)=>some [.int 0]
   | some .bool=>some [.bool false]
   | some .string=>some [.str ⟨#[]⟩]
   | some (.slice el)=>(match P.underlying el with
     | some .string=>some [.strs []]
     | some (.struct _)=>(match ig P el with|some n=>some [.aZ n []]|none=>none)
     | _=>none)
   | some (.struct fs)=>fs.toList.foldr (fun f r=>match WW P k f.type,r with|some a,some b=>some (a++b)|_,_=>none) (some [])
   | some (.array n el)=>(match WW P k el with|some a=>some (List.replicate n a).flatten|none=>none)
   | _=>none
def shapes(P:Program)(t:TypeId):List PV:=match WW P 8 t with|some l=>l|none=>[]
def wP:List PV->List W->List W
 | .aZ n _::zs,.nil::l=>.rs n []::wP zs l
 | _::zs,x::l=>x::wP zs l
 | _,l=>l
def kr(P:Program)(t:TypeId):Option (List W):=match P.info? t with|some i=>(match i.zero with|some z=>(match Km z.cells.toList with|some l=>some (wP (shapes P t) l)|none=>none)|none=>none)|none=>none
def PV.like:PV->PV->Bool
 | .int _,.int _=>true
 | .bool _,.bool _=>true
 | .str _,.str _=>true
 | .strs _,.strs _=>true
 | .aZ n _,.aZ n' _=>Nat.beq n' n
 | _,_=>false
def PV.asInt:PV->Int
 | .int n=>n
 | _=>0
def PV.asBool:PV->Bool
 | .bool b=>b
 | _=>false
def PV.bN:PV->ByteArray
 | .str s=>s
 | _=>⟨#[]⟩
def PV.jI:PV->List ByteArray
 | .strs l=>l
 | _=>[]
def PV.aG:PV->List PV
 | .aZ _ l=>l
 | _=>[]
def PV.at(z x:PV):W:=match z with
 | .int _=>.int .i64 x.asInt
 | .bool _=>.bool x.asBool
 | .str _=>.str x.bN
 | .strs _=>.rd .str x.jI
 | .aZ n _=>.rs n x.aG
theorem PV.ZH{z x:PV}(h:z.like x=true):z.at x=x.w:=by
 cases z<;>cases x<;>simp only[PV.like] at h<;>first|(cases h;done)|skip
 rfl;rfl;rfl;rfl;have:=Nat.eq_of_beq_eq_true h;subst this;rfl
def nW(l:List PV):Nat->List PV->Cd×List W
 | _,[]=>(.t,[])
 | i,z::zs=>(.and (.p (z.like (l.getD i (.bool false))=true)) (nW l (i+1) zs).1,z.at (l.getD i (.bool false))::(nW l (i+1) zs).2)
theorem Ku{l:List PV}:∀{zs:List PV}{i:Nat},(nW l i zs).1.holds->i+zs.length<=l.length->(nW l i zs).2=((l.drop i).take zs.length).map PV.w
 | [],i,_,_=>by simp[nW]
 | z::zs,i,h,hl=>by
   simp only[nW] at h ⊢;have hlt:i<l.length:=by rw[List.length_cons] at hl;omega
   rw[Ku h.2 (by rw[List.length_cons] at hl;omega),PV.ZH h.1,List.drop_eq_getElem_cons hlt,List.length_cons,List.take_succ_cons,List.map_cons];congr 1;rw[List.getD_eq_getElem?_getD,List.getElem?_eq_getElem hlt];rfl
def ldD:(e:D)->List PV->e.ty->Option (Cd×W)
 | .pv,[z],x=>some (.p (z.like x=true),z.at x)
 | .pv,_,_=>none
 | .int k,_,x=>some (.t,.int k x)
 | .bool,_,x=>some (.t,.bool x)
 | .str,_,x=>some (.t,.str x)
 | .sl d,_,x=>some (.t,.rd d x)
theorem ldD_eq:∀{e:D}{z:List PV}{x:e.ty}{c:Cd}{y:W},ldD e z x=some (c,y)->c->y=e.w x
 | .int _,_,_,_,_,h,_=>by cases h;rfl
 | .bool,_,_,_,_,h,_=>by cases h;rfl
 | .str,_,_,_,_,h,_=>by cases h;rfl
 | .sl _,_,_,_,_,h,_=>by cases h;rfl
 | .pv,[z],x,_,_,h,hc=>by cases h;exact PV.ZH hc
 | .pv,[],x,_,_,h,_=>by cases h
 | .pv,_::_::_,x,_,_,h,_=>by cases h
def pvL:(e:D)->List e.ty->Option (List PV)
 | .pv,l=>some l
 | _,_=>none
theorem pvL_eq{e:D}{l:List e.ty}{m:List PV}(h:pvL e l=some m):∃ h':e=.pv,(cast (by rw[h']) l:List PV)=m:=by
 cases e<;>simp only[pvL] at h<;>cases h;exact⟨rfl,rfl⟩
def jD:List Fd->Nat->Option (Cd×Fd)
 | [],_=>none
 | .c x::fs,k=>match k with
   | 0=>some (.t,.c x)
   | k+1=>jD fs k
 | .a n d l::fs,k=>match k with
   | 0=>some (.t,.a n d l)
   | k+1=>bif Nat.blt (k+1) n then none else match jD fs (k+1-n) with
     | some (c,f)=>some (.and (.p (l.length=n)) c,f)
     | none=>none
 | .m _ _ _::_,_=>none
 | .b _::_,_=>none
def W.aK:W->Bool
 | .dm=>false
 | _=>true
theorem W.Gs{x:W}(h:x.aK=true):x≠.dm:=by rintro rfl;cases h
def Cv:List W->Bool
 | []=>true
 | x::l=>x.aK&&Cv l
theorem EO:∀{l:List W},Cv l=true->∀ x∈l,x≠.dm
 | [],_=>by simp
 | y::l,h=>by
   simp only[Cv,Bool.and_eq_true] at h;intro x hx;rcases List.mem_cons.1 hx with rfl|hx;exact W.Gs h.1;exact EO h.2 x hx
def Kv:List Fd->Option (Nat×W)
 | [.a k _ l,.c x,.a k' _ _]=>bif Nat.beq k 1&&Nat.beq k' 1 then some (l.length,x) else none
 | _=>none
def Kw:List Fd->Option (List Int)
 | [.b l]=>some l
 | _=>none
theorem Gt{fs:List Fd}{l:List Int}(e:Kw fs=some l):fs=[.b l]:=by
 unfold Kw at e;split at e;cases e;rfl;cases e
def WX:List Fd->Option (Nat×List (List Int))
 | [.c (.th k av)]=>some (k,av)
 | _=>none
def vM(S:af)(n:Nat):Option (Nat×List (List Int)):=match S.get n with|some o=>WX o.fs|none=>none
theorem Io{fs:List Fd}{k:Nat}{av:List (List Int)}(e:WX fs=some (k,av)):fs=[.c (.th k av)]:=by
 unfold WX at e;split at e;cases e;rfl;cases e
theorem Kx{o:Ob}{k:Nat}{av:List (List Int)}(e:o.fs=[.c (.th k av)]):o.kQ k av:=by
 unfold Ob.kQ Ob.cells;rw[e];rfl
theorem oU{S:af}{n k:Nat}{av:List (List Int)}(e:vM S n=some (k,av)):∃ o,S.get n=some o/\o.fs=[.c (.th k av)]/\o.kQ k av:=by
 unfold vM at e;split at e;rename_i o ho;exact⟨o,ho,Io e,Kx (Io e)⟩;cases e
noncomputable def dY(F:Fr)(S:af):Q->Option (Cd×V)
 | .move x=>ou F x
 | .pick c x y=>match xE F c,xE F x,xE F y with
   | some (p,b),some (q,u),some (r,v)=>some (.and p (.and (.imp (b=true) q) (.imp (b=false) r)),.c (.bool (bif b then u else v)))
   | _,_,_=>none
 | .load d z x => match fP F x with
   | some (p,.ptr n off)=>match S.tG n with
     | some o=>match jD o.fs off with
       | some (q,.c x)=>bif x.aK then some (.and p q,.c x) else none
       | some (q,.a _ e l)=>some (.and p (.and q (.p (0<l.length))),.c (e.w (l.getD 0 e.zero)))
       | _=>none
     | none=>none
   | some (p,.qP n i j)=>match vM S n with
     | some (k,av)=>some (.and p (.p (i<av.length/\j<k)),.c (.int .i64 ((av.getD i []).getD j 0)))
     | none=>none
   | some (p,.pe n off i)=>match vM S n with
    | some (k,av)=>bif Nat.beq off 0 then some (.and p (.p (i<av.length)),.c (.row n i k)) else none
    | none=>match S.tG n with
     | some o=>match Kw o.fs with
      | some l=>bif Nat.beq off 0 then some (.and p (.p (i<l.length)),.c (.int .u8 (l.getD i 0))) else none
      | none=>match Kv o.fs with
       | some (k,x)=>bif x.aK&&Nat.beq off 0 then some (.and p (.p (i=k)),.c x) else none
       | none=>match jD o.fs off with
         | some (q,.a _ e l)=>some (.and p (.and q (.p (i<l.length))),.c (e.w (l.getD i e.zero)))
         | some (_,.c _)=>some (.and p (.p (off+i<o.cells.length/\o.cells.getD (off+i) d≠.dm)),.c (o.cells.getD (off+i) d))
         | _=>none
     | none=>none
   | some (p,.rp cs off)=>some (.and p (.p (off<cs.length)),.c (cs.getD off d))
   | some (p,.re e l i)=>match ldD e z (l.getD i e.zero) with
     | some (c,y)=>some (.and p (.and (.p (i<l.length)) c),.c y)
     | none=>none
   | _=>none
 | .vK n z x=>match fP F x with
   | some (p,.ptr m off)=>match S.tG m with
     | some o=>bif Nat.ble (off+n) o.cells.length&&Cv ((o.cells.drop off).take n) then some (p,.agg ((o.cells.drop off).take n)) else none
     | none=>none
   | some (p,.rp cs off)=>some (.and p (.p (off+n<=cs.length)),.agg ((cs.drop off).take n))
   | some (p,.re e l i)=>match pvL e l with
     | some m=>bif Nat.beq z.length n then some (.and p (.and (.p (i+n<=m.length)) (nW m i z).1),.agg (nW m i z).2) else none
     | none=>none
   | _=>none
 | .nilCheck x=>match fP F x with
   | some (p,.ptr n off)=>some (p,.c (.ptr n off))
   | some (p,.pe n off i)=>some (p,.c (.pe n off i))
   | some (p,.rp cs off)=>some (p,.c (.rp cs off))
   | some (p,.re e l i)=>some (p,.c (.re e l i))
   | some (p,.qP n i j)=>some (p,.c (.qP n i j))
   | some (p,.func f caps)=>some (p,.c (.func f caps))
   | some (p,.yield l)=>some (p,.c (.yield l))
   | _=>none
 | .ibin op x y=>match kL F x,kL F y with
   | some (p,k,a),some (q,k',b)=>if k=k' then some (.and p q,.c (.int k (iop op k a b))) else none
   | _,_=>none
 | .WV op x y=>match kL F x,kL F y with
   | some (p,k,a),some (q,k',b)=>if k=k' then some (.and p (.and q (.p (b≠0))),.c (.int k (Kr op k a b))) else none
   | _,_=>none
 | .shift op x y=>match kL F x,kL F y with
   | some (p,k,a),some (q,_,b)=>some (.and p (.and q (.p (0<=b))),.c (.int k (shiftOp op k a b)))
   | _,_=>none
 | .icmp op x y=>match kL F x,kL F y with
   | some (p,k,a),some (q,k',b)=>if k=k' then some (.and p q,.c (.bool (Ks op a b))) else none
   | _,_=>none
 | .scmp op x y=>match AB F x,AB F y with
   | some (p,a),some (q,b)=>some (.and p q,.c (.bool (Kt op a b)))
   | _,_=>none
 | .scat x y=>match AB F x,AB F y with
   | some (p,a),some (q,b)=>some (.and p (.and q (.p (a.size+b.size<=9223372036854775807))),.c (.str (a++b)))
   | _,_=>none
 | .beq op x y=>match xE F x,xE F y with
   | some (p,a),some (q,b)=>some (.and p q,.c (.bool (match op with | .eql=>a==b|_=>!(a==b))))
   | _,_=>none
 | .peq neg x y=>match fP F x,fP F y with
   | some (p,.dN),some (q,.dN)=>some (.and p q,.c (.bool (!neg)))
   | some (p,.ptr _ _),some (q,.dN)=>some (.and p q,.c (.bool neg))
   | some (p,.dN),some (q,.ptr _ _)=>some (.and p q,.c (.bool neg))
   | some (p,.ptr n off),some (q,.ptr m off')=>bif Nat.beq n m then some (.and p q,.c (.bool (bif neg then !(Nat.beq off off') else Nat.beq off off'))) else none
   | _,_=>none
 | .ieq neg x=>match fP F x with
   | some (p,.lT)=>some (p,.c (.bool (!neg)))
   | some (p,.val (.iface _ _))=>some (p,.c (.bool neg))
   | some (p,.Ay b)=>some (p,.c (.bool (bif neg then b else !b)))
   | _=>none
 | .ZG x=>match fP F x with
   | some (p,.sl n off len sz)=>bif Nat.beq sz 1 then some (.and p (.p (0<len)),.c (.pe n 0 off)) else none
   | _=>none
 | .neg x=>match kL F x with
   | some (p,k,a)=>some (p,.c (.int k (k.wrap (0-a))))
   | none=>none
 | .not x=>match xE F x with
   | some (p,a)=>some (p,.c (.bool (!a)))
   | none=>none
 | .conv k x=>match kL F x with
   | some (p,_,a)=>some (p,.c (.int k (k.wrap a)))
   | none=>none
 | .rune x=>match kL F x with
   | some (p,_,a)=>some (p,.c (.str (Utf8.encode a)))
   | none=>none
 | .text x=>match AB F x with
   | some (p,s)=>some (p,.c (.str s))
   | none=>none
 | .slen x=>match AB F x with
   | some (p,s)=>some (p,.c (.int .i64 s.size))
   | none=>none
 | .llen sz x=>match fP F x with
   | some (p,.nil)=>some (p,.c (.int .i64 0))
   | some (p,.sl _ _ len _)=>some (p,.c (.int .i64 len))
   | some (p,.ro sz' cs)=>if sz'=sz then some (p,.c (.int .i64 ((cs.length/sz:Nat):Int))) else none
   | some (p,.rd _ l)=>some (p,.c (.int .i64 (l.length:Int)))
   | some (p,.row _ _ len)=>some (p,.c (.int .i64 len))
   | some (p,.rs sz' l)=>if sz'=sz then some (p,.c (.int .i64 ((l.length/sz:Nat):Int))) else none
   | _=>none
 | .ncap x=>match fP F x with
   | some (p,.nil)=>some (p,.c (.int .i64 0))
   | _=>none
 | .alen n=>some (.t,.c (.int .i64 n))
 | .min x y=>match kL F x,kL F y with
   | some (p,k,a),some (q,_,b)=>some (.and p q,.c (.int k (Min.min a b)))
   | _,_=>none
 | .max x y=>match kL F x,kL F y with
   | some (p,k,a),some (q,_,b)=>some (.and p q,.c (.int k (Max.max a b)))
   | _,_=>none
 | .min3 x y z=>match kL F x,kL F y,kL F z with
   | some (p,k,a),some (q,_,b),some (r,_,c)=>some (.and p (.and q r),.c (.int k (Min.min (Min.min a b) c)))
   | _,_,_=>none
 | .max3 x y z=>match kL F x,kL F y,kL F z with
   | some (p,k,a),some (q,_,b),some (r,_,c)=>some (.and p (.and q r),.c (.int k (Max.max (Max.max a b) c)))
   | _,_,_=>none
 | .index x i=>match AB F x,kL F i with
   | some (p,s),some (q,_,n)=>some (.and p (.and q (.p (0<=n/\n<s.size))),.c (.int .u8 (aY s n.toNat)))
   | _,_=>none
 | .field off _ x=>match ou F x with
   | some (p,.agg cs)=>match cs[off]? with|some x=>some (p,.c x)|none=>none
   | _=>none
 | .Kp off n x=>match ou F x with
   | some (p,.agg cs)=>bif Nat.ble (off+n) cs.length then some (p,.agg ((cs.drop off).take n)) else none
   | _=>none
 | .fieldAddr off x=>match fP F x with
   | some (p,.ptr n o)=>some (p,.c (.ptr n (o+off)))
   | some (p,.rp cs o)=>some (p,.c (.rp cs (o+off)))
   | some (p,.re d l i)=>some (p,.c (.re d l (i+off)))
   | _=>none
 | .indexAddr sz x i=>match fP F x,kL F i with
   | some (p,.sl n off len sz'),some (q,_,i)=>if sz'=sz then some (.and p (.and q (.p (0<=i/\i<len))),.c (bif Nat.beq sz 1 then .pe n 0 (off+i.toNat) else .ptr n (off+i.toNat*sz))) else none
   | some (p,.ro sz' cs),some (q,_,i)=>if sz'=sz then some (.and p (.and q (.p (0<=i/\i.toNat*sz<cs.length))),.c (.rp cs (i.toNat*sz))) else none
   | some (p,.rd d l),some (q,_,i)=>if sz=1 then some (.and p (.and q (.p (0<=i/\i<(l.length:Int)))),.c (.re d l i.toNat)) else none
   | some (p,.row n r len),some (q,_,i)=>if sz=1 then some (.and p (.and q (.p (0<=i/\i<(len:Int)))),.c (.qP n r i.toNat)) else none
   | some (p,.rs sz' l),some (q,_,i)=>if sz'=sz then some (.and p (.and q (.p (0<=i/\i.toNat*sz<l.length))),.c (.re .pv l (i.toNat*sz))) else none
   | _,_=>none
 | .yJ len sz x i=>match fP F x,kL F i with
   | some (p,.ptr n off),some (q,_,i)=>some (.and p (.and q (.p (0<=i/\i<len))),.c (bif Nat.beq sz 1 then .pe n off i.toNat else .ptr n (off+i.toNat*sz)))
   | some (p,.rp cs off),some (q,_,i)=>some (.and p (.and q (.p (0<=i/\i<len))),.c (.rp cs (off+i.toNat*sz)))
   | some (p,.re d l off),some (q,_,i)=>some (.and p (.and q (.p (0<=i/\i<len))),.c (.re d l (off+i.toNat*sz)))
   | _,_=>none
 | .slice sz x lo hi=>match fP F x with
   | some (p,.nil)=>match vL F lo 0,vL F hi 0 with
     | some (q,l),some (r,h)=>some (.and p (.and q (.and r (.p (l=0/\h=0)))),.c .nil)
     | _,_=>none
   | some (p,.sl n off len sz')=>if sz'=sz then match vL F lo 0,vL F hi len with
     | some (q,l),some (r,h)=>some (.and p (.and q (.and r (.p (0<=l/\l<=h/\h<=len)))),.c (.sl n (off+l.toNat*sz) (h-l).toNat sz))
     | _,_=>none
     else none
   | some (p,.ro sz' cs)=>if sz'=sz then match vL F lo 0,vL F hi ((cs.length/sz:Nat):Int) with
     | some (q,l),some (r,h)=>some (.and p (.and q (.and r (.p (0<=l/\l<=h/\h<=((cs.length/sz:Nat):Int))))),.c (.ro sz ((cs.take (h.toNat*sz)).drop (l.toNat*sz))))
     | _,_=>none
     else none
   | some (p,.rd d xs)=>if sz=1 then match vL F lo 0,vL F hi (xs.length:Int) with
     | some (q,l),some (r,h)=>some (.and p (.and q (.and r (.p (0<=l/\l<=h/\h<=(xs.length:Int))))),.c (.rd d ((xs.take h.toNat).drop l.toNat)))
     | _,_=>none
     else none
   | some (p,.rs sz' xs)=>if sz'=sz then match vL F lo 0,vL F hi ((xs.length/sz:Nat):Int) with
     | some (q,l),some (r,h)=>some (.and p (.and q (.and r (.p (0<=l/\l<=h/\h<=((xs.length/sz:Nat):Int))))),.c (.rs sz ((xs.take (h.toNat*sz)).drop (l.toNat*sz))))
     | _,_=>none
     else none
   | _=>none
 | .Kq x lo hi=>match AB F x with
   | some (p,s)=>match vL F lo 0,vL F hi s.size with
     | some (q,l),some (r,h)=>some (.and p (.and q (.and r (.p (0<=l/\l<=h/\h<=s.size)))),.c (.str (s.extract l.toNat h.toNat)))
     | _,_=>none
   | none=>none
 | .extract i x=>match x with
   | .tmp t=>match F.get t with
     | some (.bG vs)=>match vs[i]? with|some v=>some (.t,v)|none=>none
     | _=>none
   | _=>none
 | .mval f x=>match fP F x with
   | some (c,.ptr n off)=>some (c,.c (.pG f n off))
   | _=>none
 | .func f caps=>match AF F caps with
   | some (p,cs)=>some (p,.c (.func f cs))
   | none=>none
 | .build z parts=>match xG F z parts with
   | some (p,cs)=>some (p,.agg cs)
   | none=>none
 | .aeq op l x y=>match ou F x,ou F y with
   | some (p,.agg xs),some (q,.agg ys)=>match Ko xs ys l with
     | some b=>some (.and p q,.c (.bool (match op with | .eql=>b|_=>!b)))
     | none=>none
   | _,_=>none
def QA(P:Program)(t:TypeId):Option W:=match P.info? t with|some i=>(match i.zero with|some z=>Oh z|none=>none)|none=>none
def AJ:Option Operand->Option (Option bO)
 | none=>some none
 | some x=>match bV x with|some y=>some (some y)|none=>none
def p8:List Operand->Option (List bO)
 | []=>some []
 | x::l=>match bV x with|some y=>(match p8 l with|some r=>some (y::r)|none=>none)|none=>none
def vN(P : Program)(o : Op) : Option Q :=
 match o with
 | .move x=>(bV x).map .move
 | .assign x=>(bV x).map .move
 | .pick c x y=>match bV c,bV x,bV y with|some c,some x,some y=>some (.pick c x y)|_,_,_=>none
 | .load t x=>match tH P t,bV x with
   | some false,some x=>(QA P t).map fun d=>.load d (shapes P t) x
   | some true,some x=>(ig P t).map fun n=>.vK n (shapes P t) x
   | _,_=>none
 | .nilCheck x=>(bV x).map .nilCheck
 | .binOp op t x y _=>match P.underlying t,bV x,bV y with
   | some (.int _),some x,some y=>if EN op then some (.ibin op x y) else match op with
     | .quo=>some (.WV .quo x y)
     | .rem=>some (.WV .rem x y)
     | .shl=>some (.shift .shl x y)
     | .shr=>some (.shift .shr x y)
     | _=>if Cu op then some (.icmp op x y) else none
   | some .string,some x,some y=>match op with
     | .add=>some (.scat x y)
     | _=>if Cu op then some (.scmp op x y) else none
   | some .bool,some x,some y=>match op with
     | .eql=>some (.beq .eql x y)
     | .neq=>some (.beq .neq x y)
     | _=>none
   | some (.pointer el),some x,some y=>match ig P el with
     | some k=>if k=0 then none else(match op with
       | .eql=>some (.peq false x y)
       | .neq=>some (.peq true x y)
       | _=>none)
     | none=>none
   | some (.interface _),some x,some (.w .lT)=>(match op with
     | .eql=>some (.ieq false x)
     | .neq=>some (.ieq true x)
     | _=>none)
   | some (.struct fs),some x,some y=>if P.stoodInHeld t=false/\P.eqGuardType P.depth t=false then(match uo P fs.toList with
     | some l=>(match op with
       | .eql=>some (.aeq .eql l x y)
       | .neq=>some (.aeq .neq l x y)
       | _=>none)
     | none=>none) else none
   | _,_,_=>none
 | .unOp .neg _ x=>(bV x).map .neg
 | .unOp .not _ x=>(bV x).map .not
 | .convert src dst x=>match P.underlying src,P.underlying dst,bV x with
   | some (.int _),some (.int k),some x=>some (.conv k x)
   | some (.int _),some .string,some x=>some (.rune x)
   | some .string,some .string,some x=>some (.text x)
   | _,_,_=>none
 | .call { callee:=.builtin .len,args:=⟨[x]⟩,argTypes:=⟨[t]⟩ }=>match P.underlying t,bV x with
   | some .string,some x=>some (.slen x)
   | some (.slice el),some x=>match ig P el with|some n=>if n=0 then none else some (.llen n x)|none=>none
   | some (.array n _),_=>some (.alen n)
   | _,_=>none
 | .call { callee:=.builtin .cap,args:=⟨[x]⟩,argTypes:=⟨[t]⟩ }=>match P.underlying t,bV x with
   | some (.slice _),some x=>some (.ncap x)
   | _,_=>none
 | .call { callee:=.builtin .unsafeSliceData,args:=⟨[x]⟩,.. }=>(bV x).map .ZG
 | .call { callee:=.builtin .min,args:=⟨[x,y]⟩,.. }=>match bV x,bV y with|some x,some y=>some (.min x y)|_,_=>none
 | .call { callee:=.builtin .max,args:=⟨[x,y]⟩,.. }=>match bV x,bV y with|some x,some y=>some (.max x y)|_,_=>none
 | .call { callee:=.builtin .min,args:=⟨[x,y,z]⟩,.. }=>match bV x,bV y,bV z with|some x,some y,some z=>some (.min3 x y z)|_,_,_=>none
 | .call { callee:=.builtin .max,args:=⟨[x,y,z]⟩,.. }=>match bV x,bV y,bV z with|some x,some y,some z=>some (.max3 x y z)|_,_,_=>none
 | .index t x i=>match P.underlying t,bV x,bV i with
   | some .string,some x,some i=>some (.index x i)
   | _,_,_=>none
 | .field t x f=>match P.underlying t,bV x with
   | some (.struct fs),some x=>match fs[f]? with
     | some fd=>match tH P fd.type with
       | some false=>(QA P fd.type).map fun d=>.field fd.offset d x
       | some true=>(ig P fd.type).map fun n=>.Kp fd.offset n x
       | none=>none
     | none=>none
   | _,_=>none
 | .fieldAddr s x f=>match P.underlying s,bV x with
   | some (.struct fs),some x=>match fs[f]? with
     | some fd=>match ig P fd.type with
       | some n=>if n=0 then none else some (.fieldAddr fd.offset x)
       | none=>none
     | none=>none
   | _,_=>none
 | .indexAddr t x i=>match P.underlying t,bV x,bV i with
   | some (.slice el),some x,some i=>match ig P el with|some n=>if n=0 then none else some (.indexAddr n x i)|none=>none
   | some (.array len el),some x,some i=>(ig P el).map fun n=>.yJ len n x i
   | _,_,_=>none
 | .slice t x lo hi none=>match P.underlying t,bV x,AJ lo,AJ hi with
   | some (.slice el),some x,some lo,some hi=>match ig P el with|some n=>if n=0 then none else some (.slice n x lo hi)|none=>none
   | some .string,some x,some lo,some hi=>some (.Kq x lo hi)
   | _,_,_,_=>none
 | .extract x i=>(bV x).map (.extract i)
 | .makeFunc (.func f) ⟨[]⟩ caps=>(p8 caps.toList).map (.func f)
 | .makeFunc (.func f) ⟨[x]⟩ ⟨[]⟩=>(bV x).map (.mval f)
 | .build t parts=>match P.underlying t,kr P t with
   | some (.struct fs),some z=>match Kn P fs.toList with
     | some pl=>(uJ (fun i=>pl[i]?) parts.toList).map (.build z)
     | none=>none
   | some (.array _ el),some z=>match ig P el with
     | some n=>(uJ (fun i=>some (i*n,n)) parts.toList).map (.build z)
     | none=>none
   | _,_=>none
 | _=>none
theorem map_some{α β:Type}{x:Option α}{f:α->β}{y:β}(h:x.map f=some y):∃ a,x=some a/\f a=y:=by
 cases x with
 | none=>cases h
 | some a=>exact⟨a,rfl,Option.some.inj h⟩
theorem dA{α:Type}{c:Prop}[Decidable c]{x:Option α}{y:α}(h:(if c then x else none)=some y):c/\x=some y:=by
 by_cases hc:c;rw[if_pos hc] at h;exact⟨hc,h⟩;rw[if_neg hc] at h;cases h
theorem aF.one{Z:ar}:∀{x:W}{v:Value},aF Z x v->v.oneCell'=true
 | .bool _,_,e | .int _ _,_,e | .str _,_,e | .dN,_,e | .nil,_,e | .nM,_,e | .lT,_,e=>by simp only[aF] at e;subst e;rfl
 | .val _,_,e=>by simp only[aF] at e;rw[e.1];exact e.2
 | .ro _ _,_,e=>by simp only[aF] at e;obtain⟨_,_,_,rfl,_⟩:=e;rfl
 | .rp _ _,_,e=>by simp only[aF] at e;obtain⟨_,_,_,rfl,_⟩:=e;rfl
 | .rd d l,_,e=>by simp only[aF] at e;exact cG.one (.sl d) e
 | .re _ _ _,_,e=>by simp only[aF] at e;obtain⟨_,_,_,rfl,_⟩:=e;rfl
 | .func _ _,_,e=>by simp only[aF] at e;obtain⟨_,rfl⟩:=e;rfl
 | .ptr _ _,_,e=>by simp only[aF] at e
 | .pe _ _ _,_,e=>by simp only[aF] at e
 | .sl _ _ _ _,_,e=>by simp only[aF] at e
 | .yield _,_,e=>by simp only[aF] at e
 | .dm,_,e=>by simp only[aF] at e
 | .mp _,_,e=>by simp only[aF] at e
 | .mh,_,e=>by simp only[aF] at e
 | .ba _,_,e=>by simp only[aF] at e
 | .pG _ _ _,_,e=>by simp only[aF] at e
 | .th _ _,_,e=>by simp only[aF] at e
 | .row _ _ _,_,e=>by simp only[aF] at e
 | .qP _ _ _,_,e=>by simp only[aF] at e
 | .nC _,_,e=>by simp only[aF] at e
 | .rs _ _,_,e=>by simp only[aF] at e;exact dF.one e
 | .Ay _,_,e=>by simp only[aF] at e;rcases e with ⟨_,_,_,rfl⟩|⟨_,rfl⟩<;>rfl
theorem au.one{η:Eta}{Z:ar}:∀{x:W}{v:Value},x≠.dm->au η Z x v->v.oneCell'=true
 | .bool _,_,_,e | .int _ _,_,_,e | .str _,_,_,e | .dN,_,_,e | .nil,_,_,e | .ro _ _,_,_,e | .rp _ _,_,_,e | .rd _ _,_,_,e | .re _ _ _,_,_,e | .nM,_,_,e | .lT,_,_,e | .val _,_,_,e | .rs _ _,_,_,e | .Ay _,_,_,e=>aF.one e
 | .ptr _ _,_,_,⟨_,_,rfl⟩=>rfl
 | .pe _ _ _,_,_,⟨_,_,rfl⟩=>rfl
 | .sl _ _ _ _,_,_,.inl ⟨_,rfl⟩=>rfl
 | .sl _ _ _ _,_,_,.inr ⟨_,_,_,_,rfl,_⟩=>rfl
 | .func _ _,_,_,⟨_,rfl,_⟩=>rfl
 | .yield _,_,_,h=>by simp only[au] at h;subst h;rfl
 | .dm,_,h,_=>absurd rfl h
 | .mp _,_,_,⟨_,_,rfl⟩=>rfl
 | .mh,_,_,h=>by simp only[au,aF] at h
 | .ba _,_,_,⟨_,_,_,.inl rfl⟩=>rfl
 | .ba _,_,_,⟨_,_,_,.inr rfl⟩=>rfl
 | .pG _ _ _,_,_,⟨_,rfl,_⟩=>rfl
 | .th _ _,_,_,h=>by simp only[au,aF] at h
 | .row _ _ _,_,_,⟨_,_,_,_,_,_,rfl,_⟩=>rfl
 | .qP _ _ _,_,_,⟨_,_,_,_,rfl⟩=>rfl
 | .nC _,_,_,h=>by simp only[au] at h;subst h;rfl
theorem aF.aK{Z:ar}{x:W}{v:Value}(h:aF Z x v):x≠.dm:=by
 rintro rfl;simp only[aF] at h
theorem au.ro{η:Eta}{Z:ar}{sz:Nat}{cs:List W}{v:Value}(h:au η Z (.ro sz cs) v) :
 ∃ a len c,v=.slice a len c/\cs.length=len*sz/\len<=c/\(cs=[]∨∃ b off cells,a=some ⟨b,off,none⟩/\Z b=some cells/\eU Z cells off cs):=by
 simpa only[au,aF] using h
theorem au.rp{η:Eta}{Z:ar}{cs:List W}{off:Nat}{v:Value}(h:au η Z (.rp cs off) v):∃ b o cells,v=.pointer (some ⟨b,o+off,none⟩)/\Z b=some cells/\eU Z cells o cs:=by
 simpa only[au,aF] using h
theorem au.rd{η:Eta}{Z:ar}{d:D}{l:List d.ty}{v:Value}(h:au η Z (.rd d l) v) :
 ∃ a len c,v=.slice a len c/\l.length=len/\len<=c/\(l=[]∨∃ b off cells,a=some ⟨b,off,none⟩/\Z b=some cells/\mZ Z d cells off l):=by
 simp only[au,aF,cG] at h;exact h
theorem au.rs{η:Eta}{Z:ar}{sz:Nat}{l:List PV}{v:Value}(h:au η Z (.rs sz l) v) :
 ∃ a len c,v=.slice a len c/\l.length=len*sz/\len<=c/\(l=[]∨∃ b off cells,a=some ⟨b,off,none⟩/\Z b=some cells/\mZ Z .pv cells off l):=by
 simp only[au,aF,dF,jF.iff] at h;exact h
theorem au.ZI{η:Eta}{Z:ar}{sz:Nat}{l:List PV}{v:Value}(h:∃ a len c,v=.slice a len c/\l.length=len*sz/\len<=c/\(l=[]∨∃ b off cells,a=some ⟨b,off,none⟩/\Z b=some cells/\mZ Z .pv cells off l)):au η Z (.rs sz l) v:=by
 simp only[au,aF,dF,jF.iff];exact h
theorem au.re{η:Eta}{Z:ar}{d:D}{l:List d.ty}{i:Nat}{v:Value}(h:au η Z (.re d l i) v):∃ b o cells,v=.pointer (some ⟨b,o+i,none⟩)/\Z b=some cells/\mZ Z d cells o l:=by
 simpa only[au,aF] using h
theorem yK:∀{fs:List Fd}{off:Nat}{c:Cd}{f:Fd},jD fs off=some (c,f)->c->∃ pre post,fs=pre++f::post/\(pre.flatMap Fd.cells).length=off
 | [],_,_,_,e,_=>by cases e
 | .c x::fs,0,c,f,e,_=>by
   simp only[jD] at e;cases e;exact⟨[],fs,rfl,rfl⟩
 | .c x::fs,k+1,c,f,e,hc=>by
   simp only[jD] at e;obtain⟨pre,post,rfl,h⟩:=yK e hc;exact⟨.c x::pre,post,rfl,by rw[List.flatMap_cons,List.length_append,h];simp only[Fd.cells,List.length_singleton];omega⟩
 | .a n d l::fs,0,c,f,e,_=>by
   simp only[jD] at e;cases e;exact⟨[],fs,rfl,rfl⟩
 | .a n d l :: fs, k + 1, c, f, e, hc => by
   simp only[jD] at e;cases hb:Nat.blt (k+1) n with
   | true=>rw[hb] at e;cases e
   | false =>
     rw[hb] at e;simp only[cond_false] at e;have hn:n<=k+1:=by
      rcases Nat.lt_or_ge (k+1) n with h|h;rw[(Nat.blt_eq (x:=k+1) (y:=n)).mpr h] at hb;cases hb;exact h
     split at e;rename_i c' f' he;cases e;obtain⟨pre,post,rfl,h⟩:=yK he hc.2;exact⟨.a n d l::pre,post,rfl,by rw[List.flatMap_cons,List.length_append,h];simp only[Fd.cells,List.length_map];have:l.length=n:=hc.1;omega⟩;cases e
 | .m _ _ _::_,_,_,_,e,_=>by simp only[jD] at e;cases e
 | .b _::_,_,_,_,e,_=>by simp only[jD] at e;cases e
theorem fdGet_c{o:Ob}{off:Nat}{c:Cd}{x:W}(e:jD o.fs off=some (c,.c x))(hc:c):o.cells[off]? = some x:=by
 obtain⟨pre,post,h,hl⟩:=yK e hc;unfold Ob.cells;rw[h,List.flatMap_append,List.getElem?_append_right (by omega)];simp[Fd.cells,hl]
theorem NH{o:Ob}{k:Nat}{x:W}(e:Kv o.fs=some (k,x)):o.cells[k]? = some x:=by
 unfold Ob.cells;generalize o.fs=fs at e;unfold Kv at e;split at e;rename_i n d l x' n' d' l';obtain⟨_,e⟩:=ah.ay e;cases e;simp[Fd.cells];cases e
theorem Ol{o:Ob}{off n:Nat}{d:D}{l:List d.ty}{c:Cd}(e:jD o.fs off=some (c,.a n d l))(hc:c){i:Nat}(hi:i<l.length)(z:d.ty):o.cells[off+i]? = some (d.w (l.getD i z)):=by
 obtain⟨pre,post,h,hl⟩:=yK e hc;unfold Ob.cells;rw[h,List.flatMap_append,List.getElem?_append_right (by omega),List.flatMap_cons,List.getElem?_append_left (by simp only[Fd.cells,List.length_map];omega)];have:off+i-(pre.flatMap Fd.cells).length=i:=by omega
 rw[this];simp only[Fd.cells,List.getElem?_map,List.getD_eq_getElem?_getD,List.getElem?_eq_getElem hi,Option.map_some,Option.getD_some]
theorem getD_some{l:List W}{i:Nat}{d:W}(h:i<l.length):l[i]? = some (l.getD i d):=by
 rw[List.getD_eq_getElem?_getD,List.getElem?_eq_getElem h];rfl
section
variable {P:Program} {base n:Nat} {η:Eta} {Z:ar} {S:af} {w:World} {F:Fr} {a:Act}
theorem jr{t:TypeId}{p:Addr}{v:Value}(ht:tH P t=some false)(h:w.cell? p=some v):(Instr.loadAt t (.pointer (some p))).run P w=.ok v w:=by
 simp[Instr.loadAt,Instr.sureAddr,loadVar,p7 ht,h]
theorem uK{t:TypeId}{b o m:Nat}{vs:List Value}(ht:tH P t=some true)(hs:ig P t=some m)(hl:vs.length=m)(h:∀(j:Nat) v,vs[j]? = some v->w.cell? ⟨b,o+j,none⟩=some v) :
 (Instr.loadAt t (.pointer (some ⟨b,o,none⟩))).run P w=.ok (.agg vs.toArray) w:=by
 by_cases h0:m=0;subst h0;have:vs=[]:=List.length_eq_zero_iff.1 hl;subst this;simp[Instr.loadAt,Instr.sureAddr,loadVar,p7 ht,dP hs,loadCells,loadCellsFrom];have:=run_loadCells_list (P:=P) w ⟨b,o,none⟩ vs (fun j v hv=>by rw[Addr.add_lit];exact h j v hv);rw[hl] at this;simp[Instr.loadAt,Instr.sureAddr,loadVar,p7 ht,dP hs,this]
theorem St.readRow(R:St base η Z S w){m:Nat}{o:Ob}{k:Nat}{av:List (List Int)}(h:S.get m=some o)(ht:o.kQ k av){p:ck}(hp:η m=some p){i:Nat}(hi:i<av.length) :
 ∃ v,w.cell? ⟨p.block,p.off+i,none⟩=some v/\au η Z (.row m i k) v:=by
 obtain⟨_,_,L⟩:=R.ai m o p h hp;have T:=L.tabs k av ht;obtain⟨c,fz,hc,_,hr,_⟩:=T.outer;have hi':i<p.av.length:=by rw[T.len];exact hi
 obtain⟨cp,ad,h1,h2,h3⟩:=hr i p.av[i] (List.getElem?_eq_getElem hi');exact⟨_,by simp[World.cell?,hc,h1],p,p.av[i],cp,ad,hp,List.getElem?_eq_getElem hi',rfl,h2,h3⟩
theorem St.readNum(R:St base η Z S w){m:Nat}{o:Ob}{k:Nat}{av:List (List Int)}(h:S.get m=some o)(ht:o.kQ k av){p:ck}(hp:η m=some p){i:Nat}(hi:i<av.length){r:Nat×Nat}(hr:p.av[i]? = some r){j:Nat}(hj:j<k) :
 w.cell? ⟨r.1,r.2+j,none⟩=some (.int .i64 ((av.getD i []).getD j 0)):=by
 obtain⟨_,_,L⟩:=R.ai m o p h hp;have T:=L.tabs k av ht;obtain⟨hl,c,t,fz,hc,_,hv,_⟩:=T.row i r av[i] hr (List.getElem?_eq_getElem hi);have e:av.getD i []=av[i]:=by rw[List.getD_eq_getElem?_getD,List.getElem?_eq_getElem hi];rfl
 rw[e];have hj':j<av[i].length:=by rw[hl];exact hj
 have:=hv j av[i][j] (List.getElem?_eq_getElem hj');have e2:av[i].getD j 0=av[i][j]:=by rw[List.getD_eq_getElem?_getD,List.getElem?_eq_getElem hj'];rfl
 rw[e2];simp[World.cell?,hc,this]
theorem St.reads(R : St base η Z S w){m : Nat}{o : Ob}{p : ck}(h : S.get m = some o)(hp : η m = some p)(hm : ¬o.gF){off k : Nat}(hk : off + k ≤ o.cells.length) :
 ∃ vs:List Value,aI (au η Z) ((o.cells.drop off).take k) vs/\vs.length=k/\(∀ v∈vs,v.oneCell'=true)/\∀(j:Nat) v,vs[j]? = some v->w.cell? ⟨p.block,p.off+off+j,none⟩=some v:=by
 induction k with
 | zero=>exact⟨[],by simp[aI],rfl,by simp,by simp⟩
 | succ k ih =>
   obtain⟨vs,h1,h2,h3,h4⟩:=ih (by omega);have hlt:off+k<o.cells.length:=by omega
   obtain⟨v,hv,hr,h1c⟩:=R.read h hp hm (i:=off+k) (x:=o.cells[off+k]) (List.getElem?_eq_getElem hlt);refine⟨vs++[v],?_,by simp[h2],?_,?_⟩;have:(o.cells.drop off).take (k+1)=(o.cells.drop off).take k++[o.cells[off+k]]:=by
    rw[List.take_add_one];congr 1;rw[List.getElem?_drop,List.getElem?_eq_getElem hlt];rfl
   rw[this];exact h1.append ⟨hr,trivial⟩;intro u hu;rcases List.mem_append.1 hu with hu|hu;exact h3 u hu;simp at hu;subst hu;exact h1c;intro j u hu;by_cases hj:j<k;rw[List.getElem?_append_left (by omega)] at hu;exact h4 j u hu;have hjk:j=k:=by
    have:=(List.getElem?_eq_some_iff.1 hu).1;simp[h2] at this;omega
   subst hjk;rw[List.getElem?_append_right (by omega)] at hu;simp[h2] at hu;subst hu;rw[<-hv];congr 2;omega
theorem St.Te(R : St base η Z S w){b : Nat}{cells : Array Value}(h : Z b = some cells){o : Nat}{cs : List W}(hs : eU Z cells o cs){off k : Nat}(hk : off + k ≤ cs.length) :
 ∃ vs:List Value,aI (aF Z) ((cs.drop off).take k) vs/\vs.length=k/\∀(j:Nat) v,vs[j]? = some v->w.cell? ⟨b,o+off+j,none⟩=some v:=by
 induction k with
 | zero=>exact⟨[],by simp[aI],rfl,by simp⟩
 | succ k ih =>
   obtain⟨vs,h1,h2,h4⟩:=ih (by omega);have hlt:off+k<cs.length:=by omega
   obtain⟨v,hv,hr⟩:=R.ZF h hs (i:=off+k) (x:=cs[off+k]) (List.getElem?_eq_getElem hlt);refine⟨vs++[v],?_,by simp[h2],?_⟩;have:(cs.drop off).take (k+1)=(cs.drop off).take k++[cs[off+k]]:=by
    rw[List.take_add_one];congr 1;rw[List.getElem?_drop,List.getElem?_eq_getElem hlt];rfl
   rw[this];exact h1.append ⟨hr,trivial⟩;intro j u hu;by_cases hj:j<k;rw[List.getElem?_append_left (by omega)] at hu;exact h4 j u hu;have hjk:j=k:=by
    have:=(List.getElem?_eq_some_iff.1 hu).1;simp[h2] at this;omega
   subst hjk;rw[List.getElem?_append_right (by omega)] at hu;simp[h2] at hu;subst hu;rw[<-hv];congr 2;omega
theorem aI.frozen{cs:List W}{vs:List Value}(h:aI (aF Z) cs vs):aI (au η Z) cs vs/\∀ x∈cs,x≠.dm:=by
 refine⟨h.mono fun _ _=>aF.Qy,?_⟩
 induction cs generalizing vs with
 | nil=>simp
 | cons c cs ih =>
   cases vs with
   | nil=>exact h.elim
   | cons v vs =>
     intro x hx;rcases List.mem_cons.1 hx with rfl|hx;exact h.1.aK;exact ih h.2 x hx
def bP(P:Program)(η:Eta)(Z:ar)(w:World)(s:Sem Next)(v:V):Prop:=∃ u,s.run P w=.ok (.value u) w/\cZ η Z v u
theorem bP.of{s:Sem Value}{v:V}{u:Value}(h:s.run P w=.ok u w)(r:cZ η Z v u):bP P η Z w (do pure (Next.value (<-s))) v:=⟨u,by simp[h],r⟩
theorem Tf(R:St base η Z S w)(FR:aT n η Z F a.tmps){t:TypeId}{x':Operand}{x:bO}{d:W}{z:List PV}(hx:bV x'=some x)(ht:tH P t=some false){c:Cd}{v:V}(e:dY F S (.load d z x)=some (c,v))(hc:c) :
 bP P η Z w (do pure (Next.value (<-Instr.loadAt t (a.eval x')))) v:=by
 simp only[dY] at e;split at e;rename_i p m off hv;split at e;rename_i o ho;obtain⟨ho,hmo⟩:=kK ho;split at e;rename_i qc x hg;obtain⟨hl,e⟩:=ah.ay e;cases e;obtain⟨hp,Dg⟩:=hc;obtain⟨_,q,hq,hu⟩:=aC FR hx hv hp;rw[hu];obtain⟨u,h1,h2,_⟩:=R.read ho hq hmo (fdGet_c hg Dg);exact bP.of (jr ht h1) ⟨W.Gs hl,h2⟩;rename_i qc k e' l hg;cases e;obtain⟨hp,Dg,hlt⟩:=hc;obtain⟨_,q,hq,hu⟩:=aC FR hx hv hp;rw[hu];obtain⟨u,h1,h2,_⟩:=R.read ho hq hmo (Ol hg Dg hlt e'.zero);exact bP.of (jr ht (by simpa using h1)) ⟨D.jG _ _,h2⟩;cases e;cases e;rename_i p m i j hv;split at e;rename_i k av hk;obtain⟨o,ho,_,hto⟩:=oU hk;cases e;obtain⟨hp,hi,hj⟩:=hc;obtain⟨_,q,r,hq,hr,hu⟩:=aC FR hx hv hp;rw[hu];exact bP.of (jr ht (R.readNum ho hto hq hi hr hj)) ⟨by simp,by simp[au,aF]⟩;cases e;rename_i p m off i hv;split at e;rename_i k av hk;obtain⟨o,ho,_,hto⟩:=oU hk;obtain⟨uL,e⟩:=ah.ay e;have uL:=Nat.eq_of_beq_eq_true uL;subst uL;cases e;obtain⟨hp,hi⟩:=hc;obtain⟨_,q,hq,hu⟩:=aC FR hx hv hp;rw[hu];obtain⟨u,h1,h2⟩:=R.readRow ho hto hq hi;exact bP.of (jr ht (by simpa using h1)) ⟨by simp,h2⟩;split at e;rename_i o ho;obtain⟨ho,hmo⟩:=kK ho;split at e;rename_i l hl;obtain⟨uL,e⟩:=ah.ay e;have uL:=Nat.eq_of_beq_eq_true uL;subst uL;cases e;obtain⟨hp,hlt⟩:=hc;have hlt:i<l.length:=hlt;obtain⟨_,q,hq,hu⟩:=aC FR hx hv hp;rw[hu];have hg:o.cells[0+i]? = some (.nC (l.getD i 0)):=by
  unfold Ob.cells;rw[Gt hl];simp[Fd.cells,List.getD_eq_getElem?_getD,List.getElem?_eq_getElem hlt]
 obtain⟨u,h1,h2,_⟩:=R.read ho hq hmo hg;have h2:u=.int .u8 (l.getD i 0):=h2;rw[h2] at h1;exact bP.of (jr ht (by simpa using h1)) ⟨by simp,by simp[au,aF]⟩;split at e;rename_i k x hh;obtain⟨hl,e1⟩:=ah.ay e;clear e;simp only[Bool.and_eq_true] at hl;have uL:=Nat.eq_of_beq_eq_true hl.2;subst uL;cases e1;obtain⟨hp,hik⟩:=hc;have hik':i=k:=hik;subst hik';obtain⟨_,q,hq,hu⟩:=aC FR hx hv hp;rw[hu];obtain⟨u,h1,h2,_⟩:=R.read ho hq hmo (NH hh);exact bP.of (jr ht (by simpa using h1)) ⟨W.Gs hl.1,h2⟩;split at e;rename_i qc k e' l hg;cases e;obtain⟨hp,Dg,hlt⟩:=hc;obtain⟨_,q,hq,hu⟩:=aC FR hx hv hp;rw[hu];obtain⟨u,h1,h2,_⟩:=R.read ho hq hmo (Ol hg Dg hlt e'.zero);exact bP.of (jr ht h1) ⟨D.jG _ _,h2⟩;cases e;obtain⟨hp,hlt,hd⟩:=hc;obtain⟨_,q,hq,hu⟩:=aC FR hx hv hp;rw[hu];obtain⟨u,h1,h2,_⟩:=R.read ho hq hmo (getD_some (d:=d) hlt);exact bP.of (jr ht h1) ⟨hd,h2⟩;cases e;cases e;rename_i p cs off hv;cases e;obtain⟨hp,hlt⟩:=hc;obtain⟨b,o,cells,hu,hz,hs⟩:=(aC FR hx hv hp).2.rp;rw[hu];obtain⟨u,h1,h2⟩:=R.ZF hz hs (getD_some (d:=d) hlt);exact bP.of (jr ht h1) ⟨h2.aK,h2.Qy⟩
 . rename_i p e' l i hv;split at e
   case h_2=>cases e
   rename_i c2 y hy;cases e;obtain⟨hp,hlt,hc2⟩:=hc;rw[ldD_eq hy hc2];obtain⟨b,o,cells,hu,hz,hs⟩:=(aC FR hx hv hp).2.re;rw[hu];obtain⟨u,h1,h2⟩:=hs i (l.getD i e'.zero) (by rw[List.getD_eq_getElem?_getD,List.getElem?_eq_getElem hlt];rfl);obtain⟨ty,fz,hw⟩:=R.zs b cells hz;exact bP.of (jr (v:=u) ht (by simp[World.cell?,hw,h1])) ⟨D.jG _ _,(D.eV _).2 h2⟩
 cases e
theorem QB(R:St base η Z S w)(FR:aT n η Z F a.tmps){t:TypeId}{x':Operand}{x:bO}{k:Nat}{z:List PV}(hx:bV x'=some x)(ht:tH P t=some true)(hs:ig P t=some k){c:Cd}{v:V}(e:dY F S (.vK k z x)=some (c,v))(hc:c) :
 bP P η Z w (do pure (Next.value (<-Instr.loadAt t (a.eval x')))) v:=by
 simp only[dY] at e;split at e;rename_i p m off hv;split at e;rename_i o ho;obtain⟨ho,hmo⟩:=kK ho;obtain⟨hb,e⟩:=ah.ay e;simp only[Bool.and_eq_true,Nat.ble_eq] at hb;cases e;obtain⟨_,q,hq,hu⟩:=aC FR hx hv hc;rw[hu];obtain⟨vs,h1,h2,_,h4⟩:=R.reads ho hq hmo hb.1;exact bP.of (uK ht hs h2 h4) ⟨vs,rfl,EO hb.2,h1⟩;cases e;rename_i p cs off hv;cases e;obtain⟨hp,hlt⟩:=hc;obtain⟨b,o,cells,hu,hz,hfs⟩:=(aC FR hx hv hp).2.rp;rw[hu];obtain⟨vs,h1,h2,h4⟩:=R.Te hz hfs hlt;exact bP.of (uK ht hs h2 h4) ⟨vs,rfl,(aI.frozen (η:=η) h1).2,(aI.frozen h1).1⟩
 . rename_i p e' l i hv;split at e
   case h_2=>cases e
   rename_i m hm;obtain⟨rfl,hm⟩:=pvL_eq hm;have hm:l=m:=hm;subst hm;obtain⟨hzl,e⟩:=ah.ay e;have hzl:=Nat.eq_of_beq_eq_true hzl;cases e;obtain⟨hp,hlt,hc2⟩:=hc;have hlt:i+k<=l.length:=hlt;rw[Ku hc2 (by omega),hzl];obtain⟨b,o,cells,hu,hz,hfs⟩:=(aC FR hx hv hp).2.re;rw[hu];have hfs':eU Z cells o (l.map PV.w):=by
    refine eU.pQ fun j x hx'=>?_;rw[List.getElem?_map] at hx';cases hj:l[j]? with
    | none=>rw[hj] at hx';cases hx'
    | some y =>
      rw[hj] at hx';cases hx';obtain⟨u,a1,a2⟩:=hfs j y hj;exact⟨u,a1,PV.ZE.2 a2⟩
   obtain⟨vs,h1,h2,h4⟩:=R.Te hz hfs' (off:=i) (k:=k) (by rw[List.length_map];exact hlt);rw[<-List.map_drop,<-List.map_take] at h1;exact bP.of (uK ht hs h2 h4) ⟨vs,rfl,(aI.frozen (η:=η) h1).2,(aI.frozen h1).1⟩
 cases e
theorem eP{k:IntKind}{i:Int}:cZ η Z (.c (.int k i)) (.int k i):=⟨by simp,by simp[au,aF]⟩
theorem jt{b:Bool}:cZ η Z (.c (.bool b)) (.bool b):=⟨by simp,by simp[au,aF]⟩
theorem rW{s:ByteArray}:cZ η Z (.c (.str s)) (.string s):=⟨by simp,by simp[au,aF]⟩
theorem sE{op:BinOp}{t:TypeId}{x y:Operand}{k k':IntKind}{i j:Int}:eqGuard op t x y (.int k i) (.int k' j)=pure ():=by
 unfold eqGuard;cases op<;>rfl
theorem Dh{op:BinOp}{t:TypeId}{x y:Operand}{i j:ByteArray}:eqGuard op t x y (.string i) (.string j)=pure ():=by
 unfold eqGuard;cases op<;>rfl
theorem Ky{op:BinOp}{t:TypeId}{x y:Operand}{i j:Bool}:eqGuard op t x y (.bool i) (.bool j)=pure ():=by
 unfold eqGuard;cases op<;>rfl
theorem WY{op:BinOp}{t:TypeId}{x y:Operand}{k:IntKind}{i j:Int}(h:EN op=true):(do eqGuard op t x y (.int k i) (.int k j);binOp op t (.int k i) (.int k j)).run P w=.ok (.int k (iop op k i j)) w:=by
 rw[sE];cases op<;>simp[EN] at h<;>simp[binOp,Op.intArith,Op.intBits,iop]
theorem Kz{op:BinOp}{t:TypeId}{x y:Operand}{k:IntKind}{i j:Int}(h:op=.quo∨op=.rem)(hj:j≠0):(do eqGuard op t x y (.int k i) (.int k j);binOp op t (.int k i) (.int k j)).run P w=.ok (.int k (Kr op k i j)) w:=by
 rw[sE];rcases h with rfl|rfl<;>simp[binOp,Op.intDiv,hj,Kr]
theorem Ip{op:BinOp}{t:TypeId}{x y:Operand}{k k':IntKind}{i j:Int}(h:op=.shl∨op=.shr)(hj:0<=j):(do eqGuard op t x y (.int k i) (.int k' j);binOp op t (.int k i) (.int k' j)).run P w=.ok (.int k (shiftOp op k i j)) w:=by
 rw[sE];have:¬j<0:=by omega
 rcases h with rfl|rfl<;>simp[binOp,Op.shift,this,shiftOp]
theorem WZ{op:BinOp}{t:TypeId}{x y:Operand}{k:IntKind}{i j:Int}(h:Cu op=true):(do eqGuard op t x y (.int k i) (.int k j);binOp op t (.int k i) (.int k j)).run P w=.ok (.bool (Ks op i j)) w:=by
 rw[sE];cases op<;>simp[Cu] at h<;>simp[binOp,Op.intCmp,Ks]
 all_goals rfl
theorem W4{a b:ByteArray}:(a.toList==b.toList)=decide (a=b):=by
 rw[Bool.eq_iff_iff];simp only[beq_iff_eq,decide_eq_true_eq];constructor;intro h;apply ByteArray.ext;have h1:a.data.toList=b.data.toList:=by rw[<-ByteArray.toList_eq,<-ByteArray.toList_eq];exact h
 exact Array.ext' h1;rintro rfl;rfl
theorem W5{op:BinOp}{t:TypeId}{x y:Operand}{i j:ByteArray}(h:Cu op=true):(do eqGuard op t x y (.string i) (.string j);binOp op t (.string i) (.string j)).run P w=.ok (.bool (Kt op i j)) w:=by
 rw[Dh];cases op<;>simp[Cu] at h<;>simp only[binOp,Op.stringOp,Kt,W4,Sem.run_pure,pure_bind]
theorem W6{t:TypeId}{x y:Operand}{i j:ByteArray}(h:i.size+j.size<=9223372036854775807):(do eqGuard .add t x y (.string i) (.string j);binOp .add t (.string i) (.string j)).run P w=.ok (.string (i++j)) w:=by
 rw[Dh];have:¬((i.size+j.size:Nat):Int)>IntKind.i64.max:=by
  have:IntKind.i64.max=9223372036854775807:=by rfl
  omega
 simp only[pure_bind,binOp,Op.stringOp,this,if_false,Sem.run_pure]
theorem KA{t:TypeId}{i j:Bool}(hu:P.underlying t=some .bool)(d:Nat):(Op.equalIn (d+1) t (.bool i) (.bool j)).run P w=.ok (i==j) w:=by
 simp only[Op.equalIn,Sem.run_bind,run_underlying hu,Result.andThen_ok,Sem.run_pure]
theorem Om{op:BinOp}{t:TypeId}{x y:Operand}{i j:Bool}(hu:P.underlying t=some .bool)(h:op=.eql∨op=.neq):(do eqGuard op t x y (.bool i) (.bool j);binOp op t (.bool i) (.bool j)).run P w=.ok (.bool (match op with | .eql=>i==j|_=>!(i==j))) w:=by
 rw[Ky];have h1:(Op.equal t (.bool i) (.bool j)).run P w=.ok (i==j) w:=KA hu 9999;rcases h with rfl|rfl<;>simp[binOp,h1]
end
theorem cZ.cells{η:Eta}{Z:ar}{x:V}{v:Value}(h:cZ η Z x v):aI (au η Z) x.cells v.cells.toList/\(∀ y∈x.cells,y≠.dm)/\(∀ u∈v.cells.toList,u.oneCell'=true):=by
 cases x with
 | c x =>
   have h1:=au.one h.1 h.2;have hc:v.cells=#[v]:=by cases v<;>simp[Value.oneCell'] at h1<;>rfl
   rw[hc];exact⟨⟨h.2,trivial⟩,by simpa[V.cells] using h.1,by simpa using h1⟩
 | agg cs =>
   obtain⟨vs,rfl,hd,hl⟩:=h;refine⟨by simpa[Value.cells,V.cells] using hl,hd,?_⟩;intro u hu;simp[Value.cells] at hu
   induction cs generalizing vs with
   | nil=>cases vs with|nil=>simp at hu|cons _ _=>exact hl.elim
   | cons c cs ih =>
     cases vs with
     | nil=>exact hl.elim
     | cons v vs =>
       rcases List.mem_cons.1 hu with rfl|hu;exact au.one (hd _ (by simp)) hl.1;exact ih vs (fun y hy=>hd y (List.mem_cons_of_mem _ hy)) hl.2 hu
section
variable {P:Program} {base n:Nat} {η:Eta} {Z:ar} {S:af} {w:World} {F:Fr} {a:Act}
theorem au.nil_eq{v:Value}(h:au η Z .nil v):v=.slice none 0 0:=by simpa only[au,aF] using h
theorem j4(FR:aT n η Z F a.tmps){x':Option Operand}{x:Option bO}(hx:AJ x'=some x){d:Int}{c:Cd}{i:Int}(e:vL F x d=some (c,i))(hc:c):(x'=none/\i=d)∨∃ y k,x'=some y/\a.eval y=.int k i:=by
 cases x' with
 | none =>
   cases hx;cases e;exact .inl ⟨rfl,rfl⟩
 | some y =>
   simp only[AJ] at hx;split at hx;rename_i z hz;cases hx;simp only[vL] at e;split at e;rename_i c' k n' hk;cases e;exact .inr ⟨y,k,rfl,cI FR hz hk hc⟩;cases e;cases hx
theorem oV{k:IntKind}{i:Int}{y:Nat}{code:BoundsCode}(h0:0<=i)(h1:i<=y):(Instr.sliceBound (.int k i) y code).run P w=.ok i.toNat w:=by
 simp[Instr.sliceBound,asIntOf,h0,h1]
theorem vO{isS:Bool}{len cap:Nat}{lo hi:Option Operand}{l h:Int}(hc:len<=cap)(hl:(lo=none/\l=0)∨∃ y k,lo=some y/\a.eval y=.int k l)(hh:(hi=none/\h=len)∨∃ y k,hi=some y/\a.eval y=.int k h)(h0:0<=l)(h1:l<=h)(h2:h<=len) :
 (Instr.sliceBounds isS len cap (lo.map a.eval) (hi.map a.eval) none).run P w=.ok (l.toNat,h.toNat,cap) w:=by
 have e1:h<=(cap:Int):=by omega
 have e2:l<=((h.toNat:Nat):Int):=by omega
 rcases hh with ⟨rfl,rfl⟩|⟨y,k,rfl,hy⟩;rcases hl with ⟨rfl,rfl⟩|⟨z,k',rfl,hz⟩;simp[Instr.sliceBounds];have:=oV (P:=P) (w:=w) (k:=k') (code:=.sliceB) h0 (y:=len) (by omega);simp[Instr.sliceBounds,hz,this];rcases hl with ⟨rfl,rfl⟩|⟨z,k',rfl,hz⟩;have:=fun code=>oV (P:=P) (w:=w) (k:=k) (code:=code) (y:=cap) (i:=h) (by omega) e1;simp[Instr.sliceBounds,hy,this];have:=fun code=>oV (P:=P) (w:=w) (k:=k) (code:=code) (y:=cap) (i:=h) (by omega) e1;have t:=oV (P:=P) (w:=w) (k:=k') (code:=.sliceB) h0 e2;simp[Instr.sliceBounds,hy,hz,this,t]
theorem nO{t el:TypeId}{sz:Nat}(hu:P.underlying t=some (.slice el))(hs:ig P el=some sz){ad:Option Addr}{len cap:Nat}{lo hi:Option Operand}{l h:Int}(hc:len<=cap)
 (hl:(lo=none/\l=0)∨∃ y k,lo=some y/\a.eval y=.int k l) (hh:(hi=none/\h=len)∨∃ y k,hi=some y/\a.eval y=.int k h) (h0:0<=l) (h1:l<=h) (h2:h<=len) :
 (Instr.sliceAt t (.slice ad len cap) (lo.map a.eval) (hi.map a.eval) none).run P w=.ok (.slice (if cap=l.toNat then ad else ad.map (·.add (l.toNat*sz))) (h.toNat-l.toNat) (cap-l.toNat)) w:=by
 simp only[Instr.sliceAt,Sem.run_bind,run_underlying hu,Result.andThen_ok,Instr.slice,vO hc hl hh h0 h1 h2,dP hs,Sem.run_pure]
theorem QC(FR:aT n η Z F a.tmps){t el:TypeId}{sz:Nat}(hu:P.underlying t=some (.slice el))(hs:ig P el=some sz)(hsz:sz≠0){x':Operand}{x:bO}{lo' hi':Option Operand}{lo hi:Option bO}(hx:bV x'=some x)(hlo:AJ lo'=some lo)(hhi:AJ hi'=some hi)
 {c:Cd} {v:V} (e:dY F S (.slice sz x lo hi)=some (c,v)) (hc:c):bP P η Z w (do pure (Next.value (<-Instr.sliceAt t (a.eval x') (lo'.map a.eval) (hi'.map a.eval) none))) v:=by
 simp only[dY] at e;split at e;rename_i p hv;split at e;rename_i q l r h hl hh;cases e;obtain⟨hp,hq,hr,rfl,rfl⟩:=hc;have:=(aC FR hx hv hp).2.nil_eq;rw[this];have hrun:=nO (P:=P) (w:=w) (a:=a) hu hs (ad:=none) (len:=0) (cap:=0) (Nat.le_refl _) (j4 FR hlo hl hq) (j4 FR hhi hh hr) (by omega) (by omega) (by omega);exact bP.of hrun ⟨by simp,by simp[au,aF]⟩;cases e;rename_i p m off len sz' hv;obtain⟨rfl,e⟩:=dA e;split at e;rename_i q l r h hl hh;cases e;obtain⟨hp,hq,hr,h0,h1,h2⟩:=hc;obtain⟨_,⟨ZJ,hev⟩|⟨pl,cap,ad,hpl,hev,hcap,hroom,had⟩⟩:=aC FR hx hv hp;subst ZJ;rw[hev];have hrun:=nO (P:=P) (w:=w) (a:=a) hu hs (ad:=none) (len:=0) (cap:=0) (Nat.le_refl _) (j4 FR hlo hl hq) (j4 FR hhi hh hr) h0 h1 h2;refine bP.of hrun ⟨by simp,?_⟩;refine .inl ⟨by omega,?_⟩;have e1:h.toNat-l.toNat=0:=by omega
 simp[e1];rw[hev];have hrun:=nO (P:=P) (w:=w) (a:=a) hu hs (ad:=some ad) hcap (j4 FR hlo hl hq) (j4 FR hhi hh hr) h0 h1 h2;refine bP.of hrun ⟨by simp,?_⟩;refine .inr ⟨pl,cap-l.toNat,if cap=l.toNat then ad else ad.add (l.toNat*sz'),hpl,?_,by omega,?_,?_⟩;have:h.toNat-l.toNat=(h-l).toNat:=by omega
 rw[this];split<;>rfl;have:(cap-l.toNat)*sz'+l.toNat*sz'=cap*sz':=by rw[<-Nat.add_mul];congr 1;omega
 omega;by_cases bK:cap=l.toNat;exact .inl (by omega);rcases had with rfl|rfl;exact .inl (by omega);rw[if_neg bK,Addr.add_lit];exact .inr (by simp);cases e;rename_i p sz' cs hv;obtain⟨rfl,e⟩:=dA e;split at e;rename_i q l r h hl hh;cases e;obtain⟨hp,hq,hr,h0,h1,h2⟩:=hc;obtain⟨ad,len,cap,hev,bE,hcap,hcs⟩:=(aC FR hx hv hp).2.ro;have yL:cs.length/sz'=len:=by rw[bE];exact Nat.mul_div_cancel _ (by omega)
 rw[yL] at h2 hh;rw[hev];have hrun:=nO (P:=P) (w:=w) (a:=a) hu hs (ad:=ad) hcap (j4 FR hlo hl hq) (j4 FR hhi hh hr) h0 h1 h2;refine bP.of hrun ⟨by simp,?_⟩;simp only[au,aF];refine⟨_,_,_,rfl,?_,by omega,?_⟩;simp only[List.length_drop,List.length_take,bE];have:h.toNat*sz'<=len*sz':=Nat.mul_le_mul_right _ (by omega);rw[Nat.min_eq_left this,<-Nat.sub_mul];rcases hcs with rfl|⟨b,off,cells,rfl,hz,hf⟩;exact .inl (by simp);by_cases bK:cap=l.toNat;left;apply List.eq_nil_of_length_eq_zero;simp only[List.length_drop,List.length_take,bE];have:h.toNat*sz'<=l.toNat*sz':=Nat.mul_le_mul_right _ (by omega);omega;right;refine⟨b,off+l.toNat*sz',cells,?_,hz,?_⟩;rw[if_neg bK];simp[Addr.add_lit];exact(hf.take _).drop _;cases e
 rotate_left
 rename_i p sz' cs hv;obtain⟨rfl,e⟩:=dA e;split at e;rename_i q l r h hl hh;cases e;obtain⟨hp,hq,hr,h0,h1,h2⟩:=hc;obtain⟨ad,len,cap,hev,bE,hcap,hcs⟩:=(aC FR hx hv hp).2.rs;have yL:cs.length/sz'=len:=by rw[bE];exact Nat.mul_div_cancel _ (by omega)
 rw[yL] at h2 hh;rw[hev];have hrun:=nO (P:=P) (w:=w) (a:=a) hu hs (ad:=ad) hcap (j4 FR hlo hl hq) (j4 FR hhi hh hr) h0 h1 h2;refine bP.of hrun ⟨by simp,au.ZI ?_⟩;refine⟨_,_,_,rfl,?_,by omega,?_⟩;simp only[List.length_drop,List.length_take,bE];have:h.toNat*sz'<=len*sz':=Nat.mul_le_mul_right _ (by omega);rw[Nat.min_eq_left this,<-Nat.sub_mul];rcases hcs with rfl|⟨b,off,cells,rfl,hz,hf⟩;exact .inl (by simp);by_cases bK:cap=l.toNat;left;apply List.eq_nil_of_length_eq_zero;simp only[List.length_drop,List.length_take,bE];have:h.toNat*sz'<=l.toNat*sz':=Nat.mul_le_mul_right _ (by omega);omega;right;refine⟨b,off+l.toNat*sz',cells,?_,hz,?_⟩;rw[if_neg bK];simp[Addr.add_lit];exact(hf.take _).drop _;cases e;cases e;rename_i p d xs hv;obtain⟨hs1,e2⟩:=dA e;subst hs1;split at e2;rename_i q l r h hl hh;cases e2;obtain⟨hp,hq,hr,h0,h1,h2⟩:=hc;obtain⟨ad,len,cap,hev,bE,hcap,hcs⟩:=(aC FR hx hv hp).2.rd;rw[bE] at h2 hh;rw[hev];have hrun:=nO (P:=P) (w:=w) (a:=a) hu hs (ad:=ad) hcap (j4 FR hlo hl hq) (j4 FR hhi hh hr) h0 h1 h2;refine bP.of hrun ⟨by simp,?_⟩;simp only[au,aF,cG];refine⟨_,_,_,rfl,?_,by omega,?_⟩;simp only[List.length_drop,List.length_take,bE];rw[Nat.min_eq_left (by omega)];rcases hcs with rfl|⟨b,off,cells,rfl,hz,hf⟩;exact .inl (by simp);by_cases bK:cap=l.toNat;left;apply List.eq_nil_of_length_eq_zero;simp only[List.length_drop,List.length_take,bE];omega;right;refine⟨b,off+l.toNat,cells,?_,hz,?_⟩;rw[if_neg bK];simp[Addr.add_lit];exact(hf.take _).drop _;cases e2
theorem NI(FR:aT n η Z F a.tmps){t:TypeId}(hu:P.underlying t=some .string){x':Operand}{x:bO}{lo' hi':Option Operand}{lo hi:Option bO}(hx:bV x'=some x)(hlo:AJ lo'=some lo)(hhi:AJ hi'=some hi)
 {c:Cd} {v:V} (e:dY F S (.Kq x lo hi)=some (c,v)) (hc:c):bP P η Z w (do pure (Next.value (<-Instr.sliceAt t (a.eval x') (lo'.map a.eval) (hi'.map a.eval) none))) v:=by
 simp only[dY] at e;split at e;rename_i p s hv;split at e;rename_i q l r h hl hh;cases e;obtain⟨hp,hq,hr,h0,h1,h2⟩:=hc;rw[nN FR hx hv hp];have hb:=vO (P:=P) (w:=w) (a:=a) (isS:=false) (Nat.le_refl s.size) (j4 FR hlo hl hq) (j4 FR hhi hh hr) h0 h1 h2;refine bP.of (u:=.string (s.extract l.toNat h.toNat)) ?_ rW;simp[Instr.sliceAt,run_underlying hu,Instr.slice,hb];cases e;cases e
theorem Gu(FR:aT n η Z F a.tmps){t el:TypeId}{sz:Nat}(hu:P.underlying t=some (.slice el))(hs:ig P el=some sz)(hsz:sz≠0){x' i':Operand}{x i:bO}(hx:bV x'=some x)(hi:bV i'=some i)
 {c:Cd} {v:V} (e:dY F S (.indexAddr sz x i)=some (c,v)) (hc:c):bP P η Z w (do pure (Next.value (<-Instr.indexAt t (a.eval x') (a.eval i')))) v:=by
 simp only[dY] at e;split at e;rename_i p m off len sz' q k j hv hk;obtain⟨rfl,e⟩:=dA e;cases e;obtain⟨hp,hq,h0,h1⟩:=hc;obtain⟨_,⟨ZJ,hev⟩|⟨pl,cap,ad,hpl,hev,hcap,hroom,had⟩⟩:=aC FR hx hv hp;omega;rw[hev,cI FR hi hk hq];have hca:ad=⟨pl.block,pl.off+off,none⟩:=by
  rcases had with rfl|rfl;omega;rfl
 subst hca;refine bP.of (u:=.pointer (some ⟨pl.block,pl.off+off+j.toNat*sz',none⟩)) ?_ ?_;simp[Instr.indexAt,asIntOf,run_underlying hu,h0,h1,dP hs,Addr.add_lit]
 . cases hb:Nat.beq sz' 1 with
   | false=>exact⟨by simp,pl,hpl,by simp[Nat.add_assoc]⟩
   | true =>
     have:sz'=1:=Nat.eq_of_beq_eq_true hb;subst this;exact⟨by simp,pl,hpl,by simp[Nat.add_assoc]⟩
 rename_i p sz' cs q k j hv hk;obtain⟨rfl,e⟩:=dA e;cases e;obtain⟨hp,hq,h0,h1⟩:=hc;obtain⟨ad,len,cap,hev,bE,hcap,hcs⟩:=(aC FR hx hv hp).2.ro;rw[hev,cI FR hi hk hq];rcases hcs with rfl|⟨b,off,cells,rfl,hz,hf⟩;simp at h1;have h2:j<(len:Int):=by
  rw[bE] at h1;have:=Nat.lt_of_mul_lt_mul_right h1;omega
 refine bP.of (u:=.pointer (some ⟨b,off+j.toNat*sz',none⟩)) ?_ ⟨by simp,?_⟩;simp[Instr.indexAt,asIntOf,run_underlying hu,h0,h2,dP hs,Addr.add_lit];simp only[au,aF];exact⟨b,off,cells,rfl,hz,hf⟩;rename_i p d l q k j hv hk;obtain⟨hs1,e2⟩:=dA e;subst hs1;cases e2;obtain⟨hp,hq,h0,h1⟩:=hc;obtain⟨ad,len,cap,hev,bE,hcap,hcs⟩:=(aC FR hx hv hp).2.rd;rw[hev,cI FR hi hk hq];rcases hcs with rfl|⟨b,off,cells,rfl,hz,hf⟩;simp at h1;omega;have h2:j<(len:Int):=by omega
 refine bP.of (u:=.pointer (some ⟨b,off+j.toNat,none⟩)) ?_ ⟨by simp,?_⟩;simp[Instr.indexAt,asIntOf,run_underlying hu,h0,h2,dP hs,Addr.add_lit];simp only[au,aF];exact⟨b,off,cells,rfl,hz,hf⟩;rename_i p m r len q k j hv hk;obtain⟨hs1,e2⟩:=dA e;subst hs1;cases e2;obtain⟨hp,hq,h0,h1⟩:=hc;obtain⟨_,pl,r0,cap,ad,hpl,hr,hev,hcap,had⟩:=aC FR hx hv hp;rw[had (by omega)] at hev;rw[hev,cI FR hi hk hq];refine bP.of (u:=.pointer (some ⟨r0.1,r0.2+j.toNat,none⟩)) ?_ ⟨by simp,pl,r0,hpl,hr,rfl⟩;simp[Instr.indexAt,asIntOf,run_underlying hu,h0,h1,dP hs,Addr.add_lit];rename_i p sz' cs q k j hv hk;obtain⟨rfl,e⟩:=dA e;cases e;obtain⟨hp,hq,h0,h1⟩:=hc;obtain⟨ad,len,cap,hev,bE,hcap,hcs⟩:=(aC FR hx hv hp).2.rs;rw[hev,cI FR hi hk hq];rcases hcs with rfl|⟨b,off,cells,rfl,hz,hf⟩;simp at h1;have h2:j<(len:Int):=by
  rw[bE] at h1;have:=Nat.lt_of_mul_lt_mul_right h1;omega
 refine bP.of (u:=.pointer (some ⟨b,off+j.toNat*sz',none⟩)) ?_ ⟨by simp,?_⟩;simp[Instr.indexAt,asIntOf,run_underlying hu,h0,h2,dP hs,Addr.add_lit];simp only[au,aF];exact⟨b,off,cells,rfl,hz,hf⟩;cases e
theorem EP(FR:aT n η Z F a.tmps){t el:TypeId}{sz len:Nat}(hu:P.underlying t=some (.array len el))(hs:ig P el=some sz){x' i':Operand}{x i:bO}(hx:bV x'=some x)(hi:bV i'=some i)
 {c:Cd} {v:V} (e:dY F S (.yJ len sz x i)=some (c,v)) (hc:c):bP P η Z w (do pure (Next.value (<-Instr.indexAt t (a.eval x') (a.eval i')))) v:=by
 simp only[dY] at e;split at e;rename_i p m off q k j hv hk;cases e;obtain⟨hp,hq,h0,h1⟩:=hc;obtain⟨_,pl,hpl,hev⟩:=aC FR hx hv hp;rw[hev,cI FR hi hk hq];refine bP.of (u:=.pointer (some ⟨pl.block,pl.off+off+j.toNat*sz,none⟩)) ?_ ?_;simp[Instr.indexAt,asIntOf,run_underlying hu,h0,h1,dP hs,Addr.add_lit,Instr.sureAddr]
 . cases hb:Nat.beq sz 1 with
   | false=>exact⟨by simp,pl,hpl,by simp[Nat.add_assoc]⟩
   | true =>
     have:sz=1:=Nat.eq_of_beq_eq_true hb;subst this;exact⟨by simp,pl,hpl,by simp[Nat.add_assoc]⟩
 rename_i p cs off q k j hv hk;cases e;obtain⟨hp,hq,h0,h1⟩:=hc;obtain⟨b,o,cells,hev,hz,hf⟩:=(aC FR hx hv hp).2.rp;rw[hev,cI FR hi hk hq];refine bP.of (u:=.pointer (some ⟨b,o+off+j.toNat*sz,none⟩)) ?_ ⟨by simp,?_⟩;simp[Instr.indexAt,asIntOf,run_underlying hu,h0,h1,dP hs,Addr.add_lit,Instr.sureAddr];simp only[au,aF];exact⟨b,o,cells,by simp[Nat.add_assoc],hz,hf⟩;rename_i p d l off q k j hv hk;cases e;obtain⟨hp,hq,h0,h1⟩:=hc;obtain⟨b,o,cells,hev,hz,hf⟩:=(aC FR hx hv hp).2.re;rw[hev,cI FR hi hk hq];refine bP.of (u:=.pointer (some ⟨b,o+off+j.toNat*sz,none⟩)) ?_ ⟨by simp,?_⟩;simp[Instr.indexAt,asIntOf,run_underlying hu,h0,h1,dP hs,Addr.add_lit,Instr.sureAddr];simp only[au,aF];exact⟨b,o,cells,by simp[Nat.add_assoc],hz,hf⟩;cases e
theorem Gv(FR:aT n η Z F a.tmps){s:TypeId}{fs:_}(hu:P.underlying s=some (.struct fs)){f:Nat}{fd:_}(hf:fs[f]? = some fd){k:Nat}(hs:ig P fd.type=some k)(hk:k≠0){x':Operand}{x:bO}(hx:bV x'=some x)
 {c:Cd} {v:V} (e:dY F S (.fieldAddr fd.offset x)=some (c,v)) (hc:c):bP P η Z w (do pure (Next.value (<-Instr.fieldAt s (a.eval x') f))) v:=by
 simp only[dY] at e;split at e;rename_i p m off hv;cases e;obtain⟨_,pl,hpl,hev⟩:=aC FR hx hv hc;rw[hev];refine bP.of (u:=.pointer (some ⟨pl.block,pl.off+off+fd.offset,none⟩)) ?_ ⟨by simp,pl,hpl,by simp[Nat.add_assoc]⟩;simp[Instr.fieldAt,run_underlying hu,hf,Instr.sureAddr,fieldPlace,dP hs,hk,Addr.add_lit];rename_i p cs off hv;cases e;obtain⟨b,o,cells,hev,hz,hfs⟩:=(aC FR hx hv hc).2.rp;rw[hev];refine bP.of (u:=.pointer (some ⟨b,o+off+fd.offset,none⟩)) ?_ ⟨by simp,?_⟩;simp[Instr.fieldAt,run_underlying hu,hf,Instr.sureAddr,fieldPlace,dP hs,hk,Addr.add_lit];simp only[au,aF];exact⟨b,o,cells,by simp[Nat.add_assoc],hz,hfs⟩;rename_i p d l i hv;cases e;obtain⟨b,o,cells,hev,hz,hfs⟩:=(aC FR hx hv hc).2.re;rw[hev];refine bP.of (u:=.pointer (some ⟨b,o+i+fd.offset,none⟩)) ?_ ⟨by simp,?_⟩;simp[Instr.fieldAt,run_underlying hu,hf,Instr.sureAddr,fieldPlace,dP hs,hk,Addr.add_lit];simp only[au,aF];exact⟨b,o,cells,by simp[Nat.add_assoc],hz,hfs⟩;cases e
theorem aI.drop{α β:Type}{R:α->β->Prop}:∀{l:List α}{m:List β}(n:Nat),aI R l m->aI R (l.drop n) (m.drop n)
 | _,_,0,h=>h
 | [],[],_+1,_=>trivial
 | _::_,_::_,n+1,⟨_,h⟩=>by simpa using aI.drop n h
theorem aI.take{α β:Type}{R:α->β->Prop}:∀{l:List α}{m:List β}(n:Nat),aI R l m->aI R (l.take n) (m.take n)
 | _,_,0,_=>trivial
 | [],[],_+1,_=>trivial
 | _::_,_::_,n+1,⟨a,h⟩=>⟨a,aI.take n h⟩
theorem QD(FR:aT n η Z F a.tmps){t:TypeId}{fs:_}(hu:P.underlying t=some (.struct fs)){f:Nat}{fd:_}(hf:fs[f]? = some fd)(hag:tH P fd.type=some false){d:W}{x':Operand}{x:bO}(hx:bV x'=some x)
 {c:Cd} {v:V} (e:dY F S (.field fd.offset d x)=some (c,v)) (hc:c):bP P η Z w (do pure (Next.value (<-Instr.field t (a.eval x') f))) v:=by
 simp only[dY] at e;split at e;rename_i p cs hv;split at e;rename_i y hy;cases e;obtain⟨vs,hev,hd,hl⟩:=ew FR hx hv hc;rw[hev];obtain⟨u,h1,h2⟩:=hl.get hy;refine bP.of (u:=u) ?_ ⟨hd _ (List.mem_of_getElem? hy),h2⟩;simp[Instr.field,run_underlying hu,hf,asAgg,part,p7 hag,h1];cases e;cases e
theorem NJ(FR:aT n η Z F a.tmps){t:TypeId}{fs:_}(hu:P.underlying t=some (.struct fs)){f:Nat}{fd:_}(hf:fs[f]? = some fd)(hag:tH P fd.type=some true){k:Nat}(hs:ig P fd.type=some k){x':Operand}{x:bO}(hx:bV x'=some x)
 {c:Cd} {v:V} (e:dY F S (.Kp fd.offset k x)=some (c,v)) (hc:c):bP P η Z w (do pure (Next.value (<-Instr.field t (a.eval x') f))) v:=by
 simp only[dY] at e;split at e;rename_i p cs hv;obtain⟨_,e⟩:=ah.ay e;cases e;obtain⟨vs,hev,hd,hl⟩:=ew FR hx hv hc;rw[hev];refine bP.of (u:=.agg ((vs.drop fd.offset).take k).toArray) ?_ ⟨_,rfl,fun y hy=>hd y (List.mem_of_mem_drop (List.mem_of_mem_take hy)),(hl.drop _).take _⟩;simp[Instr.field,run_underlying hu,hf,asAgg,part,p7 hag,dP hs,List.extract_toArray,Nat.add_sub_cancel_left];cases e
theorem Tg(FR:aT n η Z F a.tmps){t el ty:TypeId}{sz:Nat}(hu:P.underlying t=some (.slice el))(hsz:sz≠0){x':Operand}{x:bO}(hx:bV x'=some x)
 {c:Cd} {v:V} (e:dY F S (.llen sz x)=some (c,v)) (hc:c):bP P η Z w (do pure (Next.value (<-Builtin.len_ #[t] ty #[a.eval x']))) v:=by
 simp only[dY] at e;split at e;rename_i p hv;cases e;rw[(aC FR hx hv hc).2.nil_eq];exact bP.of (u:=goInt 0) (by simp[Builtin.len_,run_underlying hu]) eP;rename_i p m off len sz' hv;cases e;obtain⟨_,⟨ZJ,hev⟩|⟨pl,cap,ad,hpl,hev,_⟩⟩:=aC FR hx hv hc;subst ZJ;rw[hev];exact bP.of (u:=goInt 0) (by simp[Builtin.len_,run_underlying hu]) eP;rw[hev];exact bP.of (u:=goInt len) (by simp[Builtin.len_,run_underlying hu]) eP;rename_i p sz' cs hv;obtain⟨rfl,e⟩:=dA e;cases e;obtain⟨ad,len,cap,hev,bE,_⟩:=(aC FR hx hv hc).2.ro;have yL:cs.length/sz'=len:=by rw[bE];exact Nat.mul_div_cancel _ (by omega)
 rw[hev,yL];exact bP.of (u:=goInt len) (by simp[Builtin.len_,run_underlying hu]) eP;rename_i p d l hv;cases e;obtain⟨ad,len,cap,hev,bE,_⟩:=(aC FR hx hv hc).2.rd;rw[hev,bE];exact bP.of (u:=goInt len) (by simp[Builtin.len_,run_underlying hu]) eP;rename_i p m r len hv;cases e;obtain⟨_,pl,r0,cap,ad,hpl,hr,hev,hcap,had⟩:=aC FR hx hv hc;rw[hev];exact bP.of (u:=goInt len) (by simp[Builtin.len_,run_underlying hu]) eP;rename_i p sz' cs hv;obtain⟨rfl,e⟩:=dA e;cases e;obtain⟨ad,len,cap,hev,bE,_⟩:=(aC FR hx hv hc).2.rs;have yL:cs.length/sz'=len:=by rw[bE];exact Nat.mul_div_cancel _ (by omega)
 rw[hev,yL];exact bP.of (u:=goInt len) (by simp[Builtin.len_,run_underlying hu]) eP;cases e
theorem KC(FR : aT n η Z F a.tmps) : ∀{l' : List Operand}{l : List bO}, p8 l' = some l → ∀{c : Cd}{r : List (Nat × Nat)}, AF F l = some (c, r) → c → aI (dJ η) r (l'.map a.eval)
 | [],l,hl,c,r,e,hc=>by
   cases hl;simp only[AF] at e;cases e;trivial
 | x :: l', l, hl, c, r, e, hc => by
   simp only[p8] at hl;split at hl;rename_i y hy;split at hl;rename_i l2 hl2;cases hl;simp only[AF] at e;split at e;rename_i p m off hv;split at e;rename_i d r' hr';cases e;exact⟨(aC FR hy hv hc.1).2,KC FR hl2 hr' hc.2⟩;cases e;cases e;cases hl;cases hl
theorem KD:∀{cs:List W}{vs:List Value}{l:List W}{m:List Value}{off:Nat},aI (au η Z) l m->aI (au η Z) cs vs->aI (au η Z) (kB l off cs) (ah.wJ m off vs)
 | [],[],_,_,_,h,_=>h
 | _::_,_::_,_,_,_,h,⟨a,b⟩=>by rw[kB,ah.wJ];exact KD (h.set a) b
theorem Iq:∀{cs l:List W}{off:Nat},(∀ x∈l,x≠.dm)->(∀ x∈cs,x≠.dm)->∀ x∈kB l off cs,x≠.dm
 | [],_,_,h,_,x,hx=>h x hx
 | c::cs,l,off,h,k,x,hx=>by
   rw[kB] at hx;refine Iq (fun y hy=>?_) (fun y hy=>k y (List.mem_cons_of_mem _ hy)) x hx;rcases List.mem_or_eq_of_mem_set hy with h1|h1;exact h y h1;subst h1;exact k y (by simp)
theorem wQ(FR:aT n η Z F a.tmps){place:Nat->Option (Nat×Nat)}:∀{l:List (Nat×Operand)}{ps:List (Nat×Nat×bO)}{cs out:List W}{q:Cd}{c:Array Value},uJ place l=some ps->aI (au η Z) cs c.toList->(∀ x∈cs,x≠.dm)->xG F cs ps=some (q,out)->q->
 ∃ c',Instr.fill place c (l.map fun(i,x)=>(i,a.eval x))=some c'/\aI (au η Z) out c'.toList/\∀ x∈out,x≠.dm
 | [],ps,cs,out,q,c,h,hl,hd,e,_=>by
   cases h;simp only[xG] at e;cases e;exact⟨c,rfl,hl,hd⟩
 | (i, x) :: l, ps, cs, out, q, c, h, hl, hd, e, hq => by
   simp only[uJ] at h;split at h;rename_i off k y r h1 h2 h3;cases h;simp only[xG] at e;split at e;rename_i p v hv;obtain⟨hb,e⟩:=ah.ay e;split at e;rename_i q' out' ho;cases e;simp only[Bool.and_eq_true,Nat.beq_eq,Nat.ble_eq] at hb;obtain⟨g1,g2,_⟩:=(ew FR h2 hv hq.1).cells;have e1:(a.eval x).cells.size=k:=by have:=g1.length;rw[<-hb.1,this];simp
   have e2:c.size=cs.length:=by have:=hl.length;rw[this];simp
   have hput:aI (au η Z) (kB cs off v.cells) (((a.eval x).cells.zipIdx.foldl (fun(cs:Array Value) (x:Value×Nat)=>cs.setIfInBounds (off+x.2) x.1) c)).toList:=by
    rw[<-Array.foldl_toList,Array.toList_zipIdx,ah.vF];simpa using KD hl g1
   obtain⟨c',h4,h5⟩:=wQ FR h3 hput (Iq hd g2) ho hq.2;refine⟨c',?_,h5⟩;have h6:¬(off+k>c.size):=by omega
   simp only[List.map_cons,Instr.fill,h1,e1];simp only[ne_eq,not_true_eq_false,decide_false,h6,Bool.or_self,Bool.false_eq_true,if_false];exact h4;cases e;cases e;cases h
theorem KE:∀{fs:List Field}{l:List (Nat×Nat)},Kn P fs=some l->(fs.mapM (fun f=>do Pure.pure (f.offset,<-sizeOf f.type)):Sem (List (Nat×Nat))).run P w=.ok l w
 | [],l,e=>by cases e;simp
 | f :: fs, l, e => by
   simp only[Kn] at e;split at e;rename_i k r h1 h2;cases e;have:=KE h2;simp only[List.mapM_cons,Sem.run_bind,dP h1,Result.andThen_ok,Sem.run_pure] at this ⊢;rw[this];simp;cases e
theorem KF{n:Nat}{η:Eta}{Z:ar}:au η Z (.rs n []) (.slice none 0 0):=by
 simp only[au,aF,dF];exact⟨none,0,0,rfl,by simp,Nat.le_refl _,.inl trivial⟩
theorem KG{η : Eta}{Z : ar} : ∀{zs : List PV}{l : List W}{m : List Value}, aI (au η Z) l m → (∀ x ∈ l, x ≠ .dm) → aI (au η Z) (wP zs l) m ∧ ∀ x ∈ wP zs l, x ≠ .dm := by
 intro zs
 induction zs with
 | nil=>intro l m h hd;simpa only[wP] using ⟨h,hd⟩
 | cons z zs ih =>
   intro l m h hd;cases l with
   | nil=>cases z<;>simpa only[wP] using ⟨h,hd⟩
   | cons x l =>
     cases m with
     | nil=>exact h.elim
     | cons v m =>
       obtain⟨a,b⟩:=ih h.2 (fun y hy=>hd y (List.mem_cons_of_mem _ hy));have plain:aI (au η Z) (x::wP zs l) (v::m)/\∀ y∈x::wP zs l,y≠.dm:=by
        refine⟨⟨h.1,a⟩,fun y hy=>?_⟩;rcases List.mem_cons.1 hy with rfl|hy;exact hd _ (by simp);exact b y hy
       unfold wP;split;rename_i hx;cases hx;rename_i hx;cases hx;have hv:v=.slice none 0 0:=h.1.nil_eq;subst hv;refine⟨⟨KF,a⟩,fun y hy=>?_⟩;rcases List.mem_cons.1 hy with rfl|hy;intro h;cases h;exact b y hy;rename_i h1 h2;cases h1;cases h2;exact plain;exact⟨h,hd⟩
theorem Di{t:TypeId}{zs:List W}(e:kr P t=some zs):∃ z,(zeroValue t).run P w=.ok z w/\aI (au η Z) zs z.cells.toList/\∀ x∈zs,x≠.dm:=by
 unfold kr at e;split at e;rename_i i hi;split at e;rename_i z hz;split at e;rename_i l hl;cases e;obtain⟨h1,h2,_⟩:=yI (η:=η) (Z:=Z) hl;obtain⟨h1,h2⟩:=KG (zs:=shapes P t) h1 h2;exact⟨z,by simp[zeroValue,typeInfo,hi,hz],h1,h2⟩;cases e;cases e;cases e
theorem QE(FR:aT n η Z F a.tmps){t:TypeId}{fs:Array Field}(hu:P.underlying t=some (.struct fs)){z:List W}(hz:kr P t=some z){pl:List (Nat×Nat)}(hpl:Kn P fs.toList=some pl){parts:Array (Nat×Operand)}{ps:List (Nat×Nat×bO)}(hp:uJ (fun i=>pl[i]?) parts.toList=some ps){c:Cd}{v:V}(e:dY F S (.build z ps)=some (c,v))(hc:c) :
 bP P η Z w (do pure (Next.value (<-Instr.build t (parts.map fun(i,x)=>(i,a.eval x))))) v:=by
 simp only[dY] at e;split at e;rename_i p cs hb;cases e;obtain⟨zv,Dj,hz1,hz2⟩:=Di (η:=η) (Z:=Z) (w:=w) hz;obtain⟨c',h1,h2,h3⟩:=wQ FR hp hz1 hz2 hb hc;refine bP.of (u:=.agg c') ?_ ⟨c'.toList,by simp,h3,h2⟩;have hm:(fs.mapM (fun f=>do Pure.pure (f.offset,<-sizeOf f.type)):Sem (Array (Nat×Nat))).run P w=.ok pl.toArray w:=by
  rw[<-Array.toArray_toList (xs:=fs),List.mapM_toArray];have:=KE (w:=w) hpl;simp only[Sem.run_map,this,Result.andThen_ok]
 have hg:(fun i:Nat=>(pl.toArray)[i]?)=fun i=>pl[i]?:=by funext i;simp
 simp only[Instr.build,Sem.run_bind,Dj,Result.andThen_ok,run_underlying hu,hm,hg,Array.toList_map,h1];rfl;cases e
theorem NK(FR:aT n η Z F a.tmps){t el:TypeId}{len sz:Nat}(hu:P.underlying t=some (.array len el)){z:List W}(hz:kr P t=some z)(hs:ig P el=some sz){parts:Array (Nat×Operand)}{ps:List (Nat×Nat×bO)}(hp:uJ (fun i=>some (i*sz,sz)) parts.toList=some ps){c:Cd}{v:V}(e:dY F S (.build z ps)=some (c,v))(hc:c) :
 bP P η Z w (do pure (Next.value (<-Instr.build t (parts.map fun(i,x)=>(i,a.eval x))))) v:=by
 simp only[dY] at e;split at e;rename_i p cs hb;cases e;obtain⟨zv,Dj,hz1,hz2⟩:=Di (η:=η) (Z:=Z) (w:=w) hz;obtain⟨c',h1,h2,h3⟩:=wQ FR hp hz1 hz2 hb hc;refine bP.of (u:=.agg c') ?_ ⟨c'.toList,by simp,h3,h2⟩;simp only[Instr.build,Sem.run_bind,Dj,Result.andThen_ok,run_underlying hu,dP hs,Array.toList_map,h1];rfl;cases e
theorem QF{a b:ByteArray}:(a==b)=decide (a=b):=by
 have h:(a==b)=(a.data==b.data):=rfl;rw[h,Bool.eq_iff_iff,beq_iff_eq,decide_eq_true_iff];exact⟨fun e=>ByteArray.ext e,fun e=>by rw[e]⟩
theorem eqD_run{t:TypeId}{u:TypeDesc}{d:D}(hu:P.underlying t=some u)(hk:vJ u=some d){x y:W}{v v':Value}{b:Bool}(hx:au η Z x v)(hy:au η Z y v')(e:Im d x y=some b)(k:Nat):(Op.equalIn (k+1) t v v').run P w=.ok b w:=by
 cases d with
 | int k0 =>
   cases x<;>simp only[Im] at e<;>try cases e
   cases y<;>simp only[] at e<;>try cases e
   rename_i k1 i k2 j;obtain⟨h1,h2⟩:=dA e;subst h1;injection h2 with h2
   subst h2;simp only[au,aF] at hx hy;subst hx hy;cases u<;>simp only[vJ] at hk<;>cases hk;simp only[Op.equalIn,Sem.run_bind,run_underlying hu,Result.andThen_ok,if_true,Sem.run_pure];rfl
 | bool =>
   cases x<;>simp only[Im] at e<;>try cases e
   cases y<;>simp only[] at e<;>try cases e
   simp only[au,aF] at hx hy;subst hx hy;cases u<;>simp only[vJ] at hk<;>cases hk;simp only[Op.equalIn,Sem.run_bind,run_underlying hu,Result.andThen_ok,Sem.run_pure]
 | str =>
   cases x<;>simp only[Im] at e<;>try cases e
   cases y<;>simp only[] at e<;>try cases e
   simp only[au,aF] at hx hy;subst hx hy;cases u<;>simp only[vJ] at hk<;>cases hk;simp only[Op.equalIn,Sem.run_bind,run_underlying hu,Result.andThen_ok,Sem.run_pure];congr 1;exact QF
 | sl d=>cases x<;>simp only[Im] at e<;>cases e
 | pv=>cases x<;>simp only[Im] at e<;>cases e
theorem KH{xs ys : List W}{us vs : List Value}(hx : aI (au η Z) xs us)(hy : aI (au η Z) ys vs){g : Field → Option Bool × Unit → Sem (ForInStep (Option Bool × Unit))}
 (hg:∀ f s x y u v b k d,f.name≠ "_"->P.underlying f.type=some k->vJ k=some d->us[f.offset]? = some u->vs[f.offset]? = some v->au η Z x u->au η Z y v->Im d x y=some b->(g f s).run P w=.ok (if b then .yield (none,()) else .done (some false,())) w) :
 ∀{fs:List Field}{QG:List (Nat×D)}{b:Bool},uo P fs=some QG->Ko xs ys QG=some b->(forIn fs (none,()) g:Sem (Option Bool×Unit)).run P w=.ok (if b then none else some false,()) w
 | [],QG,b,h,e=>by
   cases h;cases e;simp
 | f :: fs, QG, b, h, e => by
   simp only[uo] at h;split at h;cases h;rename_i hn;split at h;rename_i k hk;split at h;rename_i d r hd hr;cases h;simp only[Ko] at e;split at e;rename_i x y h1 h2;split at e
   . rename_i b1 b2 h3 h4;cases e;obtain⟨u,hu,hxu⟩:=hx.get h1;obtain⟨v,hv,Dk⟩:=hy.get h2;have:=hg f (none,()) x y u v b1 k d hn hk hd hu hv hxu Dk h3;have ih:=KH hx hy hg hr h4;simp only[List.forIn_cons,Sem.run_bind,this,Result.andThen_ok];cases b1 with
     | true=>simpa using ih
     | false=>simp
   cases e;cases e;cases h;cases h
theorem Ir{t:TypeId}{k:TypeDesc}{d:D}(hu:P.underlying t=some k)(hk:vJ k=some d):tH P t=some false:=by
 unfold tH;rw[hu];cases k<;>simp only[vJ] at hk<;>first|rfl|cases hk
theorem aeq_run{t:TypeId}{fs:Array Field}(hu:P.underlying t=some (.struct fs))(hs:P.stoodInHeld t=false){l:List (Nat×D)}(hl:uo P fs.toList=some l){xs ys:List W}{us vs:List Value}(hx:aI (au η Z) xs us)(hy:aI (au η Z) ys vs){b:Bool}(e:Ko xs ys l=some b)(k:Nat) :
 (Op.equalIn (k+1+1) t (.agg us.toArray) (.agg vs.toArray)).run P w=.ok b w:=by
 rw[Op.equalIn];simp only[Sem.run_bind,run_underlying hu,Result.andThen_ok];have hp:Sem.run P program w=.ok P w:=rfl;simp only[hp,Result.andThen_ok,hs,Bool.false_eq_true,if_false,<-Array.forIn_toList,Sem.run_bind];rw[KH hx hy (fun f s x y u v b k' d hn hk hd hu' hv' hxu Dk he=>?_) hl e];cases b<;>simp;have h1:(part f.type us.toArray f.offset).run P w=.ok u w:=by simp[part,p7 (Ir hk hd),hu']
 have h2:(part f.type vs.toArray f.offset).run P w=.ok v w:=by simp[part,p7 (Ir hk hd),hv']
 simp only[ne_eq,hn,not_false_eq_true,if_true,Sem.run_bind,h1,h2,Result.andThen_ok,eqD_run hk hd hxu Dk he];cases b<;>simp
theorem KI(FR:aT n η Z F a.tmps){t:TypeId}{fs:Array Field}(hu:P.underlying t=some (.struct fs))(hs:P.stoodInHeld t=false)(hgd:P.eqGuardType P.depth t=false){l:List (Nat×D)}(hl:uo P fs.toList=some l){op:BinOp}(hop:op=.eql∨op=.neq){x' y':Operand}{x y:bO}(hx:bV x'=some x)(hy:bV y'=some y){c:Cd}{v:V}(e:dY F S (.aeq op l x y)=some (c,v))(hc:c) :
 bP P η Z w ((do eqGuard op t x' y' (a.eval x') (a.eval y');binOp op t (a.eval x') (a.eval y'):Sem Value) >>= fun u=>Pure.pure (Next.value u)) v:=by
 simp only[dY] at e;split at e;rename_i p xs q ys hvx hvy;split at e;rename_i b hb;cases e;obtain⟨us,h1,_,h3⟩:=ew FR hx hvx hc.1;obtain⟨vs,g1,_,g3⟩:=ew FR hy hvy hc.2;rw[h1,g1];have h4:(Op.equal t (.agg us.toArray) (.agg vs.toArray)).run P w=.ok b w:=aeq_run hu hs hl h3 g3 hb 9998;have hp:Sem.run P program w=.ok P w:=rfl;have h5:(eqGuard op t x' y' (.agg us.toArray) (.agg vs.toArray)).run P w=.ok () w:=by
  rcases hop with rfl|rfl<;>simp[eqGuard,hp,hgd]
 rcases hop with rfl|rfl<;>refine bP.of ?_ jt;have:binOp .eql t (.agg us.toArray) (.agg vs.toArray)=(do pure (.bool (<-Op.equal t (.agg us.toArray) (.agg vs.toArray)))):=rfl;simp only[Sem.run_bind,h5,Result.andThen_ok,this,h4,Sem.run_pure];have:binOp .neq t (.agg us.toArray) (.agg vs.toArray)=(do pure (.bool (!(<-Op.equal t (.agg us.toArray) (.agg vs.toArray))))):=rfl;simp only[Sem.run_bind,h5,Result.andThen_ok,this,h4,Sem.run_pure];cases e;cases e
end
section
variable {P:Program} {base n:Nat} {η:Eta} {Z:ar} {S:af} {w:World} {F:Fr} {a:Act}
theorem W7{s:ByteArray}{i:Nat}(h:i<s.size):s[i]? = some (s.data.toList.getD i 0):=by
 have h1:i<s.data.toList.length:=by simpa using h
 have:s[i]? = some s[i]:=getElem?_pos s i h;rw[this];congr 1;rw[List.getD_eq_getElem?_getD,List.getElem?_eq_getElem h1];rfl
theorem Ti{x:Operand}(h:bV x=some (.w .lT)):x=.const .nilIface:=by
 cases x with
 | tmp t=>cases h
 | global g=>cases h
 | func f=>cases h
 | const v =>
   simp only[bV] at h;split at h;rename_i y hy;cases h;unfold Oj at hy;split at hy;split at hy<;>cases hy;split at hy;rename_i x hx;cases hy;unfold Oh at hx;split at hx<;>cases hx;rfl;cases hy;cases h;cases h
theorem KJ(FR:aT n η Z F a.tmps){t:TypeId}{ms:_}(hu:P.underlying t=some (.interface ms)){op:BinOp}{neg:Bool}(hop:(op=.eql/\neg=false)∨(op=.neq/\neg=true)){x' y':Operand}{x:bO}(hx:bV x'=some x)(hy:bV y'=some (.w .lT))
 {c:Cd} {v:V} (e:dY F S (.ieq neg x)=some (c,v)) (hc:c):bP P η Z w (do pure (Next.value (<-(do eqGuard op t x' y' (a.eval x') (a.eval y');binOp op t (a.eval x') (a.eval y'))))) v:=by
 have hy':=Ti hy;subst hy';have h2:a.eval (.const .nilIface)=.nilIface:=rfl;have h3:(Op.equal t .nilIface .nilIface).run P w=.ok true w:=by
  have d:∀ d:Nat,(Op.equalIn (d+1) t .nilIface .nilIface).run P w=.ok true w:=fun d=>by simp[Op.equalIn,run_underlying hu]
  exact d 9999
 have none_:a.eval x'=.nilIface->bP P η Z w (do pure (Next.value (<-(do eqGuard op t x' (.const .nilIface) (a.eval x') (a.eval (.const .nilIface));binOp op t (a.eval x') (a.eval (.const .nilIface)))))) (.c (.bool (!neg))):=by
  intro h1;rw[h1,h2,eqGuard_nil_constR];rcases hop with ⟨rfl,rfl⟩|⟨rfl,rfl⟩;exact bP.of (u:=.bool true) (by simp[binOp,h3]) jt;exact bP.of (u:=.bool false) (by simp[binOp,h3]) jt
 have some_:∀ t' v',a.eval x'=.iface t' v'->bP P η Z w (do pure (Next.value (<-(do eqGuard op t x' (.const .nilIface) (a.eval x') (a.eval (.const .nilIface));binOp op t (a.eval x') (a.eval (.const .nilIface)))))) (.c (.bool neg)):=by
  intro t' v' h1;have h4:(Op.equal t (.iface t' v') .nilIface).run P w=.ok false w:=by
   have d:∀ d:Nat,(Op.equalIn (d+1) t (.iface t' v') .nilIface).run P w=.ok false w:=fun d=>by simp[Op.equalIn,run_underlying hu]
   exact d 9999
  have hg:eqGuard op t x' (.const .nilIface) (.iface t' v') .nilIface=pure ():=by
   rcases hop with ⟨rfl,_⟩|⟨rfl,_⟩<;>rfl
  rw[h1,h2,hg];rcases hop with ⟨rfl,rfl⟩|⟨rfl,rfl⟩;exact bP.of (u:=.bool false) (by simp[binOp,h4]) jt;exact bP.of (u:=.bool true) (by simp[binOp,h4]) jt
 simp only[dY] at e;split at e;rename_i p hxe;cases e;exact none_ (by have:=(aC FR hx hxe hc).2;simpa only[au,aF] using this);rename_i p t' v' hxe;cases e;have h1:a.eval x'=.iface t' v':=by have:=(aC FR hx hxe hc).2;simp only[au,aF] at this;exact this.1
 exact some_ t' v' h1;rename_i p b hxe;cases e;have h1:=(aC FR hx hxe hc).2;simp only[au,aF] at h1;rcases h1 with ⟨rfl,t',v',h1⟩|⟨rfl,h1⟩;have:=some_ t' v' h1;cases neg<;>exact this;have:=none_ h1;cases neg<;>exact this;cases e
theorem KL(FR:aT n η Z F a.tmps){t el:TypeId}(hu:P.underlying t=some (.pointer el)){k:Nat}(hk:ig P el=some k)(h0:k≠0){op:BinOp}{neg:Bool}(hop:(op=.eql/\neg=false)∨(op=.neq/\neg=true)){x' y':Operand}{x y:bO}(hx:bV x'=some x)(hy:bV y'=some y)
 {c:Cd} {v:V} (e:dY F S (.peq neg x y)=some (c,v)) (hc:c) :
 bP P η Z w (do pure (Next.value (<-(do eqGuard op t x' y' (a.eval x') (a.eval y');binOp op t (a.eval x') (a.eval y'))))) v:=by
 have hsz:∀ w',(sizeOf el).run P w'=.ok k w':=fun w'=>dP hk w';have step:∀(x y:Value),Op.equal t x y=Op.equalIn (9999+1) t x y:=fun _ _=>rfl;have d0:∀(d:Nat)(b:Option Addr),(Op.equalIn (d+1) t (.pointer none) (.pointer b)).run P w=.ok b.isNone w:=fun d b=>by simp[Op.equalIn,run_underlying hu]
 have d1:∀(d:Nat)(b:Addr),(Op.equalIn (d+1) t (.pointer (some b)) (.pointer none)).run P w=.ok false w:=fun d b=>by simp[Op.equalIn,run_underlying hu]
 have d2:∀(d:Nat)(q q':Addr),q.block=q'.block->(Op.equalIn (d+1) t (.pointer (some q)) (.pointer (some q'))).run P w=.ok (q==q') w:=fun d q q' hq=>by simp[Op.equalIn,run_underlying hu,hsz,h0,sameAddr,hq]
 have eq0:∀ b:Option Addr,(Op.equal t (.pointer none) (.pointer b)).run P w=.ok b.isNone w:=fun b=>by rw[step];exact d0 _ b
 have eq1:∀ b:Addr,(Op.equal t (.pointer (some b)) (.pointer none)).run P w=.ok false w:=fun b=>by rw[step];exact d1 _ b
 have fin:∀(u u':Option Addr)(b:Bool),a.eval x'=.pointer u->a.eval y'=.pointer u'->(Op.equal t (.pointer u) (.pointer u')).run P w=.ok b w->bP P η Z w (do pure (Next.value (<-(do eqGuard op t x' y' (a.eval x') (a.eval y');binOp op t (a.eval x') (a.eval y'))))) (.c (.bool (bif neg then !b else b))):=by
  intro u u' b h1 h2 h3;rw[h1,h2];rcases hop with ⟨rfl,rfl⟩|⟨rfl,rfl⟩;exact bP.of (u:=.bool b) (by simp[eqGuard,binOp,h3]) jt;exact bP.of (u:=.bool (!b)) (by simp[eqGuard,binOp,h3]) jt
 simp only[dY] at e;split at e;rename_i p q hxe rN;cases e;have h1:a.eval x'=.pointer none:=by have:=(aC FR hx hxe hc.1).2;simpa only[au,aF] using this
 have h2:a.eval y'=.pointer none:=by have:=(aC FR hy rN hc.2).2;simpa only[au,aF] using this
 have:=fin none none true h1 h2 (eq0 none);cases neg<;>simpa using this;rename_i p m off q hxe rN;cases e;obtain⟨_,pl,_,h1⟩:=aC FR hx hxe hc.1;have h2:a.eval y'=.pointer none:=by have:=(aC FR hy rN hc.2).2;simpa only[au,aF] using this
 have:=fin _ none false h1 h2 (eq1 _);cases neg<;>simpa using this;rename_i p q m off hxe rN;cases e;have h1:a.eval x'=.pointer none:=by have:=(aC FR hx hxe hc.1).2;simpa only[au,aF] using this
 obtain⟨_,pl,_,h2⟩:=aC FR hy rN hc.2;have:=fin none _ false h1 h2 (eq0 _);cases neg<;>simpa using this;rename_i p m off q m' off' hxe rN;obtain⟨hm,e1⟩:=ah.ay e;clear e;have hm:=Nat.eq_of_beq_eq_true hm;subst hm;cases e1;obtain⟨_,pl,hpl,h1⟩:=aC FR hx hxe hc.1;obtain⟨_,pl',hpl',h2⟩:=aC FR hy rN hc.2;have:pl=pl':=Option.some.inj (hpl.symm.trans hpl');subst this;refine fin _ _ (Nat.beq off off') h1 h2 ?_;have e2:(((⟨pl.block,pl.off+off,none⟩:Addr)) == ⟨pl.block,pl.off+off',none⟩)=Nat.beq off off':=by
  rw[Bool.eq_iff_iff];simp[Nat.beq_eq]
 rw[step,<-e2];exact d2 _ _ _ rfl;cases e
set_option maxHeartbeats 1000000 in
theorem Tj(R:St base η Z S w)(FR:aT n η Z F a.tmps){o:Oper}{q:Q}(ht:vN P o.op=some q){c:Cd}{v:V}(e:dY F S q=some (c,v))(hc:c):bP P η Z w (execOp a.eval o) v:=by
 unfold vN at ht;unfold execOp;split at ht<;>rename_i hop<;>simp only[hop]
 -- move
 obtain⟨x,hx,rfl⟩:=map_some ht;exact⟨_,rfl,ew FR hx e hc⟩
 -- assign
 obtain⟨x,hx,rfl⟩:=map_some ht;exact⟨_,rfl,ew FR hx e hc⟩
 -- pick
 split at ht;rename_i c' x' y' hc' hx hy;cases ht;simp only[dY] at e;split at e
 . rename_i p b q u r v' hb hu hv;cases e;obtain⟨hp,hq,hr⟩:=hc;have h1:=oT FR hc' hb hp;rw[h1];cases b with
   | true=>exact⟨.bool u,by simp[asBool,oT FR hx hu (hq rfl)],jt⟩
   | false=>exact⟨.bool v',by simp[asBool,oT FR hy hv (hr rfl)],jt⟩
 cases e;cases ht
 -- load
 split at ht;rename_i hag hx;obtain⟨d,_,rfl⟩:=map_some ht;exact Tf R FR hx hag e hc;rename_i hag hx;obtain⟨k,hk,rfl⟩:=map_some ht;exact QB R FR hx hag hk e hc;cases ht
 -- nilCheck
 obtain⟨x,hx,rfl⟩:=map_some ht;simp only[dY] at e;split at e;rename_i p m off hv;cases e;obtain⟨_,pl,hpl,hev⟩:=aC FR hx hv hc;rw[hev];exact⟨_,rfl,by simp,pl,hpl,rfl⟩;rename_i p m off i hv;cases e;obtain⟨_,pl,hpl,hev⟩:=aC FR hx hv hc;rw[hev];exact⟨_,rfl,by simp,pl,hpl,rfl⟩;rename_i p cs off hv;cases e;obtain⟨b,o',cells,hev,hz,hf⟩:=(aC FR hx hv hc).2.rp;rw[hev];exact⟨_,rfl,by simp,by simp only[au,aF];exact⟨b,o',cells,rfl,hz,hf⟩⟩;rename_i p d l i hv;cases e;obtain⟨b,o',cells,hev,hz,hf⟩:=(aC FR hx hv hc).2.re;rw[hev];exact⟨_,rfl,by simp,by simp only[au,aF];exact⟨b,o',cells,rfl,hz,hf⟩⟩;rename_i p m i j hv;cases e;obtain⟨_,pl,r0,hpl,hr,hev⟩:=aC FR hx hv hc;rw[hev];exact⟨_,rfl,by simp,pl,r0,hpl,hr,rfl⟩;rename_i p f caps hv;cases e;obtain⟨_,vs,hev,hl⟩:=aC FR hx hv hc;rw[hev];exact⟨_,rfl,by simp,vs,rfl,hl⟩;rename_i p l hv;cases e;have hev:a.eval _=Value.func (.yield l) #[] #[]:=(aC FR hx hv hc).2;rw[hev];exact⟨_,rfl,by simp,rfl⟩;cases e
 -- binOp
 rename_i op t x' y' ty;split at ht;rename_i k hu hx hy;by_cases hib:EN op=true;rw[if_pos hib] at ht;cases ht;simp only[dY] at e;split at e;rename_i p k1 i q k2 j hi hj;obtain⟨hkk,e2⟩:=dA e;subst hkk;cases e2;rw[cI FR hx hi hc.1,cI FR hy hj hc.2];exact bP.of (WY hib) eP;cases e;rw[if_neg hib] at ht;split at ht;cases ht;simp only[dY] at e;split at e;rename_i p k1 i q k2 j hi hj;obtain⟨hkk,e2⟩:=dA e;subst hkk;cases e2;rw[cI FR hx hi hc.1,cI FR hy hj hc.2.1];exact bP.of (Kz (.inl rfl) hc.2.2) eP;cases e;cases ht;simp only[dY] at e;split at e;rename_i p k1 i q k2 j hi hj;obtain⟨hkk,e2⟩:=dA e;subst hkk;cases e2;rw[cI FR hx hi hc.1,cI FR hy hj hc.2.1];exact bP.of (Kz (.inr rfl) hc.2.2) eP;cases e;cases ht;simp only[dY] at e;split at e;rename_i p k1 i q k2 j hi hj;cases e;rw[cI FR hx hi hc.1,cI FR hy hj hc.2.1];exact bP.of (Ip (.inl rfl) hc.2.2) eP;cases e;cases ht;simp only[dY] at e;split at e;rename_i p k1 i q k2 j hi hj;cases e;rw[cI FR hx hi hc.1,cI FR hy hj hc.2.1];exact bP.of (Ip (.inr rfl) hc.2.2) eP;cases e;obtain⟨hcmp,ht⟩:=dA ht;cases ht;simp only[dY] at e;split at e;rename_i p k1 i q k2 j hi hj;obtain⟨hkk,e2⟩:=dA e;subst hkk;cases e2;rw[cI FR hx hi hc.1,cI FR hy hj hc.2];exact bP.of (WZ hcmp) jt;cases e;rename_i hu hx hy;split at ht;cases ht;simp only[dY] at e;split at e;rename_i p i q j hi hj;cases e;rw[nN FR hx hi hc.1,nN FR hy hj hc.2.1];exact bP.of (W6 hc.2.2) rW;cases e;obtain⟨hcmp,ht⟩:=dA ht;cases ht;simp only[dY] at e;split at e;rename_i p i q j hi hj;cases e;rw[nN FR hx hi hc.1,nN FR hy hj hc.2];exact bP.of (W5 hcmp) jt;cases e;rename_i hu hx hy;split at ht;cases ht;simp only[dY] at e;split at e;rename_i p i q j hi hj;cases e;rw[oT FR hx hi hc.1,oT FR hy hj hc.2];exact bP.of (Om hu (.inl rfl)) jt;cases e;cases ht;simp only[dY] at e;split at e;rename_i p i q j hi hj;cases e;rw[oT FR hx hi hc.1,oT FR hy hj hc.2];exact bP.of (Om hu (.inr rfl)) jt;cases e;cases ht;rename_i el hu hx hy;split at ht;rename_i k hk;by_cases h0:k=0;rw[if_pos h0] at ht;cases ht;rw[if_neg h0] at ht;split at ht;cases ht;exact KL FR hu hk h0 (.inl ⟨rfl,rfl⟩) hx hy e hc;cases ht;exact KL FR hu hk h0 (.inr ⟨rfl,rfl⟩) hx hy e hc;cases ht;cases ht;rename_i ms hu hx hy;split at ht;cases ht;exact KJ FR hu (.inl ⟨rfl,rfl⟩) hx hy e hc;cases ht;exact KJ FR hu (.inr ⟨rfl,rfl⟩) hx hy e hc;cases ht;rename_i fs hu hx hy;obtain⟨⟨hs,hgd⟩,ht⟩:=dA ht;split at ht;rename_i l hl;split at ht;cases ht;exact KI FR hu hs hgd hl (.inl rfl) hx hy e hc;cases ht;exact KI FR hu hs hgd hl (.inr rfl) hx hy e hc;cases ht;cases ht;cases ht
 -- neg
 obtain⟨x,hx,rfl⟩:=map_some ht;simp only[dY] at e;split at e;rename_i p k i hi;cases e;rw[cI FR hx hi hc];exact bP.of (by simp[Op.unary,Op.intArith]) eP;cases e
 -- not
 obtain⟨x,hx,rfl⟩:=map_some ht;simp only[dY] at e;split at e;rename_i p i hi;cases e;rw[oT FR hx hi hc];exact bP.of (by simp[Op.unary]) jt;cases e
 -- convert
 split at ht;rename_i k AK Tk hx;cases ht;simp only[dY] at e;split at e;rename_i p k1 i hi;cases e;rw[cI FR hx hi hc];exact bP.of (by simp[convert,run_underlying AK,run_underlying Tk,Conv.intToInt]) eP;cases e;rename_i AK Tk hx;cases ht;simp only[dY] at e;split at e;rename_i p k1 i hi;cases e;rw[cI FR hx hi hc];exact bP.of (by simp[convert,run_underlying AK,run_underlying Tk,Conv.intToString]) rW;cases e;rename_i AK Tk hx;cases ht;simp only[dY] at e;split at e;rename_i p s hs;cases e;rw[nN FR hx hs hc];exact bP.of (by simp[convert,run_underlying AK,run_underlying Tk]) rW;cases e;cases ht
 -- len
 rename_i x' t;split at ht;rename_i hu hx;cases ht;simp only[dY] at e;split at e;rename_i p s hs;cases e;have:=nN FR hx hs hc;exact⟨goInt s.size,by simp[resolve,invoke,builtin,Builtin.len_,run_underlying hu,this],eP⟩;cases e;rename_i el hu hx;split at ht;rename_i k hk;by_cases h0:k=0;rw[if_pos h0] at ht;cases ht;rw[if_neg h0] at ht;cases ht;obtain⟨u,h1,h2⟩:=Tg (P:=P) (ty:=o.type) (w:=w) FR hu h0 hx e hc;exact⟨u,by simpa[resolve,invoke,builtin] using h1,h2⟩;cases ht;rename_i k el hu;cases ht;cases e;exact⟨goInt k,by simp[resolve,invoke,builtin,Builtin.len_,run_underlying hu],eP⟩;cases ht
 -- cap
 split at ht;rename_i el x1 hu hx;cases ht;simp only[dY] at e;split at e;rename_i p hv;cases e;have:=(aC FR hx hv hc).2.nil_eq;exact⟨goInt 0,by simp[resolve,invoke,builtin,Builtin.cap_,run_underlying hu,this],eP⟩;cases e;cases ht
 -- where a slice begins
 obtain⟨x,hx,rfl⟩:=map_some ht;simp only[dY] at e;split at e;rename_i p m off len sz hv;obtain⟨hsz,e1⟩:=ah.ay e;clear e;have hsz:=Nat.eq_of_beq_eq_true hsz;subst hsz;cases e1;obtain⟨hp,h0⟩:=hc;rcases (aC FR hx hv hp).2 with ⟨h1,_⟩|⟨pl,c,ad,hpl,hev,hcap,hroom,had⟩;exact absurd h1 (by have:0<len:=h0;omega);have h0:0<len:=h0;obtain⟨k,rfl⟩:∃ k,c=k+1:=⟨c-1,by omega⟩;rcases had with had|had;cases had;subst had;refine⟨.pointer (some ⟨pl.block,pl.off+off,none⟩),?_,by simp,pl,hpl,by simp⟩;simp[resolve,invoke,builtin,hev];rfl;cases e
 -- min
 split at ht;rename_i hx hy;cases ht;simp only[dY] at e;split at e;rename_i p k i q k' j hi hj;cases e;have h1:=cI FR hx hi hc.1;have h2:=cI FR hy hj hc.2;refine⟨.int k (Min.min i j),?_,eP⟩;have:(if j<i then j else i)=Min.min i j:=by omega
 simp[resolve,invoke,builtin,Builtin.min_,Builtin.min2,h1,h2,this];cases e;cases ht
 -- max
 split at ht;rename_i hx hy;cases ht;simp only[dY] at e;split at e;rename_i p k i q k' j hi hj;cases e;have h1:=cI FR hx hi hc.1;have h2:=cI FR hy hj hc.2;refine⟨.int k (Max.max i j),?_,eP⟩;have:(if i<j then j else i)=Max.max i j:=by omega
 simp[resolve,invoke,builtin,Builtin.max_,Builtin.max2,h1,h2,this];cases e;cases ht
 -- min, max of three
 split at ht;rename_i hx hy hz;cases ht;simp only[dY] at e;split at e;rename_i p k i q k' j r k'' l hi hj hl;cases e;have h1:=cI FR hx hi hc.1;have h2:=cI FR hy hj hc.2.1;have h3:=cI FR hz hl hc.2.2;refine⟨.int k (Min.min (Min.min i j) l),?_,eP⟩;have e1:(if j<i then j else i)=Min.min i j:=by omega
 have e2:(if l<Min.min i j then l else Min.min i j)=Min.min (Min.min i j) l:=by omega
 simp[resolve,invoke,builtin,Builtin.min_,Builtin.min2,h1,h2,h3,e1,e2];cases e;cases ht;split at ht;rename_i hx hy hz;cases ht;simp only[dY] at e;split at e;rename_i p k i q k' j r k'' l hi hj hl;cases e;have h1:=cI FR hx hi hc.1;have h2:=cI FR hy hj hc.2.1;have h3:=cI FR hz hl hc.2.2;refine⟨.int k (Max.max (Max.max i j) l),?_,eP⟩;have e1:(if i<j then j else i)=Max.max i j:=by omega
 have e2:(if Max.max i j<l then l else Max.max i j)=Max.max (Max.max i j) l:=by omega
 simp[resolve,invoke,builtin,Builtin.max_,Builtin.max2,h1,h2,h3,e1,e2];cases e;cases ht
 -- index
 split at ht;rename_i hu hx hi;cases ht;simp only[dY] at e;split at e;rename_i p s q k j hs hj;cases e;obtain⟨hp,hq,h0,h1⟩:=hc;rw[nN FR hx hs hp,cI FR hi hj hq];refine bP.of (u:=.int .u8 (aY s j.toNat)) ?_ eP;have:s[j.toNat]? = some (s.data.toList.getD j.toNat 0):=W7 (by omega);simp[Instr.index,asIntOf,run_underlying hu,h0,this,aY];cases e;cases ht
 -- field
 · split at ht
   rename_i fs hu hx;split at ht;rename_i fd hf;split at ht;rename_i hag;obtain⟨d,_,rfl⟩:=map_some ht;exact QD FR hu hf hag hx e hc;rename_i hag;obtain⟨k,hk,rfl⟩:=map_some ht;exact NJ FR hu hf hag hk hx e hc;cases ht;cases ht;cases ht
 -- fieldAddr
 · split at ht
   rename_i fs hu hx;split at ht;rename_i fd hf;split at ht;rename_i k hk;by_cases h0:k=0;rw[if_pos h0] at ht;cases ht;rw[if_neg h0] at ht;cases ht;exact Gv FR hu hf hk h0 hx e hc;cases ht;cases ht;cases ht
 -- indexAddr
 · split at ht
   rename_i el hu hx hi;split at ht;rename_i k hk;by_cases h0:k=0;rw[if_pos h0] at ht;cases ht;rw[if_neg h0] at ht;cases ht;exact Gu FR hu hk h0 hx hi e hc;cases ht;rename_i len el hu hx hi;obtain⟨k,hk,rfl⟩:=map_some ht;exact EP FR hu hk hx hi e hc;cases ht
 -- slice
 · split at ht
   rename_i el hu hx hlo hhi;split at ht;rename_i k hk;by_cases h0:k=0;rw[if_pos h0] at ht;cases ht;rw[if_neg h0] at ht;cases ht;exact QC FR hu hk h0 hx hlo hhi e hc;cases ht;rename_i hu hx hlo hhi;cases ht;exact NI FR hu hx hlo hhi e hc;cases ht
 -- extract
 rename_i x' i;obtain⟨x,hx,rfl⟩:=map_some ht;simp only[dY] at e;split at e;rename_i t;split at e;rename_i vs hvs;split at e
 . rename_i v' hv';cases e;cases x' with
   | tmp t' =>
     cases hx;obtain⟨u,hu,us,rfl,hl⟩:=FR.2 t _ hvs;obtain⟨y,hy,hr⟩:=hl.get hv';have hev:a.eval (.tmp t)=.tuple us.toArray:=by simp[Act.eval,Array.getD_eq_getD_getElem?,hu]
     rw[hev];refine bP.of (u:=y) ?_ hr;simp[Instr.extract,hy]
   | const _=>simp only[bV] at hx;split at hx<;>cases hx
   | global _=>cases hx
   | func _=>cases hx
 cases e;cases e;cases e
 -- makeFunc
 rename_i f caps;obtain⟨l,hl,rfl⟩:=map_some ht;simp only[dY] at e;split at e;rename_i p cs hcs;cases e;have:=KC FR hl hcs hc;refine⟨.func (.func f) #[] (caps.map a.eval),by simp[Instr.makeFunc],by simp,caps.toList.map a.eval,?_,this⟩;congr 1;apply Array.ext';simp;cases e
 -- a method with its receiver
 rename_i f x;obtain⟨x',hx,rfl⟩:=map_some ht;simp only[dY] at e;split at e;rename_i p n off hev;cases e;exact⟨.func (.func f) #[a.eval x] #[],by simp[Instr.makeFunc],by simp,a.eval x,rfl,(aC FR hx hev hc).2⟩;cases e
 -- build
 split at ht;rename_i fs z hu hz;split at ht;rename_i pl hpl;obtain⟨ps,hp,rfl⟩:=map_some ht;exact QE FR hu hz hpl hp e hc;cases ht;rename_i len el z hu hz;split at ht;rename_i k hk;obtain⟨ps,hp,rfl⟩:=map_some ht;exact NK FR hu hz hk hp e hc;cases ht;cases ht;cases ht
end
theorem Dl:∀{cs l:List W}{off:Nat},(kB l off cs).length=l.length
 | [],_,_=>rfl
 | c::cs,l,off=>by rw[kB,Dl,List.length_set]
theorem D4:∀{cs l:List W}{off i:Nat},off+cs.length<=l.length->(kB l off cs)[i]? = if off<=i/\i<off+cs.length then cs[i-off]? else l[i]?
 | [],l,off,i,_=>by rw[if_neg (by simp)];rfl
 | c :: cs, l, off, i, h => by
   simp only[List.length_cons] at h;rw[kB,D4 (by simp;omega)];by_cases h1:i=off;subst h1;rw[if_neg (by omega),if_pos (by simp)];simp[List.getElem?_set];omega;by_cases h2:off+1<=i/\i<off+1+cs.length;rw[if_pos h2,if_pos (by simp;omega)];have:i-off=(i-(off+1))+1:=by omega
   rw[this];simp;rw[if_neg h2,if_neg (by simp;omega),List.getElem?_set_ne (by omega)]
theorem St.store{P:Program}{base:Nat}{η:Eta}{Z:ar}{S:af}{w:World}(R:St base η Z S w){m:Nat}{o:Ob}{p:ck}(h:S.get m=some o)(hp:η m=some p)(hm:¬o.gF)(hnb:¬o.bytes)(Kk:¬o.wb){off:Nat}{cs:List W}{vs:List Value}(hl:aI (au η Z) cs vs)(h1:∀ v∈vs,v.oneCell'=true)(hk:off+cs.length<=o.cells.length){o':Ob}(hty:o'.ty=o.ty)(hcs:o'.cells=kB o.cells off cs) :
 (storeCells ⟨p.block,p.off+off,none⟩ vs).run P w=.ok () (w.setCells p.block (p.off+off) vs)/\qR base η Z S w η (S.put m o') (w.setCells p.block (p.off+off) vs):=by
 obtain⟨hbase,hz,L⟩:=R.ai m o p h hp;obtain⟨c,fz,hc,hroom,hv,pR⟩:=L.there hm;have hfz:=pR.strong hnb;have hsize:=L.size hm;have bE:=hl.length;have hcell:∀ j,j<vs.length->(w.cell? ⟨p.block,p.off+off+j,none⟩).isSome=true:=by
  intro j hj;have:p.off+off+j<c.size:=by omega
  simp[World.cell?,hc,this]
 have hfr:∀ j,j<vs.length->w.frozen? ⟨p.block,p.off+off+j,none⟩=false:=by
  intro j hj;have:=hfz (p.off+off+j) (by omega) (by omega);simp only[World.frozen?,hc];simpa using this
 have hst:=run_storeCells_cells (P:=P) p.block (p.off+off) vs 0 w (by simpa using hcell) (by simpa using hfr) h1;simp only[Nat.add_zero] at hst;refine⟨hst,R.write h hp (ah.je (Nat.zero_le _) _ _ _).os (ah.je (Nat.zero_le _) _ _ _).tape (ah.je (Nat.zero_le _) _ _ _).output (ah.lN _ _ _) (fun b hb=>ah.gT hb _ _ _) ?_⟩;obtain⟨c',h1',h2',h3',h4'⟩:=ah.lM vs (p.off+off) w c hc;have main:∀(i:Nat) x,o'.cells[i]? = some x->∃ v,c'[p.off+i]? = some v/\au η Z x v/\v.oneCell'=true:=?_;refine fk.plain (fun hm'=>?_) ⟨c',fz,by rw[hty];exact h1',by omega,main,pR.plain hnb Kk⟩ (by rw[hcs,Dl];exact hsize);rcases hm' with hm'|⟨k,av,hm'⟩<;>obtain⟨v,_,b,_⟩:=main 0 _ hm'<;>simp only[au,aF] at b;intro i x hx;rw[hcs,D4 hk] at hx;split at hx;rename_i hi;obtain⟨v,hv',hr⟩:=hl.get hx;have hj:=(List.getElem?_eq_some_iff.1 hv').1;refine⟨v,?_,hr,h1 v (List.mem_of_getElem? hv')⟩;have:=h4' (i-off) hj (by omega);rw[show p.off+off+(i-off)=p.off+i by omega] at this;rw[this];exact hv';rename_i hi;obtain⟨v,hv',hr,h1c⟩:=hv i x hx;refine⟨v,?_,hr,h1c⟩;rw[h3' (p.off+i) (by omega)];exact hv'
theorem St.del{base:Nat}{η:Eta}{Z:ar}{S:af}{w:World}(R:St base η Z S w)(m:Nat):St base η Z (S.del m) w:=by
 have h:∀ n o,(S.del m).get n=some o->S.get n=some o:=by
  intro n o hn;rw[af.iN] at hn;split at hn;cases hn;exact hn
 exact⟨fun n o p hn=>R.ai n o p (h n o hn),fun n o hn=>R.cL n o (h n o hn),fun n o hn=>R.known n o (h n o hn),fun n n' o o' p p' b hn hn'=>R.kR n n' o o' p p' b (h n o hn) (h n' o' hn'),R.zs,R.fresh,R.iR,fun n o p hn=>R.sat n o p (h n o hn)⟩
theorem xH{η:Eta}{S:af}{m b:Nat}(h:Own η (S.del m) b):Own η S b:=by
 obtain⟨n,o,p,hn,hp,hb⟩:=h;rw[af.iN] at hn;split at hn;cases hn;exact⟨n,o,p,hn,hp,hb⟩
theorem Step.del{η:Eta}{Z:ar}{S:af}{w:World}(m:Nat):Step η Z S w η Z (S.del m) w :=
 ⟨rfl,rfl,rfl,Nat.le_refl _,fun _ _ _=>rfl,fun _ h=>.inl (xH h),ar.le.refl _,fun _ _ h=>.inl h,rfl⟩
theorem St.Tl{base:Nat}{η:Eta}{Z:ar}{S:af}{w w':World}(R:St base η Z S w){o:Ob}{p:ck}
 (hall:∀ b,p.has b->base<=b/\Z b=none/\(∃ ob,w'.heap[b]? = some ob/\qQ ob=true)/\∀ n x q,S.get n=some x->η n=some q->¬q.has b)
 (gW:∀ k,k<w.heap.size->¬p.has k->w'.heap[k]? = w.heap[k]?) (hsz:w.heap.size<=w'.heap.size) (L:fk (η.add S.next p) Z o p w'):St base (η.add S.next p) Z (S.add o) w':=by
 have hfr:=R.fresh S.next (Nat.le_refl _)
 have hle:η.le (η.add S.next p):=Eta.uI hfr;have hget:∀ m,(S.add o).get m=if m=S.next then some o else S.get m:=fun m=>af.fH R.fu
 have hold:∀ n x q,S.get n=some x->η n=some q->∀ b,q.has b->w'.heap[b]? = w.heap[b]?:=fun n x q hx hq b hb=>gW b (R.kq hx hq hb) fun hp=>(hall b hp).2.2.2 n x q hx hq hb;refine⟨?_,?_,?_,?_,?_,?_,?_,?_⟩
 . intro n x q hx hq;rw[hget] at hx;by_cases hn:n=S.next
   subst hn;rw[if_pos rfl] at hx;cases hx;rw[Eta.gb] at hq;cases hq;exact⟨(hall _ p.jf).1,(hall _ p.jf).2.1,L⟩;rw[if_neg hn] at hx;rw[Eta.jH hn] at hq;obtain⟨hb',hz',L'⟩:=R.ai n x q hx hq;exact⟨hb',hz',L'.mono hle (ar.le.refl _) (hold n x q hx hq)⟩
 . intro n x hx hq;rw[hget] at hx;by_cases hn:n=S.next
   subst hn;rw[Eta.gb] at hq;cases hq;rw[if_neg hn] at hx;rw[Eta.jH hn] at hq;exact R.cL n x hx hq
 . intro n x hx;show n<S.next+1
   rw[hget] at hx;by_cases hn:n=S.next
   omega;rw[if_neg hn] at hx;have:=R.known n x hx;omega
 . intro n n' x x' q q' b hx hx' hne hq hq' hb hb';rw[hget] at hx hx';by_cases hn:n=S.next
   subst hn;rw[Eta.gb] at hq;cases hq;rw[if_neg (Ne.symm hne)] at hx';rw[Eta.jH (Ne.symm hne)] at hq';exact(hall b hb).2.2.2 n' x' q' hx' hq' hb'
   . rw[if_neg hn] at hx;rw[Eta.jH hn] at hq;by_cases hn':n'=S.next
     subst hn';rw[Eta.gb] at hq';cases hq';exact(hall b hb').2.2.2 n x q hx hq hb;rw[if_neg hn'] at hx';rw[Eta.jH hn'] at hq';exact R.kR n n' x x' q q' b hx hx' hne hq hq' hb hb'
 intro k c hk;obtain⟨ty,fz,e⟩:=R.zs k c hk;exact⟨ty,fz,(gW k (cM e) (fun hh=>by rw[(hall k hh).2.1] at hk;cases hk)).trans e⟩
 . intro n hn;have:(S.add o).next=S.next+1:=rfl
   rw[Eta.jH (by omega)];exact R.fresh n (by omega)
 exact Nat.le_trans R.iR hsz
 . intro n x q hx hq b hb;rw[hget] at hx;by_cases hn:n=S.next
   subst hn;rw[Eta.gb] at hq;cases hq;obtain⟨h1,h2,h3,_⟩:=hall b (.inr hb);exact⟨h1,h2,h3⟩;rw[if_neg hn] at hx;rw[Eta.jH hn] at hq;obtain⟨h1,h2,ob,h3,h4⟩:=R.sat n x q hx hq b hb;exact⟨h1,h2,ob,(hold n x q hx hq b (.inr hb)).trans h3,h4⟩
theorem St.ZK{base:Nat}{η:Eta}{Z:ar}{S:af}{w w':World}(R:St base η Z S w){b:Nat}(hb:base<=b)(hz:Z b=none)(hfree:∀ n o p,S.get n=some o->η n=some p->¬p.has b)
 (gW:∀ k,k≠b->w'.heap[k]? = w.heap[k]?) (hsz:w'.heap.size=w.heap.size) {o:Ob} {p:ck} (hp:p.block=b) (hrows:p.av=[]) (L:fk (η.add S.next p) Z o p w'):St base (η.add S.next p) Z (S.add o) w':=by
 have hhas:∀ c,p.has c->c=b:=by
  rintro c (h|h);exact h.symm.trans hp;unfold ck.sats at h;rw[hrows] at h;cases h
 refine R.Tl (fun c hc=>?_) (fun k _ hk=>gW k fun e=>hk (by subst e;exact .inl hp)) (by omega) L;obtain rfl:=hhas c hc;refine⟨hb,hz,?_,hfree⟩;rw[<-hp];exact L.data
structure bL(base:Nat)(η:Eta)(Z:ar)(S:af)(w:World)(aB:Eta)(Z':ar)(S':af)(w':World):Prop where
 le:η.le aB
 st:St base aB Z' S' w'
 step:Step η Z S w aB Z' S' w'
theorem qR.up{base:Nat}{η aB:Eta}{Z:ar}{S S':af}{w w':World}(g:qR base η Z S w aB S' w'):bL base η Z S w aB Z S' w':=⟨g.le,g.st,g.step⟩
theorem bL.trans{base:Nat}{η eM gD:Eta}{Z Z1 Z2:ar}{S S1 S2:af}{w w1 w2:World}(g:bL base η Z S w eM Z1 S1 w1)(h:bL base eM Z1 S1 w1 gD Z2 S2 w2):bL base η Z S w gD Z2 S2 w2 :=
 ⟨g.le.trans h.le,h.st,g.step.trans h.step⟩
theorem bL.refl{base:Nat}{η:Eta}{Z:ar}{S:af}{w:World}(R:St base η Z S w):bL base η Z S w η Z S w:=⟨Eta.le.refl _,R,Step.refl _ _ _ _⟩
def af.Alike(S S':af):Prop:=(S'.next=S.next/\S'.cL=S.cL)/\∀ n,match S.get n,S'.get n with
 | none,none=>True
 | some o,some o'=>o'.ty=o.ty/\o'.cells=o.cells
 | _,_=>False
theorem af.Alike.fU{S S':af}(h:S.Alike S'){n:Nat}{o':Ob}(e:S'.get n=some o'):∃ o,S.get n=some o/\o'.ty=o.ty/\o'.cells=o.cells:=by
 have:=h.2 n;rw[e] at this;cases hh:S.get n with
 | none=>rw[hh] at this;exact this.elim
 | some o=>rw[hh] at this;exact⟨o,rfl,this⟩
theorem fk.alike{η:Eta}{Z:ar}{o o':Ob}{p:ck}{w:World}(L:fk η Z o p w)(h1:o'.ty=o.ty)(h2:o'.cells=o.cells):fk η Z o' p w:=by
 have hi:o'.gF↔o.gF:=by unfold Ob.gF Ob.isMap Ob.kQ;rw[h2]
 refine⟨fun hm=>?_,fun hm=>by rw[h2];exact L.size fun h=>hm (hi.2 h),fun k av ht=>by rw[h1];exact L.tabs k av (by unfold Ob.kQ at ht ⊢;rw[<-h2];exact ht),fun hm=>by rw[h2];exact L.maps (by unfold Ob.isMap at hm ⊢;rw[<-h2];exact hm)⟩;obtain⟨c,fz,a,b,d,e⟩:=L.there fun h=>hm (hi.2 h);exact⟨c,fz,by rw[h1];exact a,b,by rw[h2];exact d,by unfold Az Ob.bytes Ob.wb at e ⊢;rw[h2];exact e⟩
theorem St.alike{base:Nat}{η:Eta}{Z:ar}{S S':af}{w:World}(R:St base η Z S w)(h:S.Alike S'):St base η Z S' w:=by
 refine⟨?_,?_,?_,?_,R.zs,by rw[h.1.1];exact R.fresh,R.iR,?_⟩;intro n o' p e hp;obtain⟨o,e1,e2,e3⟩:=h.fU e;obtain⟨a,b,L⟩:=R.ai n o p e1 hp;exact⟨a,b,L.alike e2 e3⟩;intro n o' e hn;obtain⟨o,e1,e2,e3⟩:=h.fU e;rw[e3];exact R.cL n o e1 hn;intro n o' e;obtain⟨o,e1,_⟩:=h.fU e;rw[h.1.1];exact R.known n o e1;intro n n' o o' p p' b e e' hne hp hp';obtain⟨x,e1,_⟩:=h.fU e;obtain⟨x',e1',_⟩:=h.fU e';exact R.kR n n' x x' p p' b e1 e1' hne hp hp';intro n o' p e hp;obtain⟨x,e1,_⟩:=h.fU e;exact R.sat n x p e1 hp
theorem Own.alike{η:Eta}{S S':af}(h:S.Alike S'){b:Nat}:Own η S' b->Own η S b
 | ⟨n,_,p,e,hp,hb⟩=>let ⟨x,e1,_⟩:=h.fU e;⟨n,x,p,e1,hp,hb⟩
theorem bL.alike{base:Nat}{η aB:Eta}{Z Z':ar}{S S' xI:af}{w w':World}(g:bL base η Z S w aB Z' S' w')(h:S'.Alike xI):bL base η Z S w aB Z' xI w' :=
 ⟨g.le,g.st.alike h,⟨g.step.os,g.step.tape,g.step.output,g.step.size,g.step.block,fun b hb=>g.step.own b (hb.alike h),g.step.cN,g.step.ja,h.1.2.trans g.step.gh⟩⟩
theorem af.qv{S:af}{n:Nat}{o o':Ob}(h1:o'.ty=o.ty)(h2:o'.cells=o.cells):(S.put n o).Alike (S.put n o'):=by
 refine⟨⟨rfl,rfl⟩,fun m=>?_⟩;rw[af.j3,af.j3];by_cases hm:m=n
 . rw[if_pos hm,if_pos hm];cases S.get n with
   | none=>trivial
   | some x=>exact⟨h1,h2⟩
 rw[if_neg hm,if_neg hm];cases S.get m with
 | none=>trivial
 | some x=>exact⟨rfl,rfl⟩
theorem af.jT{S:af}{o o':Ob}(h1:o'.ty=o.ty)(h2:o'.cells=o.cells):(S.add o).Alike (S.add o'):=by
 refine⟨⟨rfl,rfl⟩,fun m=>?_⟩;show (match find (S.ai++[(S.next,o)]) m,find (S.ai++[(S.next,o')]) m with|none,none=>True|some o,some o'=>o'.ty=o.ty/\o'.cells=o.cells|_,_=>False);rw[wO,wO];cases find S.ai m with
 | some x=>exact⟨rfl,rfl⟩
 | none =>
   simp only[find];by_cases hm:S.next=m
   rw[if_pos hm,if_pos hm];exact⟨h1,h2⟩;rw[if_neg hm,if_neg hm];trivial
theorem af.yM{base:Nat}{η:Eta}{Z:ar}{S:af}{w:World}(R:St base η Z S w)(o:Ob)(m:Nat):(S.add o).get m=if m=S.next then some o else S.get m:=af.fH R.fu
theorem St.ow{base:Nat}{η:Eta}{Z:ar}{S:af}{w:World}(R:St base η Z S w){o:Ob}(h:o.cells=[]):bL base η Z S w η Z (S.add o) w:=by
 have hn:=R.fresh S.next (Nat.le_refl _)
 have hget:=af.yM R o;have fU:∀ m x p,(S.add o).get m=some x->η m=some p->S.get m=some x:=by
  intro m x p hx hp;rw[hget] at hx;by_cases hm:m=S.next
  subst hm;rw[hn] at hp;cases hp;rw[if_neg hm] at hx;exact hx
 refine⟨Eta.le.refl _,⟨fun m x p hx hp=>R.ai m x p (fU m x p hx hp) hp,?_,?_,fun m m' x x' p p' b hx hx' hne hp hp'=>R.kR m m' x x' p p' b (fU m x p hx hp) (fU m' x' p' hx' hp') hne hp hp',R.zs,fun m hm=>R.fresh m (by have:(S.add o).next=S.next+1:=rfl;omega),R.iR,fun m x p hx hp=>R.sat m x p (fU m x p hx hp) hp⟩,
  ⟨rfl,rfl,rfl,Nat.le_refl _,fun _ _ _=>rfl,?_,ar.le.refl _,fun _ _ hh=>.inl hh,rfl⟩⟩
 . intro m x hx hp;rw[hget] at hx;by_cases hm:m=S.next
   rw[if_pos hm] at hx;cases hx;exact h;rw[if_neg hm] at hx;exact R.cL m x hx hp
 . intro m x hx;show m<S.next+1
   rw[hget] at hx;by_cases hm:m=S.next
   omega;rw[if_neg hm] at hx;have:=R.known m x hx;omega
 rintro b ⟨m,x,p,hx,hp,hb⟩;exact .inl ⟨m,x,p,fU m x p hx hp,hp,hb⟩
def ar.add(Z:ar)(b:Nat)(c:Array Value):ar:=fun i=>if i=b then some c else Z i
theorem ar.uI{Z:ar}{b:Nat}{c:Array Value}(h:Z b=none):Z.le (Z.add b c):=by
 intro i x e;unfold ar.add;by_cases hi:i=b;subst hi;rw[h] at e;cases e;rw[if_neg hi];exact e
theorem St.freeze{base:Nat}{η:Eta}{Z:ar}{S:af}{w:World}(R:St base η Z S w){m:Nat}{o:Ob}{p:ck}(h:S.get m=some o)(hp:η m=some p)(hm:¬o.gF) :
 ∃ c ty fz,w.heap[p.block]? = some (.cells c ty fz)/\bL base η Z S w η (Z.add p.block c) (S.del m) w/\∀(i:Nat) x,o.cells[i]? = some x->∃ v,c[p.off+i]? = some v/\au η Z x v:=by
 obtain⟨hb,hz,L0⟩:=R.ai m o p h hp;obtain⟨c,fz,hc,hroom,hv,hfz⟩:=L0.there hm;refine⟨c,o.ty,fz,hc,?_,fun i x hx=>let ⟨v,a,b,_⟩:=hv i x hx;⟨v,a,b⟩⟩;have hle:Z.le (Z.add p.block c):=ar.uI hz;have R1:=R.del m;have fU:∀ n x,(S.del m).get n=some x->n≠m/\S.get n=some x:=by
  intro n x hx;rw[af.iN] at hx;by_cases hn:n=m;rw[if_pos hn] at hx;cases hx;rw[if_neg hn] at hx;exact⟨hn,hx⟩
 refine⟨Eta.le.refl _,⟨?_,R1.cL,R1.known,R1.kR,?_,R1.fresh,R1.iR,?_⟩,⟨rfl,rfl,rfl,Nat.le_refl _,fun _ _ _=>rfl,fun b hb=>.inl (xH hb),hle,?_,rfl⟩⟩;intro n x q hx hq;obtain⟨a,b,L⟩:=R1.ai n x q hx hq;obtain⟨hne,hx'⟩:=fU n x hx;refine⟨a,?_,L.mono (Eta.le.refl _) hle fun _ _=>rfl⟩;unfold ar.add;rw[if_neg (R.inj n m x o q p hx' h hne hq hp)];exact b;intro b cs e;unfold ar.add at e;by_cases Df:b=p.block;rw[if_pos Df] at e;cases e;subst Df;exact⟨_,_,hc⟩;rw[if_neg Df] at e;exact R.zs b cs e;intro n x q hx hq b hb;obtain⟨h1,h2,h3⟩:=R1.sat n x q hx hq b hb;obtain⟨hne,hx'⟩:=fU n x hx;refine⟨h1,?_,h3⟩;unfold ar.add;rw[if_neg fun e=>R.kR n m x o q p b hx' h hne hq hp (.inr hb) (.inl e.symm)];exact h2;intro b cs e;unfold ar.add at e;by_cases Df:b=p.block;exact .inr (.inl ⟨m,o,p,h,hp,.inl Df.symm⟩);rw[if_neg Df] at e;exact .inl e
theorem rU.sat{k:Nat}{av:List (List Int)}{ty:TypeId}{p:ck}{w:World}(T:rU k av ty p w){b:Nat}(hb:b∈p.sats):∃ c t fz,w.heap[b]? = some (.cells c t fz):=by
 obtain⟨r,hr,rfl⟩:=List.mem_map.1 hb;obtain⟨i,hi⟩:=List.getElem?_of_mem hr;have hlt:=(List.getElem?_eq_some_iff.1 hi).1;have hlt':i<av.length:=by rw[<-T.len];exact hlt
 obtain⟨_,c,t,fz,h,_⟩:=T.row i r av[i] hi (List.getElem?_eq_getElem hlt');exact⟨c,t,fz,h⟩
open Classical in
theorem St.Tm{base:Nat}{η:Eta}{Z:ar}{S:af}{w:World}(R:St base η Z S w){m:Nat}{o:Ob}{p:ck}(h:S.get m=some o)(hp:η m=some p){k:Nat}{av:List (List Int)}(ht:o.kQ k av) :
 ∃ Z',bL base η Z S w η Z' (S.del m) w/\∀ b∈p.sats,∃ c ty fz,w.heap[b]? = some (.cells c ty fz)/\Z' b=some c:=by
 obtain⟨_,_,L0⟩:=R.ai m o p h hp;have T:=L0.tabs k av ht;let Z':ar:=fun b=>if b∈p.sats then(match w.heap[b]? with|some (.cells c _ _)=>some c|_=>none) else Z b;have hZ:∀ b∈p.sats,∃ c ty fz,w.heap[b]? = some (.cells c ty fz)/\Z' b=some c:=by
  intro b hb;obtain⟨c,t,fz,e⟩:=T.sat hb;refine⟨c,t,fz,e,?_⟩;show (if b∈p.sats then _ else _)=_;rw[if_pos hb,e]
 have hle:Z.le Z':=by
  intro b c e;show (if b∈p.sats then _ else _)=_;rw[if_neg];exact e;intro hb;rw[(R.sat m o p h hp b hb).2.1] at e;cases e
 have R1:=R.del m;have fU:∀ n x,(S.del m).get n=some x->n≠m/\S.get n=some x:=by
  intro n x hx;rw[af.iN] at hx;by_cases hn:n=m;rw[if_pos hn] at hx;cases hx;rw[if_neg hn] at hx;exact⟨hn,hx⟩
 have hno:∀ n x q,(S.del m).get n=some x->η n=some q->∀ b,q.has b->Z' b=Z b:=by
  intro n x q hx hq b hb;obtain⟨hne,hx'⟩:=fU n x hx;show (if b∈p.sats then _ else _)=_;rw[if_neg fun e=>R.kR n m x o q p b hx' h hne hq hp hb (.inr e)]
 refine⟨Z',⟨Eta.le.refl _,⟨?_,R1.cL,R1.known,R1.kR,?_,R1.fresh,R1.iR,?_⟩,⟨rfl,rfl,rfl,Nat.le_refl _,fun _ _ _=>rfl,fun b hb=>.inl (xH hb),hle,?_,rfl⟩⟩,hZ⟩;intro n x q hx hq;obtain⟨a,b,L⟩:=R1.ai n x q hx hq;exact⟨a,(hno n x q hx hq _ q.jf).trans b,L.mono (Eta.le.refl _) hle fun _ _=>rfl⟩;intro b cs e;by_cases hb:b∈p.sats;obtain⟨c,t,fz,e1,_⟩:=hZ b hb;obtain⟨c',t',AL,e2,e3⟩:=hZ b hb;rw[e] at e3;cases e3;exact⟨_,_,e2⟩;have e':(if b∈p.sats then(match w.heap[b]? with|some (.cells c _ _)=>some c|_=>none) else Z b)=some cs:=e;rw[if_neg hb] at e';exact R.zs b cs e';intro n x q hx hq b hb;obtain⟨h1,h2,h3⟩:=R1.sat n x q hx hq b hb;exact⟨h1,(hno n x q hx hq b (.inr hb)).trans h2,h3⟩;intro b cs e;by_cases hb:b∈p.sats;exact .inr (.inl ⟨m,o,p,h,hp,.inr hb⟩);have e':(if b∈p.sats then(match w.heap[b]? with|some (.cells c _ _)=>some c|_=>none) else Z b)=some cs:=e;rw[if_neg hb] at e';exact .inl e'
theorem St.ng{base:Nat}{η:Eta}{Z:ar}{S:af}{w:World}(R:St base η Z S w){b:Nat}(h:Own η S b):∃ ob,w.heap[b]? = some ob/\Z b=none/\qQ ob=true:=by
 obtain⟨n,o,p,h1,h2,hb⟩:=h;obtain⟨_,a2,c,hc,hd⟩:=R.all h1 h2 hb;exact⟨c,hc,a2,hd⟩
theorem St.uM{base:Nat}{η:Eta}{Z Z':ar}{S:af}{w w':World}(R:St base η Z S w)(hz:Z.le Z')(hzs:∀ b cs,Z' b=some cs->∃ ty fz,w'.heap[b]? = some (.cells cs ty fz))(hsz:w.heap.size<=w'.heap.size)(hb:∀ b,Own η S b->w'.heap[b]? = w.heap[b]?)(hn:∀ b,Own η S b->Z' b=none):St base η Z' S w':=by
 refine⟨fun n o p h1 h2=>?_,R.cL,R.known,R.kR,hzs,R.fresh,Nat.le_trans R.iR hsz,fun n o p h1 h2 b hbs=>?_⟩;obtain⟨a1,_,L⟩:=R.ai n o p h1 h2;exact⟨a1,hn _ ⟨n,o,p,h1,h2,p.jf⟩,L.mono (Eta.le.refl _) hz fun b hh=>hb b ⟨n,o,p,h1,h2,hh⟩⟩;obtain⟨a1,_,c,hc,hd⟩:=R.sat n o p h1 h2 b hbs;exact⟨a1,hn _ ⟨n,o,p,h1,h2,.inr hbs⟩,c,(hb _ ⟨n,o,p,h1,h2,.inr hbs⟩).trans hc,hd⟩
def AO(l:List UInt8):List W:=l.map fun b=>.int .u8 (b.toNat:Int)
noncomputable def nP(F:Fr):List bO->Option (Cd×List V)
 | []=>some (.t,[])
 | x::l=>match ou F x with
   | some (c,v)=>(match nP F l with|some (d,r)=>some (.and c d,v::r)|none=>none)
   | none=>none
def EQ(k:Nat):List (Nat×Operand)->Option (List bO)
 | []=>some []
 | (i,x)::l=>if i=k then(match bV x,EQ (k+1) l with|some y,some r=>some (y::r)|_,_=>none) else none
section
variable {P:Program} {base n:Nat} {η:Eta} {Z:ar} {S:af} {w:World} {F:Fr} {a:Act}
def bq(P:Program)(base:Nat)(η:Eta)(Z:ar)(S:af)(w:World)(s:Sem Next)(v:A)(S':af):Prop :=
 ∃ nx u w' aB Z',s.run P w=.ok nx w'/\(nx=.value u∨(nx=.skip/\u=undef))/\bL base η Z S w aB Z' S' w'/\cE aB Z' v u
theorem bq.of{s:Sem Value}{v:A}{S':af}{u:Value}{w':World}{aB:Eta}{Z':ar}(h:s.run P w=.ok u w')(g:bL base η Z S w aB Z' S' w')(r:cE aB Z' v u):bq P base η Z S w (do pure (Next.value (<-s))) v S' :=
 ⟨.value u,u,w',aB,Z',by simp[h],.inl rfl,g,r⟩
theorem bq.Oo{s:Sem Unit}{S':af}{w':World}{aB:Eta}{Z':ar}(h:s.run P w=.ok () w')(g:bL base η Z S w aB Z' S' w'):bq P base η Z S w (do s;pure Next.skip) (.bG []) S' :=
 ⟨.skip,undef,w',aB,Z',by simp[h],.inr ⟨rfl,rfl⟩,g,⟨[],rfl,trivial⟩⟩
theorem bq.alike{s:Sem Next}{v:A}{S' xI:af}(g:bq P base η Z S w s v S')(h:S'.Alike xI):bq P base η Z S w s v xI :=
 let ⟨nx,u,w',aB,Z',a,b,c,d⟩:=g
 ⟨nx,u,w',aB,Z',a,b,c.alike h,d⟩
theorem bq.before{s:Sem Next}{v:A}{S1 S':af}{eM:Eta}{Z1:ar}(m:bL base η Z S w eM Z1 S1 w)(g:bq P base eM Z1 S1 w s v S'):bq P base η Z S w s v S' :=
 let ⟨nx,u,w',aB,Z',a,b,c,d⟩:=g
 ⟨nx,u,w',aB,Z',a,b,m.trans c,d⟩
theorem uf{t:TypeId}{zs:List W}(e:kr P t=some zs):∃ i z,P.info? t=some i/\i.zero=some z/\aI (au (fun _=>none) (fun _=>none)) zs z.cells.toList/\(zeroValue t).run P w=.ok z w:=by
 unfold kr at e;split at e;rename_i i hi;split at e;rename_i z hz;split at e;rename_i l hl;cases e;obtain⟨h1,h2,_⟩:=yI (η:=fun _=>none) (Z:=fun _=>none) hl;exact⟨i,z,hi,hz,(KG h1 h2).1,by simp[zeroValue,typeInfo,hi,hz]⟩;cases e;cases e;cases e
theorem qw(R:St base η Z S w)(t:TypeId){cs:List W}{c:Array Value}(hc:aI (au η Z) cs c.toList)(h1:∀ v∈c.toList,v.oneCell'=true) :
 ∃ w',(newRow t c).run P w=.ok ⟨w.heap.size,0,none⟩ w'/\qR base η Z S w (η.add S.next ⟨w.heap.size,0,c.size,[]⟩) (S.add (Ob.of t cs)) w'/\(η.add S.next ⟨w.heap.size,0,c.size,[]⟩) S.next=some ⟨w.heap.size,0,c.size,[]⟩:=by
 have bE:=hc.length;obtain⟨g,hn⟩:=R.new (w':={ w with heap:=w.heap.push (.cells c t (0,0)) }) (Ob.of t cs) c rfl rfl rfl rfl (by rw[Ob.ez];simp at bE;omega) (fun i x hx=>by
  rw[Ob.ez] at hx;obtain⟨v,hv,hr⟩:=hc.get hx;exact⟨v,by simpa using hv,hr,h1 v (List.mem_of_getElem? hv)⟩) rfl
 exact⟨_,by simp[newRow,newObj,Sem.run],g,hn⟩
theorem QH(R:St base η Z S w){t:TypeId}{i:TypeInfo}{z:Value}(hi:P.info? t=some i)(hz:i.zero=some z){zs:List W}(h1:aI (au η Z) zs z.cells.toList)(h3:∀ v∈z.cells.toList,v.oneCell'=true):bq P base η Z S w (do pure (Next.value (<-Instr.alloc t true (.tuple #[])))) (.p (.c (.ptr S.next 0))) (S.add (Ob.of t zs)):=by
 have hz':(zeroValue t).run P w=.ok z w:=by simp[zeroValue,typeInfo,hi,hz]
 obtain⟨w',hr,g,hn⟩:=qw (P:=P) R t h1 h3;exact bq.of (u:=.pointer (some ⟨w.heap.size,0,none⟩)) (by simp[Instr.alloc,hz',newVar,hr]) g.up ⟨by simp,_,hn,by simp⟩
theorem W8(R:St base η Z S w){t:TypeId}{v:V}{u:Value}(h:cZ η Z v u):bq P base η Z S w (do pure (Next.value (<-Instr.box t u))) (.p (.c (.ptr S.next 0))) (S.add (Ob.of t v.cells)):=by
 obtain⟨h1,h2,h3⟩:=h.cells;obtain⟨w',hr,g,hn⟩:=qw (P:=P) R t h1 h3;exact bq.of (u:=.pointer (some ⟨w.heap.size,0,none⟩)) (by simp[Instr.box,newVar,hr]) g.up ⟨by simp,_,hn,by simp⟩
theorem ug(R:St base η Z S w){t:TypeId}{k:Nat}(hs:ig P t=some k){m off:Nat}{o:Ob}(ho:S.get m=some o)(hmo:¬o.gF)(hnb:¬o.bytes)(hnw:¬o.wb){u:Value}(hp:au η Z (.ptr m off) u){v:V}{x:Value}(hv:cZ η Z v x)(hk:v.cells.length=k)(hb:off+k<=o.cells.length) :
 bq P base η Z S w (do Instr.storeAt t u x;pure Next.skip) (.bG []) (S.put m (Ob.of o.ty (kB o.cells off v.cells))):=by
 obtain⟨p,hpl,rfl⟩:=hp;obtain⟨h1,h2,h3⟩:=hv.cells;obtain⟨hst,g⟩:=R.store (P:=P) ho hpl hmo hnb hnw h1 h3 (off:=off) (by omega) (o':=Ob.of o.ty (kB o.cells off v.cells)) rfl (by simp);refine bq.Oo ?_ g.up;have bE:x.cells.size=k:=by have:=h1.length;simp at this;omega
 simp[Instr.storeAt,Instr.sureAddr,storeVar,dP hs,bE,hst]
def AP:W->Value->Bool
 | .bool a,.bool b=>a==b
 | .int k a,.int k' b=>decide (k=k')&&a==b
 | .str a,.string b=>Nat.beq a.size 0&&Nat.beq b.size 0
 | .dN,.pointer none=>true
 | .nil,.slice none 0 0=>true
 | .rd _ [],.slice none 0 0=>true
 | .rs _ [],.slice none 0 0=>true
 | .nM,.nilFunc=>true
 | .lT,.nilIface=>true
 | _,_=>false
theorem xJ{x:W}{v:Value}(h:AP x v=true):au η Z x v/\x≠.dm/\v.oneCell'=true/\v.cells=#[v]:=by
 unfold AP at h;split at h;simp at h;subst h;exact⟨by simp[au,aF],by simp,rfl,rfl⟩;simp at h;obtain⟨rfl,rfl⟩:=h;exact⟨by simp[au,aF],by simp,rfl,rfl⟩;rename_i a b;simp only[Bool.and_eq_true,Nat.beq_eq] at h;have:a=b:=by
  apply ByteArray.ext;apply Array.ext;have h1:a.data.size=a.size:=rfl;have h2:b.data.size=b.size:=rfl;omega;intro i h1 _;have h2:a.data.size=a.size:=rfl;omega
 subst this;exact⟨by simp[au,aF],by simp,rfl,rfl⟩;exact⟨by simp[au,aF],by simp,rfl,rfl⟩;exact⟨by simp[au,aF],by simp,rfl,rfl⟩;exact⟨by simp only[au,aF,cG];exact⟨none,0,0,rfl,rfl,Nat.le_refl _,.inl trivial⟩,by simp,rfl,rfl⟩;exact⟨KF,by simp,rfl,rfl⟩;exact⟨by simp[au,aF],by simp,rfl,rfl⟩;exact⟨by simp[au,aF],by simp,rfl,rfl⟩;cases h
theorem Tn(R:St base η Z S w){t el:TypeId}{i:TypeInfo}{z:W}{zv:Value}(hu:P.underlying t=some (.slice el))(hi:P.info? el=some i)(h1:i.size=1)(hzv:i.zero=some zv)(hz:AP z zv=true){kl kc:IntKind}{l c:Int}(h0:0<=l)(hlc:l<=c)(hby:(i.bytes:Int)*c<=140737488355328)(hc:c<=140737488355328) :
 bq P base η Z S w (do pure (Next.value (<-Instr.makeSlice t (.int kl l) (.int kc c)))) (.p (.c (.sl S.next 0 l.toNat 1))) (S.add (Ob.of el (List.replicate c.toNat z))):=by
 have hrun:=run_make (P:=P) w t el i zv hu hi hzv kl kc l c h0 hlc (by omega) (by omega);obtain⟨hr,_,hone,hy⟩:=xJ (η:=η) (Z:=Z) hz;have hcells:madeCells zv.cells (c.toNat*i.size)=Array.replicate c.toNat zv:=by
  rw[hy,h1,Nat.mul_one];unfold madeCells;apply Array.ext;simp;intro j hj1 hj2;simp[Nat.mod_one]
 have hrel : aI (au η Z) (List.replicate c.toNat z) (Array.replicate c.toNat zv).toList := by
  apply aI.pQ;simp;intro j x v hx hv;rw[Array.toList_replicate] at hv;rw[List.getElem?_replicate] at hx hv;split at hx;rename_i hj;rw[if_pos hj] at hv;cases hx;cases hv;exact hr;cases hx
 obtain⟨w',hw,g,hn⟩:=qw (P:=P) R el hrel (by intro v hv;rw[Array.toList_replicate] at hv;rw[List.eq_of_mem_replicate hv];exact hone);have hww:w'=w.alloc (.cells (madeCells zv.cells (c.toNat*i.size)) el):=by
  simp[newRow,newObj,Sem.run] at hw;rw[hcells,<-hw]
 subst hww;refine bq.of hrun g.up ⟨by simp,.inr ⟨_,c.toNat,⟨w.heap.size,0,none⟩,hn,rfl,by omega,by simp,.inr (by simp)⟩⟩
theorem Oq:∀(vs l:List Value)(off:Nat),off+vs.length<=l.length->ah.wJ l off vs=l.take off++vs++l.drop (off+vs.length)
 | [],l,off,_=>by simp[ah.wJ]
 | v::vs,l,off,h=>by
   simp only[List.length_cons] at h;rw[ah.wJ,Oq vs (l.set off v) (off+1) (by simp;omega)];have h1:(l.set off v).take (off+1)=l.take off++[v]:=by
    rw[List.take_add_one,List.take_set_of_le (Nat.le_refl _)];simp[List.getElem?_set];omega
   have h2:(l.set off v).drop (off+1+vs.length)=l.drop (off+(vs.length+1)):=by
    rw[List.drop_set_of_lt (by omega)];congr 1;omega
   rw[h1,h2];simp
theorem Iu{sz:Nat}:∀{l:List (Nat×Value)}{k:Nat}{vs:List Value}{c:Array Value},l=(vs.zipIdx k).map (fun x=>(x.2,x.1))->(∀ v∈vs,v.cells.size=sz)->(k+vs.length)*sz=c.size->
 ∃ c',Instr.fill (fun i=>some (i*sz,sz)) c l=some c'/\c'.toList=c.toList.take (k*sz)++vs.flatMap (fun v=>v.cells.toList)
 | [],k,vs,c,hl,hv,hc=>by
   cases vs with
   | nil =>
     refine⟨c,rfl,?_⟩;simp only[List.flatMap_nil,List.append_nil];rw[List.take_of_length_le (by simp at hc ⊢;omega)]
   | cons _ _=>simp at hl
 | x :: l, k, vs, c, hl, hv, hc => by
   cases vs with
   | nil=>simp at hl
   | cons v vs =>
     simp only[List.zipIdx_cons,List.map_cons,List.cons.injEq] at hl;obtain⟨rfl,hl⟩:=hl;have hvs:v.cells.size=sz:=hv v (by simp);have hk1:(k+1)*sz=k*sz+sz:=Nat.succ_mul _ _;have hle:k*sz+sz<=c.size:=by
      rw[<-hc,<-hk1];exact Nat.mul_le_mul_right _ (by simp)
     simp only[Instr.fill];have h3:¬(k*sz+v.cells.size>c.size):=by omega
     simp only[hvs,ne_eq,not_true_eq_false,decide_false,Bool.false_or];have h4:(decide (k*sz+sz>c.size))=false:=by simp;omega
     rw[h4];simp only[Bool.false_eq_true,if_false];obtain⟨c',h1,h2⟩:=Iu (sz:=sz) (k:=k+1) (vs:=vs) (c:=v.cells.zipIdx.foldl (fun cs (x:Value×Nat)=>cs.setIfInBounds (k*sz+x.2) x.1) c) hl (fun u hu=>hv u (by simp[hu])) (by
      have:=ah.vF (k*sz) v.cells.toList 0 c;have hsz:(v.cells.zipIdx.foldl (fun(cs:Array Value) (x:Value×Nat)=>cs.setIfInBounds (k*sz+x.2) x.1) c).size=c.size:=by
       rw[<-Array.foldl_toList,Array.toList_zipIdx,<-Array.length_toList,this,ah.Dc];simp
      rw[hsz,<-hc];congr 1;simp;omega)
     refine⟨c',h1,?_⟩;rw[h2];have:=ah.vF (k*sz) v.cells.toList 0 c;rw[Nat.add_zero,Oq _ _ _ (by simp;omega)] at this;rw[<-Array.foldl_toList,Array.toList_zipIdx,this];have hl1:((c.toList.take (k*sz))++v.cells.toList).length=(k+1)*sz:=by simp;omega
     rw[List.append_assoc,<-List.append_assoc,List.take_append_of_le_length (by omega),List.take_of_length_le (by omega)];simp
theorem AQ(FR:aT n η Z F a.tmps):∀{l':List (Nat×Operand)}{k:Nat}{l:List bO},EQ k l'=some l->∀{c:Cd}{vs:List V},nP F l=some (c,vs)->c->
 ∃ us:List Value,aI (cZ η Z) vs us/\l'.map (fun x=>(x.1,a.eval x.2))=(us.zipIdx k).map (fun x=>(x.2,x.1))/\us.length=l.length
 | [],k,l,hl,c,vs,e,hc=>by
   cases hl;simp only[nP] at e;cases e;exact⟨[],trivial,rfl,rfl⟩
 | (i, x) :: l', k, l, hl, c, vs, e, hc => by
   simp only[EQ] at hl;obtain⟨hik,hl⟩:=dA hl;subst hik;split at hl;rename_i y r hy hr;cases hl;simp only[nP] at e;split at e;rename_i p v hv;split at e;rename_i d r' hr';cases e;obtain⟨us,h1,h2,h3⟩:=AQ FR hr hr' hc.2;exact⟨a.eval x::us,⟨ew FR hy hv hc.1,h1⟩,by simp[h2],by simp[h3]⟩;cases e;cases e;cases hl
theorem KM{sz:Nat}:∀{vs:List V}{us:List Value},aI (cZ η Z) vs us->(∀ v∈vs,v.cells.length=sz)->aI (au η Z) (vs.flatMap V.cells) (us.flatMap fun v=>v.cells.toList)/\(∀ u∈us,u.cells.size=sz)/\(∀ v∈us.flatMap (fun v=>v.cells.toList),v.oneCell'=true)
 | [],[],_,_=>⟨trivial,by simp,by simp⟩
 | v :: vs, u :: us, ⟨h1, h2⟩, hs => by
   obtain⟨a1,a2,a3⟩:=KM h2 (fun v hv=>hs v (by simp[hv]));obtain⟨b1,b2,b3⟩:=h1.cells;have hl:=b1.length;rw[hs v (by simp)] at hl;refine⟨?_,?_,?_⟩;simp only[List.flatMap_cons];exact b1.append a1;intro x hx;rcases List.mem_cons.1 hx with rfl|hx
   simpa using hl.symm;exact a2 x hx;intro x hx;simp only[List.flatMap_cons] at hx;rcases List.mem_append.1 hx with hx|hx;exact b3 x hx;exact a3 x hx
theorem D5(R:St base η Z S w){t el:TypeId}{sz:Nat}{parts:Array (Nat×Operand)}{ps:List bO}{z:List W}(hu:P.underlying t=some (.slice el))(hs:ig P el=some sz)(hz:kr P el=some z)(hbig:ps.length*sz<=16777216)(hzl:z.length=sz)
 {vs:List V} {us:List Value} (h1:aI (cZ η Z) vs us) (h2:parts.toList.map (fun x=>(x.1,a.eval x.2))=(us.zipIdx 0).map (fun x=>(x.2,x.1))) (h3:us.length=ps.length) (hv:∀ v∈vs,v.cells.length=sz) :
 bq P base η Z S w (do pure (Next.value (<-Instr.buildSlice t ps.length (parts.map fun(i,x)=>(i,a.eval x))))) (.p (.c (.sl S.next 0 ps.length sz))) (S.add (Ob.of el (vs.flatMap V.cells))):=by
 obtain⟨f1,f2,f3⟩:=KM h1 hv;obtain⟨i,zv,_,_,hzs,Dj⟩:=uf (w:=w) hz;have hzl':zv.cells.size=sz:=by
  have hr:=hzs;have:=hr.length;simp at this;omega
 have h24:¬(ps.length*sz>2 ^ 24):=by omega
 have Tp:(parts.map fun(x:Nat×Operand)=>(x.1,a.eval x.2)).toList=(us.zipIdx 0).map (fun x=>(x.2,x.1)):=by
  rw[Array.toList_map];exact h2
 have key:∀ zero:Array Value,∃ c',Instr.fill (fun i=>some (i*sz,sz)) ((Array.range (ps.length*sz)).map (zero[· % zero.size]!)) ((us.zipIdx 0).map (fun x=>(x.2,x.1)))=some c'/\c'.toList=us.flatMap (fun v=>v.cells.toList):=by
  intro zero;obtain⟨c',g1,g2⟩:=Iu (sz:=sz) (k:=0) (vs:=us) (c:=(Array.range (ps.length*sz)).map (zero[· % zero.size]!)) rfl f2 (by simp[h3]);exact⟨c',g1,by simpa using g2⟩
 have fin:∀ c':Array Value,c'.toList=us.flatMap (fun v=>v.cells.toList)->∃ w',(newRow el c').run P w=.ok ⟨w.heap.size,0,none⟩ w'/\qR base η Z S w (η.add S.next ⟨w.heap.size,0,c'.size,[]⟩) (S.add (Ob.of el (vs.flatMap V.cells))) w'/\(η.add S.next ⟨w.heap.size,0,c'.size,[]⟩) S.next=some ⟨w.heap.size,0,c'.size,[]⟩:=by
  intro c' hc';exact qw (P:=P) R el (by rw[hc'];exact f1) (by rw[hc'];exact f3)
 have hsize:∀ c':Array Value,c'.toList=us.flatMap (fun v=>v.cells.toList)->c'.size=ps.length*sz:=by
  intro c' hc';rw[<-Array.length_toList,hc',<-h3];have:∀ us:List Value,(∀ u∈us,u.cells.size=sz)->(us.flatMap (fun v=>v.cells.toList)).length=us.length*sz:=by
   intro us
   induction us with
   | nil=>simp
   | cons u us ih =>
     intro hh;simp only[List.flatMap_cons,List.length_append,List.length_cons,ih (fun x hx=>hh x (by simp[hx])),Nat.succ_mul];have:=hh u (by simp);simp;omega
  exact this us f2
 by_cases h0:ps.length*sz=0;obtain⟨c',g1,g2⟩:=key #[];obtain⟨w',hr,g,hn⟩:=fin c' g2;refine bq.of (u:=.slice (some ⟨w.heap.size,0,none⟩) ps.length ps.length) (w':=w') ?_ g.up ⟨by simp,.inr ⟨_,ps.length,⟨w.heap.size,0,none⟩,hn,rfl,Nat.le_refl _,by rw[hsize c' g2];simp,.inr (by simp)⟩⟩;simp only[Instr.buildSlice,Sem.run_bind,run_underlying hu,Result.andThen_ok,dP hs,h24,if_false,Tp];rw[if_pos h0];simp only[Sem.run_pure,Result.andThen_ok,g1,Sem.run_bind,hr];obtain⟨c',g1,g2⟩:=key zv.cells;obtain⟨w',hr,g,hn⟩:=fin c' g2;refine bq.of (u:=.slice (some ⟨w.heap.size,0,none⟩) ps.length ps.length) (w':=w') ?_ g.up ⟨by simp,.inr ⟨_,ps.length,⟨w.heap.size,0,none⟩,hn,rfl,Nat.le_refl _,by rw[hsize c' g2];simp,.inr (by simp)⟩⟩;simp only[Instr.buildSlice,Sem.run_bind,run_underlying hu,Result.andThen_ok,dP hs,h24,if_false,Tp];rw[if_neg h0];simp only[Sem.run_bind,Dj,Sem.run_pure,Result.andThen_ok,g1,hr]
end
section
variable {P:Program} {base n:Nat} {η:Eta} {Z:ar} {S:af} {w:World} {F:Fr} {a:Act}
theorem tI{b o:Nat}{vs:List Value}{w':World}(h:∀(j:Nat) v,vs[j]? = some v->w.cell? ⟨b,o+j,none⟩=some v)(hw:w'.heap=w.heap):(loadCells ⟨b,o,none⟩ vs.length).run P w'=.ok vs.toArray w':=by
 by_cases h0:vs.length=0;have:vs=[]:=List.length_eq_zero_iff.1 h0;subst this;simp[loadCells,loadCellsFrom];have hcell:∀ a,w'.cell? a=w.cell? a:=fun a=>by simp[World.cell?,hw]
 exact run_loadCells_list (P:=P) w' ⟨b,o,none⟩ vs (fun j v hv=>by rw[Addr.add_lit,hcell];exact h j v hv)
theorem QI(l:List UInt8):aI (au η Z) (AO l) (l.map fun b=>Value.int .u8 b.toNat):=by
 induction l with
 | nil=>trivial
 | cons b l ih=>exact⟨by simp[au,aF],ih⟩
def Src(P:Program)(η:Eta)(Z:ar)(w:World)(u:Value)(sz:Nat)(cs:List W):Prop :=
 ∃ m vs,cs.length=m*sz/\vs.length=m*sz/\aI (au η Z) cs vs/\(∀ v∈vs,v.oneCell'=true)/\(∀ w',(Builtin.lenOf u).run P w'=.ok m w')/\(∀ w' k,w'.heap=w.heap->k<=m->(Builtin.firstCells sz k u).run P w'=.ok (vs.take (k*sz)).toArray w')
theorem qx(sz:Nat){ad:Option Addr}{cap:Nat}:Src P η Z w (.slice ad 0 cap) sz []:=by
 refine⟨0,[],by simp,by simp,trivial,by simp,fun w'=>by simp[Builtin.lenOf],fun w' k _ hk=>?_⟩;have:k=0:=by omega
 subst this;cases ad with
 | none=>simp[Builtin.firstCells]
 | some ad=>simp[Builtin.firstCells,loadCells,loadCellsFrom]
theorem KN{sz len cap b o:Nat}{cs:List W}{vs:List Value}(h1:aI (au η Z) cs vs)(h2:vs.length=len*sz)(h3:∀ v∈vs,v.oneCell'=true)(h4:∀(j:Nat) v,vs[j]? = some v->w.cell? ⟨b,o+j,none⟩=some v) :
 Src P η Z w (.slice (some ⟨b,o,none⟩) len cap) sz cs:=by
 have hl:=h1.length;refine⟨len,vs,by omega,h2,h1,h3,fun w'=>by simp[Builtin.lenOf],fun w' k hw hk=>?_⟩;have hkl:k*sz<=len*sz:=Nat.mul_le_mul_right _ hk;have:=tI (P:=P) (b:=b) (o:=o) (vs:=vs.take (k*sz)) (fun j v hv=>h4 j v (by rw[List.getElem?_take] at hv;split at hv;exact hv;cases hv)) hw;have hl:(vs.take (k*sz)).length=k*sz:=by simp;omega
 rw[hl] at this;simp[Builtin.firstCells,this]
theorem yN{d:D}{cells:Array Value}{o:Nat}:∀{l:List d.ty}{off:Nat},mZ Z d cells (o+off) l->∃ vs:List Value,aI (au η Z) (l.map d.w) vs/\vs.length=l.length/\(∀ v∈vs,v.oneCell'=true)/\∀(j:Nat) v,vs[j]? = some v->cells[o+off+j]? = some v
 | [],_,_=>⟨[],trivial,rfl,by simp,by simp⟩
 | x :: l, off, h => by
   obtain⟨u,hu,hr⟩:=h 0 x rfl;obtain⟨vs,h1,h2,h3,h4⟩:=yN (l:=l) (o:=o) (off:=off+1) (fun i y hy=>by
    obtain⟨v,a,b⟩:=h (i+1) y (by simpa using hy);exact⟨v,by rw[<-a];congr 1;omega,b⟩)
   refine⟨u::vs,⟨(D.eV d).2 hr,h1⟩,by simp[h2],?_,?_⟩;intro v hv;rcases List.mem_cons.1 hv with rfl|hv;exact cG.one d hr;exact h3 v hv;intro j v hv;cases j with
   | zero=>simp at hv;subst hv;simpa using hu
   | succ j =>
     have:=h4 j v (by simpa using hv);rw[<-this];congr 1;omega
theorem src_rd(R:St base η Z S w){d:D}{l:List d.ty}{u:Value}(h:au η Z (.rd d l) u):Src P η Z w u 1 (l.map d.w):=by
 obtain⟨ad,len,cap,hev,bE,hcap,hcs⟩:=h.rd;rw[hev];rcases hcs with rfl|⟨b,off,cells,rfl,hz,hf⟩;simp at bE;subst bE;exact qx _;obtain⟨vs,h1,h2,h3,h4⟩:=yN (η:=η) (o:=off) (off:=0) hf;obtain⟨ty,fz,hc⟩:=R.zs b cells hz;exact KN h1 (by omega) h3 (fun j v hv=>by simp[World.cell?,hc];simpa using h4 j v hv)
theorem xK(R:St base η Z S w){sz:Nat}{m off len:Nat}{u:Value}(h:au η Z (.sl m off len sz) u){o:Ob}(ho:S.get m=some o)(hmo:¬o.gF)(hb:off+len*sz<=o.cells.length):Src P η Z w u sz ((o.cells.drop off).take (len*sz)):=by
 rcases h with ⟨rfl,rfl⟩|⟨pl,cap,ad,hpl,rfl,hcap,hroom,had⟩;simp only[Nat.zero_mul,List.take_zero];exact qx _;obtain⟨vs,h1,h2,h3,h4⟩:=R.reads ho hpl hmo hb;by_cases h0:len=0;subst h0;simp only[Nat.zero_mul,List.take_zero];exact qx _;have hca:ad=⟨pl.block,pl.off+off,none⟩:=by
  rcases had with rfl|rfl;omega;rfl
 subst hca;exact KN h1 h2 h3 h4
theorem src_str{s:ByteArray}:Src P η Z w (.string s) 1 (AO s.data.toList):=by
 refine⟨s.size,s.data.toList.map fun b=>Value.int .u8 b.toNat,by simp[AO],by simp,QI _,?_,fun w'=>by simp[Builtin.lenOf],fun w' k _ hk=>?_⟩;intro v hv;simp at hv;obtain⟨b,_,rfl⟩:=hv;rfl;simp only[Builtin.firstCells,Sem.run_pure];congr 1;apply Array.ext';have:(s.extract 0 k).data.toList=s.data.toList.take k:=by
  simp[ByteArray.data_extract]
 simp
theorem yO(R:St base η Z S w){el:TypeId}{z:Value}{sz need sCap:Nat}{cells:List W}{vs:List Value}(hl:aI (au η Z) cells vs)(h1:∀ v∈vs,v.oneCell'=true)(bE:vs.length=need*sz)(hzs:z.cells.size=sz) :
 ∃ aB,qR base η Z S w aB (S.add (Ob.of el cells)) (w.drew.alloc (.cells (vs.toArray++Builtin.zeroCells z.cells (grownCap w need sCap el-need)) el))/\
  au aB Z (.sl S.next 0 need sz) (.slice (some ⟨w.heap.size,0,none⟩) need (grownCap w need sCap el)):=by
 have hge:=grownCap_ge w need sCap el;have hcs:(vs.toArray++Builtin.zeroCells z.cells (grownCap w need sCap el-need)).size=grownCap w need sCap el*sz:=by
  simp only[Array.size_append,List.size_toArray,size_zeroCells,hzs,bE,<-Nat.add_mul];congr 1;omega
 have ZL:=hl.length
 obtain⟨g,hn⟩:=R.new (w':=w.drew.alloc (.cells (vs.toArray++Builtin.zeroCells z.cells (grownCap w need sCap el-need)) el)) (Ob.of el cells) (vs.toArray++Builtin.zeroCells z.cells (grownCap w need sCap el-need)) rfl rfl rfl rfl
  (by rw[Ob.ez];simp;omega) (fun i x hx=>by
   rw[Ob.ez] at hx;obtain⟨v,hv,hr⟩:=hl.get hx;refine⟨v,?_,hr,h1 v (List.mem_of_getElem? hv)⟩;have:=(List.getElem?_eq_some_iff.1 hv).1;rw[Array.getElem?_append_left (by simpa using this)];simpa using hv) rfl
 refine⟨_,g,.inr ⟨_,grownCap w need sCap el,⟨w.heap.size,0,none⟩,hn,rfl,hge,?_,.inr (by simp)⟩⟩;rw[hcs];simp
theorem qT(R:St base η Z S w){t ts ty el:TypeId}{i:TypeInfo}{d:TypeDesc}{z:List W}(hu:P.underlying t=some (.slice el))(hts:P.underlying ts=some d)(hd:∀ k,d≠.int k)(hi:P.info? el=some i)(hz:kr P el=some z)(hzl:z.length=i.size)(hsz:i.size≠0)
 {uy:Value} {cs:List W} (hsrc:Src P η Z w uy i.size cs) (hby:cs.length/i.size*i.bytes<=140737488355328) (h63:cs.length/i.size<=140737488355328) :
 bq P base η Z S w (do pure (Next.value (<-Builtin.append_ #[t,ts] ty #[.slice none 0 0,uy]))) (.p (.c (.sl S.next 0 (cs.length/i.size) i.size))) (S.add (Ob.of el cs)):=by
 obtain⟨m,vs,h1,h2,h3,h4,h5,h6⟩:=hsrc;obtain⟨i',zv,hi',hzv,hzs,_⟩:=uf (w:=w) hz;rw[hi] at hi';cases hi';have KO:zv.cells.size=i.size:=by
  have hr:=hzs;have:=hr.length;simp at this;omega
 have hdiv:cs.length/i.size=m:=by rw[h1];exact Nat.mul_div_cancel _ (by omega)
 by_cases hm:m=0;subst hm;have hcs:cs=[]:=List.eq_nil_of_length_eq_zero (by simpa using h1);subst hcs;have hnew:=h6 w 0 rfl (Nat.le_refl _);refine bq.of (u:=.slice none 0 0) ?_ (R.ow (o:=Ob.of el []) (by simp)) ⟨by simp,.inl ⟨by simp,rfl⟩⟩;simp[Builtin.append_,run_underlying hu,run_underlying hts,sizeOf,typeInfo,hi,h5,hnew];rw[hdiv] at hby h63 ⊢;have hv:(vs.take (m*i.size))=vs:=List.take_of_length_le (by omega);have hnew:=h6 w.drew m rfl (Nat.le_refl _);rw[hv] at hnew;have hrun:=ah.qM (P:=P) (ty:=ty) (m:=m) (olds:=[]) w hu hts hd hi hzv (b:=none) (sLen:=0) (sCap:=0) (by simp[Builtin.firstCells]) (h5 w) hnew (by omega) (by omega) (by simpa using hby);obtain⟨aB,g,hr⟩:=yO (z:=zv) (need:=m) (sCap:=0) (el:=el) R h3 h4 h2 KO;simp only[Nat.zero_add,Array.empty_append] at hrun;exact bq.of hrun g.up ⟨by simp,hr⟩
theorem QJ(R:St base η Z S w){t tn ty el:TypeId}{i:TypeInfo}{z:W}{zv:Value}{kn k:IntKind}(hu:P.underlying t=some (.slice el))(htn:P.underlying tn=some (.int kn))(hi:P.info? el=some i)(h1:i.size=1)(hzv:i.zero=some zv)(hz:AP z zv=true)
 {n:Int} (h0:0<n) (hb:1<=i.bytes) (h48:(i.bytes:Int)*n<=140737488355328) :
 bq P base η Z S w (do pure (Next.value (<-Builtin.append_ #[t,tn] ty #[.slice none 0 0,.int k n]))) (.p (.c (.sl S.next 0 n.toNat 1))) (S.add (Ob.of el (List.replicate n.toNat z))):=by
 obtain⟨m,rfl⟩:∃ m:Nat,n=m:=⟨n.toNat,by omega⟩;rw[Int.toNat_natCast];have hm:m<=m*i.bytes:=Nat.le_mul_of_pos_right _ hb;have h48':m*i.bytes<=140737488355328:=by rw[Int.mul_comm,<-Int.natCast_mul] at h48;omega
 have hrun:=Lib.run_append_nil_zeros (P:=P) w t tn ty el i zv k kn hu htn hi hzv m (by omega) (by omega) (by omega) (by omega);obtain⟨hr,_,hone,hy⟩:=xJ (η:=η) (Z:=Z) hz;have hcells:Builtin.zeroCells zv.cells m=(List.replicate m zv).toArray:=by
  rw[hy];unfold Builtin.zeroCells;apply Array.ext;simp;intro j hj1 hj2;simp[Nat.mod_one]
 have hrel : aI (au η Z) (List.replicate m z) (List.replicate m zv) := by
  apply aI.pQ;simp;intro j x v hx hv;rw[List.getElem?_replicate] at hx hv;split at hx;rename_i hj;rw[if_pos hj] at hv;cases hx;cases hv;exact hr;cases hx
 obtain⟨aB,g,hr'⟩:=yO (z:=zv) (need:=m) (sCap:=0) (sz:=1) (el:=el) R hrel (by intro v hv;rw[List.eq_of_mem_replicate hv];exact hone) (by simp) (by rw[hy];rfl);rw[hcells] at hrun;exact bq.of hrun g.up ⟨by simp,hr'⟩
def sP(zs:List PV)(sz m:Nat):List PV:=(List.range m).map fun i=>zs.getD (i%sz) (.bool false)
theorem NM(R:St base η Z S w){t tn ty el:TypeId}{i:TypeInfo}{zs:List PV}{zv:Value}{kn k:IntKind}(hu:P.underlying t=some (.slice el))(htn:P.underlying tn=some (.int kn))(hi:P.info? el=some i)(h1:0<i.size)(hzv:i.zero=some zv)(hsz:zv.cells.size=i.size)(hz:aI (au η Z) (zs.map PV.w) zv.cells.toList)(hone:∀ v∈zv.cells.toList,v.oneCell'=true)
 {n:Int} (h0:0<n) (hb:1<=i.bytes) (h48:(i.bytes:Int)*n<=140737488355328) :
 bq P base η Z S w (do pure (Next.value (<-Builtin.append_ #[t,tn] ty #[.slice none 0 0,.int k n]))) (.p (.c (.sl S.next 0 n.toNat i.size))) (S.add (Ob.of el ((sP zs i.size (n.toNat*i.size)).map PV.w))):=by
 obtain⟨m,rfl⟩:∃ m:Nat,n=m:=⟨n.toNat,by omega⟩;rw[Int.toNat_natCast];have hm:m<=m*i.bytes:=Nat.le_mul_of_pos_right _ hb;have h48':m*i.bytes<=140737488355328:=by rw[Int.mul_comm,<-Int.natCast_mul] at h48;omega
 have hrun:=Lib.run_append_nil_zeros (P:=P) w t tn ty el i zv k kn hu htn hi hzv m (by omega) h1 (by omega) (by omega);have bE:=hz.length;simp only[List.length_map,Array.length_toList] at bE;have hcs:(Builtin.zeroCells zv.cells m).toList.length=m*i.size:=by rw[Array.length_toList,size_zeroCells,hsz]
 have hget:∀ j v,(Builtin.zeroCells zv.cells m).toList[j]? = some v->zv.cells.toList[j%i.size]? = some v:=by
  intro j v hv;have hj:j<m*i.size:=by have:=(List.getElem?_eq_some_iff.1 hv).1;omega
  have hmod:j%i.size<zv.cells.size:=by rw[hsz];exact Nat.mod_lt _ h1
  unfold Builtin.zeroCells at hv;rw[hsz] at hv;simp only[Array.toList_map,Array.toList_range,List.getElem?_map,List.getElem?_range hj,Option.map_some,Option.some.injEq] at hv;rw[<-hv,Array.getElem?_toList,getElem!_pos zv.cells _ hmod,Array.getElem?_eq_getElem hmod]
 have hrel:aI (au η Z) ((sP zs i.size (m*i.size)).map PV.w) (Builtin.zeroCells zv.cells m).toList:=by
  apply aI.pQ;rw[hcs];simp[sP];intro j x v hx hv;have hj:j<m*i.size:=by have:=(List.getElem?_eq_some_iff.1 hv).1;omega
  have hg:=hget j v hv;simp only[sP,List.map_map,List.getElem?_map,List.getElem?_range hj,Option.map_some,Option.some.injEq,Function.comp] at hx;have hzl:j%i.size<zs.length:=by rw[bE,hsz];exact Nat.mod_lt _ h1
  rw[List.getD_eq_getElem?_getD,List.getElem?_eq_getElem hzl] at hx;have hx':(zs.map PV.w)[j%i.size]? = some x:=by rw[List.getElem?_map,List.getElem?_eq_getElem hzl,<-hx];rfl
  obtain⟨v',a,b⟩:=hz.get hx';rw[hg] at a;cases a;exact b
 have h1c:∀ v∈(Builtin.zeroCells zv.cells m).toList,v.oneCell'=true:=by
  intro v hv;obtain⟨j,hj⟩:=List.getElem?_of_mem hv;exact hone v (List.mem_of_getElem? (hget j v hj))
 obtain⟨aB,g,hr'⟩:=yO (z:=zv) (need:=m) (sCap:=0) (sz:=i.size) (el:=el) R hrel h1c hcs hsz;rw[Array.toArray_toList] at g;exact bq.of hrun g.up ⟨by simp,hr'⟩
theorem vP(R:St base η Z S w){t ts ty el:TypeId}{i:TypeInfo}{d:TypeDesc}{z:List W}(hu:P.underlying t=some (.slice el))(hts:P.underlying ts=some d)(hd:∀ k,d≠.int k)(hi:P.info? el=some i)(hz:kr P el=some z)(hzl:z.length=i.size)(hsz:i.size≠0)
 {uy:Value} {cs:List W} (hsrc:Src P η Z w uy i.size cs) {u:Value} {m off len:Nat} (hx:au η Z (.sl m off len i.size) u) {o:Ob} (ho:S.get m=some o) (hmo:¬o.gF) (hnw:¬o.wb) (hty:o.ty=el)
 (hb:off+len*i.size<=o.cells.length) (hap:¬o.bytes∨o.cells=[]∨(off=0/\len*i.size=o.cells.length/\∀ x∈cs,∃ n,x=W.int .u8 n)) (hby:(len+cs.length/i.size)*i.bytes<=140737488355328) (h63:len+cs.length/i.size<=140737488355328) :
 bq P base η Z S w (do pure (Next.value (<-Builtin.append_ #[t,ts] ty #[u,uy]))) (.p (.c (.sl S.next 0 (len+cs.length/i.size) i.size))) ((S.del m).add (Ob.of el ((o.cells.drop off).take (len*i.size)++cs))):=by
 obtain⟨k,vs,h1,h2,h3,h4,h5,h6⟩:=id hsrc;obtain⟨i',zv,hi',hzv,hzs,_⟩:=uf (w:=w) hz;rw[hi] at hi';cases hi';have KO:zv.cells.size=i.size:=by
  have hr:=hzs;have:=hr.length;simp at this;omega
 have hdiv:cs.length/i.size=k:=by rw[h1];exact Nat.mul_div_cancel _ (by omega)
 rw[hdiv] at hby h63 ⊢;rcases hx with ⟨rfl,rfl⟩|⟨pl,cap,ad,hpl,rfl,hcap,hroom,had⟩;have hg:=qT (base:=base) (S:=S.del m) (ty:=ty) (R.del m) hu hts hd hi hz hzl hsz hsrc (by rw[hdiv];simpa using hby) (by rw[hdiv];simpa using h63);rw[hdiv] at hg;have e1:(o.cells.drop off).take (0*i.size)++cs=cs:=by simp
 rw[e1,Nat.zero_add];obtain⟨nx,u,w',aB,Z',q1,q2,q3,q4⟩:=hg;exact⟨nx,u,w',aB,Z',q1,q2,⟨q3.le,q3.st,(Step.del m).trans q3.step⟩,q4⟩;obtain⟨olds,o1,o2,o3,o4⟩:=R.reads ho hpl hmo hb;have hvt:(vs.take (k*i.size))=vs:=List.take_of_length_le (by omega);by_cases hfit:len+k<=cap
 · -- in place
   by_cases hc0:cap=0
   · -- nothing is there, nothing comes
     have hl0:len=0:=by omega
     have hk0:k=0:=by omega
     subst hl0;subst hk0;have hcs:cs=[]:=by simpa using h1
     subst hcs;have hnew:=h6 w 0 rfl (Nat.le_refl _);have hrun:(Builtin.append_ #[t,ts] ty #[.slice (some ad) 0 cap,uy]).run P w=.ok (.slice (some ad) 0 cap) w:=by
      simp[Builtin.append_,run_underlying hu,run_underlying hts,sizeOf,typeInfo,hi,h5,hnew,storeCells]
     obtain⟨hbase,hzq,L⟩:=R.ai m o pl ho hpl;obtain⟨cc,fz,hcc,hroom',hv',pR⟩:=L.there hmo;have hfz:fz.1=fz.2∨fz.2<=pl.off:=by
      rcases hap with h|h|⟨h1,h2,_⟩;exact pR.plain h hnw;have:=pR.tail.imp_right (·.resolve_right fun h=>hnw h.1);rw[h] at this;simpa using this;have:=pR.tail.imp_right (·.resolve_right fun h=>hnw h.1);omega
     have hsize:=L.size hmo;let p0:ck:=⟨pl.block,pl.off,pl.room,[]⟩;have R':St base (η.add (S.del m).next p0) Z ((S.del m).add (Ob.of el [])) w:=(R.del m).ZK hbase hzq (fun n' o' p' hn' hp' hb'=>by
      rw[af.iN] at hn';split at hn';cases hn';rename_i hne;exact R.kR n' m o' o p' pl _ hn' ho hne hp' hpl hb' (.inl rfl)) (fun _ _=>rfl) rfl rfl rfl (fk.plain (by simp[Ob.gF,Ob.isMap,Ob.kQ]) ⟨cc,fz,by rw[<-hty];exact hcc,hroom',by simp,hfz⟩ (by simp))
     refine bq.of (Z':=Z) hrun ⟨Eta.uI (R.fresh _ (Nat.le_refl _)),by simpa using (show St base (η.add S.next p0) Z ((S.del m).add (Ob.of el [])) w from R'),⟨rfl,rfl,rfl,Nat.le_refl _,fun _ _ _=>rfl,?_,ar.le.refl _,fun _ _ hh=>.inl hh,rfl⟩⟩ ⟨by simp,.inr ⟨p0,cap,ad,Eta.gb,rfl,by omega,by subst hc0;simp,.inl hc0⟩⟩;rintro b ⟨n',o',p',hn',hp',hb'⟩;have hg:∀ j,((S.del m).add (Ob.of el [])).get j=if j=S.next then some (Ob.of el []) else(S.del m).get j:=fun j=>af.fH (R.del m).fu
     have hn'':=(hg n').symm.trans (by simpa using hn');by_cases hj:n'=S.next
     subst hj;rw[Eta.gb] at hp';cases hp';exact .inl ⟨m,o,pl,ho,hpl,.inl (ck.xD hb').symm⟩;rw[if_neg hj] at hn'';rw[Eta.jH hj] at hp';exact .inl (xH ⟨n',o',p',hn'',hp',hb'⟩)
   . have hca:ad=⟨pl.block,pl.off+off,none⟩:=by
      rcases had with h|h;exact absurd h hc0;exact h
     subst hca;obtain⟨hbase,hzq,L⟩:=R.ai m o pl ho hpl;obtain⟨cc,fz,hcc,hroom',hv',pR⟩:=L.there hmo;have hfz:∀ k,pl.off+off+len*i.size<=k->k<cc.size->¬(fz.1<=k/\k<fz.2):=by
      intro k a b;rcases hap with h|h|⟨h1,h2,_⟩;have:=pR.plain h hnw;omega;have:=pR.tail.imp_right (·.resolve_right fun h=>hnw h.1);rw[h] at this;simp at this;omega;have:=pR.tail.imp_right (·.resolve_right fun h=>hnw h.1);omega
     have hsize:=L.size hmo;have hmul:(len+k)*i.size<=cap*i.size:=Nat.mul_le_mul_right _ hfit;rw[Nat.add_mul] at hmul
     have hrun:=ah.vG (P:=P) (ty:=ty) w hu hts hd hi (bk:=pl.block) (off:=pl.off+off) (sLen:=len) (sCap:=cap) (news:=vs) (h5 w) (by have:=h6 w k rfl (Nat.le_refl _);rwa [hvt] at this) hfit
      (fun j hj=>by
       have:pl.off+off+len*i.size+j<cc.size:=by omega
       simp[World.cell?,hcc,this])
      (fun j hj=>by
       have:=hfz (pl.off+off+len*i.size+j) (by omega) (by omega);simp only[World.frozen?,hcc];simpa using this) h4
     obtain⟨c',g1,g2,g3,g4⟩:=ah.lM vs (pl.off+off+len*i.size) w cc hcc;have tU:=ah.je (base:=0) (bk:=pl.block) (Nat.zero_le _) vs (pl.off+off+len*i.size) w;let p':ck:=⟨pl.block,pl.off+off,pl.room-off,[]⟩;have hle:η.le (η.add S.next p'):=Eta.uI (R.fresh _ (Nat.le_refl _));have hlold:olds.length=len*i.size:=o2;have main:∀(j:Nat) x,(Ob.of el ((o.cells.drop off).take (len*i.size)++cs)).cells[j]? = some x->∃ v,c'[p'.off+j]? = some v/\au (η.add S.next p') Z x v/\v.oneCell'=true:=fun j x hx=>by
      show ∃ v,c'[pl.off+off+j]? = some v/\_;rw[Ob.ez] at hx;have hlen1:((o.cells.drop off).take (len*i.size)).length=len*i.size:=by simp;omega
      by_cases hj:j<len*i.size;rw[List.getElem?_append_left (by omega)] at hx;have hx':o.cells[off+j]? = some x:=by
       rw[List.getElem?_take,if_pos hj,List.getElem?_drop] at hx;exact hx
      obtain⟨v,q1,q2,q3⟩:=hv' _ _ hx';refine⟨v,?_,q2.mono hle (ar.le.refl _),q3⟩;rw[g3 _ (by omega),<-q1];congr 1;omega;rw[List.getElem?_append_right (by omega),hlen1] at hx;obtain⟨v,q1,q2⟩:=h3.get hx;have hjv:=(List.getElem?_eq_some_iff.1 q1).1;refine⟨v,?_,q2.mono hle (ar.le.refl _),h4 v (List.mem_of_getElem? q1)⟩;have:=g4 (j-len*i.size) hjv (by omega);rw[show pl.off+off+len*i.size+(j-len*i.size)=pl.off+off+j by omega] at this;rw[this];exact q1
     have R' : St base (η.add (S.del m).next p') Z ((S.del m).add (Ob.of el ((o.cells.drop off).take (len * i.size) ++ cs))) (w.setCells pl.block (pl.off + off + len * i.size) vs) := (R.del m).ZK hbase hzq (fun n' o' p'' hn' hp' hb' => by
      rw[af.iN] at hn';split at hn';cases hn';rename_i hne;exact R.kR n' m o' o p'' pl _ hn' ho hne hp' hpl hb' (.inl rfl)) (fun b hb'=>ah.gT hb' _ _ _) (ah.lN _ _ _) rfl rfl
      (fk.EL (fun hm'=>by
       rcases hm' with hm'|⟨_,_,hm'⟩<;>obtain⟨v,_,b,_⟩:=main 0 _ hm'<;>simp only[au,aF] at b)
       ⟨c', fz, by rw[← hty]; exact g1, by show pl.off + off + (pl.room - off) ≤ _; omega, main, by
        have hpo:p'.off=pl.off+off:=rfl;rcases Classical.em o.bytes with hB|hB;rcases hap with h|h|⟨q1,q2,q3⟩;exact absurd hB h;left;have:=pR.tail.imp_right (·.resolve_right fun h=>hnw h.1);rw[h] at this;simp at this;omega;have bK:(Ob.of el ((o.cells.drop off).take (len*i.size)++cs)).cells.length=len*i.size+cs.length:=by rw[Ob.ez];simp;omega
        rcases pR.tail.imp_right (·.resolve_right fun h=>hnw h.1) with ht|ht;exact .inl (.inl ht);refine .inr (.inl ⟨fun x hx=>?_,by omega⟩);rw[Ob.ez] at hx;rcases List.mem_append.1 hx with hx|hx;exact hB x (List.mem_of_mem_drop (List.mem_of_mem_take hx));exact q3 x hx;left;have:=pR.plain hB hnw;omega⟩
       (by rw[Ob.ez];show ((o.cells.drop off).take (len*i.size)++cs).length<=pl.room-off;simp;omega))
     refine bq.of (Z':=Z) hrun ⟨hle,R',⟨tU.os,tU.tape,tU.output,tU.size,?_,?_,ar.le.refl _,fun _ _ hh=>.inl hh,rfl⟩⟩ ⟨by simp,.inr ⟨p',cap,_,Eta.gb,rfl,hfit,?_,.inr rfl⟩⟩;intro b _ hno;exact ah.gT (fun hh=>hno ⟨m,o,pl,ho,hpl,.inl hh.symm⟩) _ _ _
     . rintro b ⟨n',o',p'',hn',hp',hb'⟩;have hg:∀ j,((S.del m).add (Ob.of el ((o.cells.drop off).take (len*i.size)++cs))).get j=if j=S.next then some (Ob.of el ((o.cells.drop off).take (len*i.size)++cs)) else(S.del m).get j:=fun j=>af.fH (R.del m).fu
       rw[hg] at hn';by_cases hj:n'=S.next
       subst hj;rw[Eta.gb] at hp';cases hp';exact .inl ⟨m,o,pl,ho,hpl,.inl (ck.xD hb').symm⟩;rw[if_neg hj] at hn';rw[Eta.jH hj] at hp';exact .inl (xH ⟨n',o',p'',hn',hp',hb'⟩)
     show 0+cap*i.size<=pl.room-off;omega
 · -- into new memory
   have hold:(Builtin.firstCells i.size len (.slice (some ad) len cap)).run P w.drew=.ok olds.toArray w.drew:=by
    by_cases hl0:len=0;subst hl0;have:olds=[]:=List.length_eq_zero_iff.1 (by simpa using o2);subst this;simp[Builtin.firstCells,loadCells,loadCellsFrom];have hca:ad=⟨pl.block,pl.off+off,none⟩:=by
     rcases had with h|h;omega;exact h
    subst hca;have:=tI (P:=P) (w:=w) (w':=w.drew) o4 rfl;rw[o2] at this;simp[Builtin.firstCells,this]
   have hnew:=h6 w.drew k rfl (Nat.le_refl _);rw[hvt] at hnew;have hrun:=ah.qM (P:=P) (ty:=ty) w hu hts hd hi hzv (b:=some ad) (sLen:=len) (sCap:=cap) hold (h5 w) hnew (by omega) (by omega) hby;obtain⟨aB,g,hr⟩:=yO (z:=zv) (need:=len+k) (sCap:=cap) (el:=el) (R.del m) (o1.append h3) (fun v hv=>by
    rcases List.mem_append.1 hv with hv|hv;exact o3 v hv;exact h4 v hv) (by simp[o2,h2,Nat.add_mul]) KO
   have happ:(olds++vs).toArray=olds.toArray++vs.toArray:=by simp
   rw[happ] at g;exact bq.of (Z':=Z) hrun ⟨g.le,g.st,(Step.del m).trans g.step⟩ ⟨by simp,hr⟩
structure ER(η:Eta)(S:af)(w:World)(n m k:Nat)(av:List (List Int))(rs:List (Nat×Nat))(b0:Nat):Prop where
 len:rs.length=av.length
 nodup:(rs.map (·.1)).Nodup
 own:∀ b∈rs.map (·.1),b≠b0/\n≠m/\∃ o pn,S.get n=some o/\η n=some pn/\pn.has b
 row:∀(i:Nat) r l,rs[i]? = some r->av[i]? = some l->l.length=k/\∃ c t fz,w.heap[r.1]? = some (.cells c t fz)/\r.2+k<=c.size/\(∀(j:Nat) x,l[j]? = some x->c[r.2+j]? = some (.int .i64 x))/\(∀ j,r.2<=j->j<c.size->¬(fz.1<=j/\j<fz.2))
 b0:b0=w.heap.size∨(n≠m/\∃ o pn,S.get n=some o/\η n=some pn/\pn.has b0)
def Ot(rs:List (Nat×Nat))(k:Nat)(vs:List Value):Prop:=vs.length=rs.length/\∀(i:Nat) r,rs[i]? = some r->∃ cp ad,vs[i]? = some (.slice ad k cp)/\k<=cp/\(0<k->ad=some ⟨r.1,r.2,none⟩)
theorem St.Tq(R:St base η Z S w){n m k b0:Nat}{av:List (List Int)}{rs:List (Nat×Nat)}(hpre:ER η S w n m k av rs b0){om:Ob}{pm:ck}{l l0:List Int}{ro:Nat}(hm:S.get m=some om)(hpm:η m=some pm)(hcm:om.cells=l0.map (W.int .i64))(hl0:l=l0.drop ro)(hl:l.length=k)
 {w':World} {p:ck} {el:TypeId} (hrows:p.av=rs++[(pm.block,if k=0 then pm.off else pm.off+ro)]) (hsz:w.heap.size<=w'.heap.size) (hblk:p.block=w.heap.size∨p.block=b0)
 (gW:∀ b,b<w.heap.size->b≠p.block->w'.heap[b]? = w.heap[b]?)
 (houter:∃ c fz,w'.heap[p.block]? = some (.cells c el fz)/\p.off+p.room<=c.size/\(∀(i:Nat) r,p.av[i]? = some r->∃ cp ad,c[p.off+i]? = some (.slice ad k cp)/\k<=cp/\(0<k->ad=some ⟨r.1,r.2,none⟩))/\(∀ j,p.off<=j->j<c.size->¬(fz.1<=j/\j<fz.2)))
 (hroom:av.length+1<=p.room) (hos:w'.os=w.os) (oR:w'.tape=w.tape) (hout:w'.output=w.output) :
 bL base η Z S w (η.add S.next p) Z (((S.del n).del m).add ⟨el,[.c (.th k (av++[l]))]⟩) w':=by
 have hle:η.le (η.add S.next p):=Eta.uI (R.fresh _ (Nat.le_refl _));have hmlt:=R.WT hm hpm;have hdel:∀ n' x,((S.del n).del m).get n'=some x->n'≠n/\n'≠m/\S.get n'=some x:=by
  intro n' x hx;rw[af.iN] at hx;split at hx;cases hx;rename_i h1;rw[af.iN] at hx;split at hx;cases hx;rename_i h2;exact⟨h2,h1,hx⟩
 -- where b0 lies
 have hb0:∀ b,b<w.heap.size->b=b0->n≠m/\∃ o pn,S.get n=some o/\η n=some pn/\pn.has b:=by
  rintro b hb rfl;rcases hpre.b0 with h|h;omega;exact h
 have hmp:pm.block≠p.block:=by
  intro e;rcases hblk with h|h;omega;obtain⟨hnm,o,pn,h1,h2,h3⟩:=hb0 pm.block hmlt (e.trans h);exact R.kR n m o om pn pm _ h1 hm hnm h2 hpm h3 pm.jf
 have hsp:∀ b∈rs.map (·.1),b≠p.block/\b<w.heap.size/\b≠pm.block:=by
  intro b hb;obtain⟨h1,hnm,o,pn,h2,h3,h4⟩:=hpre.own b hb;have hlt:=R.kq h2 h3 h4;refine⟨?_,hlt,fun e=>R.kR n m o om pn pm _ h2 hm hnm h3 hpm h4 (.inl e.symm)⟩;rcases hblk with h|h;omega;rw[h];exact h1
 have QK:p.sats=rs.map (·.1)++[pm.block]:=by unfold ck.sats;rw[hrows,List.map_append];rfl
 obtain⟨co,fo,lE,ES,ho3,ho4⟩:=houter
 -- who has the new blocks
 have hown : ∀ b, p.has b → w.heap.size ≤ b ∨ ((∃ o pn, n ≠ m ∧ S.get n = some o ∧ η n = some pn ∧ pn.has b) ∨ pm.has b) := by
  rintro b (h|h);rcases hblk with h'|h';left;omega;rcases Nat.lt_or_ge b w.heap.size with hlt|hge;obtain⟨hnm,o,pn,h2,h3,h4⟩:=hb0 b hlt (h.symm.trans h');exact .inr (.inl ⟨o,pn,hnm,h2,h3,h4⟩);exact .inl hge;rw[QK] at h;rcases List.mem_append.1 h with h|h;obtain⟨_,hnm,o,pn,h2,h3,h4⟩:=hpre.own b h;exact .inr (.inl ⟨o,pn,hnm,h2,h3,h4⟩);rw[List.mem_singleton] at h;subst h;exact .inr (.inr pm.jf)
 have hL : fk (η.add ((S.del n).del m).next p) Z ⟨el, [.c (.th k (av ++ [l]))]⟩ p w' := by
  obtain⟨_,_,Lm⟩:=R.ai m om pm hm hpm;have hmM:¬om.gF:=by
   rintro (h|⟨k',rows',h⟩);unfold Ob.isMap at h;rw[hcm] at h;cases l0<;>simp at h;unfold Ob.kQ at h;rw[hcm] at h;cases l0<;>simp at h
  obtain⟨cm,fm,hc1,hc2,hc3,hcu⟩:=Lm.there hmM;have hc4:∀ q,pm.off<=q->q<cm.size->¬(fm.1<=q/\q<fm.2):=by
   cases hl1:l0 with
   | nil =>
     intro q a b;have:=hcu.tail;rw[hcm,hl1] at this;simp at this;omega
   | cons x l' =>
     refine hcu.strong (fun hB=>?_);obtain⟨n',e⟩:=hB (.int .i64 x) (by rw[hcm,hl1];simp);cases e
  have hsm:=Lm.size hmM;refine fk.tab (k:=k) (av:=av++[l]) (Kx rfl) ⟨⟨co,fo,lE,ES,ho3,ho4⟩,?_,by simpa using hroom,?_,?_⟩;rw[hrows];simp[hpre.len];intro i r l' hr hl';rw[hrows] at hr;by_cases hi:i<rs.length;rw[List.getElem?_append_left hi] at hr;rw[List.getElem?_append_left (by rw[<-hpre.len];exact hi)] at hl';obtain⟨q1,c,t,fz,q2,q3⟩:=hpre.row i r l' hr hl';have hb:=hsp r.1 (List.mem_map.2 ⟨r,List.mem_of_getElem? hr,rfl⟩);exact⟨q1,c,t,fz,(gW _ hb.2.1 hb.1).trans q2,q3⟩;rw[List.getElem?_append_right (by omega)] at hr;rw[List.getElem?_append_right (by rw[<-hpre.len];omega)] at hl';have hi0:i-rs.length=0:=by
   have:=(List.getElem?_eq_some_iff.1 hr).1;simpa using this
  rw[hi0] at hr;have:i-av.length=0:=by rw[<-hpre.len];exact hi0
  rw[this] at hl';cases hr;cases hl';refine⟨hl,cm,om.ty,fm,(gW _ hmlt hmp).trans hc1,?_,?_,fun q a b=>hc4 q (Nat.le_trans (by show pm.off<=(if k=0 then pm.off else pm.off+ro);split<;>omega) a) b⟩;show (if k=0 then pm.off else pm.off+ro)+k<=cm.size;split;omega;have hl':=hl;rw[hl0,List.length_drop] at hl';rw[hcm,List.length_map] at hsm;omega;intro j x hx;have hk0:¬k=0:=fun h=>by rw[List.eq_nil_of_length_eq_zero (hl.trans h)] at hx;cases hx
  show cm[(if k=0 then pm.off else pm.off+ro)+j]? = _;rw[if_neg hk0];have hx':l0[ro+j]? = some x:=by rw[hl0,List.getElem?_drop] at hx;exact hx
  obtain⟨v,e1,e2,_⟩:=hc3 (ro+j) (.int .i64 x) (by rw[hcm,List.getElem?_map,hx'];rfl);simp only[au,aF] at e2;rw[<-Nat.add_assoc] at e1;rw[e1,e2];rw[QK,List.nodup_cons];constructor;intro h;rcases List.mem_append.1 h with h|h;exact(hsp _ h).1 rfl;rw[List.mem_singleton] at h;exact hmp h.symm;rw[List.nodup_append];refine⟨hpre.nodup,by simp,?_⟩;intro a ha b hb;rw[List.mem_singleton] at hb;subst hb;exact(hsp a ha).2.2
 refine⟨hle,((R.del n).del m).Tl (p:=p) (w':=w') ?_ (fun k hk hp=>gW k hk fun e=>hp (.inl e.symm)) hsz hL,⟨hos,oR,hout,hsz,?_,?_,ar.le.refl _,fun _ _ h=>.inl h,rfl⟩⟩;intro b hb;have Kl : ∃ ob, w'.heap[b]? = some ob ∧ qQ ob = true := by
  by_cases Ou:b=p.block;subst Ou;exact⟨_,lE,rfl⟩;rcases hb with h|h;exact absurd h.symm Ou;rw[QK] at h;rcases List.mem_append.1 h with h|h;obtain⟨_,hnm,o,pn,h2,h3,h4⟩:=hpre.own b h;obtain⟨_,_,ob,e1,e2⟩:=R.all h2 h3 h4;exact⟨ob,(gW b (cM e1) Ou).trans e1,e2⟩;rw[List.mem_singleton] at h;obtain⟨_,_,ob,e1,e2⟩:=R.all hm hpm (b:=b) (.inl h.symm);exact⟨ob,(gW b (cM e1) Ou).trans e1,e2⟩
 rcases hown b hb with h|⟨o,pn,hnm,h2,h3,h4⟩|h;refine⟨Nat.le_trans R.iR h,?_,Kl,fun n' x q hx hq hb'=>?_⟩
 . cases e:Z b with
   | none=>rfl
   | some cs=>have:=R.WU e;omega
 have:=R.kq (hdel n' x hx).2.2 hq hb';omega;obtain⟨q1,q2,_⟩:=R.all h2 h3 h4;exact⟨q1,q2,Kl,fun n' x q hx hq hb'=>R.kR n' n x o q pn b (hdel n' x hx).2.2 h2 (hdel n' x hx).1 hq h3 hb' h4⟩;obtain⟨q1,q2,_⟩:=R.all hm hpm h;exact⟨q1,q2,Kl,fun n' x q hx hq hb'=>R.kR n' m x om q pm b (hdel n' x hx).2.2 hm (hdel n' x hx).2.1 hq hpm hb' h⟩;intro b hb hno;refine gW b hb fun e=>?_;rcases hown b (.inl e.symm) with h|⟨o,pn,_,h2,h3,h4⟩|h;omega;exact hno ⟨n,o,pn,h2,h3,h4⟩;exact hno ⟨m,om,pm,hm,hpm,h⟩
 . rintro b ⟨n',x,q,hx,hq,hb⟩;have hg:∀ j,(((S.del n).del m).add ⟨el,[.c (.th k (av++[l]))]⟩).get j=if j=S.next then some ⟨el,[.c (.th k (av++[l]))]⟩ else((S.del n).del m).get j:=fun j=>af.fH ((R.del n).del m).fu
   rw[hg] at hx;by_cases hj:n'=S.next
   subst hj;rw[Eta.gb] at hq;cases hq;rcases hown b hb with h|⟨o,pn,_,h2,h3,h4⟩|h;exact .inr h;exact .inl ⟨n,o,pn,h2,h3,h4⟩;exact .inl ⟨m,om,pm,hm,hpm,h⟩;rw[if_neg hj] at hx;rw[Eta.jH hj] at hq;exact .inl ⟨n',x,q,(hdel n' x hx).2.2,hq,hb⟩
theorem Ov(R:St base η Z S w){uy:Value}{m k ro:Nat}(hsrc:Src P η Z w uy 1 [.sl m ro k 1]){om:Ob}{l0:List Int}(hm:S.get m=some om)(hcm:om.cells=l0.map (W.int .i64))(hk:0<k∨0<l0.length):∃ pm cp ad,η m=some pm/\k<=cp/\(0<k->ad=some ⟨pm.block,pm.off+ro,none⟩)/\(∀ w',(Builtin.lenOf uy).run P w'=.ok 1 w')/\∀ w',w'.heap=w.heap->(Builtin.firstCells 1 1 uy).run P w'=.ok #[.slice ad k cp] w':=by
 obtain⟨mm,vs,h1,h2,h3,_,h5,h6⟩:=hsrc;have hmm:mm=1:=by simpa using h1.symm
 subst hmm;cases vs with
 | nil=>simp at h2
 | cons v vs =>
   have:vs=[]:=List.eq_nil_of_length_eq_zero (by simpa using h2);subst this;rcases h3.1 with ⟨h0,rfl⟩|⟨pm,cp,ad,q1,rfl,q2,q3,q4⟩
   . subst h0;cases hp:η m with
     | none =>
       have:=R.cL m om hm hp;rw[hcm,List.map_eq_nil_iff] at this;rw[this] at hk;simp at hk
     | some pm=>exact⟨pm,0,none,rfl,Nat.le_refl _,fun h=>absurd h (Nat.lt_irrefl _),h5,fun w' hw=>by simpa using h6 w' 1 hw (Nat.le_refl _)⟩
   exact⟨pm,cp,some ad,q1,q2,fun h=>by
    rcases q4 with h|h;omega;rw[h],h5,fun w' hw=>by simpa using h6 w' 1 hw (Nat.le_refl _)⟩
theorem qU(R:St base η Z S w){t ts ty el:TypeId}{i:TypeInfo}{d:TypeDesc}{z:List W}(hu:P.underlying t=some (.slice el))(hts:P.underlying ts=some d)(hd:∀ k,d≠.int k)(hi:P.info? el=some i)(hz:kr P el=some z)(hzl:z.length=i.size)(h1:i.size=1)
 {uy:Value} {n m k:Nat} {om:Ob} {l l0:List Int} {ro:Nat} (hsrc:Src P η Z w uy 1 [.sl m ro k 1]) (hm:S.get m=some om) (hcm:om.cells=l0.map (W.int .i64)) (hl0:l=l0.drop ro) (hl:l.length=k) (hk:0<k∨0<l0.length) {av:List (List Int)} {rs:List (Nat×Nat)} {b0:Nat} (hpre:ER η S w n m k av rs b0) {olds:List Value} (hold:Ot rs k olds)
 {ad:Option Addr} {cap:Nat} (hfst:∀ w',w'.heap=w.heap->(Builtin.firstCells 1 av.length (.slice ad av.length cap)).run P w'=.ok olds.toArray w') (hfit:cap<av.length+1)
 (hby:(av.length+1)*i.bytes<=140737488355328) (h63:av.length+1<=140737488355328) :
 bq P base η Z S w (do pure (Next.value (<-Builtin.append_ #[t,ts] ty #[.slice ad av.length cap,uy]))) (.p (.c (.sl S.next 0 (av.length+1) 1))) (((S.del n).del m).add ⟨el,[.c (.th k (av++[l]))]⟩):=by
 obtain⟨pm,cp,Tr,hpm,hcp,W9,h5,h6⟩:=Ov R hsrc hm hcm hk;obtain⟨i',zv,hi',hzv,hzs,_⟩:=uf (w:=w) hz;rw[hi] at hi';cases hi';have KO:zv.cells.size=1:=by
  have hr:=hzs;have:=hr.length;simp at this;omega
 let v:Value:=.slice Tr k cp;have hrun:=ah.qM (P:=P) (ty:=ty) (m:=1) (olds:=olds) (news:=[v]) w hu hts hd hi hzv (b:=ad) (sLen:=av.length) (sCap:=cap) (by rw[h1];exact hfst _ rfl) (h5 w) (by rw[h1];exact h6 _ rfl) hfit h63 hby;generalize EI:grownCap w (av.length+1) cap el=gc at hrun;have hge:av.length+1<=gc:=by rw[<-EI];exact grownCap_ge w _ _ _
 have ZM:olds.length=av.length:=by rw[hold.1,hpre.len]
 have hcs:(olds.toArray++[v].toArray++Builtin.zeroCells zv.cells (gc-(av.length+1))).size=gc:=by
  simp only[Array.size_append,List.size_toArray,size_zeroCells,KO,List.length_singleton,Nat.mul_one];omega
 let p:ck:=⟨w.heap.size,0,gc,rs++[(pm.block,if k=0 then pm.off else pm.off+ro)]⟩
 have hmv := R.Tq hpre hm hpm hcm hl0 hl (w' := w.drew.alloc (.cells (olds.toArray ++ [v].toArray ++ Builtin.zeroCells zv.cells (gc - (av.length + 1))) el)) (p := p) (el := el) rfl (by show w.heap.size ≤ (w.heap.push _).size; rw[Array.size_push]; omega) (.inl rfl)
  (fun b hb hne=>by
   show (w.heap.push _)[b]? = _;rw[Array.getElem?_push,if_neg (by omega)])
  ⟨olds.toArray++[v].toArray++Builtin.zeroCells zv.cells (gc-(av.length+1)),(0,0),Array.getElem?_push_size,by rw[hcs];show 0+gc<=gc;omega,by
   intro j r hr;show ∃ Ts Tt,(olds.toArray++[v].toArray++_)[0+j]? = some (.slice Tt k Ts)/\_;rw[Nat.zero_add];by_cases hj:j<rs.length;have hr':rs[j]? = some r:=by rw[<-hr];exact(List.getElem?_append_left hj).symm
   obtain⟨Ts,Tt,e1,e2⟩:=hold.2 j r hr';refine⟨Ts,Tt,?_,e2⟩;have h0:=hold.1;rw[Array.getElem?_append_left (by simp;omega),Array.getElem?_append_left (by simp;have:=hold.1;omega)];simpa using e1;have hr':[(pm.block,if k=0 then pm.off else pm.off+ro)][j-rs.length]? = some r:=by rw[<-hr];exact(List.getElem?_append_right (by omega)).symm
   have hj0:j-rs.length=0:=by
    have:=(List.getElem?_eq_some_iff.1 hr').1;simpa using this
   rw[hj0] at hr';cases hr';refine⟨cp,Tr,?_,hcp,fun h=>by rw[W9 h];show _=some (⟨pm.block,if k=0 then pm.off else pm.off+ro,none⟩:Addr);rw[if_neg (by omega)]⟩;have hjr:j=olds.length:=by have:=hold.1;omega
   subst hjr;rw[Array.getElem?_append_left (by simp),Array.getElem?_append_right (by simp)];simp[v],fun _ _ _=>by simp⟩
  hge rfl rfl rfl
 exact bq.of hrun hmv ⟨by simp,.inr ⟨p,gc,⟨w.heap.size,0,none⟩,Eta.gb,rfl,hge,by show 0+gc*1<=gc;omega,.inr rfl⟩⟩
theorem Tv(R:St base η Z S w){n m k:Nat}{av:List (List Int)}{o:Ob}{pn:ck}(hne:n≠m)(hn:S.get n=some o)(ht:o.kQ k av)(KP:η n=some pn):ER η S w n m k av pn.av pn.block:=by
 obtain⟨_,_,L⟩:=R.ai n o pn hn KP;have T:=L.tabs k av ht;have hnd:=T.nodup;rw[List.nodup_cons] at hnd;exact⟨T.len,hnd.2,fun b hb=>⟨fun e=>hnd.1 (e▸hb),hne,o,pn,hn,KP,.inr hb⟩,T.row,.inr ⟨hne,o,pn,hn,KP,pn.jf⟩⟩
theorem QL(R:St base η Z S w){n k:Nat}{av:List (List Int)}{o:Ob}{pn:ck}(hn:S.get n=some o)(ht:o.kQ k av)(KP:η n=some pn) :
 ∃ olds,Ot pn.av k olds/\∀(j:Nat) v,olds[j]? = some v->w.cell? ⟨pn.block,pn.off+j,none⟩=some v:=by
 obtain⟨_,_,L⟩:=R.ai n o pn hn KP;have T:=L.tabs k av ht;obtain⟨c,fz,h1,h2,h3,_⟩:=T.outer;have hroom:=T.room;have bE:=T.len;refine⟨(c.toList.drop pn.off).take pn.av.length,⟨by simp;omega,?_⟩,?_⟩;intro i r hr;obtain⟨cp,ad,e1,e2⟩:=h3 i r hr;have hi:=(List.getElem?_eq_some_iff.1 hr).1;refine⟨cp,ad,?_,e2⟩;rw[List.getElem?_take,if_pos hi,List.getElem?_drop];simpa using e1;intro j v hv;rw[List.getElem?_take] at hv;split at hv;rw[List.getElem?_drop] at hv;simp[World.cell?,h1];simpa using hv;cases hv
theorem ET(R:St base η Z S w){t ts ty el:TypeId}{i:TypeInfo}{d:TypeDesc}{z:List W}(hu:P.underlying t=some (.slice el))(hts:P.underlying ts=some d)(hd:∀ k,d≠.int k)(hi:P.info? el=some i)(hz:kr P el=some z)(hzl:z.length=i.size)(h1:i.size=1)
 {uy:Value} {n m k:Nat} {om:Ob} {l l0:List Int} {ro:Nat} (hsrc:Src P η Z w uy 1 [.sl m ro k 1]) (hm:S.get m=some om) (hcm:om.cells=l0.map (W.int .i64)) (hl0:l=l0.drop ro) (hl:l.length=k) (hk:0<k∨0<l0.length)
 {u:Value} {av:List (List Int)} {o:Ob} (hx:au η Z (.sl n 0 av.length 1) u) (ho:S.get n=some o) (hto:o.kQ k av) (hty:o.ty=el) (hne:n≠m)
 (hby:(av.length+1)*i.bytes<=140737488355328) (h63:av.length+1<=140737488355328) :
 bq P base η Z S w (do pure (Next.value (<-Builtin.append_ #[t,ts] ty #[u,uy]))) (.p (.c (.sl S.next 0 (av.length+1) 1))) (((S.del n).del m).add ⟨el,[.c (.th k (av++[l]))]⟩):=by
 have hnil:∀{uy:Value},av=[]->ER η S w n m k av [] w.heap.size:=fun h=>⟨by subst h;rfl,by simp,by simp,by simp,.inl rfl⟩;rcases hx with ⟨h0,rfl⟩|⟨pl,cap,ad,hpl,rfl,hcap,hroom,had⟩;have hr0:av=[]:=List.eq_nil_of_length_eq_zero h0;subst hr0;exact qU (ad:=none) (cap:=0) (olds:=[]) (n:=n) R hu hts hd hi hz hzl h1 hsrc hm hcm hl0 hl hk (hnil (uy:=uy) rfl) ⟨rfl,by simp⟩ (fun w' _=>by simp[Builtin.firstCells]) (by simp) hby h63;have hpre:=Tv R hne ho hto hpl;obtain⟨olds,hold,hcell⟩:=QL R ho hto hpl;have hca:cap=0∨ad=⟨pl.block,pl.off,none⟩:=by simpa using had
 by_cases hfit:av.length+1<=cap;obtain⟨pm,cp,Tr,hpm,hcp,W9,h5,h6⟩:=Ov R hsrc hm hcm hk;have hca:ad=⟨pl.block,pl.off,none⟩:=by
  rcases hca with h|h;omega;exact h
 subst hca;obtain⟨_,_,L⟩:=R.ai n o pl ho hpl;have T:=L.tabs k av hto;obtain⟨cc,fz,hcc,hsz,hrow,hfz⟩:=T.outer;have hroom':=T.room;let v:Value:=.slice Tr k cp
 have hrun:=ah.vG (P:=P) (ty:=ty) (m:=1) w hu hts hd hi (bk:=pl.block) (off:=pl.off) (sLen:=av.length) (sCap:=cap) (news:=[v]) (h5 w) (by rw[h1];exact h6 w rfl) hfit
  (fun j hj=>by
   have hj0:j=0:=by simpa using hj
   subst hj0;have:pl.off+av.length*i.size+0<cc.size:=by rw[h1];omega
   simp[World.cell?,hcc];simpa using this)
  (fun j hj=>by
   have hj0:j=0:=by simpa using hj
   subst hj0;have:=hfz (pl.off+av.length*i.size+0) (by omega) (by rw[h1];omega);simp only[World.frozen?,hcc];simpa using this) (by intro x hx;rw[List.mem_singleton] at hx;subst hx;rfl)
 rw[h1,Nat.mul_one] at hrun;obtain⟨c',g1,g2,g3,g4⟩:=ah.lM [v] (pl.off+av.length) w cc hcc;have tU:=ah.je (base:=0) (bk:=pl.block) (Nat.zero_le _) [v] (pl.off+av.length) w;let p:ck:=⟨pl.block,pl.off,pl.room,pl.av++[(pm.block,if k=0 then pm.off else pm.off+ro)]⟩
 have hmv := R.Tq hpre hm hpm hcm hl0 hl (w' := w.setCells pl.block (pl.off + av.length) [v]) (p := p) (el := el) rfl (by rw[ah.lN]; exact Nat.le_refl _) (.inr rfl)
  (fun b _ hb=>ah.gT hb _ _ _)
  ⟨c',fz,by rw[<-hty];exact g1,by rw[g2];exact hsz,by
   intro j r hr;by_cases hj:j<pl.av.length;have hr':pl.av[j]? = some r:=by rw[<-hr];exact(List.getElem?_append_left hj).symm
   obtain⟨Ts,Tt,e1,e2⟩:=hrow j r hr';refine⟨Ts,Tt,?_,e2⟩;rw[<-e1];have:=T.len;exact g3 (pl.off+j) (.inl (by omega));have hr':[(pm.block,if k=0 then pm.off else pm.off+ro)][j-pl.av.length]? = some r:=by rw[<-hr];exact(List.getElem?_append_right (by omega)).symm
   have hj0:j-pl.av.length=0:=by
    have:=(List.getElem?_eq_some_iff.1 hr').1;simpa using this
   rw[hj0] at hr';cases hr';refine⟨cp,Tr,?_,hcp,fun h=>by rw[W9 h];show _=some (⟨pm.block,if k=0 then pm.off else pm.off+ro,none⟩:Addr);rw[if_neg (by omega)]⟩;have:=T.len;have hjr:j=av.length:=by omega
   subst hjr;have:=g4 0 (by simp) (by omega);simpa using this,by rw[g2];exact hfz⟩
  (by show av.length+1<=pl.room;omega) tU.os tU.tape tU.output
 exact bq.of hrun hmv ⟨by simp,.inr ⟨p,cap,_,Eta.gb,rfl,hfit,hroom,.inr rfl⟩⟩;refine qU (n:=n) R hu hts hd hi hz hzl h1 hsrc hm hcm hl0 hl hk hpre hold (fun w' hw'=>?_) (by omega) hby h63;have ZM:olds.length=av.length:=by rw[hold.1,hpre.len]
 by_cases h0:av.length=0;have:olds=[]:=List.length_eq_zero_iff.1 (by omega);subst this;rw[h0];simp[Builtin.firstCells,loadCells,loadCellsFrom];have hca:ad=⟨pl.block,pl.off,none⟩:=by
  rcases hca with h|h;omega;exact h
 subst hca;have:=tI (P:=P) (w:=w) (w':=w') hcell hw';rw[ZM] at this;simp[Builtin.firstCells,this]
theorem Gw(R:St base η Z S w){t ts ty el:TypeId}{i:TypeInfo}{d:TypeDesc}{z:List W}(hu:P.underlying t=some (.slice el))(hts:P.underlying ts=some d)(hd:∀ k,d≠.int k)(hi:P.info? el=some i)(hz:kr P el=some z)(hzl:z.length=i.size)(h1:i.size=1)
 {uy:Value} {m k:Nat} {om:Ob} {l l0:List Int} {ro:Nat} (hsrc:Src P η Z w uy 1 [.sl m ro k 1]) (hm:S.get m=some om) (hcm:om.cells=l0.map (W.int .i64)) (hl0:l=l0.drop ro) (hl:l.length=k) (hk:0<k∨0<l0.length)
 (hby:i.bytes<=140737488355328) :
 bq P base η Z S w (do pure (Next.value (<-Builtin.append_ #[t,ts] ty #[.slice none 0 0,uy]))) (.p (.c (.sl S.next 0 1 1))) ((S.del m).add ⟨el,[.c (.th k [l])]⟩):=by
 have g:=qU (ty:=ty) (ad:=none) (cap:=0) (olds:=[]) (n:=S.next) (av:=[]) (rs:=[]) (b0:=w.heap.size) R hu hts hd hi hz hzl h1 hsrc hm hcm hl0 hl hk ⟨rfl,by simp,by simp,by simp,.inl rfl⟩ ⟨rfl,by simp⟩ (fun w' _=>by simp[Builtin.firstCells]) (by simp) (by simpa using hby) (by simp);refine g.alike ⟨⟨rfl,rfl⟩,fun j=>?_⟩;have e1:∀ j,(((S.del S.next).del m).add ⟨el,[.c (.th k [l])]⟩).get j=if j=S.next then some ⟨el,[.c (.th k [l])]⟩ else((S.del S.next).del m).get j:=fun j=>af.fH ((R.del _).del m).fu
 have e2:∀ j,((S.del m).add ⟨el,[.c (.th k [l])]⟩).get j=if j=S.next then some ⟨el,[.c (.th k [l])]⟩ else(S.del m).get j:=fun j=>af.fH (R.del m).fu
 show match (((S.del S.next).del m).add ⟨el,[.c (.th k [l])]⟩).get j,((S.del m).add ⟨el,[.c (.th k [l])]⟩).get j with|none,none=>True|some o,some o'=>o'.ty=o.ty/\o'.cells=o.cells|_,_=>False
 rw[e1,e2];by_cases hj:j=S.next
 rw[if_pos hj,if_pos hj];exact⟨rfl,rfl⟩;rw[if_neg hj,if_neg hj,af.iN,af.iN,af.iN];rw[if_neg hj];by_cases hjm:j=m;rw[if_pos hjm];trivial;rw[if_neg hjm];cases S.get j with
 | none=>trivial
 | some x=>exact⟨rfl,rfl⟩
end
end Go.aN
