/- The walk by values, first part: values, stores, operations. It holds for every program and every world, under the hypotheses that each theorem names. -/
import Derived.Test.YtcimgfhfpiapaaaGreatDoorMill1
namespace Go.aU
open Go.RowKit
open Go.ah (T)
inductive PV where
 | int (n:Int)
 | bool (b:Bool)
 | str (s:ByteArray)
 | strs (l:List ByteArray)
 | aZ (sz:Nat) (l:List PV)
inductive D where
 | int (k:IntKind)
 | bool
 | str
 | sl (d:D)
 | pv
def D.dec:(a b:D)->Decidable (a=b)
 | .int k,.int k'=>if h:k=k' then isTrue (by rw[h]) else isFalse (fun e=>by cases e;exact h rfl)
 | .bool,.bool=>isTrue rfl
 | .str,.str=>isTrue rfl
 | .sl a,.sl b=>match D.dec a b with
   | isTrue h=>isTrue (by rw[h])
   | isFalse h=>isFalse (fun e=>by cases e;exact h rfl)
 | .int _,.bool=>isFalse (fun e=>by cases e)
 | .int _,.str=>isFalse (fun e=>by cases e)
 | .int _,.sl _=>isFalse (fun e=>by cases e)
 | .bool,.int _=>isFalse (fun e=>by cases e)
 | .bool,.str=>isFalse (fun e=>by cases e)
 | .bool,.sl _=>isFalse (fun e=>by cases e)
 | .str,.int _=>isFalse (fun e=>by cases e)
 | .str,.bool=>isFalse (fun e=>by cases e)
 | .str,.sl _=>isFalse (fun e=>by cases e)
 | .sl _,.int _=>isFalse (fun e=>by cases e)
 | .sl _,.bool=>isFalse (fun e=>by cases e)
 | .sl _,.str=>isFalse (fun e=>by cases e)
 | .pv,.pv=>isTrue rfl
 | .int _,.pv=>isFalse (fun e=>by cases e)
 | .bool,.pv=>isFalse (fun e=>by cases e)
 | .str,.pv=>isFalse (fun e=>by cases e)
 | .sl _,.pv=>isFalse (fun e=>by cases e)
 | .pv,.int _=>isFalse (fun e=>by cases e)
 | .pv,.bool=>isFalse (fun e=>by cases e)
 | .pv,.str=>isFalse (fun e=>by cases e)
 | .pv,.sl _=>isFalse (fun e=>by cases e)
instance:DecidableEq D:=D.dec
abbrev D.ty:D->Type
 | .int _=>Int
 | .bool=>Bool
 | .str=>ByteArray
 | .sl d=>List d.ty
 | .pv=>PV
def D.zero:(d:D)->d.ty
 | .int _=>(0:Int)
 | .bool=>false
 | .str=>⟨#[]⟩
 | .sl d=>([]:List d.ty)
 | .pv=>PV.bool false
inductive W where
 | bool (b:Bool)
 | int (k:IntKind) (n:Int)
 | str (s:ByteArray)
 | dH
 | ptr (n off:Nat)
 | pe (n off i:Nat)
 | nil
 | sl (n off len sz:Nat)
 | ro (sz:Nat) (cs:List W)
 | rp (cs:List W) (off:Nat)
 | rd (d:D) (l:List d.ty)
 | re (d:D) (l:List d.ty) (i:Nat)
 | mo
 | func (f:FuncId) (caps:List (Nat×Nat))
 | yield (l:Nat)
 | kC
 | cX
 | mp (n:Nat)
 | mh
 | ba (n:Nat)
 | nN (f:FuncId) (n off:Nat)
 | th (k:Nat) (av:List (List Int))
 | row (n i len:Nat)
 | o6 (n i j:Nat)
 | val (v:Value)
 | lZ (n:Int)
 | rs (sz:Nat) (l:List PV)
 | y7 (b:Bool)
inductive V where
 | c (x:W)
 | agg (cs:List W)
inductive A where
 | p (v:V)
 | bF (vs:List V)
 | cond (c:Prop) (v:V)
 | dec (b:Bool)
structure cn where
 block:Nat
 off:Nat
 room:Nat
 av:List (Nat×Nat)
abbrev Eta:=Nat->Option cn
abbrev ar:=Nat->Option (Array Value)
def Eta.le(η aC:Eta):Prop:=∀ n p,η n=some p->aC n=some p
def ar.le(Z Z':ar):Prop:=∀ b c,Z b=some c->Z' b=some c
theorem Eta.le.refl(η:Eta):η.le η:=fun _ _ h=>h
theorem Eta.le.trans{a b c:Eta}(h:a.le b)(k:b.le c):a.le c:=fun n p e=>k n p (h n p e)
theorem ar.le.refl(Z:ar):Z.le Z:=fun _ _ h=>h
theorem ar.le.trans{a b c:ar}(h:a.le b)(k:b.le c):a.le c:=fun n p e=>k n p (h n p e)
mutual
def dw(Z:ar):PV->Value->Prop
 | .int n,v=>v=.int .i64 n
 | .bool b,v=>v=.bool b
 | .str s,v=>v=.string s
 | .strs l,v=>∃ a len c,v=.slice a len c/\l.length=len/\len<=c/\(l=[]∨∃ b off cells,a=some ⟨b,off,none⟩/\Z b=some cells/\∀(i:Nat)(x:ByteArray),l[i]? = some x->∃ u,cells[off+i]? = some u/\u=.string x)
 | .aZ sz l,v=>∃ a len c,v=.slice a len c/\l.length=len*sz/\len<=c/\(l=[]∨∃ b off cells,a=some ⟨b,off,none⟩/\Z b=some cells/\iV Z cells off l)
def iV(Z:ar)(cells:Array Value):Nat->List PV->Prop
 | _,[]=>True
 | o,x::l=>(∃ u,cells[o]? = some u/\dw Z x u)/\iV Z cells (o+1) l
end
mutual
theorem dw.mono{Z Z':ar}(h:Z.le Z'):∀{x:PV}{v:Value},dw Z x v->dw Z' x v
 | .int _,_,e=>by simpa only[dw] using e
 | .bool _,_,e=>by simpa only[dw] using e
 | .str _,_,e=>by simpa only[dw] using e
 | .strs l,v,e=>by
   simp only[dw] at e ⊢;obtain⟨a,len,c,h1,h2,h3,h4⟩:=e;refine⟨a,len,c,h1,h2,h3,?_⟩;rcases h4 with h4|⟨b,off,cells,h4,h5,h6⟩;exact .inl h4;exact .inr ⟨b,off,cells,h4,h _ _ h5,h6⟩
 | .aZ sz l,v,e=>by
   simp only[dw] at e ⊢;obtain⟨a,len,c,h1,h2,h3,h4⟩:=e;refine⟨a,len,c,h1,h2,h3,?_⟩;rcases h4 with h4|⟨b,off,cells,h4,h5,h6⟩;exact .inl h4;exact .inr ⟨b,off,cells,h4,h _ _ h5,iV.mono h h6⟩
theorem iV.mono{Z Z':ar}(h:Z.le Z'){cells:Array Value}:∀{o:Nat}{l:List PV},iV Z cells o l->iV Z' cells o l
 | _,[],_=>by simp only[iV]
 | o,x::l,e=>by
   simp only[iV] at e ⊢;obtain⟨⟨u,h1,h2⟩,h3⟩:=e;exact⟨⟨u,h1,dw.mono h h2⟩,iV.mono h h3⟩
end
theorem iV.iff{Z:ar}{cells:Array Value}:∀{l:List PV}{o:Nat},iV Z cells o l↔∀(i:Nat)(x:PV),l[i]? = some x->∃ u,cells[o+i]? = some u/\dw Z x u
 | [],_=>by simp[iV]
 | y :: l, o => by
   simp only[iV];rw[iV.iff (l:=l) (o:=o+1)];constructor
   . rintro⟨h0,h1⟩ i x e;cases i with
     | zero=>simp only[List.getElem?_cons_zero,Option.some.injEq] at e;subst e;simpa using h0
     | succ i =>
       simp only[List.getElem?_cons_succ] at e;obtain⟨u,a,b⟩:=h1 i x e;exact⟨u,by rw[<-a];congr 1;omega,b⟩
   intro h;refine⟨by simpa using h 0 y rfl,fun i x e=>?_⟩;obtain⟨u,a,b⟩:=h (i+1) x (by simpa using e);exact⟨u,by rw[<-a];congr 1;omega,b⟩
theorem dw.one{Z:ar}:∀{x:PV}{v:Value},dw Z x v->v.oneCell'=true
 | .int _,_,e=>by simp only[dw] at e;subst e;rfl
 | .bool _,_,e=>by simp only[dw] at e;subst e;rfl
 | .str _,_,e=>by simp only[dw] at e;subst e;rfl
 | .strs _,_,e=>by simp only[dw] at e;obtain⟨_,_,_,rfl,_⟩:=e;rfl
 | .aZ _ _,_,e=>by simp only[dw] at e;obtain⟨_,_,_,rfl,_⟩:=e;rfl
def cA(Z:ar):(d:D)->d.ty->Value->Prop
 | .int k,n,v=>v=.int k n
 | .bool,b,v=>v=.bool b
 | .str,s,v=>v=.string s
 | .sl d,l,v=>∃ a len c,v=.slice a len c/\List.length (α:=d.ty) l=len/\len<=c/\(l=[]∨∃ b off cells,a=some ⟨b,off,none⟩/\Z b=some cells/\∀(i:Nat)(x:d.ty),(show List d.ty from l)[i]? = some x->∃ u,cells[off+i]? = some u/\cA Z d x u)
 | .pv,x,v=>dw Z x v
def lQ(Z:ar)(d:D)(cells:Array Value)(o:Nat)(l:List d.ty):Prop:=∀(i:Nat)(x:d.ty),l[i]? = some x->∃ u,cells[o+i]? = some u/\cA Z d x u
theorem cA.mono{Z Z':ar}(h:Z.le Z'):∀(d:D){x:d.ty}{v:Value},cA Z d x v->cA Z' d x v
 | .int _,_,_,e=>e
 | .bool,_,_,e=>e
 | .str,_,_,e=>e
 | .sl d,l,v,⟨a,len,c,h1,h2,h3,h4⟩=>by
   refine⟨a,len,c,h1,h2,h3,?_⟩;rcases h4 with h4|⟨b,off,cells,h4,h5,h6⟩;exact .inl h4;exact .inr ⟨b,off,cells,h4,h _ _ h5,fun i x hx=>let ⟨u,a,b⟩:=h6 i x hx;⟨u,a,cA.mono h d b⟩⟩
 | .pv,x,_,e=>dw.mono (x:=x) h e
theorem lQ.mono{Z Z':ar}(h:Z.le Z'){d:D}{cells:Array Value}{o:Nat}{l:List d.ty}(r:lQ Z d cells o l):lQ Z' d cells o l :=
 fun i x hx=>let ⟨u,a,b⟩:=r i x hx;⟨u,a,cA.mono h d b⟩
theorem lQ.drop{Z:ar}{d:D}{cells:Array Value}{o:Nat}{l:List d.ty}(r:lQ Z d cells o l)(k:Nat):lQ Z d cells (o+k) (l.drop k):=by
 intro i x hx;rw[List.getElem?_drop] at hx;obtain⟨u,a,b⟩:=r _ _ hx;exact⟨u,by rw[<-a];congr 1;omega,b⟩
theorem lQ.take{Z:ar}{d:D}{cells:Array Value}{o:Nat}{l:List d.ty}(r:lQ Z d cells o l)(k:Nat):lQ Z d cells o (l.take k):=by
 intro i x hx;rw[List.getElem?_take] at hx;split at hx;exact r _ _ hx;cases hx
theorem cA.one{Z:ar}:∀(d:D){x:d.ty}{v:Value},cA Z d x v->v.oneCell'=true
 | .int _,_,_,e=>by simp only[cA] at e;subst e;rfl
 | .bool,_,_,e=>by simp only[cA] at e;subst e;rfl
 | .str,_,_,e=>by simp only[cA] at e;subst e;rfl
 | .sl _,_,_,⟨_,_,_,h,_⟩=>by subst h;rfl
 | .pv,x,_,e=>dw.one (x:=x) e
mutual
def aH(Z:ar):W->Value->Prop
 | .bool b,v=>v=.bool b
 | .int k n,v=>v=.int k n
 | .str s,v=>v=.string s
 | .dH,v=>v=.pointer none
 | .nil,v=>v=.slice none 0 0
 | .ro sz cs,v=>∃ a len c,v=.slice a len c/\cs.length=len*sz/\len<=c/\(cs=[]∨∃ b off cells,a=some ⟨b,off,none⟩/\Z b=some cells/\eN Z cells off cs)
 | .rp cs off,v=>∃ b o cells,v=.pointer (some ⟨b,o+off,none⟩)/\Z b=some cells/\eN Z cells o cs
 | .rd d l,v=>cA Z (.sl d) l v
 | .re d l i,v=>∃ b o cells,v=.pointer (some ⟨b,o+i,none⟩)/\Z b=some cells/\lQ Z d cells o l
 | .mo,v=>v=.nilFunc
 | .func f caps,v=>caps=[]/\v=.func (.func f) #[] #[]
 | .kC,v=>v=.nilIface
 | .val u,v=>v=u/\u.oneCell'=true
 | .ptr _ _,_=>False
 | .pe _ _ _,_=>False
 | .sl _ _ _ _,_=>False
 | .yield _,_=>False
 | .cX,_=>False
 | .mp _,_=>False
 | .mh,_=>False
 | .ba _,_=>False
 | .nN _ _ _,_=>False
 | .th _ _,_=>False
 | .row _ _ _,_=>False
 | .o6 _ _ _,_=>False
 | .lZ _,_=>False
 | .rs sz l,v=>dw Z (.aZ sz l) v
 | .y7 b,v=>(b=true/\∃ t u,v=.iface t u)∨(b=false/\v=.nilIface)
def eN(Z:ar)(cells:Array Value):Nat->List W->Prop
 | _,[]=>True
 | o,x::l=>(∃ u,cells[o]? = some u/\aH Z x u)/\eN Z cells (o+1) l
end
mutual
theorem aH.mono{Z Z':ar}(h:Z.le Z'):∀{x:W}{v:Value},aH Z x v->aH Z' x v
 | .bool _,_,e=>by simpa only[aH] using e
 | .int _ _,_,e=>by simpa only[aH] using e
 | .str _,_,e=>by simpa only[aH] using e
 | .dH,_,e=>by simpa only[aH] using e
 | .nil,_,e=>by simpa only[aH] using e
 | .ro sz cs,v,e=>by
   simp only[aH] at e ⊢;obtain⟨a,len,c,h1,h2,h3,h4⟩:=e;refine⟨a,len,c,h1,h2,h3,?_⟩;rcases h4 with h4|⟨b,off,cells,h4,h5,h6⟩;exact .inl h4;exact .inr ⟨b,off,cells,h4,h _ _ h5,eN.mono h h6⟩
 | .rp cs off,v,e=>by
   simp only[aH] at e ⊢;obtain⟨b,o,cells,h1,h2,h3⟩:=e;exact⟨b,o,cells,h1,h _ _ h2,eN.mono h h3⟩
 | .rd d l,v,e=>by
   simp only[aH] at e ⊢;exact cA.mono h _ e
 | .re d l i,v,e=>by
   simp only[aH] at e ⊢;obtain⟨b,o,cells,h1,h2,h3⟩:=e;exact⟨b,o,cells,h1,h _ _ h2,h3.mono h⟩
 | .pe _ _ _,_,e=>by simp only[aH] at e
 | .mo,_,e=>by simpa only[aH] using e
 | .func _ _,_,e=>by simpa only[aH] using e
 | .kC,_,e=>by simpa only[aH] using e
 | .val _,_,e=>by simpa only[aH] using e
 | .ptr _ _,_,e=>by simp only[aH] at e
 | .sl _ _ _ _,_,e=>by simp only[aH] at e
 | .yield _,_,e=>by simp only[aH] at e
 | .cX,_,e=>by simp only[aH] at e
 | .mp _,_,e=>by simp only[aH] at e
 | .mh,_,e=>by simp only[aH] at e
 | .ba _,_,e=>by simp only[aH] at e
 | .nN _ _ _,_,e=>by simp only[aH] at e
 | .th _ _,_,e=>by simp only[aH] at e
 | .row _ _ _,_,e=>by simp only[aH] at e
 | .o6 _ _ _,_,e=>by simp only[aH] at e
 | .lZ _,_,e=>by simp only[aH] at e
 | .rs _ _,_,e=>by
   simp only[aH] at e ⊢;exact dw.mono h e
 | .y7 _,_,e=>by simpa only[aH] using e
theorem eN.mono{Z Z':ar}(h:Z.le Z'){cells:Array Value}:∀{o:Nat}{l:List W},eN Z cells o l->eN Z' cells o l
 | _,[],_=>by simp only[eN]
 | o,x::l,e=>by
   simp only[eN] at e ⊢;obtain⟨⟨u,h1,h2⟩,h3⟩:=e;exact⟨⟨u,h1,aH.mono h h2⟩,eN.mono h h3⟩
end
theorem eN.get{Z:ar}{cells:Array Value}:∀{l:List W}{o:Nat},eN Z cells o l->∀{i:Nat}{x:W},l[i]? = some x->∃ u,cells[o+i]? = some u/\aH Z x u
 | [],_,_,i,x,e=>by simp at e
 | y::l,o,h,0,x,e=>by
   simp only[eN] at h;simp at e;subst e;exact h.1
 | y::l,o,h,i+1,x,e=>by
   simp only[eN] at h;obtain⟨u,a,b⟩:=eN.get h.2 (i:=i) (x:=x) (by simpa using e);exact⟨u,by rw[<-a];congr 1;omega,b⟩
theorem eN.nT{Z:ar}{cells:Array Value}:∀{l:List W}{o:Nat},(∀ i x,l[i]? = some x->∃ u,cells[o+i]? = some u/\aH Z x u)->eN Z cells o l
 | [],_,_=>by simp only[eN]
 | y::l,o,h=>by
   simp only[eN];refine⟨by simpa using h 0 y rfl,eN.nT fun i x e=>?_⟩;obtain⟨u,a,b⟩:=h (i+1) x (by simpa using e);exact⟨u,by rw[<-a];congr 1;omega,b⟩
theorem eN.drop{Z:ar}{cells:Array Value}{l:List W}{o:Nat}(h:eN Z cells o l)(k:Nat):eN Z cells (o+k) (l.drop k):=by
 refine eN.nT fun i x e=>?_;obtain⟨u,a,b⟩:=h.get (i:=k+i) (x:=x) (by simpa using e);exact⟨u,by rw[<-a];congr 1;omega,b⟩
theorem eN.take{Z:ar}{cells:Array Value}{l:List W}{o:Nat}(h:eN Z cells o l)(k:Nat):eN Z cells o (l.take k):=by
 refine eN.nT fun i x e=>?_;rw[List.getElem?_take] at e;split at e;exact h.get e;cases e
def dB(η:Eta)(a:Nat×Nat)(v:Value):Prop:=∃ p,η a.1=some p/\v=.pointer (some ⟨p.block,p.off+a.2,none⟩)
def aL{α β:Type}(R:α->β->Prop):List α->List β->Prop
 | [],[]=>True
 | a::l,b::m=>R a b/\aL R l m
 | _,_=>False
theorem aL.mono{α β:Type}{R R':α->β->Prop}(h:∀ a b,R a b->R' a b):∀{l:List α}{m:List β},aL R l m->aL R' l m
 | [],[],_=>trivial
 | _::_,_::_,⟨x,y⟩=>⟨h _ _ x,aL.mono h y⟩
theorem aL.length{α β:Type}{R:α->β->Prop}:∀{l:List α}{m:List β},aL R l m->l.length=m.length
 | [],[],_=>rfl
 | _::_,_::_,⟨_,y⟩=>by simp[aL.length y]
theorem aL.append{α β:Type}{R:α->β->Prop}:∀{l l':List α}{m m':List β},aL R l m->aL R l' m'->aL R (l++l') (m++m')
 | [],_,[],_,_,h=>h
 | _::_,_,_::_,_,⟨x,y⟩,h=>⟨x,aL.append y h⟩
theorem aL.get{α β:Type}{R:α->β->Prop}:∀{l:List α}{m:List β},aL R l m->∀{i:Nat}{x:α},l[i]? = some x->∃ y,m[i]? = some y/\R x y
 | a::l,b::m,⟨x,y⟩,0,_,e=>by simp at e;subst e;exact⟨b,rfl,x⟩
 | a::l,b::m,⟨x,y⟩,i+1,_,e=>by simp at e ⊢;exact aL.get y e
theorem aL.nT{α β:Type}{R:α->β->Prop}:∀{l:List α}{m:List β},l.length=m.length->(∀(i:Nat) x y,l[i]? = some x->m[i]? = some y->R x y)->aL R l m
 | [],[],_,_=>trivial
 | a::l,b::m,h,k=>⟨k 0 a b rfl rfl,aL.nT (by simpa using h) fun i x y e f=>k (i+1) x y (by simpa using e) (by simpa using f)⟩
 | [],b::m,h,_=>by simp at h
 | a::l,[],h,_=>by simp at h
theorem aL.set{α β:Type}{R:α->β->Prop}:∀{l:List α}{m:List β},aL R l m->∀{i:Nat}{x:α}{y:β},R x y->aL R (l.set i x) (m.set i y)
 | [],[],_,_,_,_,_=>trivial
 | _::_,_::_,⟨_,t⟩,0,_,_,h=>⟨h,t⟩
 | _::_,_::_,⟨s,t⟩,_+1,_,_,h=>⟨s,aL.set t h⟩
def au(η:Eta)(Z:ar):W->Value->Prop
 | .ptr n off,v=>dB η (n,off) v
 | .pe n off i,v=>dB η (n,off+i) v
 | .sl n off len sz,v=>(len=0/\v=.slice none 0 0)∨∃ p c a,η n=some p/\v=.slice (some a) len c/\len<=c/\off+c*sz<=p.room/\(c=0∨a=⟨p.block,p.off+off,none⟩)
 | .func f caps,v=>∃ vs,v=.func (.func f) #[] vs.toArray/\aL (dB η) caps vs
 | .yield l,v=>v=.func (.yield l) #[] #[]
 | .cX,_=>True
 | .mp n,v=>∃ p,η n=some p/\v=.map (some p.block)
 | .ba n,v=>∃ p,η n=some p/\p.off=0/\(v=.pointer none∨v=.pointer (some ⟨p.block,0,none⟩))
 | .nN f n off,v=>∃ u,v=.func (.func f) #[u] #[]/\dB η (n,off) u
 | .row n i len,v=>∃ p r c ad,η n=some p/\p.av[i]? = some r/\v=.slice ad len c/\len<=c/\(0<len->ad=some ⟨r.1,r.2,none⟩)
 | .lZ n,v=>v=.int .u8 n
 | .o6 n i j,v=>∃ p r,η n=some p/\p.av[i]? = some r/\v=.pointer (some ⟨r.1,r.2+j,none⟩)
 | x,v=>aH Z x v
theorem dB.mono{η aC:Eta}(h:η.le aC){a:Nat×Nat}{v:Value}:dB η a v->dB aC a v:=fun⟨p,e,f⟩=>⟨p,h _ _ e,f⟩
theorem au.mono{η aC:Eta}{Z Z':ar}(h:η.le aC)(hz:Z.le Z'):∀{x:W}{v:Value},au η Z x v->au aC Z' x v
 | .ptr _ _,_,e=>dB.mono h e
 | .pe _ _ _,_,e=>dB.mono h e
 | .sl _ _ _ _,_,.inl e=>.inl e
 | .sl _ _ _ _,_,.inr ⟨p,c,a,e,r⟩=>.inr ⟨p,c,a,h _ _ e,r⟩
 | .func _ _,_,⟨vs,e,r⟩=>⟨vs,e,r.mono fun _ _=>dB.mono h⟩
 | .yield _,_,e=>e
 | .cX,_,_=>trivial
 | .mp _,_,⟨p,e,r⟩=>⟨p,h _ _ e,r⟩
 | .ba _,_,⟨p,e,r⟩=>⟨p,h _ _ e,r⟩
 | .nN _ _ _,_,⟨u,e,r⟩=>⟨u,e,dB.mono h r⟩
 | .row _ _ _,_,⟨p,r,c,ad,e,f⟩=>⟨p,r,c,ad,h _ _ e,f⟩
 | .o6 _ _ _,_,⟨p,r,e,f⟩=>⟨p,r,h _ _ e,f⟩
 | .lZ _,_,e=>e
 | .bool _,_,e | .int _ _,_,e | .str _,_,e | .dH,_,e | .nil,_,e | .ro _ _,_,e | .rp _ _,_,e | .rd _ _,_,e | .re _ _ _,_,e | .mo,_,e | .kC,_,e | .val _,_,e | .mh,_,e | .th _ _,_,e | .rs _ _,_,e | .y7 _,_,e=>aH.mono hz e
theorem aH.O1{η:Eta}{Z:ar}:∀{x:W}{v:Value},aH Z x v->au η Z x v
 | .bool _,_,e | .int _ _,_,e | .str _,_,e | .dH,_,e | .nil,_,e | .ro _ _,_,e | .rp _ _,_,e | .rd _ _,_,e | .re _ _ _,_,e | .mo,_,e | .kC,_,e | .val _,_,e | .rs _ _,_,e | .y7 _,_,e=>e
 | .func f caps,v,e=>by
   simp only[aH] at e;obtain⟨rfl,rfl⟩:=e;exact⟨[],rfl,trivial⟩
 | .ptr _ _,_,e=>by simp only[aH] at e
 | .pe _ _ _,_,e=>by simp only[aH] at e
 | .sl _ _ _ _,_,e=>by simp only[aH] at e
 | .yield _,_,e=>by simp only[aH] at e
 | .cX,_,e=>by simp only[aH] at e
 | .mp _,_,e=>by simp only[aH] at e
 | .mh,_,e=>by simp only[aH] at e
 | .ba _,_,e=>by simp only[aH] at e
 | .nN _ _ _,_,e=>by simp only[aH] at e
 | .th _ _,_,e=>by simp only[aH] at e
 | .row _ _ _,_,e=>by simp only[aH] at e
 | .o6 _ _ _,_,e=>by simp only[aH] at e
 | .lZ _,_,e=>by simp only[aH] at e
def W.clean:W->Bool
 | .ptr _ _ | .pe _ _ _ | .sl _ _ _ _ | .yield _ | .cX | .mp _ | .mh | .ba _ | .nN _ _ _ | .th _ _ | .row _ _ _ | .o6 _ _ _ | .lZ _=>false
 | .func _ caps=>caps.isEmpty
 | _=>true
theorem au.frel{η:Eta}{Z:ar}:∀{x:W}{v:Value},x.clean=true->au η Z x v->aH Z x v
 | .bool _,_,_,e | .int _ _,_,_,e | .str _,_,_,e | .dH,_,_,e | .nil,_,_,e | .ro _ _,_,_,e | .rp _ _,_,_,e | .rd _ _,_,_,e | .re _ _ _,_,_,e | .mo,_,_,e | .kC,_,_,e | .val _,_,_,e | .rs _ _,_,_,e | .y7 _,_,_,e=>e
 | .func f [],v,_,⟨vs,e,r⟩=>by
   cases vs with
   | nil=>simp only[aH];exact⟨trivial,e⟩
   | cons _ _=>exact r.elim
 | .func f (_::_),v,h,_=>by simp[W.clean] at h
 | .ptr _ _,_,h,_=>by simp[W.clean] at h
 | .pe _ _ _,_,h,_=>by simp[W.clean] at h
 | .sl _ _ _ _,_,h,_=>by simp[W.clean] at h
 | .yield _,_,h,_=>by simp[W.clean] at h
 | .cX,_,h,_=>by simp[W.clean] at h
 | .mp _,_,h,_=>by simp[W.clean] at h
 | .mh,_,h,_=>by simp[W.clean] at h
 | .ba _,_,h,_=>by simp[W.clean] at h
 | .nN _ _ _,_,h,_=>by simp[W.clean] at h
 | .th _ _,_,h,_=>by simp[W.clean] at h
 | .row _ _ _,_,h,_=>by simp[W.clean] at h
 | .o6 _ _ _,_,h,_=>by simp[W.clean] at h
 | .lZ _,_,h,_=>by simp[W.clean] at h
def PV.w:PV->W
 | .int n=>.int .i64 n
 | .bool b=>.bool b
 | .str s=>.str s
 | .strs l=>.rd .str l
 | .aZ sz l=>.rs sz l
def D.w:(d:D)->d.ty->W
 | .int k,n=>.int k n
 | .bool,b=>.bool b
 | .str,s=>.str s
 | .sl d,l=>.rd d l
 | .pv,x=>PV.w x
theorem dw.strs{Z:ar}{l:List ByteArray}{v:Value}:cA Z (.sl .str) l v↔dw Z (.strs l) v:=by
 simp only[cA,dw]
theorem PV.X2{Z:ar}{x:PV}{v:Value}:aH Z x.w v↔dw Z x v:=by
 cases x<;>simp only[PV.w,aH]<;>first|exact dw.strs|simp only[dw]
theorem PV.fe{η:Eta}{Z:ar}{x:PV}{v:Value}:au η Z x.w v↔dw Z x v:=by
 cases x<;>simp only[PV.w,au,aH]<;>first|exact dw.strs|simp only[dw]
theorem D.fe{η:Eta}{Z:ar}:∀(d:D){x:d.ty}{v:Value},au η Z (d.w x) v↔cA Z d x v
 | .int _,_,_=>by simp only[D.w,au,aH,cA]
 | .bool,_,_=>by simp only[D.w,au,aH,cA]
 | .str,_,_=>by simp only[D.w,au,aH,cA]
 | .sl _,_,_=>by simp only[D.w,au,aH]
 | .pv,x,_=>PV.fe (x:=x)
theorem D.jg:∀(d:D)(x:d.ty),d.w x≠.cX
 | .int _,_=>by simp[D.w]
 | .bool,_=>by simp[D.w]
 | .str,_=>by simp[D.w]
 | .sl _,_=>by simp[D.w]
 | .pv,x=>by cases x<;>simp[D.w,PV.w]
theorem D.w_mh:∀(d:D)(x:d.ty),d.w x≠.mh
 | .int _,_=>by simp[D.w]
 | .bool,_=>by simp[D.w]
 | .str,_=>by simp[D.w]
 | .sl _,_=>by simp[D.w]
 | .pv,x=>by cases x<;>simp[D.w,PV.w]
theorem D.w_by{n:Int}:∀(d:D)(x:d.ty),d.w x≠.lZ n
 | .int _,_=>by simp[D.w]
 | .bool,_=>by simp[D.w]
 | .str,_=>by simp[D.w]
 | .sl _,_=>by simp[D.w]
 | .pv,x=>by cases x<;>simp[D.w,PV.w]
def PV.of:W->Option PV
 | .int .i64 n=>some (.int n)
 | .bool b=>some (.bool b)
 | .str s=>some (.str s)
 | .rd .str l=>some (.strs l)
 | .rs sz l=>some (.aZ sz l)
 | _=>none
theorem PV.of_eq{x:W}{y:PV}(e:PV.of x=some y):x=y.w:=by
 unfold PV.of at e;split at e<;>cases e<;>rfl
def D.of:(d:D)->W->Option d.ty
 | .int k,.int k' n=>if k'=k then some n else none
 | .bool,.bool b=>some b
 | .str,.str s=>some s
 | .sl d,.rd d' l=>if h:d'=d then some (h▸l) else none
 | .sl d,.nil=>some ([]:List d.ty)
 | .pv,x=>PV.of x
 | _,_=>none
theorem D.of_rel{Z:ar}{d:D}{x:W}{y:d.ty}(e:d.of x=some y){v:Value}(h:aH Z x v):cA Z d y v:=by
 by_cases hd:d=.pv;subst hd;have e:PV.of x=some y:=by cases x<;>exact e
 rw[PV.of_eq e] at h;exact PV.X2.1 h;cases d<;>(try exact absurd rfl hd)<;>clear hd<;>cases x<;>simp only[D.of] at e<;>try cases e
 rename_i k k' n;split at e;rename_i hk;subst hk;cases e;simpa only[aH,cA] using h;cases e;simpa only[aH,cA] using h;simpa only[aH,cA] using h;simp only[aH] at h;subst h;exact⟨none,0,0,rfl,rfl,Nat.le_refl _,.inl rfl⟩;rename_i d d' l;split at e;rename_i hk;subst hk;cases e;simpa only[aH] using h;cases e
theorem D.Vf{d:D}{x:W}{y:d.ty}(e:d.of x=some y):x.clean=true:=by
 by_cases hd:d=.pv;subst hd;have e:PV.of x=some y:=by cases x<;>exact e
 rw[PV.of_eq e];cases y<;>rfl;cases d<;>(try exact absurd rfl hd)<;>clear hd<;>cases x<;>simp only[D.of] at e<;>first|rfl|cases e
def cV(η:Eta)(Z:ar):V->Value->Prop
 | .c x,v=>x≠.cX/\au η Z x v
 | .agg cs,v=>∃ vs,v=.agg vs.toArray/\(∀ x∈cs,x≠.cX)/\aL (au η Z) cs vs
def cw(η:Eta)(Z:ar):A->Value->Prop
 | .p x,v=>cV η Z x v
 | .bF xs,v=>∃ vs,v=.tuple vs.toArray/\aL (cV η Z) xs vs
 | .cond c x,v=>(c->cV η Z x v)/\(¬c->v=undef)
 | .dec b,v=>v=.bool b
theorem cV.mono{η aC:Eta}{Z Z':ar}(h:η.le aC)(hz:Z.le Z'):∀{x:V}{v:Value},cV η Z x v->cV aC Z' x v
 | .c _,_,⟨n,e⟩=>⟨n,au.mono h hz e⟩
 | .agg _,_,⟨vs,e,n,r⟩=>⟨vs,e,n,r.mono fun _ _=>au.mono h hz⟩
theorem cw.mono{η aC:Eta}{Z Z':ar}(h:η.le aC)(hz:Z.le Z'):∀{x:A}{v:Value},cw η Z x v->cw aC Z' x v
 | .p _,_,e=>cV.mono h hz e
 | .bF _,_,⟨vs,e,r⟩=>⟨vs,e,r.mono fun _ _=>cV.mono h hz⟩
 | .cond _ _,_,e=>⟨fun hc=>cV.mono h hz (e.1 hc),e.2⟩
 | .dec _,_,e=>e
abbrev Fr:=T A
def aW(n:Nat)(η:Eta)(Z:ar)(F:Fr)(tmps:Array Value):Prop:=tmps.size=n/\∀ i x,F.get i=some x->∃ v,tmps[i]? = some v/\cw η Z x v
theorem aW.mono{n:Nat}{η aC:Eta}{Z Z':ar}(h:η.le aC)(hz:Z.le Z'){F:Fr}{tmps:Array Value}(r:aW n η Z F tmps):aW n aC Z' F tmps :=
 ⟨r.1,fun i x e=>let ⟨v,a,b⟩:=r.2 i x e;⟨v,a,cw.mono h hz b⟩⟩
theorem aW.set{n:Nat}{η:Eta}{Z:ar}{F:Fr}{tmps:Array Value}(r:aW n η Z F tmps){i:Nat}{x:A}{v:Value}(hi:i<n)(h:cw η Z x v) :
 aW n η Z (F.set i x) (tmps.setIfInBounds i v):=by
 refine⟨by simpa using r.1,fun j y e=>?_⟩;rw[T.l8] at e;by_cases hj:j=i;subst hj;rw[if_pos rfl] at e;cases e;exact⟨v,by rw[Array.getElem?_setIfInBounds_self_of_lt (by rw[r.1];exact hi)],h⟩;rw[if_neg hj] at e;obtain⟨u,a,b⟩:=r.2 j y e;exact⟨u,by rw[Array.getElem?_setIfInBounds_ne (by omega)];exact a,b⟩
inductive Fd where
 | c (x:W)
 | a (n:Nat) (d:D) (l:List d.ty)
 | m (kd vd:D) (l:List (kd.ty×vd.ty))
 | b (l:List Int)
def nO(kd vd:D):List (kd.ty×vd.ty)->List W
 | []=>[]
 | (k,v)::l=>kd.w k::vd.w v::nO kd vd l
def Fd.cells:Fd->List W
 | .c x=>[x]
 | .a _ d l=>l.map d.w
 | .m kd vd l=>.mh::nO kd vd l
 | .b l=>l.map W.lZ
structure Ob where
 ty:TypeId
 fs:List Fd
def Ob.cells(o:Ob):List W:=o.fs.flatMap Fd.cells
def Ob.of(ty:TypeId)(cs:List W):Ob:=⟨ty,cs.map .c⟩
theorem vH(cs:List W):(cs.map Fd.c).flatMap Fd.cells=cs:=by
 induction cs with
 | nil=>rfl
 | cons x cs ih=>simp[Fd.cells,ih]
@[simp] theorem Ob.d9(ty:TypeId)(cs:List W):(Ob.of ty cs).cells=cs:=vH cs
@[simp] theorem Ob.of_ty(ty:TypeId)(cs:List W):(Ob.of ty cs).ty=ty:=rfl
structure Gh where
 l:Nat
 d:D
 ys:List d.ty
 two:Bool:=false
structure af where
 next:Nat
 aj:List (Nat×Ob)
 cG:Option Gh:=none
def find(l:List (Nat×Ob))(n:Nat):Option Ob :=
 match l with
 | []=>none
 | (k,o)::l=>if k=n then some o else find l n
def af.get(S:af)(n:Nat):Option Ob:=find S.aj n
def put(l:List (Nat×Ob))(n:Nat)(o:Ob):List (Nat×Ob) :=
 match l with
 | []=>[]
 | (k,x)::l=>if k=n then(k,o)::l else(k,x)::put l n o
def del(l:List (Nat×Ob))(n:Nat):List (Nat×Ob) :=
 match l with
 | []=>[]
 | (k,x)::l=>if k=n then del l n else(k,x)::del l n
def af.put(S:af)(n:Nat)(o:Ob):af:={ S with aj:=aU.put S.aj n o }
def af.del(S:af)(n:Nat):af:={ S with aj:=aU.del S.aj n }
def af.skip(S:af):af:={ S with next:=S.next+1 }
def af.add(S:af)(o:Ob):af:={ S with next:=S.next+1,aj:=S.aj++[(S.next,o)] }
theorem Vg{l:List (Nat×Ob)}{n m:Nat}{o:Ob}:find (put l n o) m=if m=n then(find l n).map (fun _=>o) else find l m:=by
 induction l with
 | nil=>simp[put,find]
 | cons x l ih =>
   obtain⟨k,x⟩:=x;simp only[put];by_cases hk:k=n;subst hk;rw[if_pos rfl];simp only[find];by_cases hm:m=k;subst hm;simp;rw[if_neg (by omega),if_neg hm,if_neg (by omega)];rw[if_neg hk];simp only[find,ih];by_cases hm:m=n;subst hm;rw[if_neg hk,if_pos rfl,if_pos rfl,if_neg hk];rw[if_neg hm,if_neg hm]
theorem Vh{l:List (Nat×Ob)}{n m:Nat}:find (del l n) m=if m=n then none else find l m:=by
 induction l with
 | nil=>simp[del,find]
 | cons x l ih =>
   obtain⟨k,x⟩:=x;simp only[del];by_cases hk:k=n;subst hk;rw[if_pos rfl,ih];simp only[find];by_cases hm:m=k;rw[if_pos hm,if_pos hm];rw[if_neg hm,if_neg hm,if_neg (by omega)];rw[if_neg hk];simp only[find,ih];by_cases hm:m=n;subst hm;rw[if_neg hk,if_pos rfl,if_pos rfl];rw[if_neg hm,if_neg hm]
theorem uU{l l':List (Nat×Ob)}{m:Nat}:find (l++l') m=match find l m with|some o=>some o|none=>find l' m:=by
 induction l with
 | nil=>simp[find]
 | cons x l ih =>
   obtain⟨k,x⟩:=x;simp only[List.cons_append,find];by_cases hk:k=m;rw[if_pos hk,if_pos hk];rw[if_neg hk,if_neg hk,ih]
theorem af.jo{S:af}{n m:Nat}{o:Ob}:(S.put n o).get m=if m=n then(S.get n).map (fun _=>o) else S.get m:=Vg
theorem af.ia{S:af}{n m:Nat}:(S.del n).get m=if m=n then none else S.get m:=Vh
def Ob.isMap(o:Ob):Prop:=o.cells[0]? = some .mh
def Ob.jT(o:Ob)(k:Nat)(av:List (List Int)):Prop:=o.cells[0]? = some (.th k av)
def Ob.gj(o:Ob):Prop:=o.isMap∨∃ k av,o.jT k av
theorem Ob.E5{o:Ob}{k:Nat}{av:List (List Int)}(h:o.isMap)(h':o.jT k av):False:=by
 unfold Ob.isMap at h;unfold Ob.jT at h';rw[h] at h';cases h'
theorem Ob.isT_T{o:Ob}{k k':Nat}{av rows':List (List Int)}(h:o.jT k av)(h':o.jT k' rows'):k'=k/\rows'=av:=by
 unfold Ob.jT at h h';rw[h] at h';cases h';exact⟨rfl,rfl⟩
def cn.sats(p:cn):List Nat:=p.av.map (·.1)
def cn.has(p:cn)(b:Nat):Prop:=p.block=b∨b∈p.sats
theorem cn.iH(p:cn):p.has p.block:=.inl rfl
theorem cn.MB{p:cn}{i:Nat}{r:Nat×Nat}(h:p.av[i]? = some r):p.has r.1:=.inr (List.mem_map.2 ⟨r,List.mem_of_getElem? h,rfl⟩)
theorem cn.vJ{b off room c:Nat}(h:(⟨b,off,room,[]⟩:cn).has c):c=b:=by
 rcases h with h|h;exact h.symm;cases h
def eO(η:Eta)(Z:ar):List W->List MapEntry->Prop
 | [],[]=>True
 | k::v::l,e::es=>(k≠.cX/\au η Z k e.key)/\(v≠.cX/\au η Z v e.val)/\eO η Z l es
 | _,_=>False
theorem eO.map{η aC:Eta}{Z Z':ar}{g:W->W->Prop}(h:∀ x y v,g x y->au η Z x v->y≠.cX/\au aC Z' y v):∀{l l':List W}{es:List MapEntry},l'.length=l.length->(∀(i:Nat) y,l'[i]? = some y->∃ x,l[i]? = some x/\g x y)->eO η Z l es->eO aC Z' l' es
 | [],[],[],_,_,_=>trivial
 | k::v::l,[],_,e,_,_=>by simp at e
 | k::v::l,[_],_,e,_,_=>by simp at e
 | k::v::l,k'::v'::l',e::es,hl,hg,⟨⟨_,h1⟩,⟨_,h2⟩,h3⟩=>by
   obtain⟨x,hx,gx⟩:=hg 0 k' rfl;obtain⟨y,hy,gy⟩:=hg 1 v' rfl;cases hx;cases hy;exact⟨h _ _ _ gx h1,h _ _ _ gy h2,eO.map h (by simpa using hl) (fun i y hy=>by simpa using hg (i+2) y (by simpa using hy)) h3⟩
 | [_],_,_,_,_,h=>by simp[eO] at h
theorem eO.mono{η aC:Eta}{Z Z':ar}(h:η.le aC)(hz:Z.le Z'):∀{l:List W}{es:List MapEntry},eO η Z l es->eO aC Z' l es
 | [],[],_=>trivial
 | _::_::_,_::_,⟨⟨a,b⟩,⟨c,d⟩,e⟩=>⟨⟨a,b.mono h hz⟩,⟨c,d.mono h hz⟩,eO.mono h hz e⟩
 | [_],_,h=>by simp[eO] at h
structure qk(k:Nat)(av:List (List Int))(ty:TypeId)(p:cn)(w:World):Prop where
 outer:∃ c fz,w.heap[p.block]? = some (.cells c ty fz)/\p.off+p.room<=c.size/\(∀(i:Nat) r,p.av[i]? = some r->∃ cp ad,c[p.off+i]? = some (.slice ad k cp)/\k<=cp/\(0<k->ad=some ⟨r.1,r.2,none⟩))/\(∀ j,p.off<=j->j<c.size->¬(fz.1<=j/\j<fz.2))
 len:p.av.length=av.length
 room:av.length<=p.room
 row:∀(i:Nat) r l,p.av[i]? = some r->av[i]? = some l->l.length=k/\∃ c t fz,w.heap[r.1]? = some (.cells c t fz)/\r.2+k<=c.size/\(∀(j:Nat) x,l[j]? = some x->c[r.2+j]? = some (.int .i64 x))/\(∀ j,r.2<=j->j<c.size->¬(fz.1<=j/\j<fz.2))
 nodup:(p.block::p.sats).Nodup
theorem qk.mono{k:Nat}{av:List (List Int)}{ty:TypeId}{p:cn}{w w':World}(L:qk k av ty p w)(e:∀ b,p.has b->w'.heap[b]? = w.heap[b]?):qk k av ty p w' where
 outer:=let ⟨c,fz,h1,h2⟩:=L.outer;⟨c,fz,(e _ p.iH).trans h1,h2⟩
 len:=L.len
 room:=L.room
 row:=fun i r l hr hl=>let ⟨h0,c,t,fz,h1,h2⟩:=L.row i r l hr hl;⟨h0,c,t,fz,(e _ (cn.MB hr)).trans h1,h2⟩
 nodup:=L.nodup
def Ob.bytes(o:Ob):Prop:=∀ x∈o.cells,∃ n,x=W.int .u8 n
def Ob.wb(o:Ob):Prop:=o.cells≠[]/\∀ x∈o.cells,∃ n,x=W.lZ n
theorem Ob.sR{o:Ob}{x:W}(hx:x∈o.cells)(h:∀ n,x≠.lZ n):¬o.wb:=fun hw=>let ⟨n,e⟩:=hw.2 x hx;h n e
theorem Ob.ql{o:Ob}{d:D}{l:List d.ty}(h:o.cells=l.map d.w):¬o.wb:=by
 rintro⟨h1,h2⟩;cases l with
 | nil=>exact h1 (by rw[h];rfl)
 | cons x l =>
   obtain⟨n,e⟩:=h2 (d.w x) (by rw[h];simp);exact D.w_by d x e
def y8(m:Nat)(o:Ob)(p:cn)(fz:Nat×Nat):Prop:=(fz.1=fz.2∨fz.2<=p.off)∨(o.bytes/\fz.2<=p.off+o.cells.length)∨(o.wb/\m<=fz.1)
theorem y8.plain{m:Nat}{o:Ob}{p:cn}{fz:Nat×Nat}(h:y8 m o p fz)(hb:¬o.bytes)(hw:¬o.wb):fz.1=fz.2∨fz.2<=p.off:=by
 rcases h with h|h|h;exact h;exact absurd h.1 hb;exact absurd h.1 hw
theorem y8.strong{m:Nat}{o:Ob}{p:cn}{fz:Nat×Nat}(h:y8 m o p fz)(hb:¬o.bytes):∀ k,p.off<=k->k<m->¬(fz.1<=k/\k<fz.2):=by
 intro k a _;rcases h with h|h|h;omega;exact absurd h.1 hb;omega
theorem y8.tail{m:Nat}{o:Ob}{p:cn}{fz:Nat×Nat}(h:y8 m o p fz):fz.1=fz.2∨fz.2<=p.off+o.cells.length∨(o.wb/\m<=fz.1):=by
 rcases h with (h|h)|h|h;exact .inl h;exact .inr (.inl (by omega));exact .inr (.inl h.2);exact .inr (.inr h)
structure fk(η:Eta)(Z:ar)(o:Ob)(p:cn)(w:World):Prop where
 there:¬o.gj->∃ c fz,w.heap[p.block]? = some (.cells c o.ty fz)/\p.off+p.room<=c.size/\(∀(i:Nat) x,o.cells[i]? = some x->∃ v,c[p.off+i]? = some v/\au η Z x v/\v.oneCell'=true)/\y8 c.size o p fz
 size:¬o.gj->o.cells.length<=p.room
 tabs:∀ k av,o.jT k av->qk k av o.ty p w
 maps:o.isMap->∃ es clock,w.heap[p.block]? = some (.map es clock)/\eO η Z o.cells.tail es.toList
def o7:Obj->Bool
 | .cells _ _ _=>true
 | .map _ _=>true
 | _=>false
theorem fk.data{η:Eta}{Z:ar}{o:Ob}{p:cn}{w:World}(L:fk η Z o p w):∃ ob,w.heap[p.block]? = some ob/\o7 ob=true:=by
 by_cases h:o.gj;rcases h with h|⟨k,av,h⟩;obtain⟨es,k,e,_⟩:=L.maps h;exact⟨_,e,rfl⟩;obtain⟨c,fz,e,_⟩:=(L.tabs k av h).outer;exact⟨_,e,rfl⟩;obtain⟨c,fz,e,_⟩:=L.there h;exact⟨_,e,rfl⟩
theorem fk.plain{η:Eta}{Z:ar}{o:Ob}{p:cn}{w:World}(hm:¬o.gj) (h:∃ c fz,w.heap[p.block]? = some (.cells c o.ty fz)/\p.off+p.room<=c.size/\(∀(i:Nat) x,o.cells[i]? = some x->∃ v,c[p.off+i]? = some v/\au η Z x v/\v.oneCell'=true)/\
 (fz.1=fz.2∨fz.2<=p.off)) (hs:o.cells.length<=p.room):fk η Z o p w :=
 ⟨fun _=>let ⟨c,fz,a,b,d,e⟩:=h;⟨c,fz,a,b,d,.inl e⟩,fun _=>hs,fun k av ht=>absurd (.inr ⟨k,av,ht⟩) hm,fun ht=>absurd (.inl ht) hm⟩
theorem fk.DN{η:Eta}{Z:ar}{o:Ob}{p:cn}{w:World}(hm:¬o.gj)(h:∃ c fz,w.heap[p.block]? = some (.cells c o.ty fz)/\p.off+p.room<=c.size/\(∀(i:Nat) x,o.cells[i]? = some x->∃ v,c[p.off+i]? = some v/\au η Z x v/\v.oneCell'=true)/\y8 c.size o p fz)(hs:o.cells.length<=p.room):fk η Z o p w :=
 ⟨fun _=>h,fun _=>hs,fun k av ht=>absurd (.inr ⟨k,av,ht⟩) hm,fun ht=>absurd (.inl ht) hm⟩
theorem fk.map{η:Eta}{Z:ar}{o:Ob}{p:cn}{w:World}(hm:o.isMap)(h:∃ es clock,w.heap[p.block]? = some (.map es clock)/\eO η Z o.cells.tail es.toList):fk η Z o p w :=
 ⟨fun hn=>absurd (.inl hm) hn,fun hn=>absurd (.inl hm) hn,fun _ _ ht=>(Ob.E5 hm ht).elim,fun _=>h⟩
theorem fk.tab{η:Eta}{Z:ar}{o:Ob}{p:cn}{w:World}{k:Nat}{av:List (List Int)}(hm:o.jT k av)(h:qk k av o.ty p w):fk η Z o p w :=
 ⟨fun hn=>absurd (.inr ⟨_,_,hm⟩) hn,fun hn=>absurd (.inr ⟨_,_,hm⟩) hn,fun k' rows' ht=>by obtain⟨rfl,rfl⟩:=Ob.isT_T hm ht;exact h,fun ht=>(Ob.E5 ht hm).elim⟩
structure St(base:Nat)(η:Eta)(Z:ar)(S:af)(w:World):Prop where
 aj:∀ n o p,S.get n=some o->η n=some p->base<=p.block/\Z p.block=none/\fk η Z o p w
 cG:∀ n o,S.get n=some o->η n=none->o.cells=[]
 known:∀ n o,S.get n=some o->n<S.next
 jU:∀ n n' o o' p p' b,S.get n=some o->S.get n'=some o'->n≠n'->η n=some p->η n'=some p'->p.has b->¬p'.has b
 zs:∀ b cs,Z b=some cs->∃ ty fz,w.heap[b]? = some (.cells cs ty fz)
 fresh:∀ n,S.next<=n->η n=none
 iq:base<=w.heap.size
 sat:∀ n o p,S.get n=some o->η n=some p->∀ b∈p.sats,base<=b/\Z b=none/\∃ ob,w.heap[b]? = some ob/\o7 ob=true
theorem St.inj{base:Nat}{η:Eta}{Z:ar}{S:af}{w:World}(R:St base η Z S w):∀ n n' o o' p p',S.get n=some o->S.get n'=some o'->n≠n'->η n=some p->η n'=some p'->p.block≠p'.block :=
 fun n n' o o' p p' h h' hn hp hp' e=>R.jU n n' o o' p p' _ h h' hn hp hp' p.iH (.inl e.symm)
theorem St.lt{base:Nat}{η:Eta}{Z:ar}{S:af}{w:World}(R:St base η Z S w){n:Nat}{p:cn}(h:η n=some p):n<S.next:=by
 rcases Nat.lt_or_ge n S.next with k|k
 exact k;rw[R.fresh n k] at h;cases h
theorem cS{w:World}{b:Nat}{o:Obj}(h:w.heap[b]? = some o):b<w.heap.size:=by
 rcases Nat.lt_or_ge b w.heap.size with k|k;exact k;rw[Array.getElem?_eq_none k] at h;cases h
theorem St.Vi{base:Nat}{η:Eta}{Z:ar}{S:af}{w:World}(R:St base η Z S w){n:Nat}{o:Ob}{p:cn}(h:S.get n=some o)(hp:η n=some p):p.block<w.heap.size:=by
 obtain⟨_,_,L⟩:=R.aj n o p h hp;obtain⟨c,hc,_⟩:=L.data;exact cS hc
theorem St.all{base:Nat}{η:Eta}{Z:ar}{S:af}{w:World}(R:St base η Z S w){n:Nat}{o:Ob}{p:cn}(h:S.get n=some o)(hp:η n=some p){b:Nat}(hb:p.has b):base<=b/\Z b=none/\∃ ob,w.heap[b]? = some ob/\o7 ob=true:=by
 rcases hb with rfl|hb;obtain⟨h1,h2,L⟩:=R.aj n o p h hp;exact⟨h1,h2,L.data⟩;exact R.sat n o p h hp b hb
theorem St.jV{base:Nat}{η:Eta}{Z:ar}{S:af}{w:World}(R:St base η Z S w){n:Nat}{o:Ob}{p:cn}(h:S.get n=some o)(hp:η n=some p){b:Nat}(hb:p.has b):b<w.heap.size:=by
 obtain⟨_,_,ob,e,_⟩:=R.all h hp hb;exact cS e
theorem St.Vj{base:Nat}{η:Eta}{Z:ar}{S:af}{w:World}(R:St base η Z S w){b:Nat}{c:Array Value}(h:Z b=some c):b<w.heap.size:=by
 obtain⟨ty,fz,e⟩:=R.zs b c h;exact cS e
def Own(η:Eta)(S:af)(b:Nat):Prop:=∃ n o p,S.get n=some o/\η n=some p/\p.has b
structure Step(η:Eta)(Z:ar)(S:af)(w:World)(aC:Eta)(Z':ar)(S':af)(w':World):Prop where
 os:w'.os=w.os
 tape:w'.tape=w.tape
 output:w'.output=w.output
 size:w.heap.size<=w'.heap.size
 block:∀ b,b<w.heap.size->¬Own η S b->w'.heap[b]? = w.heap[b]?
 own:∀ b,Own aC S' b->Own η S b∨w.heap.size<=b
 cI:Z.le Z'
 iD:∀ b c,Z' b=some c->Z b=some c∨Own η S b∨w.heap.size<=b
 gh:S'.cG=S.cG
theorem Step.refl(η:Eta)(Z:ar)(S:af)(w:World):Step η Z S w η Z S w :=
 ⟨rfl,rfl,rfl,Nat.le_refl _,fun _ _ _=>rfl,fun _ h=>.inl h,ar.le.refl _,fun _ _ h=>.inl h,rfl⟩
theorem Step.trans{η eU gk:Eta}{Z Z1 Z2:ar}{S S1 S2:af}{w w1 w2:World}(h:Step η Z S w eU Z1 S1 w1)(k:Step eU Z1 S1 w1 gk Z2 S2 w2):Step η Z S w gk Z2 S2 w2 where
 os:=k.os.trans h.os
 tape:=k.tape.trans h.tape
 output:=k.output.trans h.output
 size:=Nat.le_trans h.size k.size
 block:=fun b hb ho=>(k.block b (Nat.lt_of_lt_of_le hb h.size) (fun ho'=>by
  rcases h.own b ho' with hh|hh;exact ho hh;omega)).trans (h.block b hb ho)
 own:=fun b ho=>by
  rcases k.own b ho with hh|hh;exact h.own b hh;exact .inr (Nat.le_trans h.size hh)
 cI:=h.cI.trans k.cI
 iD:=fun b c hc=>by
  rcases k.iD b c hc with hh|hh|hh;exact h.iD b c hh;exact .inr (h.own b hh);exact .inr (.inr (Nat.le_trans h.size hh))
 gh:=k.gh.trans h.gh
structure qm(base:Nat)(η:Eta)(Z:ar)(S:af)(w:World)(aC:Eta)(S':af)(w':World):Prop where
 le:η.le aC
 st:St base aC Z S' w'
 step:Step η Z S w aC Z S' w'
def Eta.add(η:Eta)(n:Nat)(p:cn):Eta:=fun i=>if i=n then some p else η i
theorem Eta.fT{η:Eta}{n:Nat}{p:cn}:(η.add n p) n=some p:=by unfold Eta.add;rw[if_pos rfl]
theorem Eta.iW{η:Eta}{n m:Nat}{p:cn}(h:m≠n):(η.add n p) m=η m:=by unfold Eta.add;rw[if_neg h]
theorem Eta.sU{η:Eta}{n:Nat}{p:cn}(h:η n=none):η.le (η.add n p):=by
 intro i q e;unfold Eta.add;by_cases hi:i=n;subst hi;rw[h] at e;cases e;rw[if_neg hi];exact e
theorem fk.mono{η aC:Eta}{Z Z':ar}{o:Ob}{p:cn}{w w':World}(h:η.le aC)(hz:Z.le Z')(L:fk η Z o p w)(es:∀ b,p.has b->w'.heap[b]? = w.heap[b]?):fk aC Z' o p w':=by
 have e:=es _ p.iH;refine⟨fun hm=>?_,L.size,fun k av ht=>(L.tabs k av ht).mono es,fun hm=>?_⟩;obtain⟨c,fz,h1,h2,h3,h4⟩:=L.there hm;exact⟨c,fz,e.trans h1,h2,fun i x hx=>let ⟨v,a,b,d⟩:=h3 i x hx;⟨v,a,b.mono h hz,d⟩,h4⟩;obtain⟨es,k,h1,h2⟩:=L.maps hm;exact⟨es,k,e.trans h1,h2.mono h hz⟩
theorem af.fB{S:af}{o:Ob}{m:Nat}(h:S.get S.next=none):(S.add o).get m=if m=S.next then some o else S.get m:=by
 show find (S.aj++[(S.next,o)]) m=_;rw[uU];by_cases hm:m=S.next
 . subst hm;have:find S.aj S.next=none:=h
   rw[this,if_pos rfl];simp[find]
 . rw[if_neg hm];show (match find S.aj m with|some o=>some o|none=>find [(S.next,o)] m)=find S.aj m;cases e:find S.aj m with
   | some x=>rfl
   | none=>simp only[find];rw[if_neg (by omega)]
theorem St.eX{base:Nat}{η:Eta}{Z:ar}{S:af}{w:World}(R:St base η Z S w):S.get S.next=none:=by
 cases e:S.get S.next with
 | none=>rfl
 | some o =>
   exact absurd (R.known _ _ e) (Nat.lt_irrefl _)
theorem St.push{base:Nat}{η:Eta}{Z:ar}{S:af}{w w':World}(R:St base η Z S w)(o:Ob)(ob:Obj)(room:Nat)(hw:w'.heap=w.heap.push ob)(hos:w'.os=w.os)(nk:w'.tape=w.tape)(hout:w'.output=w.output)
 (hL:∀ aC,η.le aC->fk aC Z o ⟨w.heap.size,0,room,[]⟩ w') :
 qm base η Z S w (η.add S.next ⟨w.heap.size,0,room,[]⟩) (S.add o) w'/\(η.add S.next ⟨w.heap.size,0,room,[]⟩) S.next=some ⟨w.heap.size,0,room,[]⟩:=by
 have hfr:=R.fresh S.next (Nat.le_refl _)
 have hle:η.le (η.add S.next ⟨w.heap.size,0,room,[]⟩):=Eta.sU hfr;have hget:∀ m,(S.add o).get m=if m=S.next then some o else S.get m:=fun m=>af.fB R.eX
 have hold:∀ b,b<w.heap.size->w'.heap[b]? = w.heap[b]?:=fun b hb=>by rw[hw,Array.getElem?_push,if_neg (by omega)]
 refine⟨⟨hle,⟨?_,?_,?_,?_,?_,?_,?_,?_⟩,⟨hos,nk,hout,by rw[hw];simp,fun b hb _=>hold b hb,?_,ar.le.refl _,fun _ _ h=>.inl h,rfl⟩⟩,Eta.fT⟩
 . intro n x q hx hq;rw[hget] at hx;by_cases hn:n=S.next
   . subst hn;rw[if_pos rfl] at hx;cases hx;rw[Eta.fT] at hq;cases hq;refine⟨R.iq,?_,hL _ hle⟩;cases e:Z w.heap.size with
     | none=>rfl
     | some cs=>have:=R.Vj e;omega
   rw[if_neg hn] at hx;rw[Eta.iW hn] at hq;obtain⟨hb,hz,L⟩:=R.aj n x q hx hq;exact⟨hb,hz,L.mono hle (ar.le.refl _) fun b hb=>hold _ (R.jV hx hq hb)⟩
 . intro n x hx hq;rw[hget] at hx;by_cases hn:n=S.next
   subst hn;rw[Eta.fT] at hq;cases hq;rw[if_neg hn] at hx;rw[Eta.iW hn] at hq;exact R.cG n x hx hq
 . intro n x hx;show n<S.next+1
   rw[hget] at hx;by_cases hn:n=S.next
   omega;rw[if_neg hn] at hx;have:=R.known n x hx;omega
 . intro n n' x x' p p' b hx hx' hne hp hp' hb hb';rw[hget] at hx hx';by_cases hn:n=S.next
   subst hn;rw[Eta.fT] at hp;cases hp;rw[if_neg (Ne.symm hne)] at hx';rw[Eta.iW (Ne.symm hne)] at hp';have h1:=R.jV hx' hp' hb';have h2:=cn.vJ hb;omega
   . rw[if_neg hn] at hx;rw[Eta.iW hn] at hp;by_cases hn':n'=S.next
     subst hn';rw[Eta.fT] at hp';cases hp';have h1:=R.jV hx hp hb;have h2:=cn.vJ hb';omega;rw[if_neg hn'] at hx';rw[Eta.iW hn'] at hp';exact R.jU n n' x x' p p' b hx hx' hne hp hp' hb hb'
 intro b cs hb;obtain⟨ty,fz,e⟩:=R.zs b cs hb;exact⟨ty,fz,(hold b (cS e)).trans e⟩
 . intro n hn;rw[Eta.iW (by have:(S.add o).next=S.next+1:=rfl;omega)];exact R.fresh n (by have:(S.add o).next=S.next+1:=rfl;omega)
 rw[hw];have:=R.iq;simp;omega
 . intro n x q hx hq b hb;rw[hget] at hx;by_cases hn:n=S.next
   subst hn;rw[Eta.fT] at hq;cases hq;cases hb;rw[if_neg hn] at hx;rw[Eta.iW hn] at hq;obtain⟨h1,h2,ob,h3,h4⟩:=R.sat n x q hx hq b hb;exact⟨h1,h2,ob,(hold _ (cS h3)).trans h3,h4⟩
 . rintro b ⟨n,x,p,hx,hp,hb⟩;rw[hget] at hx;by_cases hn:n=S.next
   subst hn;rw[Eta.fT] at hp;cases hp;exact .inr (Nat.le_of_eq (cn.vJ hb).symm);rw[if_neg hn] at hx;rw[Eta.iW hn] at hp;exact .inl ⟨n,x,p,hx,hp,hb⟩
theorem St.new{base:Nat}{η:Eta}{Z:ar}{S:af}{w w':World}(R:St base η Z S w)(o:Ob)(c:Array Value){fz:Nat×Nat}(hw:w'.heap=w.heap.push (.cells c o.ty fz))(hos:w'.os=w.os)(nk:w'.tape=w.tape)(hout:w'.output=w.output)
 (bO:o.cells.length<=c.size) (hc:∀(i:Nat) x,o.cells[i]? = some x->∃ v,c[i]? = some v/\au η Z x v/\v.oneCell'=true) (hfz:fz.1=fz.2) :
 qm base η Z S w (η.add S.next ⟨w.heap.size,0,c.size,[]⟩) (S.add o) w'/\(η.add S.next ⟨w.heap.size,0,c.size,[]⟩) S.next=some ⟨w.heap.size,0,c.size,[]⟩:=by
 have hm:¬o.gj:=by
  rintro (hm|⟨k,av,hm⟩)<;>obtain⟨v,_,b,_⟩:=hc 0 _ hm<;>simp only[au,aH] at b
 refine R.push o (.cells c o.ty fz) c.size hw hos nk hout fun aC hle=>fk.plain hm ⟨c,fz,by simp[hw],by simp,?_,?_⟩ bO;intro i x hx;obtain⟨v,a,b,d⟩:=hc i x hx;exact⟨v,by simpa using a,b.mono hle (ar.le.refl _),d⟩;exact .inl hfz
theorem St.newF{base:Nat}{η:Eta}{Z:ar}{S:af}{w w':World}(R:St base η Z S w)(o:Ob)(c:Array Value){fz:Nat×Nat}(hw:w'.heap=w.heap.push (.cells c o.ty fz))(hos:w'.os=w.os)(nk:w'.tape=w.tape)(hout:w'.output=w.output)
 (bO:o.cells.length<=c.size) (hc:∀(i:Nat) x,o.cells[i]? = some x->∃ v,c[i]? = some v/\au η Z x v/\v.oneCell'=true) (Q7:o.wb) (hfz:c.size<=fz.1) :
 qm base η Z S w (η.add S.next ⟨w.heap.size,0,c.size,[]⟩) (S.add o) w'/\(η.add S.next ⟨w.heap.size,0,c.size,[]⟩) S.next=some ⟨w.heap.size,0,c.size,[]⟩:=by
 have hm:¬o.gj:=by
  rintro (hm|⟨k,av,hm⟩)<;>obtain⟨v,_,b,_⟩:=hc 0 _ hm<;>simp only[au,aH] at b
 refine R.push o (.cells c o.ty fz) c.size hw hos nk hout fun aC hle=>fk.DN hm ⟨c,fz,by simp[hw],by simp,?_,.inr (.inr ⟨Q7,hfz⟩)⟩ bO;intro i x hx;obtain⟨v,a,b,d⟩:=hc i x hx;exact⟨v,by simpa using a,b.mono hle (ar.le.refl _),d⟩
theorem St.Q8{base:Nat}{η:Eta}{Z:ar}{S:af}{w w':World}(R:St base η Z S w)(o:Ob)(ho:o.cells=[.mh])(hw:w'.heap=w.heap.push (.map #[] 0))(hos:w'.os=w.os)(nk:w'.tape=w.tape)(hout:w'.output=w.output) :
 qm base η Z S w (η.add S.next ⟨w.heap.size,0,0,[]⟩) (S.add o) w'/\(η.add S.next ⟨w.heap.size,0,0,[]⟩) S.next=some ⟨w.heap.size,0,0,[]⟩:=by
 have hm:o.isMap:=by unfold Ob.isMap;rw[ho];rfl
 exact R.push o (.map #[] 0) 0 hw hos nk hout fun aC _=>fk.map hm ⟨#[],0,by simp[hw],by rw[ho];trivial⟩
def W.okC:W->Bool
 | .mh=>false
 | .th _ _=>false
 | _=>true
def Fd.okF:Fd->Bool
 | .c x=>x.okC
 | .a _ _ _=>true
 | .m _ _ _=>false
 | .b _=>true
def O2:List Fd->Bool
 | []=>true
 | f::fs=>f.okF&&O2 fs
def W.special:W->Prop
 | .mh=>True
 | .th _ _=>True
 | _=>False
theorem D.y9:∀(d:D)(x:d.ty),¬(d.w x).special
 | .int _,_=>by simp[D.w,W.special]
 | .bool,_=>by simp[D.w,W.special]
 | .str,_=>by simp[D.w,W.special]
 | .sl _,_=>by simp[D.w,W.special]
 | .pv,x=>by cases x<;>simp[D.w,PV.w,W.special]
theorem Ob.Q9{o:Ob}(h:o.gj):∃ x,o.cells[0]? = some x/\x.special:=by
 rcases h with h|⟨k,av,h⟩;exact⟨_,h,trivial⟩;exact⟨_,h,trivial⟩
theorem DP:∀{fs:List Fd},O2 fs=true->∀ x∈fs.flatMap Fd.cells,¬x.special
 | [],_=>by simp
 | f :: fs, h => by
   simp only[O2,Bool.and_eq_true] at h;intro x hx;rw[List.flatMap_cons] at hx;rcases List.mem_append.1 hx with hx|hx
   . cases f with
     | c y =>
       simp only[Fd.cells,List.mem_singleton] at hx;subst hx;have h1:=h.1;cases x<;>simp_all[Fd.okF,W.okC,W.special]
     | a n d l =>
       simp only[Fd.cells,List.mem_map] at hx;obtain⟨y,_,rfl⟩:=hx;exact D.y9 _ _
     | m kd vd l=>cases h.1
     | b l =>
       simp only[Fd.cells,List.mem_map] at hx;obtain⟨y,_,rfl⟩:=hx;exact id
   exact DP h.2 x hx
theorem Ob.qo{o:Ob}(h:∀ x∈o.cells,¬x.special):¬o.gj:=fun hm=>let ⟨_,e,hs⟩:=Ob.Q9 hm;h _ (List.mem_of_getElem? e) hs
theorem Ob.gG{o:Ob}{d:D}{l:List d.ty}(h:o.cells=l.map d.w):¬o.gj:=Ob.qo fun x hx=>by
 rw[h,List.mem_map] at hx;obtain⟨y,_,rfl⟩:=hx;exact D.y9 _ _
def af.rN(S:af)(n:Nat):Option Ob:=match S.get n with
 | some o=>bif O2 o.fs then some o else none
 | none=>none
theorem jO{S:af}{n:Nat}{o:Ob}(h:S.rN n=some o):S.get n=some o/\¬o.gj:=by
 unfold af.rN at h;split at h;rename_i o' ho;obtain⟨h1,h⟩:=ah.aA h;cases h;exact⟨ho,Ob.qo (DP h1)⟩;cases h
theorem St.read{base:Nat}{η:Eta}{Z:ar}{S:af}{w:World}(R:St base η Z S w){n:Nat}{o:Ob}{p:cn}(h:S.get n=some o)(hp:η n=some p)(hm:¬o.gj){i:Nat}{x:W}(hx:o.cells[i]? = some x) :
 ∃ v,w.cell? ⟨p.block,p.off+i,none⟩=some v/\au η Z x v/\v.oneCell'=true:=by
 obtain⟨_,_,L⟩:=R.aj n o p h hp;obtain⟨c,fz,hc,_,hv,_⟩:=L.there hm;obtain⟨v,a,b,d⟩:=hv i x hx;exact⟨v,by simp[World.cell?,hc,a],b,d⟩
theorem St.X3{base:Nat}{η:Eta}{Z:ar}{S:af}{w:World}(R:St base η Z S w){b:Nat}{cells:Array Value}(h:Z b=some cells){o:Nat}{cs:List W}(hs:eN Z cells o cs){i:Nat}{x:W}(hx:cs[i]? = some x) :
 ∃ v,w.cell? ⟨b,o+i,none⟩=some v/\aH Z x v:=by
 obtain⟨ty,fz,hc⟩:=R.zs b cells h;obtain⟨v,a,d⟩:=hs.get hx;exact⟨v,by simp[World.cell?,hc,a],d⟩
theorem St.Ra{base:Nat}{η:Eta}{Z:ar}{S:af}{w w':World}(R:St base η Z S w){n:Nat}{o:Ob}{p:cn}(h:S.get n=some o)(hp:η n=some p){o':Ob}{b0:Nat}(hb0:p.has b0)
 (hos:w'.os=w.os) (nk:w'.tape=w.tape) (hout:w'.output=w.output) (hsz:w'.heap.size=w.heap.size) (gC:∀ b,b≠b0->w'.heap[b]? = w.heap[b]?) (hdata:∃ ob,w'.heap[b0]? = some ob/\o7 ob=true)
 (L':fk η Z o' p w'):qm base η Z S w η (S.put n o') w':=by
 have hget:∀ m,(S.put n o').get m=if m=n then some o' else S.get m:=fun m=>by rw[af.jo,h];rfl
 have f:∀ k y,(S.put n o').get k=some y->∃ z,S.get k=some z:=by
  intro k y hy;rw[hget] at hy;by_cases hk:k=n;subst hk;exact⟨o,h⟩;rw[if_neg hk] at hy;exact⟨y,hy⟩
 have hown:∀ b,Own η (S.put n o') b->Own η S b:=by
  rintro b ⟨m,x,q,hx,hq,hb⟩;obtain⟨z,hz⟩:=f m x hx;exact⟨m,z,q,hz,hq,hb⟩
 have IJ:∀ b:Nat,(∃ ob,w.heap[b]? = some ob/\o7 ob=true)->∃ ob,w'.heap[b]? = some ob/\o7 ob=true:=by
  rintro b ⟨ob,e,hd⟩;by_cases hb:b=b0;subst hb;exact hdata;exact⟨ob,(gC b hb).trans e,hd⟩
 refine⟨Eta.le.refl _,⟨?_,?_,?_,?_,?_,R.fresh,by rw[hsz];exact R.iq,?_⟩,⟨hos,nk,hout,by omega,?_,fun b hb=>.inl (hown b hb),ar.le.refl _,fun _ _ hh=>.inl hh,rfl⟩⟩;intro m x q hx hq;rw[hget] at hx;by_cases hm:m=n;subst hm;rw[if_pos rfl] at hx;cases hx;rw[hp] at hq;cases hq;obtain⟨hb,hz,_⟩:=R.aj m o p h hp;exact⟨hb,hz,L'⟩;rw[if_neg hm] at hx;obtain⟨hb,hz,L⟩:=R.aj m x q hx hq;exact⟨hb,hz,L.mono (Eta.le.refl _) (ar.le.refl _) fun b hb=>gC _ fun e=>R.jU m n x o q p b hx h hm hq hp hb (e▸hb0)⟩;intro m x hx hq;rw[hget] at hx;by_cases hm:m=n;subst hm;rw[hp] at hq;cases hq;rw[if_neg hm] at hx;exact R.cG m x hx hq
 . intro m x hx;show m<S.next
   obtain⟨z,hz⟩:=f m x hx;exact R.known m z hz
 intro m m' x x' q q' b hx hx' hne hq nK hb;obtain⟨z,hz⟩:=f m x hx;obtain⟨z',hz'⟩:=f m' x' hx';exact R.jU m m' z z' q q' b hz hz' hne hq nK hb;intro b c hb;obtain⟨ty,fz,e⟩:=R.zs b c hb;obtain⟨_,hz,_⟩:=R.all h hp hb0;exact⟨ty,fz,(gC b (fun e=>by rw[e,hz] at hb;cases hb)).trans e⟩;intro m x q hx hq b hb;obtain⟨z,hz⟩:=f m x hx;obtain⟨h1,h2,h3⟩:=R.sat m z q hz hq b hb;exact⟨h1,h2,IJ b h3⟩;intro b _ ho;exact gC b fun e=>ho ⟨n,o,p,h,hp,e▸hb0⟩
theorem St.write{base:Nat}{η:Eta}{Z:ar}{S:af}{w w':World}(R:St base η Z S w){n:Nat}{o:Ob}{p:cn}(h:S.get n=some o)(hp:η n=some p){o':Ob}
 (hos:w'.os=w.os) (nk:w'.tape=w.tape) (hout:w'.output=w.output) (hsz:w'.heap.size=w.heap.size) (gC:∀ b,b≠p.block->w'.heap[b]? = w.heap[b]?)
 (L':fk η Z o' p w'):qm base η Z S w η (S.put n o') w' :=
 R.Ra h hp p.iH hos nk hout hsz gC L'.data L'
def rO(P:Program)(t:TypeId):Option Bool:=match P.underlying t with|some (.struct _)=>some true|some (.array _ _)=>some true|some _=>some false|none=>none
theorem ow{P:Program}{t:TypeId}{b:Bool}(e:rO P t=some b)(w:World):(isAgg t).run P w=.ok b w:=by
 unfold rO at e;split at e<;>cases e<;>rename_i hu
 all_goals simp[isAgg,run_underlying hu]
def gE(P:Program)(t:TypeId):Option Nat:=match P.info? t with|some i=>some i.size|none=>none
theorem dI{P:Program}{t:TypeId}{n:Nat}(e:gE P t=some n)(w:World):(sizeOf t).run P w=.ok n w:=by
 unfold gE at e;split at e;rename_i i hi;cases e;simp[sizeOf,typeInfo,hi];cases e
def MC:Value->Option W
 | .bool b=>some (.bool b)
 | .int k n=>some (.int k n)
 | .string s=>some (.str s)
 | .pointer none=>some .dH
 | .slice none 0 0=>some .nil
 | .nilFunc=>some .mo
 | .nilIface=>some .kC
 | .map none=>some (.val (.map none))
 | _=>none
theorem MD{Z:ar}{v:Value}{x:W}(e:MC v=some x):aH Z x v/\x≠.cX/\v.oneCell'=true:=by
 unfold MC at e;split at e<;>cases e<;>simp[aH,Value.oneCell']
def IK:List Value->Option (List W)
 | []=>some []
 | v::l=>match MC v with|some x=>(match IK l with|some r=>some (x::r)|none=>none)|none=>none
theorem w7{η:Eta}{Z:ar}:∀{l:List Value}{xs:List W},IK l=some xs->aL (au η Z) xs l/\(∀ x∈xs,x≠.cX)/\(∀ v∈l,v.oneCell'=true)
 | [],xs,e=>by cases e;exact⟨trivial,by simp,by simp⟩
 | v :: l, xs, e => by
   simp only[IK] at e;split at e;rename_i x hx;split at e;rename_i r hr;cases e;obtain⟨a,b,c⟩:=w7 (η:=η) (Z:=Z) hr;obtain⟨d,f,g⟩:=MD (Z:=Z) hx;refine⟨⟨d.O1,a⟩,?_,?_⟩;intro y hy;rcases List.mem_cons.1 hy with rfl|hy
   exact f;exact b y hy;intro y hy;rcases List.mem_cons.1 hy with rfl|hy
   exact g;exact c y hy;cases e;cases e
def ME:Value->Option V
 | .agg cs=>match IK cs.toList with|some xs=>some (.agg xs)|none=>none
 | v=>match MC v with|some x=>some (.c x)|none=>none
theorem A3{η:Eta}{Z:ar}{v:Value}{x:V}(e:ME v=some x):cV η Z x v:=by
 unfold ME at e;split at e;rename_i cs;split at e;rename_i xs hxs;cases e;obtain⟨a,b,_⟩:=w7 (η:=η) (Z:=Z) hxs;exact⟨cs.toList,by simp,b,a⟩;cases e;split at e;rename_i x hx;cases e;obtain⟨a,b,_⟩:=MD (Z:=Z) hx;exact⟨b,a.O1⟩;cases e
inductive Cd where
 | t
 | p (c:Prop)
 | and (a b:Cd)
 | imp (g:Prop) (c:Cd)
def Cd.holds:Cd->Prop
 | .t=>True
 | .p c=>c
 | .and a b=>a.holds/\b.holds
 | .imp g c=>g->c.holds
instance:CoeSort Cd Prop:=⟨Cd.holds⟩
def Cd.list:Cd->List Prop
 | .t=>[]
 | .p c=>[c]
 | .and a b=>a.list++b.list
 | .imp g c=>c.list.map (g->·)
def gO:List Prop->Prop->Prop
 | [],k=>k
 | p::l,k=>p/\gO l k
theorem Cd.A4:∀{c:Cd},(∀ p∈c.list,p)->c
 | .t,_=>trivial
 | .p c,h=>h c (by simp[Cd.list])
 | .and a b,h=>⟨Cd.A4 fun p hp=>h p (by simp[Cd.list,hp]),Cd.A4 fun p hp=>h p (by simp[Cd.list,hp])⟩
 | .imp g c,h=>fun hg=>Cd.A4 fun p hp=>h (g->p) (List.mem_map.2 ⟨p,hp,rfl⟩) hg
theorem CW:∀{l:List Prop}{k:Prop},gO l k->(∀ p∈l,p)/\k
 | [],_,h=>⟨by simp,h⟩
 | p::l,k,⟨h1,h2⟩=>by
   obtain⟨a,b⟩:=CW h2;refine⟨fun x hx=>?_,b⟩;rcases List.mem_cons.1 hx with rfl|hx;exact h1;exact a x hx
theorem ic{c:Cd}{k:Prop}(h:gO c.list k):c/\k:=⟨Cd.A4 (CW h).1,(CW h).2⟩
inductive bR where
 | tmp (t:Nat)
 | w (x:W)
 | agg (cs:List W)
def bY:Operand->Option bR
 | .tmp t=>some (.tmp t)
 | .const v=>match ME v with|some (.c x)=>some (.w x)|some (.agg cs)=>some (.agg cs)|none=>none
 | .global _=>none
 | .func f=>some (.w (.func f []))
noncomputable def mO(F:Fr):bR->Option (Cd×V)
 | .tmp t=>match F.get t with|some (.p v)=>some (.t,v)|some (.cond c v)=>some (.p c,v)|some (.dec b)=>some (.t,.c (.bool b))|_=>none
 | .w x=>some (.t,.c x)
 | .agg cs=>some (.t,.agg cs)
theorem dZ{n:Nat}{η:Eta}{Z:ar}{F:Fr}{a:Act}(R:aW n η Z F a.tmps){x':Operand}{x:bR}(hx:bY x'=some x){c:Cd}{v:V}(e:mO F x=some (c,v))(hc:c):cV η Z v (a.eval x'):=by
 cases x' with
 | tmp t =>
   cases hx;simp only[mO] at e;split at e;rename_i v' hv;cases e;obtain⟨u,hu,hr⟩:=R.2 t _ hv;simpa[Act.eval,Array.getD_eq_getD_getElem?,hu,cw] using hr;rename_i c' v' hv;cases e;obtain⟨u,hu,hr⟩:=R.2 t _ hv;simpa[Act.eval,Array.getD_eq_getD_getElem?,hu] using hr.1 hc;rename_i b hv;cases e;obtain⟨u,hu,hr⟩:=R.2 t _ hv;have hr':u=.bool b:=hr;subst hr';have:a.eval (.tmp t)=.bool b:=by simp[Act.eval,Array.getD_eq_getD_getElem?,hu]
   rw[this];exact⟨by simp,by simp[au,aH]⟩;cases e
 | const u =>
   simp only[bY] at hx;split at hx;rename_i y hy;cases hx;cases e;exact A3 hy;rename_i cs hy;cases hx;cases e;exact A3 hy;cases hx
 | global g=>cases hx
 | func f =>
   cases hx;cases e;exact⟨by simp,[],rfl,trivial⟩
noncomputable def fG(F:Fr)(x:bR):Option (Cd×W):=match mO F x with|some (c,.c v)=>some (c,v)|_=>none
theorem aE{n:Nat}{η:Eta}{Z:ar}{F:Fr}{a:Act}(R:aW n η Z F a.tmps){x':Operand}{x:bR}(hx:bY x'=some x){c:Cd}{v:W}(e:fG F x=some (c,v))(hc:c):v≠.cX/\au η Z v (a.eval x'):=by
 unfold fG at e;split at e;rename_i c' v' h;cases e;exact dZ R hx h hc;cases e
noncomputable def jP(F:Fr)(x:bR):Option (Cd×IntKind×Int):=match mO F x with|some (c,.c (.int k n))=>some (c,k,n)|_=>none
theorem cE{n:Nat}{η:Eta}{Z:ar}{F:Fr}{a:Act}(R:aW n η Z F a.tmps){x':Operand}{x:bR}(hx:bY x'=some x){c:Cd}{k:IntKind}{i:Int}(e:jP F x=some (c,k,i))(hc:c):a.eval x'=.int k i:=by
 unfold jP at e;split at e;rename_i c' k' n' h;cases e;have:=(dZ R hx h hc).2;simpa[au,aH] using this;cases e
noncomputable def vK(F:Fr)(x:bR):Option (Cd×Bool):=match mO F x with|some (c,.c (.bool b))=>some (c,b)|_=>none
theorem nr{n:Nat}{η:Eta}{Z:ar}{F:Fr}{a:Act}(R:aW n η Z F a.tmps){x':Operand}{x:bR}(hx:bY x'=some x){c:Cd}{b:Bool}(e:vK F x=some (c,b))(hc:c):a.eval x'=.bool b:=by
 unfold vK at e;split at e;rename_i c' b' h;cases e;have:=(dZ R hx h hc).2;simpa[au,aH] using this;cases e
noncomputable def za(F:Fr)(x:bR):Option (Cd×ByteArray):=match mO F x with|some (c,.c (.str s))=>some (c,s)|_=>none
theorem mq{n:Nat}{η:Eta}{Z:ar}{F:Fr}{a:Act}(R:aW n η Z F a.tmps){x':Operand}{x:bR}(hx:bY x'=some x){c:Cd}{s:ByteArray}(e:za F x=some (c,s))(hc:c):a.eval x'=.string s:=by
 unfold za at e;split at e;rename_i c' b' h;cases e;have:=(dZ R hx h hc).2;simpa[au,aH] using this;cases e
def V.cells:V->List W
 | .c x=>[x]
 | .agg cs=>cs
def jE(l:List W)(off:Nat):List W->List W
 | []=>l
 | c::cs=>jE (l.set off c) (off+1) cs
noncomputable def vL(F:Fr):List W->List (Nat×Nat×bR)->Option (Cd×List W)
 | cs,[]=>some (.t,cs)
 | cs,(off,n,x)::r=>match mO F x with
   | some (p,v)=>bif Nat.beq v.cells.length n&&Nat.ble (off+n) cs.length then(match vL F (jE cs off v.cells) r with|some (q,out)=>some (.and p q,out)|none=>none) else none
   | none=>none
def IL(P:Program):List Field->Option (List (Nat×Nat))
 | []=>some []
 | f::l=>match gE P f.type,IL P l with|some n,some r=>some ((f.offset,n)::r)|_,_=>none
def sV(pl:Nat->Option (Nat×Nat)):List (Nat×Operand)->Option (List (Nat×Nat×bR))
 | []=>some []
 | (i,x)::l=>match pl i,bY x,sV pl l with|some (o,n),some y,some r=>some ((o,n,y)::r)|_,_,_=>none
def Gf:D->W->W->Option Bool
 | .int _,.int k a,.int k' b=>if k=k' then some (decide (a=b)) else none
 | .bool,.bool a,.bool b=>some (a==b)
 | .str,.str a,.str b=>some (decide (a=b))
 | _,_,_=>none
def IQ(xs ys:List W):List (Nat×D)->Option Bool
 | []=>some true
 | (o,d)::l=>match xs[o]?,ys[o]? with
   | some x,some y=>(match Gf d x y,IQ xs ys l with|some b,some r=>some (b&&r)|_,_=>none)
   | _,_=>none
def tW:TypeDesc->Option D
 | .int k=>some (.int k)
 | .bool=>some .bool
 | .string=>some .str
 | _=>none
def sI(P:Program):List Field->Option (List (Nat×D))
 | []=>some []
 | f::l=>if f.name = "_" then none else match P.underlying f.type with
   | some u=>(match tW u,sI P l with|some d,some r=>some ((f.offset,d)::r)|_,_=>none)
   | none=>none
inductive Q where
 | move (x:bR)
 | pick (c x y:bR)
 | load (d:W) (z:List PV) (x:bR)
 | tX (n:Nat) (z:List PV) (x:bR)
 | nilCheck (x:bR)
 | ibin (op:BinOp) (x y:bR)
 | Vk (op:BinOp) (x y:bR)
 | shift (op:BinOp) (x y:bR)
 | icmp (op:BinOp) (x y:bR)
 | scmp (op:BinOp) (x y:bR)
 | scat (x y:bR)
 | beq (op:BinOp) (x y:bR)
 | X4 (neg:Bool) (x y:bR)
 | ieq (neg:Bool) (x:bR)
 | X5 (x:bR)
 | neg (x:bR)
 | not (x:bR)
 | conv (k:IntKind) (x:bR)
 | rune (x:bR)
 | text (x:bR)
 | slen (x:bR)
 | llen (sz:Nat) (x:bR)
 | ncap (x:bR)
 | alen (n:Nat)
 | min (x y:bR)
 | max (x y:bR)
 | min3 (x y z:bR)
 | max3 (x y z:bR)
 | index (x i:bR)
 | field (off:Nat) (d:W) (x:bR)
 | IU (off n:Nat) (x:bR)
 | fieldAddr (off:Nat) (x:bR)
 | indexAddr (sz:Nat) (x i:bR)
 | w8 (len sz:Nat) (x i:bR)
 | slice (sz:Nat) (x:bR) (lo hi:Option bR)
 | IV (x:bR) (lo hi:Option bR)
 | extract (i:Nat) (x:bR)
 | func (f:FuncId) (caps:List bR)
 | mval (f:FuncId) (x:bR)
 | build (z:List W) (parts:List (Nat×Nat×bR))
 | aeq (op:BinOp) (l:List (Nat×D)) (x y:bR)
def iop(op:BinOp)(k:IntKind)(a b:Int):Int :=
 match op with
 | .add=>k.wrap (a+b)
 | .sub=>k.wrap (a-b)
 | .mul=>k.wrap (a*b)
 | .and=>k.wrap (BitVec.ofInt k.bits a &&& BitVec.ofInt k.bits b).toNat
 | .or=>k.wrap (BitVec.ofInt k.bits a ||| BitVec.ofInt k.bits b).toNat
 | .xor=>k.wrap (BitVec.ofInt k.bits a ^^^ BitVec.ofInt k.bits b).toNat
 | .andNot=>k.wrap (BitVec.ofInt k.bits a &&& ~~~ (BitVec.ofInt k.bits b)).toNat
 | _=>0
def DQ:BinOp->Bool
 | .add | .sub | .mul | .and | .or | .xor | .andNot=>true
 | _=>false
def IW(op:BinOp)(k:IntKind)(a b:Int):Int :=
 match op with
 | .quo=>k.wrap (a.tdiv b)
 | _=>a.tmod b
def shiftOp(op:BinOp)(k:IntKind)(a b:Int):Int :=
 match op with
 | .shl=>k.wrap (a*2 ^ (Min.min b.toNat k.bits))
 | _=>a.fdiv (2 ^ (Min.min b.toNat k.bits))
def IX(op:BinOp)(a b:Int):Bool :=
 match op with
 | .eql=>decide (a=b)
 | .neq=>!decide (a=b)
 | .lss=>decide (a<b)
 | .leq=>decide (a<=b)
 | .gtr=>decide (b<a)
 | .geq=>decide (b<=a)
 | _=>false
def A5:BinOp->Bool
 | .eql | .neq | .lss | .leq | .gtr | .geq=>true
 | _=>false
def IY(op:BinOp)(a b:ByteArray):Bool :=
 match op with
 | .eql=>decide (a=b)
 | .neq=>!decide (a=b)
 | .lss=>Op.bytesLess a.toList b.toList
 | .leq=>Op.bytesLess a.toList b.toList||decide (a=b)
 | .gtr=>!(Op.bytesLess a.toList b.toList||decide (a=b))
 | .geq=>!Op.bytesLess a.toList b.toList
 | _=>false
def aT(s:ByteArray)(i:Nat):Int:=((s.data.toList.getD i 0).toNat:Int)
noncomputable def tY(F:Fr)(x:Option bR)(d:Int):Option (Cd×Int) :=
 match x with
 | none=>some (.t,d)
 | some x=>match jP F x with|some (c,_,n)=>some (c,n)|none=>none
noncomputable def ze(F:Fr):List bR->Option (Cd×List (Nat×Nat))
 | []=>some (.t,[])
 | x::l=>match fG F x with
   | some (c,.ptr n off)=>(match ze F l with|some (d,r)=>some (.and c d,(n,off)::r)|none=>none)
   | _=>none
def Vl(P:Program):Nat->TypeId->Option (List PV)
 | 0,_=>none
 | k + 1, t => match P.underlying t with
   | some (.int .i64)=>some [.int 0]
   | some .bool=>some [.bool false]
   | some .string=>some [.str ⟨#[]⟩]
   | some (.slice el)=>(match P.underlying el with
     | some .string=>some [.strs []]
     | some (.struct _)=>(match gE P el with|some n=>some [.aZ n []]|none=>none)
     | _=>none)
   | some (.struct fs)=>fs.toList.foldr (fun f r=>match Vl P k f.type,r with|some a,some b=>some (a++b)|_,_=>none) (some [])
   | some (.array n el)=>(match Vl P k el with|some a=>some (List.replicate n a).flatten|none=>none)
   | _=>none
def shapes(P:Program)(t:TypeId):List PV:=match Vl P 8 t with|some l=>l|none=>[]
def uV:List PV->List W->List W
 | .aZ n _::zs,.nil::l=>.rs n []::uV zs l
 | _::zs,x::l=>x::uV zs l
 | _,l=>l
def jz(P:Program)(t:TypeId):Option (List W):=match P.info? t with|some i=>(match i.zero with|some z=>(match IK z.cells.toList with|some l=>some (uV (shapes P t) l)|none=>none)|none=>none)|none=>none
def PV.like:PV->PV->Bool
 | .int _,.int _=>true
 | .bool _,.bool _=>true
 | .str _,.str _=>true
 | .strs _,.strs _=>true
 | .aZ n _,.aZ n' _=>Nat.beq n' n
 | _,_=>false
def PV.asInt:PV->Int
 | .int n=>n
 | _=>0
def PV.asBool:PV->Bool
 | .bool b=>b
 | _=>false
def PV.bL:PV->ByteArray
 | .str s=>s
 | _=>⟨#[]⟩
def PV.iX:PV->List ByteArray
 | .strs l=>l
 | _=>[]
def PV.aI:PV->List PV
 | .aZ _ l=>l
 | _=>[]
def PV.at(z x:PV):W:=match z with
 | .int _=>.int .i64 x.asInt
 | .bool _=>.bool x.asBool
 | .str _=>.str x.bL
 | .strs _=>.rd .str x.iX
 | .aZ n _=>.rs n x.aI
theorem PV.X6{z x:PV}(h:z.like x=true):z.at x=x.w:=by
 cases z<;>cases x<;>simp only[PV.like] at h<;>first|(cases h;done)|skip
 rfl;rfl;rfl;rfl;have:=Nat.eq_of_beq_eq_true h;subst this;rfl
def mG(l:List PV):Nat->List PV->Cd×List W
 | _,[]=>(.t,[])
 | i,z::zs=>(.and (.p (z.like (l.getD i (.bool false))=true)) (mG l (i+1) zs).1,z.at (l.getD i (.bool false))::(mG l (i+1) zs).2)
theorem IZ{l:List PV}:∀{zs:List PV}{i:Nat},(mG l i zs).1.holds->i+zs.length<=l.length->(mG l i zs).2=((l.drop i).take zs.length).map PV.w
 | [],i,_,_=>by simp[mG]
 | z::zs,i,h,hl=>by
   simp only[mG] at h ⊢;have hlt:i<l.length:=by rw[List.length_cons] at hl;omega
   rw[IZ h.2 (by rw[List.length_cons] at hl;omega),PV.X6 h.1,List.drop_eq_getElem_cons hlt,List.length_cons,List.take_succ_cons,List.map_cons];congr 1;rw[List.getD_eq_getElem?_getD,List.getElem?_eq_getElem hlt];rfl
def ldD:(e:D)->List PV->e.ty->Option (Cd×W)
 | .pv,[z],x=>some (.p (z.like x=true),z.at x)
 | .pv,_,_=>none
 | .int k,_,x=>some (.t,.int k x)
 | .bool,_,x=>some (.t,.bool x)
 | .str,_,x=>some (.t,.str x)
 | .sl d,_,x=>some (.t,.rd d x)
theorem ldD_eq:∀{e:D}{z:List PV}{x:e.ty}{c:Cd}{y:W},ldD e z x=some (c,y)->c->y=e.w x
 | .int _,_,_,_,_,h,_=>by cases h;rfl
 | .bool,_,_,_,_,h,_=>by cases h;rfl
 | .str,_,_,_,_,h,_=>by cases h;rfl
 | .sl _,_,_,_,_,h,_=>by cases h;rfl
 | .pv,[z],x,_,_,h,hc=>by cases h;exact PV.X6 hc
 | .pv,[],x,_,_,h,_=>by cases h
 | .pv,_::_::_,x,_,_,h,_=>by cases h
def pvL:(e:D)->List e.ty->Option (List PV)
 | .pv,l=>some l
 | _,_=>none
theorem pvL_eq{e:D}{l:List e.ty}{m:List PV}(h:pvL e l=some m):∃ h':e=.pv,(cast (by rw[h']) l:List PV)=m:=by
 cases e<;>simp only[pvL] at h<;>cases h;exact⟨rfl,rfl⟩
def iT:List Fd->Nat->Option (Cd×Fd)
 | [],_=>none
 | .c x::fs,k=>match k with
   | 0=>some (.t,.c x)
   | k+1=>iT fs k
 | .a n d l::fs,k=>match k with
   | 0=>some (.t,.a n d l)
   | k+1=>bif Nat.blt (k+1) n then none else match iT fs (k+1-n) with
     | some (c,f)=>some (.and (.p (l.length=n)) c,f)
     | none=>none
 | .m _ _ _::_,_=>none
 | .b _::_,_=>none
def W.aQ:W->Bool
 | .cX=>false
 | _=>true
theorem W.E6{x:W}(h:x.aQ=true):x≠.cX:=by rintro rfl;cases h
def A6:List W->Bool
 | []=>true
 | x::l=>x.aQ&&A6 l
theorem DR:∀{l:List W},A6 l=true->∀ x∈l,x≠.cX
 | [],_=>by simp
 | y::l,h=>by
   simp only[A6,Bool.and_eq_true] at h;intro x hx;rcases List.mem_cons.1 hx with rfl|hx;exact W.E6 h.1;exact DR h.2 x hx
def I4:List Fd->Option (Nat×W)
 | [.a k _ l,.c x,.a k' _ _]=>bif Nat.beq k 1&&Nat.beq k' 1 then some (l.length,x) else none
 | _=>none
def I5:List Fd->Option (List Int)
 | [.b l]=>some l
 | _=>none
theorem E7{fs:List Fd}{l:List Int}(e:I5 fs=some l):fs=[.b l]:=by
 unfold I5 at e;split at e;cases e;rfl;cases e
def Vm:List Fd->Option (Nat×List (List Int))
 | [.c (.th k av)]=>some (k,av)
 | _=>none
def tZ(S:af)(n:Nat):Option (Nat×List (List Int)):=match S.get n with|some o=>Vm o.fs|none=>none
theorem Gg{fs:List Fd}{k:Nat}{av:List (List Int)}(e:Vm fs=some (k,av)):fs=[.c (.th k av)]:=by
 unfold Vm at e;split at e;cases e;rfl;cases e
theorem I6{o:Ob}{k:Nat}{av:List (List Int)}(e:o.fs=[.c (.th k av)]):o.jT k av:=by
 unfold Ob.jT Ob.cells;rw[e];rfl
theorem nu{S:af}{n k:Nat}{av:List (List Int)}(e:tZ S n=some (k,av)):∃ o,S.get n=some o/\o.fs=[.c (.th k av)]/\o.jT k av:=by
 unfold tZ at e;split at e;rename_i o ho;exact⟨o,ho,Gg e,I6 (Gg e)⟩;cases e
noncomputable def dO(F:Fr)(S:af):Q->Option (Cd×V)
 | .move x=>mO F x
 | .pick c x y=>match vK F c,vK F x,vK F y with
   | some (p,b),some (q,u),some (r,v)=>some (.and p (.and (.imp (b=true) q) (.imp (b=false) r)),.c (.bool (bif b then u else v)))
   | _,_,_=>none
 | .load d z x => match fG F x with
   | some (p,.ptr n off)=>match S.rN n with
     | some o=>match iT o.fs off with
       | some (q,.c x)=>bif x.aQ then some (.and p q,.c x) else none
       | some (q,.a _ e l)=>some (.and p (.and q (.p (0<l.length))),.c (e.w (l.getD 0 e.zero)))
       | _=>none
     | none=>none
   | some (p,.o6 n i j)=>match tZ S n with
     | some (k,av)=>some (.and p (.p (i<av.length/\j<k)),.c (.int .i64 ((av.getD i []).getD j 0)))
     | none=>none
   | some (p,.pe n off i)=>match tZ S n with
    | some (k,av)=>bif Nat.beq off 0 then some (.and p (.p (i<av.length)),.c (.row n i k)) else none
    | none=>match S.rN n with
     | some o=>match I5 o.fs with
      | some l=>bif Nat.beq off 0 then some (.and p (.p (i<l.length)),.c (.int .u8 (l.getD i 0))) else none
      | none=>match I4 o.fs with
       | some (k,x)=>bif x.aQ&&Nat.beq off 0 then some (.and p (.p (i=k)),.c x) else none
       | none=>match iT o.fs off with
         | some (q,.a _ e l)=>some (.and p (.and q (.p (i<l.length))),.c (e.w (l.getD i e.zero)))
         | some (_,.c _)=>some (.and p (.p (off+i<o.cells.length/\o.cells.getD (off+i) d≠.cX)),.c (o.cells.getD (off+i) d))
         | _=>none
     | none=>none
   | some (p,.rp cs off)=>some (.and p (.p (off<cs.length)),.c (cs.getD off d))
   | some (p,.re e l i)=>match ldD e z (l.getD i e.zero) with
     | some (c,y)=>some (.and p (.and (.p (i<l.length)) c),.c y)
     | none=>none
   | _=>none
 | .tX n z x=>match fG F x with
   | some (p,.ptr m off)=>match S.rN m with
     | some o=>bif Nat.ble (off+n) o.cells.length&&A6 ((o.cells.drop off).take n) then some (p,.agg ((o.cells.drop off).take n)) else none
     | none=>none
   | some (p,.rp cs off)=>some (.and p (.p (off+n<=cs.length)),.agg ((cs.drop off).take n))
   | some (p,.re e l i)=>match pvL e l with
     | some m=>bif Nat.beq z.length n then some (.and p (.and (.p (i+n<=m.length)) (mG m i z).1),.agg (mG m i z).2) else none
     | none=>none
   | _=>none
 | .nilCheck x=>match fG F x with
   | some (p,.ptr n off)=>some (p,.c (.ptr n off))
   | some (p,.pe n off i)=>some (p,.c (.pe n off i))
   | some (p,.rp cs off)=>some (p,.c (.rp cs off))
   | some (p,.re e l i)=>some (p,.c (.re e l i))
   | some (p,.o6 n i j)=>some (p,.c (.o6 n i j))
   | some (p,.func f caps)=>some (p,.c (.func f caps))
   | some (p,.yield l)=>some (p,.c (.yield l))
   | _=>none
 | .ibin op x y=>match jP F x,jP F y with
   | some (p,k,a),some (q,k',b)=>if k=k' then some (.and p q,.c (.int k (iop op k a b))) else none
   | _,_=>none
 | .Vk op x y=>match jP F x,jP F y with
   | some (p,k,a),some (q,k',b)=>if k=k' then some (.and p (.and q (.p (b≠0))),.c (.int k (IW op k a b))) else none
   | _,_=>none
 | .shift op x y=>match jP F x,jP F y with
   | some (p,k,a),some (q,_,b)=>some (.and p (.and q (.p (0<=b))),.c (.int k (shiftOp op k a b)))
   | _,_=>none
 | .icmp op x y=>match jP F x,jP F y with
   | some (p,k,a),some (q,k',b)=>if k=k' then some (.and p q,.c (.bool (IX op a b))) else none
   | _,_=>none
 | .scmp op x y=>match za F x,za F y with
   | some (p,a),some (q,b)=>some (.and p q,.c (.bool (IY op a b)))
   | _,_=>none
 | .scat x y=>match za F x,za F y with
   | some (p,a),some (q,b)=>some (.and p (.and q (.p (a.size+b.size<=9223372036854775807))),.c (.str (a++b)))
   | _,_=>none
 | .beq op x y=>match vK F x,vK F y with
   | some (p,a),some (q,b)=>some (.and p q,.c (.bool (match op with | .eql=>a==b|_=>!(a==b))))
   | _,_=>none
 | .X4 neg x y=>match fG F x,fG F y with
   | some (p,.dH),some (q,.dH)=>some (.and p q,.c (.bool (!neg)))
   | some (p,.ptr _ _),some (q,.dH)=>some (.and p q,.c (.bool neg))
   | some (p,.dH),some (q,.ptr _ _)=>some (.and p q,.c (.bool neg))
   | some (p,.ptr n off),some (q,.ptr m off')=>bif Nat.beq n m then some (.and p q,.c (.bool (bif neg then !(Nat.beq off off') else Nat.beq off off'))) else none
   | _,_=>none
 | .ieq neg x=>match fG F x with
   | some (p,.kC)=>some (p,.c (.bool (!neg)))
   | some (p,.val (.iface _ _))=>some (p,.c (.bool neg))
   | some (p,.y7 b)=>some (p,.c (.bool (bif neg then b else !b)))
   | _=>none
 | .X5 x=>match fG F x with
   | some (p,.sl n off len sz)=>bif Nat.beq sz 1 then some (.and p (.p (0<len)),.c (.pe n 0 off)) else none
   | _=>none
 | .neg x=>match jP F x with
   | some (p,k,a)=>some (p,.c (.int k (k.wrap (0-a))))
   | none=>none
 | .not x=>match vK F x with
   | some (p,a)=>some (p,.c (.bool (!a)))
   | none=>none
 | .conv k x=>match jP F x with
   | some (p,_,a)=>some (p,.c (.int k (k.wrap a)))
   | none=>none
 | .rune x=>match jP F x with
   | some (p,_,a)=>some (p,.c (.str (Utf8.encode a)))
   | none=>none
 | .text x=>match za F x with
   | some (p,s)=>some (p,.c (.str s))
   | none=>none
 | .slen x=>match za F x with
   | some (p,s)=>some (p,.c (.int .i64 s.size))
   | none=>none
 | .llen sz x=>match fG F x with
   | some (p,.nil)=>some (p,.c (.int .i64 0))
   | some (p,.sl _ _ len _)=>some (p,.c (.int .i64 len))
   | some (p,.ro sz' cs)=>if sz'=sz then some (p,.c (.int .i64 ((cs.length/sz:Nat):Int))) else none
   | some (p,.rd _ l)=>some (p,.c (.int .i64 (l.length:Int)))
   | some (p,.row _ _ len)=>some (p,.c (.int .i64 len))
   | some (p,.rs sz' l)=>if sz'=sz then some (p,.c (.int .i64 ((l.length/sz:Nat):Int))) else none
   | _=>none
 | .ncap x=>match fG F x with
   | some (p,.nil)=>some (p,.c (.int .i64 0))
   | _=>none
 | .alen n=>some (.t,.c (.int .i64 n))
 | .min x y=>match jP F x,jP F y with
   | some (p,k,a),some (q,_,b)=>some (.and p q,.c (.int k (Min.min a b)))
   | _,_=>none
 | .max x y=>match jP F x,jP F y with
   | some (p,k,a),some (q,_,b)=>some (.and p q,.c (.int k (Max.max a b)))
   | _,_=>none
 | .min3 x y z=>match jP F x,jP F y,jP F z with
   | some (p,k,a),some (q,_,b),some (r,_,c)=>some (.and p (.and q r),.c (.int k (Min.min (Min.min a b) c)))
   | _,_,_=>none
 | .max3 x y z=>match jP F x,jP F y,jP F z with
   | some (p,k,a),some (q,_,b),some (r,_,c)=>some (.and p (.and q r),.c (.int k (Max.max (Max.max a b) c)))
   | _,_,_=>none
 | .index x i=>match za F x,jP F i with
   | some (p,s),some (q,_,n)=>some (.and p (.and q (.p (0<=n/\n<s.size))),.c (.int .u8 (aT s n.toNat)))
   | _,_=>none
 | .field off _ x=>match mO F x with
   | some (p,.agg cs)=>match cs[off]? with|some x=>some (p,.c x)|none=>none
   | _=>none
 | .IU off n x=>match mO F x with
   | some (p,.agg cs)=>bif Nat.ble (off+n) cs.length then some (p,.agg ((cs.drop off).take n)) else none
   | _=>none
 | .fieldAddr off x=>match fG F x with
   | some (p,.ptr n o)=>some (p,.c (.ptr n (o+off)))
   | some (p,.rp cs o)=>some (p,.c (.rp cs (o+off)))
   | some (p,.re d l i)=>some (p,.c (.re d l (i+off)))
   | _=>none
 | .indexAddr sz x i=>match fG F x,jP F i with
   | some (p,.sl n off len sz'),some (q,_,i)=>if sz'=sz then some (.and p (.and q (.p (0<=i/\i<len))),.c (bif Nat.beq sz 1 then .pe n 0 (off+i.toNat) else .ptr n (off+i.toNat*sz))) else none
   | some (p,.ro sz' cs),some (q,_,i)=>if sz'=sz then some (.and p (.and q (.p (0<=i/\i.toNat*sz<cs.length))),.c (.rp cs (i.toNat*sz))) else none
   | some (p,.rd d l),some (q,_,i)=>if sz=1 then some (.and p (.and q (.p (0<=i/\i<(l.length:Int)))),.c (.re d l i.toNat)) else none
   | some (p,.row n r len),some (q,_,i)=>if sz=1 then some (.and p (.and q (.p (0<=i/\i<(len:Int)))),.c (.o6 n r i.toNat)) else none
   | some (p,.rs sz' l),some (q,_,i)=>if sz'=sz then some (.and p (.and q (.p (0<=i/\i.toNat*sz<l.length))),.c (.re .pv l (i.toNat*sz))) else none
   | _,_=>none
 | .w8 len sz x i=>match fG F x,jP F i with
   | some (p,.ptr n off),some (q,_,i)=>some (.and p (.and q (.p (0<=i/\i<len))),.c (bif Nat.beq sz 1 then .pe n off i.toNat else .ptr n (off+i.toNat*sz)))
   | some (p,.rp cs off),some (q,_,i)=>some (.and p (.and q (.p (0<=i/\i<len))),.c (.rp cs (off+i.toNat*sz)))
   | some (p,.re d l off),some (q,_,i)=>some (.and p (.and q (.p (0<=i/\i<len))),.c (.re d l (off+i.toNat*sz)))
   | _,_=>none
 | .slice sz x lo hi=>match fG F x with
   | some (p,.nil)=>match tY F lo 0,tY F hi 0 with
     | some (q,l),some (r,h)=>some (.and p (.and q (.and r (.p (l=0/\h=0)))),.c .nil)
     | _,_=>none
   | some (p,.sl n off len sz')=>if sz'=sz then match tY F lo 0,tY F hi len with
     | some (q,l),some (r,h)=>some (.and p (.and q (.and r (.p (0<=l/\l<=h/\h<=len)))),.c (.sl n (off+l.toNat*sz) (h-l).toNat sz))
     | _,_=>none
     else none
   | some (p,.ro sz' cs)=>if sz'=sz then match tY F lo 0,tY F hi ((cs.length/sz:Nat):Int) with
     | some (q,l),some (r,h)=>some (.and p (.and q (.and r (.p (0<=l/\l<=h/\h<=((cs.length/sz:Nat):Int))))),.c (.ro sz ((cs.take (h.toNat*sz)).drop (l.toNat*sz))))
     | _,_=>none
     else none
   | some (p,.rd d xs)=>if sz=1 then match tY F lo 0,tY F hi (xs.length:Int) with
     | some (q,l),some (r,h)=>some (.and p (.and q (.and r (.p (0<=l/\l<=h/\h<=(xs.length:Int))))),.c (.rd d ((xs.take h.toNat).drop l.toNat)))
     | _,_=>none
     else none
   | some (p,.rs sz' xs)=>if sz'=sz then match tY F lo 0,tY F hi ((xs.length/sz:Nat):Int) with
     | some (q,l),some (r,h)=>some (.and p (.and q (.and r (.p (0<=l/\l<=h/\h<=((xs.length/sz:Nat):Int))))),.c (.rs sz ((xs.take (h.toNat*sz)).drop (l.toNat*sz))))
     | _,_=>none
     else none
   | _=>none
 | .IV x lo hi=>match za F x with
   | some (p,s)=>match tY F lo 0,tY F hi s.size with
     | some (q,l),some (r,h)=>some (.and p (.and q (.and r (.p (0<=l/\l<=h/\h<=s.size)))),.c (.str (s.extract l.toNat h.toNat)))
     | _,_=>none
   | none=>none
 | .extract i x=>match x with
   | .tmp t=>match F.get t with
     | some (.bF vs)=>match vs[i]? with|some v=>some (.t,v)|none=>none
     | _=>none
   | _=>none
 | .mval f x=>match fG F x with
   | some (c,.ptr n off)=>some (c,.c (.nN f n off))
   | _=>none
 | .func f caps=>match ze F caps with
   | some (p,cs)=>some (p,.c (.func f cs))
   | none=>none
 | .build z parts=>match vL F z parts with
   | some (p,cs)=>some (p,.agg cs)
   | none=>none
 | .aeq op l x y=>match mO F x,mO F y with
   | some (p,.agg xs),some (q,.agg ys)=>match IQ xs ys l with
     | some b=>some (.and p q,.c (.bool (match op with | .eql=>b|_=>!b)))
     | none=>none
   | _,_=>none
def O3(P:Program)(t:TypeId):Option W:=match P.info? t with|some i=>(match i.zero with|some z=>MC z|none=>none)|none=>none
def zf:Option Operand->Option (Option bR)
 | none=>some none
 | some x=>match bY x with|some y=>some (some y)|none=>none
def ox:List Operand->Option (List bR)
 | []=>some []
 | x::l=>match bY x with|some y=>(match ox l with|some r=>some (y::r)|none=>none)|none=>none
def t6(P : Program)(o : Op) : Option Q :=
 match o with
 | .move x=>(bY x).map .move
 | .assign x=>(bY x).map .move
 | .pick c x y=>match bY c,bY x,bY y with|some c,some x,some y=>some (.pick c x y)|_,_,_=>none
 | .load t x=>match rO P t,bY x with
   | some false,some x=>(O3 P t).map fun d=>.load d (shapes P t) x
   | some true,some x=>(gE P t).map fun n=>.tX n (shapes P t) x
   | _,_=>none
 | .nilCheck x=>(bY x).map .nilCheck
 | .binOp op t x y _=>match P.underlying t,bY x,bY y with
   | some (.int _),some x,some y=>if DQ op then some (.ibin op x y) else match op with
     | .quo=>some (.Vk .quo x y)
     | .rem=>some (.Vk .rem x y)
     | .shl=>some (.shift .shl x y)
     | .shr=>some (.shift .shr x y)
     | _=>if A5 op then some (.icmp op x y) else none
   | some .string,some x,some y=>match op with
     | .add=>some (.scat x y)
     | _=>if A5 op then some (.scmp op x y) else none
   | some .bool,some x,some y=>match op with
     | .eql=>some (.beq .eql x y)
     | .neq=>some (.beq .neq x y)
     | _=>none
   | some (.pointer el),some x,some y=>match gE P el with
     | some k=>if k=0 then none else(match op with
       | .eql=>some (.X4 false x y)
       | .neq=>some (.X4 true x y)
       | _=>none)
     | none=>none
   | some (.interface _),some x,some (.w .kC)=>(match op with
     | .eql=>some (.ieq false x)
     | .neq=>some (.ieq true x)
     | _=>none)
   | some (.struct fs),some x,some y=>if P.stoodInHeld t=false/\P.eqGuardType P.depth t=false then(match sI P fs.toList with
     | some l=>(match op with
       | .eql=>some (.aeq .eql l x y)
       | .neq=>some (.aeq .neq l x y)
       | _=>none)
     | none=>none) else none
   | _,_,_=>none
 | .unOp .neg _ x=>(bY x).map .neg
 | .unOp .not _ x=>(bY x).map .not
 | .convert src dst x=>match P.underlying src,P.underlying dst,bY x with
   | some (.int _),some (.int k),some x=>some (.conv k x)
   | some (.int _),some .string,some x=>some (.rune x)
   | some .string,some .string,some x=>some (.text x)
   | _,_,_=>none
 | .call { callee:=.builtin .len,args:=⟨[x]⟩,argTypes:=⟨[t]⟩ }=>match P.underlying t,bY x with
   | some .string,some x=>some (.slen x)
   | some (.slice el),some x=>match gE P el with|some n=>if n=0 then none else some (.llen n x)|none=>none
   | some (.array n _),_=>some (.alen n)
   | _,_=>none
 | .call { callee:=.builtin .cap,args:=⟨[x]⟩,argTypes:=⟨[t]⟩ }=>match P.underlying t,bY x with
   | some (.slice _),some x=>some (.ncap x)
   | _,_=>none
 | .call { callee:=.builtin .unsafeSliceData,args:=⟨[x]⟩,.. }=>(bY x).map .X5
 | .call { callee:=.builtin .min,args:=⟨[x,y]⟩,.. }=>match bY x,bY y with|some x,some y=>some (.min x y)|_,_=>none
 | .call { callee:=.builtin .max,args:=⟨[x,y]⟩,.. }=>match bY x,bY y with|some x,some y=>some (.max x y)|_,_=>none
 | .call { callee:=.builtin .min,args:=⟨[x,y,z]⟩,.. }=>match bY x,bY y,bY z with|some x,some y,some z=>some (.min3 x y z)|_,_,_=>none
 | .call { callee:=.builtin .max,args:=⟨[x,y,z]⟩,.. }=>match bY x,bY y,bY z with|some x,some y,some z=>some (.max3 x y z)|_,_,_=>none
 | .index t x i=>match P.underlying t,bY x,bY i with
   | some .string,some x,some i=>some (.index x i)
   | _,_,_=>none
 | .field t x f=>match P.underlying t,bY x with
   | some (.struct fs),some x=>match fs[f]? with
     | some fd=>match rO P fd.type with
       | some false=>(O3 P fd.type).map fun d=>.field fd.offset d x
       | some true=>(gE P fd.type).map fun n=>.IU fd.offset n x
       | none=>none
     | none=>none
   | _,_=>none
 | .fieldAddr s x f=>match P.underlying s,bY x with
   | some (.struct fs),some x=>match fs[f]? with
     | some fd=>match gE P fd.type with
       | some n=>if n=0 then none else some (.fieldAddr fd.offset x)
       | none=>none
     | none=>none
   | _,_=>none
 | .indexAddr t x i=>match P.underlying t,bY x,bY i with
   | some (.slice el),some x,some i=>match gE P el with|some n=>if n=0 then none else some (.indexAddr n x i)|none=>none
   | some (.array len el),some x,some i=>(gE P el).map fun n=>.w8 len n x i
   | _,_,_=>none
 | .slice t x lo hi none=>match P.underlying t,bY x,zf lo,zf hi with
   | some (.slice el),some x,some lo,some hi=>match gE P el with|some n=>if n=0 then none else some (.slice n x lo hi)|none=>none
   | some .string,some x,some lo,some hi=>some (.IV x lo hi)
   | _,_,_,_=>none
 | .extract x i=>(bY x).map (.extract i)
 | .makeFunc (.func f) ⟨[]⟩ caps=>(ox caps.toList).map (.func f)
 | .makeFunc (.func f) ⟨[x]⟩ ⟨[]⟩=>(bY x).map (.mval f)
 | .build t parts=>match P.underlying t,jz P t with
   | some (.struct fs),some z=>match IL P fs.toList with
     | some pl=>(sV (fun i=>pl[i]?) parts.toList).map (.build z)
     | none=>none
   | some (.array _ el),some z=>match gE P el with
     | some n=>(sV (fun i=>some (i*n,n)) parts.toList).map (.build z)
     | none=>none
   | _,_=>none
 | _=>none
theorem map_some{α β:Type}{x:Option α}{f:α->β}{y:β}(h:x.map f=some y):∃ a,x=some a/\f a=y:=by
 cases x with
 | none=>cases h
 | some a=>exact⟨a,rfl,Option.some.inj h⟩
theorem dm{α:Type}{c:Prop}[Decidable c]{x:Option α}{y:α}(h:(if c then x else none)=some y):c/\x=some y:=by
 by_cases hc:c;rw[if_pos hc] at h;exact⟨hc,h⟩;rw[if_neg hc] at h;cases h
theorem aH.one{Z:ar}:∀{x:W}{v:Value},aH Z x v->v.oneCell'=true
 | .bool _,_,e | .int _ _,_,e | .str _,_,e | .dH,_,e | .nil,_,e | .mo,_,e | .kC,_,e=>by simp only[aH] at e;subst e;rfl
 | .val _,_,e=>by simp only[aH] at e;rw[e.1];exact e.2
 | .ro _ _,_,e=>by simp only[aH] at e;obtain⟨_,_,_,rfl,_⟩:=e;rfl
 | .rp _ _,_,e=>by simp only[aH] at e;obtain⟨_,_,_,rfl,_⟩:=e;rfl
 | .rd d l,_,e=>by simp only[aH] at e;exact cA.one (.sl d) e
 | .re _ _ _,_,e=>by simp only[aH] at e;obtain⟨_,_,_,rfl,_⟩:=e;rfl
 | .func _ _,_,e=>by simp only[aH] at e;obtain⟨_,rfl⟩:=e;rfl
 | .ptr _ _,_,e=>by simp only[aH] at e
 | .pe _ _ _,_,e=>by simp only[aH] at e
 | .sl _ _ _ _,_,e=>by simp only[aH] at e
 | .yield _,_,e=>by simp only[aH] at e
 | .cX,_,e=>by simp only[aH] at e
 | .mp _,_,e=>by simp only[aH] at e
 | .mh,_,e=>by simp only[aH] at e
 | .ba _,_,e=>by simp only[aH] at e
 | .nN _ _ _,_,e=>by simp only[aH] at e
 | .th _ _,_,e=>by simp only[aH] at e
 | .row _ _ _,_,e=>by simp only[aH] at e
 | .o6 _ _ _,_,e=>by simp only[aH] at e
 | .lZ _,_,e=>by simp only[aH] at e
 | .rs _ _,_,e=>by simp only[aH] at e;exact dw.one e
 | .y7 _,_,e=>by simp only[aH] at e;rcases e with ⟨_,_,_,rfl⟩|⟨_,rfl⟩<;>rfl
theorem au.one{η:Eta}{Z:ar}:∀{x:W}{v:Value},x≠.cX->au η Z x v->v.oneCell'=true
 | .bool _,_,_,e | .int _ _,_,_,e | .str _,_,_,e | .dH,_,_,e | .nil,_,_,e | .ro _ _,_,_,e | .rp _ _,_,_,e | .rd _ _,_,_,e | .re _ _ _,_,_,e | .mo,_,_,e | .kC,_,_,e | .val _,_,_,e | .rs _ _,_,_,e | .y7 _,_,_,e=>aH.one e
 | .ptr _ _,_,_,⟨_,_,rfl⟩=>rfl
 | .pe _ _ _,_,_,⟨_,_,rfl⟩=>rfl
 | .sl _ _ _ _,_,_,.inl ⟨_,rfl⟩=>rfl
 | .sl _ _ _ _,_,_,.inr ⟨_,_,_,_,rfl,_⟩=>rfl
 | .func _ _,_,_,⟨_,rfl,_⟩=>rfl
 | .yield _,_,_,h=>by simp only[au] at h;subst h;rfl
 | .cX,_,h,_=>absurd rfl h
 | .mp _,_,_,⟨_,_,rfl⟩=>rfl
 | .mh,_,_,h=>by simp only[au,aH] at h
 | .ba _,_,_,⟨_,_,_,.inl rfl⟩=>rfl
 | .ba _,_,_,⟨_,_,_,.inr rfl⟩=>rfl
 | .nN _ _ _,_,_,⟨_,rfl,_⟩=>rfl
 | .th _ _,_,_,h=>by simp only[au,aH] at h
 | .row _ _ _,_,_,⟨_,_,_,_,_,_,rfl,_⟩=>rfl
 | .o6 _ _ _,_,_,⟨_,_,_,_,rfl⟩=>rfl
 | .lZ _,_,_,h=>by simp only[au] at h;subst h;rfl
theorem aH.aQ{Z:ar}{x:W}{v:Value}(h:aH Z x v):x≠.cX:=by
 rintro rfl;simp only[aH] at h
theorem au.ro{η:Eta}{Z:ar}{sz:Nat}{cs:List W}{v:Value}(h:au η Z (.ro sz cs) v) :
 ∃ a len c,v=.slice a len c/\cs.length=len*sz/\len<=c/\(cs=[]∨∃ b off cells,a=some ⟨b,off,none⟩/\Z b=some cells/\eN Z cells off cs):=by
 simpa only[au,aH] using h
theorem au.rp{η:Eta}{Z:ar}{cs:List W}{off:Nat}{v:Value}(h:au η Z (.rp cs off) v):∃ b o cells,v=.pointer (some ⟨b,o+off,none⟩)/\Z b=some cells/\eN Z cells o cs:=by
 simpa only[au,aH] using h
theorem au.rd{η:Eta}{Z:ar}{d:D}{l:List d.ty}{v:Value}(h:au η Z (.rd d l) v) :
 ∃ a len c,v=.slice a len c/\l.length=len/\len<=c/\(l=[]∨∃ b off cells,a=some ⟨b,off,none⟩/\Z b=some cells/\lQ Z d cells off l):=by
 simp only[au,aH,cA] at h;exact h
theorem au.rs{η:Eta}{Z:ar}{sz:Nat}{l:List PV}{v:Value}(h:au η Z (.rs sz l) v) :
 ∃ a len c,v=.slice a len c/\l.length=len*sz/\len<=c/\(l=[]∨∃ b off cells,a=some ⟨b,off,none⟩/\Z b=some cells/\lQ Z .pv cells off l):=by
 simp only[au,aH,dw,iV.iff] at h;exact h
theorem au.X7{η:Eta}{Z:ar}{sz:Nat}{l:List PV}{v:Value}(h:∃ a len c,v=.slice a len c/\l.length=len*sz/\len<=c/\(l=[]∨∃ b off cells,a=some ⟨b,off,none⟩/\Z b=some cells/\lQ Z .pv cells off l)):au η Z (.rs sz l) v:=by
 simp only[au,aH,dw,iV.iff];exact h
theorem au.re{η:Eta}{Z:ar}{d:D}{l:List d.ty}{i:Nat}{v:Value}(h:au η Z (.re d l i) v):∃ b o cells,v=.pointer (some ⟨b,o+i,none⟩)/\Z b=some cells/\lQ Z d cells o l:=by
 simpa only[au,aH] using h
theorem w9:∀{fs:List Fd}{off:Nat}{c:Cd}{f:Fd},iT fs off=some (c,f)->c->∃ pre post,fs=pre++f::post/\(pre.flatMap Fd.cells).length=off
 | [],_,_,_,e,_=>by cases e
 | .c x::fs,0,c,f,e,_=>by
   simp only[iT] at e;cases e;exact⟨[],fs,rfl,rfl⟩
 | .c x::fs,k+1,c,f,e,hc=>by
   simp only[iT] at e;obtain⟨pre,post,rfl,h⟩:=w9 e hc;exact⟨.c x::pre,post,rfl,by rw[List.flatMap_cons,List.length_append,h];simp only[Fd.cells,List.length_singleton];omega⟩
 | .a n d l::fs,0,c,f,e,_=>by
   simp only[iT] at e;cases e;exact⟨[],fs,rfl,rfl⟩
 | .a n d l :: fs, k + 1, c, f, e, hc => by
   simp only[iT] at e;cases hb:Nat.blt (k+1) n with
   | true=>rw[hb] at e;cases e
   | false =>
     rw[hb] at e;simp only[cond_false] at e;have hn:n<=k+1:=by
      rcases Nat.lt_or_ge (k+1) n with h|h;rw[(Nat.blt_eq (x:=k+1) (y:=n)).mpr h] at hb;cases hb;exact h
     split at e;rename_i c' f' he;cases e;obtain⟨pre,post,rfl,h⟩:=w9 he hc.2;exact⟨.a n d l::pre,post,rfl,by rw[List.flatMap_cons,List.length_append,h];simp only[Fd.cells,List.length_map];have:l.length=n:=hc.1;omega⟩;cases e
 | .m _ _ _::_,_,_,_,e,_=>by simp only[iT] at e;cases e
 | .b _::_,_,_,_,e,_=>by simp only[iT] at e;cases e
theorem ZO{o:Ob}{off:Nat}{c:Cd}{x:W}(e:iT o.fs off=some (c,.c x))(hc:c):o.cells[off]? = some x:=by
 obtain⟨pre,post,h,hl⟩:=w9 e hc;unfold Ob.cells;rw[h,List.flatMap_append,List.getElem?_append_right (by omega)];simp[Fd.cells,hl]
theorem L7{o:Ob}{k:Nat}{x:W}(e:I4 o.fs=some (k,x)):o.cells[k]? = some x:=by
 unfold Ob.cells;generalize o.fs=fs at e;unfold I4 at e;split at e;rename_i n d l x' n' d' l';obtain⟨_,e⟩:=ah.aA e;cases e;simp[Fd.cells];cases e
theorem MF{o:Ob}{off n:Nat}{d:D}{l:List d.ty}{c:Cd}(e:iT o.fs off=some (c,.a n d l))(hc:c){i:Nat}(hi:i<l.length)(z:d.ty):o.cells[off+i]? = some (d.w (l.getD i z)):=by
 obtain⟨pre,post,h,hl⟩:=w9 e hc;unfold Ob.cells;rw[h,List.flatMap_append,List.getElem?_append_right (by omega),List.flatMap_cons,List.getElem?_append_left (by simp only[Fd.cells,List.length_map];omega)];have:off+i-(pre.flatMap Fd.cells).length=i:=by omega
 rw[this];simp only[Fd.cells,List.getElem?_map,List.getD_eq_getElem?_getD,List.getElem?_eq_getElem hi,Option.map_some,Option.getD_some]
theorem getD_some{l:List W}{i:Nat}{d:W}(h:i<l.length):l[i]? = some (l.getD i d):=by
 rw[List.getD_eq_getElem?_getD,List.getElem?_eq_getElem h];rfl
section
variable {P:Program} {base n:Nat} {η:Eta} {Z:ar} {S:af} {w:World} {F:Fr} {a:Act}
theorem iK{t:TypeId}{p:Addr}{v:Value}(ht:rO P t=some false)(h:w.cell? p=some v):(Instr.loadAt t (.pointer (some p))).run P w=.ok v w:=by
 simp[Instr.loadAt,Instr.sureAddr,loadVar,ow ht,h]
theorem sW{t:TypeId}{b o m:Nat}{vs:List Value}(ht:rO P t=some true)(hs:gE P t=some m)(hl:vs.length=m)(h:∀(j:Nat) v,vs[j]? = some v->w.cell? ⟨b,o+j,none⟩=some v) :
 (Instr.loadAt t (.pointer (some ⟨b,o,none⟩))).run P w=.ok (.agg vs.toArray) w:=by
 by_cases h0:m=0;subst h0;have:vs=[]:=List.length_eq_zero_iff.1 hl;subst this;simp[Instr.loadAt,Instr.sureAddr,loadVar,ow ht,dI hs,loadCells,loadCellsFrom];have:=run_loadCells_list (P:=P) w ⟨b,o,none⟩ vs (fun j v hv=>by rw[Addr.add_lit];exact h j v hv);rw[hl] at this;simp[Instr.loadAt,Instr.sureAddr,loadVar,ow ht,dI hs,this]
theorem St.ZP(R:St base η Z S w){m:Nat}{o:Ob}{k:Nat}{av:List (List Int)}(h:S.get m=some o)(ht:o.jT k av){p:cn}(hp:η m=some p){i:Nat}(hi:i<av.length) :
 ∃ v,w.cell? ⟨p.block,p.off+i,none⟩=some v/\au η Z (.row m i k) v:=by
 obtain⟨_,_,L⟩:=R.aj m o p h hp;have T:=L.tabs k av ht;obtain⟨c,fz,hc,_,hr,_⟩:=T.outer;have hi':i<p.av.length:=by rw[T.len];exact hi
 obtain⟨cp,ad,h1,h2,h3⟩:=hr i p.av[i] (List.getElem?_eq_getElem hi');exact⟨_,by simp[World.cell?,hc,h1],p,p.av[i],cp,ad,hp,List.getElem?_eq_getElem hi',rfl,h2,h3⟩
theorem St.ZQ(R:St base η Z S w){m:Nat}{o:Ob}{k:Nat}{av:List (List Int)}(h:S.get m=some o)(ht:o.jT k av){p:cn}(hp:η m=some p){i:Nat}(hi:i<av.length){r:Nat×Nat}(hr:p.av[i]? = some r){j:Nat}(hj:j<k) :
 w.cell? ⟨r.1,r.2+j,none⟩=some (.int .i64 ((av.getD i []).getD j 0)):=by
 obtain⟨_,_,L⟩:=R.aj m o p h hp;have T:=L.tabs k av ht;obtain⟨hl,c,t,fz,hc,_,hv,_⟩:=T.row i r av[i] hr (List.getElem?_eq_getElem hi);have e:av.getD i []=av[i]:=by rw[List.getD_eq_getElem?_getD,List.getElem?_eq_getElem hi];rfl
 rw[e];have hj':j<av[i].length:=by rw[hl];exact hj
 have:=hv j av[i][j] (List.getElem?_eq_getElem hj');have e2:av[i].getD j 0=av[i][j]:=by rw[List.getD_eq_getElem?_getD,List.getElem?_eq_getElem hj'];rfl
 rw[e2];simp[World.cell?,hc,this]
theorem St.reads(R : St base η Z S w){m : Nat}{o : Ob}{p : cn}(h : S.get m = some o)(hp : η m = some p)(hm : ¬o.gj){off k : Nat}(hk : off + k ≤ o.cells.length) :
 ∃ vs:List Value,aL (au η Z) ((o.cells.drop off).take k) vs/\vs.length=k/\(∀ v∈vs,v.oneCell'=true)/\∀(j:Nat) v,vs[j]? = some v->w.cell? ⟨p.block,p.off+off+j,none⟩=some v:=by
 induction k with
 | zero=>exact⟨[],by simp[aL],rfl,by simp,by simp⟩
 | succ k ih =>
   obtain⟨vs,h1,h2,h3,h4⟩:=ih (by omega);have hlt:off+k<o.cells.length:=by omega
   obtain⟨v,hv,hr,h1c⟩:=R.read h hp hm (i:=off+k) (x:=o.cells[off+k]) (List.getElem?_eq_getElem hlt);refine⟨vs++[v],?_,by simp[h2],?_,?_⟩;have:(o.cells.drop off).take (k+1)=(o.cells.drop off).take k++[o.cells[off+k]]:=by
    rw[List.take_add_one];congr 1;rw[List.getElem?_drop,List.getElem?_eq_getElem hlt];rfl
   rw[this];exact h1.append ⟨hr,trivial⟩;intro u hu;rcases List.mem_append.1 hu with hu|hu;exact h3 u hu;simp at hu;subst hu;exact h1c;intro j u hu;by_cases hj:j<k;rw[List.getElem?_append_left (by omega)] at hu;exact h4 j u hu;have hjk:j=k:=by
    have:=(List.getElem?_eq_some_iff.1 hu).1;simp[h2] at this;omega
   subst hjk;rw[List.getElem?_append_right (by omega)] at hu;simp[h2] at hu;subst hu;rw[<-hv];congr 2;omega
theorem St.Rb(R : St base η Z S w){b : Nat}{cells : Array Value}(h : Z b = some cells){o : Nat}{cs : List W}(hs : eN Z cells o cs){off k : Nat}(hk : off + k ≤ cs.length) :
 ∃ vs:List Value,aL (aH Z) ((cs.drop off).take k) vs/\vs.length=k/\∀(j:Nat) v,vs[j]? = some v->w.cell? ⟨b,o+off+j,none⟩=some v:=by
 induction k with
 | zero=>exact⟨[],by simp[aL],rfl,by simp⟩
 | succ k ih =>
   obtain⟨vs,h1,h2,h4⟩:=ih (by omega);have hlt:off+k<cs.length:=by omega
   obtain⟨v,hv,hr⟩:=R.X3 h hs (i:=off+k) (x:=cs[off+k]) (List.getElem?_eq_getElem hlt);refine⟨vs++[v],?_,by simp[h2],?_⟩;have:(cs.drop off).take (k+1)=(cs.drop off).take k++[cs[off+k]]:=by
    rw[List.take_add_one];congr 1;rw[List.getElem?_drop,List.getElem?_eq_getElem hlt];rfl
   rw[this];exact h1.append ⟨hr,trivial⟩;intro j u hu;by_cases hj:j<k;rw[List.getElem?_append_left (by omega)] at hu;exact h4 j u hu;have hjk:j=k:=by
    have:=(List.getElem?_eq_some_iff.1 hu).1;simp[h2] at this;omega
   subst hjk;rw[List.getElem?_append_right (by omega)] at hu;simp[h2] at hu;subst hu;rw[<-hv];congr 2;omega
theorem aL.frozen{cs:List W}{vs:List Value}(h:aL (aH Z) cs vs):aL (au η Z) cs vs/\∀ x∈cs,x≠.cX:=by
 refine⟨h.mono fun _ _=>aH.O1,?_⟩
 induction cs generalizing vs with
 | nil=>simp
 | cons c cs ih =>
   cases vs with
   | nil=>exact h.elim
   | cons v vs =>
     intro x hx;rcases List.mem_cons.1 hx with rfl|hx;exact h.1.aQ;exact ih h.2 x hx
def bU(P:Program)(η:Eta)(Z:ar)(w:World)(s:Sem Next)(v:V):Prop:=∃ u,s.run P w=.ok (.value u) w/\cV η Z v u
theorem bU.of{s:Sem Value}{v:V}{u:Value}(h:s.run P w=.ok u w)(r:cV η Z v u):bU P η Z w (do pure (Next.value (<-s))) v:=⟨u,by simp[h],r⟩
theorem Rc(R:St base η Z S w)(FR:aW n η Z F a.tmps){t:TypeId}{x':Operand}{x:bR}{d:W}{z:List PV}(hx:bY x'=some x)(ht:rO P t=some false){c:Cd}{v:V}(e:dO F S (.load d z x)=some (c,v))(hc:c) :
 bU P η Z w (do pure (Next.value (<-Instr.loadAt t (a.eval x')))) v:=by
 simp only[dO] at e;split at e;rename_i p m off hv;split at e;rename_i o ho;obtain⟨ho,hmo⟩:=jO ho;split at e;rename_i qc x hg;obtain⟨hl,e⟩:=ah.aA e;cases e;obtain⟨hp,BW⟩:=hc;obtain⟨_,q,hq,hu⟩:=aE FR hx hv hp;rw[hu];obtain⟨u,h1,h2,_⟩:=R.read ho hq hmo (ZO hg BW);exact bU.of (iK ht h1) ⟨W.E6 hl,h2⟩;rename_i qc k e' l hg;cases e;obtain⟨hp,BW,hlt⟩:=hc;obtain⟨_,q,hq,hu⟩:=aE FR hx hv hp;rw[hu];obtain⟨u,h1,h2,_⟩:=R.read ho hq hmo (MF hg BW hlt e'.zero);exact bU.of (iK ht (by simpa using h1)) ⟨D.jg _ _,h2⟩;cases e;cases e;rename_i p m i j hv;split at e;rename_i k av hk;obtain⟨o,ho,_,hto⟩:=nu hk;cases e;obtain⟨hp,hi,hj⟩:=hc;obtain⟨_,q,r,hq,hr,hu⟩:=aE FR hx hv hp;rw[hu];exact bU.of (iK ht (R.ZQ ho hto hq hi hr hj)) ⟨by simp,by simp[au,aH]⟩;cases e;rename_i p m off i hv;split at e;rename_i k av hk;obtain⟨o,ho,_,hto⟩:=nu hk;obtain⟨sX,e⟩:=ah.aA e;have sX:=Nat.eq_of_beq_eq_true sX;subst sX;cases e;obtain⟨hp,hi⟩:=hc;obtain⟨_,q,hq,hu⟩:=aE FR hx hv hp;rw[hu];obtain⟨u,h1,h2⟩:=R.ZP ho hto hq hi;exact bU.of (iK ht (by simpa using h1)) ⟨by simp,h2⟩;split at e;rename_i o ho;obtain⟨ho,hmo⟩:=jO ho;split at e;rename_i l hl;obtain⟨sX,e⟩:=ah.aA e;have sX:=Nat.eq_of_beq_eq_true sX;subst sX;cases e;obtain⟨hp,hlt⟩:=hc;have hlt:i<l.length:=hlt;obtain⟨_,q,hq,hu⟩:=aE FR hx hv hp;rw[hu];have hg:o.cells[0+i]? = some (.lZ (l.getD i 0)):=by
  unfold Ob.cells;rw[E7 hl];simp[Fd.cells,List.getD_eq_getElem?_getD,List.getElem?_eq_getElem hlt]
 obtain⟨u,h1,h2,_⟩:=R.read ho hq hmo hg;have h2:u=.int .u8 (l.getD i 0):=h2;rw[h2] at h1;exact bU.of (iK ht (by simpa using h1)) ⟨by simp,by simp[au,aH]⟩;split at e;rename_i k x hh;obtain⟨hl,e1⟩:=ah.aA e;clear e;simp only[Bool.and_eq_true] at hl;have sX:=Nat.eq_of_beq_eq_true hl.2;subst sX;cases e1;obtain⟨hp,hik⟩:=hc;have hik':i=k:=hik;subst hik';obtain⟨_,q,hq,hu⟩:=aE FR hx hv hp;rw[hu];obtain⟨u,h1,h2,_⟩:=R.read ho hq hmo (L7 hh);exact bU.of (iK ht (by simpa using h1)) ⟨W.E6 hl.1,h2⟩;split at e;rename_i qc k e' l hg;cases e;obtain⟨hp,BW,hlt⟩:=hc;obtain⟨_,q,hq,hu⟩:=aE FR hx hv hp;rw[hu];obtain⟨u,h1,h2,_⟩:=R.read ho hq hmo (MF hg BW hlt e'.zero);exact bU.of (iK ht h1) ⟨D.jg _ _,h2⟩;cases e;obtain⟨hp,hlt,hd⟩:=hc;obtain⟨_,q,hq,hu⟩:=aE FR hx hv hp;rw[hu];obtain⟨u,h1,h2,_⟩:=R.read ho hq hmo (getD_some (d:=d) hlt);exact bU.of (iK ht h1) ⟨hd,h2⟩;cases e;cases e;rename_i p cs off hv;cases e;obtain⟨hp,hlt⟩:=hc;obtain⟨b,o,cells,hu,hz,hs⟩:=(aE FR hx hv hp).2.rp;rw[hu];obtain⟨u,h1,h2⟩:=R.X3 hz hs (getD_some (d:=d) hlt);exact bU.of (iK ht h1) ⟨h2.aQ,h2.O1⟩
 . rename_i p e' l i hv;split at e
   case h_2=>cases e
   rename_i c2 y hy;cases e;obtain⟨hp,hlt,hc2⟩:=hc;rw[ldD_eq hy hc2];obtain⟨b,o,cells,hu,hz,hs⟩:=(aE FR hx hv hp).2.re;rw[hu];obtain⟨u,h1,h2⟩:=hs i (l.getD i e'.zero) (by rw[List.getD_eq_getElem?_getD,List.getElem?_eq_getElem hlt];rfl);obtain⟨ty,fz,hw⟩:=R.zs b cells hz;exact bU.of (iK (v:=u) ht (by simp[World.cell?,hw,h1])) ⟨D.jg _ _,(D.fe _).2 h2⟩
 cases e
theorem O4(R:St base η Z S w)(FR:aW n η Z F a.tmps){t:TypeId}{x':Operand}{x:bR}{k:Nat}{z:List PV}(hx:bY x'=some x)(ht:rO P t=some true)(hs:gE P t=some k){c:Cd}{v:V}(e:dO F S (.tX k z x)=some (c,v))(hc:c) :
 bU P η Z w (do pure (Next.value (<-Instr.loadAt t (a.eval x')))) v:=by
 simp only[dO] at e;split at e;rename_i p m off hv;split at e;rename_i o ho;obtain⟨ho,hmo⟩:=jO ho;obtain⟨hb,e⟩:=ah.aA e;simp only[Bool.and_eq_true,Nat.ble_eq] at hb;cases e;obtain⟨_,q,hq,hu⟩:=aE FR hx hv hc;rw[hu];obtain⟨vs,h1,h2,_,h4⟩:=R.reads ho hq hmo hb.1;exact bU.of (sW ht hs h2 h4) ⟨vs,rfl,DR hb.2,h1⟩;cases e;rename_i p cs off hv;cases e;obtain⟨hp,hlt⟩:=hc;obtain⟨b,o,cells,hu,hz,hfs⟩:=(aE FR hx hv hp).2.rp;rw[hu];obtain⟨vs,h1,h2,h4⟩:=R.Rb hz hfs hlt;exact bU.of (sW ht hs h2 h4) ⟨vs,rfl,(aL.frozen (η:=η) h1).2,(aL.frozen h1).1⟩
 . rename_i p e' l i hv;split at e
   case h_2=>cases e
   rename_i m hm;obtain⟨rfl,hm⟩:=pvL_eq hm;have hm:l=m:=hm;subst hm;obtain⟨hzl,e⟩:=ah.aA e;have hzl:=Nat.eq_of_beq_eq_true hzl;cases e;obtain⟨hp,hlt,hc2⟩:=hc;have hlt:i+k<=l.length:=hlt;rw[IZ hc2 (by omega),hzl];obtain⟨b,o,cells,hu,hz,hfs⟩:=(aE FR hx hv hp).2.re;rw[hu];have hfs':eN Z cells o (l.map PV.w):=by
    refine eN.nT fun j x hx'=>?_;rw[List.getElem?_map] at hx';cases hj:l[j]? with
    | none=>rw[hj] at hx';cases hx'
    | some y =>
      rw[hj] at hx';cases hx';obtain⟨u,a1,a2⟩:=hfs j y hj;exact⟨u,a1,PV.X2.2 a2⟩
   obtain⟨vs,h1,h2,h4⟩:=R.Rb hz hfs' (off:=i) (k:=k) (by rw[List.length_map];exact hlt);rw[<-List.map_drop,<-List.map_take] at h1;exact bU.of (sW ht hs h2 h4) ⟨vs,rfl,(aL.frozen (η:=η) h1).2,(aL.frozen h1).1⟩
 cases e
theorem eK{k:IntKind}{i:Int}:cV η Z (.c (.int k i)) (.int k i):=⟨by simp,by simp[au,aH]⟩
theorem iL{b:Bool}:cV η Z (.c (.bool b)) (.bool b):=⟨by simp,by simp[au,aH]⟩
theorem qp{s:ByteArray}:cV η Z (.c (.str s)) (.string s):=⟨by simp,by simp[au,aH]⟩
theorem qI{op:BinOp}{t:TypeId}{x y:Operand}{k k':IntKind}{i j:Int}:eqGuard op t x y (.int k i) (.int k' j)=pure ():=by
 unfold eqGuard;cases op<;>rfl
theorem BX{op:BinOp}{t:TypeId}{x y:Operand}{i j:ByteArray}:eqGuard op t x y (.string i) (.string j)=pure ():=by
 unfold eqGuard;cases op<;>rfl
theorem I7{op:BinOp}{t:TypeId}{x y:Operand}{i j:Bool}:eqGuard op t x y (.bool i) (.bool j)=pure ():=by
 unfold eqGuard;cases op<;>rfl
theorem Vn{op:BinOp}{t:TypeId}{x y:Operand}{k:IntKind}{i j:Int}(h:DQ op=true):(do eqGuard op t x y (.int k i) (.int k j);binOp op t (.int k i) (.int k j)).run P w=.ok (.int k (iop op k i j)) w:=by
 rw[qI];cases op<;>simp[DQ] at h<;>simp[binOp,Op.intArith,Op.intBits,iop]
theorem I8{op:BinOp}{t:TypeId}{x y:Operand}{k:IntKind}{i j:Int}(h:op=.quo∨op=.rem)(hj:j≠0):(do eqGuard op t x y (.int k i) (.int k j);binOp op t (.int k i) (.int k j)).run P w=.ok (.int k (IW op k i j)) w:=by
 rw[qI];rcases h with rfl|rfl<;>simp[binOp,Op.intDiv,hj,IW]
theorem Gi{op:BinOp}{t:TypeId}{x y:Operand}{k k':IntKind}{i j:Int}(h:op=.shl∨op=.shr)(hj:0<=j):(do eqGuard op t x y (.int k i) (.int k' j);binOp op t (.int k i) (.int k' j)).run P w=.ok (.int k (shiftOp op k i j)) w:=by
 rw[qI];have:¬j<0:=by omega
 rcases h with rfl|rfl<;>simp[binOp,Op.shift,this,shiftOp]
theorem Vo{op:BinOp}{t:TypeId}{x y:Operand}{k:IntKind}{i j:Int}(h:A5 op=true):(do eqGuard op t x y (.int k i) (.int k j);binOp op t (.int k i) (.int k j)).run P w=.ok (.bool (IX op i j)) w:=by
 rw[qI];cases op<;>simp[A5] at h<;>simp[binOp,Op.intCmp,IX]
 all_goals rfl
theorem Vp{a b:ByteArray}:(a.toList==b.toList)=decide (a=b):=by
 rw[Bool.eq_iff_iff];simp only[beq_iff_eq,decide_eq_true_eq];constructor;intro h;apply ByteArray.ext;have h1:a.data.toList=b.data.toList:=by rw[<-ByteArray.toList_eq,<-ByteArray.toList_eq];exact h
 exact Array.ext' h1;rintro rfl;rfl
theorem Vq{op:BinOp}{t:TypeId}{x y:Operand}{i j:ByteArray}(h:A5 op=true):(do eqGuard op t x y (.string i) (.string j);binOp op t (.string i) (.string j)).run P w=.ok (.bool (IY op i j)) w:=by
 rw[BX];cases op<;>simp[A5] at h<;>simp only[binOp,Op.stringOp,IY,Vp,Sem.run_pure,pure_bind]
theorem Vr{t:TypeId}{x y:Operand}{i j:ByteArray}(h:i.size+j.size<=9223372036854775807):(do eqGuard .add t x y (.string i) (.string j);binOp .add t (.string i) (.string j)).run P w=.ok (.string (i++j)) w:=by
 rw[BX];have:¬((i.size+j.size:Nat):Int)>IntKind.i64.max:=by
  have:IntKind.i64.max=9223372036854775807:=by rfl
  omega
 simp only[pure_bind,binOp,Op.stringOp,this,if_false,Sem.run_pure]
theorem I9{t:TypeId}{i j:Bool}(hu:P.underlying t=some .bool)(d:Nat):(Op.equalIn (d+1) t (.bool i) (.bool j)).run P w=.ok (i==j) w:=by
 simp only[Op.equalIn,Sem.run_bind,run_underlying hu,Result.andThen_ok,Sem.run_pure]
theorem MG{op:BinOp}{t:TypeId}{x y:Operand}{i j:Bool}(hu:P.underlying t=some .bool)(h:op=.eql∨op=.neq):(do eqGuard op t x y (.bool i) (.bool j);binOp op t (.bool i) (.bool j)).run P w=.ok (.bool (match op with | .eql=>i==j|_=>!(i==j))) w:=by
 rw[I7];have h1:(Op.equal t (.bool i) (.bool j)).run P w=.ok (i==j) w:=I9 hu 9999;rcases h with rfl|rfl<;>simp[binOp,h1]
end
theorem cV.cells{η:Eta}{Z:ar}{x:V}{v:Value}(h:cV η Z x v):aL (au η Z) x.cells v.cells.toList/\(∀ y∈x.cells,y≠.cX)/\(∀ u∈v.cells.toList,u.oneCell'=true):=by
 cases x with
 | c x =>
   have h1:=au.one h.1 h.2;have hc:v.cells=#[v]:=by cases v<;>simp[Value.oneCell'] at h1<;>rfl
   rw[hc];exact⟨⟨h.2,trivial⟩,by simpa[V.cells] using h.1,by simpa using h1⟩
 | agg cs =>
   obtain⟨vs,rfl,hd,hl⟩:=h;refine⟨by simpa[Value.cells,V.cells] using hl,hd,?_⟩;intro u hu;simp[Value.cells] at hu
   induction cs generalizing vs with
   | nil=>cases vs with|nil=>simp at hu|cons _ _=>exact hl.elim
   | cons c cs ih =>
     cases vs with
     | nil=>exact hl.elim
     | cons v vs =>
       rcases List.mem_cons.1 hu with rfl|hu;exact au.one (hd _ (by simp)) hl.1;exact ih vs (fun y hy=>hd y (List.mem_cons_of_mem _ hy)) hl.2 hu
section
variable {P:Program} {base n:Nat} {η:Eta} {Z:ar} {S:af} {w:World} {F:Fr} {a:Act}
theorem au.nil_eq{v:Value}(h:au η Z .nil v):v=.slice none 0 0:=by simpa only[au,aH] using h
theorem jq(FR:aW n η Z F a.tmps){x':Option Operand}{x:Option bR}(hx:zf x'=some x){d:Int}{c:Cd}{i:Int}(e:tY F x d=some (c,i))(hc:c):(x'=none/\i=d)∨∃ y k,x'=some y/\a.eval y=.int k i:=by
 cases x' with
 | none =>
   cases hx;cases e;exact .inl ⟨rfl,rfl⟩
 | some y =>
   simp only[zf] at hx;split at hx;rename_i z hz;cases hx;simp only[tY] at e;split at e;rename_i c' k n' hk;cases e;exact .inr ⟨y,k,rfl,cE FR hz hk hc⟩;cases e;cases hx
theorem ny{k:IntKind}{i:Int}{y:Nat}{code:BoundsCode}(h0:0<=i)(h1:i<=y):(Instr.sliceBound (.int k i) y code).run P w=.ok i.toNat w:=by
 simp[Instr.sliceBound,asIntOf,h0,h1]
theorem t7{isS:Bool}{len cap:Nat}{lo hi:Option Operand}{l h:Int}(hc:len<=cap)(hl:(lo=none/\l=0)∨∃ y k,lo=some y/\a.eval y=.int k l)(hh:(hi=none/\h=len)∨∃ y k,hi=some y/\a.eval y=.int k h)(h0:0<=l)(h1:l<=h)(h2:h<=len) :
 (Instr.sliceBounds isS len cap (lo.map a.eval) (hi.map a.eval) none).run P w=.ok (l.toNat,h.toNat,cap) w:=by
 have e1:h<=(cap:Int):=by omega
 have e2:l<=((h.toNat:Nat):Int):=by omega
 rcases hh with ⟨rfl,rfl⟩|⟨y,k,rfl,hy⟩;rcases hl with ⟨rfl,rfl⟩|⟨z,k',rfl,hz⟩;simp[Instr.sliceBounds];have:=ny (P:=P) (w:=w) (k:=k') (code:=.sliceB) h0 (y:=len) (by omega);simp[Instr.sliceBounds,hz,this];rcases hl with ⟨rfl,rfl⟩|⟨z,k',rfl,hz⟩;have:=fun code=>ny (P:=P) (w:=w) (k:=k) (code:=code) (y:=cap) (i:=h) (by omega) e1;simp[Instr.sliceBounds,hy,this];have:=fun code=>ny (P:=P) (w:=w) (k:=k) (code:=code) (y:=cap) (i:=h) (by omega) e1;have t:=ny (P:=P) (w:=w) (k:=k') (code:=.sliceB) h0 e2;simp[Instr.sliceBounds,hy,hz,this,t]
theorem mr{t el:TypeId}{sz:Nat}(hu:P.underlying t=some (.slice el))(hs:gE P el=some sz){ad:Option Addr}{len cap:Nat}{lo hi:Option Operand}{l h:Int}(hc:len<=cap)
 (hl:(lo=none/\l=0)∨∃ y k,lo=some y/\a.eval y=.int k l) (hh:(hi=none/\h=len)∨∃ y k,hi=some y/\a.eval y=.int k h) (h0:0<=l) (h1:l<=h) (h2:h<=len) :
 (Instr.sliceAt t (.slice ad len cap) (lo.map a.eval) (hi.map a.eval) none).run P w=.ok (.slice (if cap=l.toNat then ad else ad.map (·.add (l.toNat*sz))) (h.toNat-l.toNat) (cap-l.toNat)) w:=by
 simp only[Instr.sliceAt,Sem.run_bind,run_underlying hu,Result.andThen_ok,Instr.slice,t7 hc hl hh h0 h1 h2,dI hs,Sem.run_pure]
theorem O5(FR:aW n η Z F a.tmps){t el:TypeId}{sz:Nat}(hu:P.underlying t=some (.slice el))(hs:gE P el=some sz)(hsz:sz≠0){x':Operand}{x:bR}{lo' hi':Option Operand}{lo hi:Option bR}(hx:bY x'=some x)(hlo:zf lo'=some lo)(hhi:zf hi'=some hi)
 {c:Cd} {v:V} (e:dO F S (.slice sz x lo hi)=some (c,v)) (hc:c):bU P η Z w (do pure (Next.value (<-Instr.sliceAt t (a.eval x') (lo'.map a.eval) (hi'.map a.eval) none))) v:=by
 simp only[dO] at e;split at e;rename_i p hv;split at e;rename_i q l r h hl hh;cases e;obtain⟨hp,hq,hr,rfl,rfl⟩:=hc;have:=(aE FR hx hv hp).2.nil_eq;rw[this];have hrun:=mr (P:=P) (w:=w) (a:=a) hu hs (ad:=none) (len:=0) (cap:=0) (Nat.le_refl _) (jq FR hlo hl hq) (jq FR hhi hh hr) (by omega) (by omega) (by omega);exact bU.of hrun ⟨by simp,by simp[au,aH]⟩;cases e;rename_i p m off len sz' hv;obtain⟨rfl,e⟩:=dm e;split at e;rename_i q l r h hl hh;cases e;obtain⟨hp,hq,hr,h0,h1,h2⟩:=hc;obtain⟨_,⟨X8,hev⟩|⟨pl,cap,ad,hpl,hev,hcap,hroom,had⟩⟩:=aE FR hx hv hp;subst X8;rw[hev];have hrun:=mr (P:=P) (w:=w) (a:=a) hu hs (ad:=none) (len:=0) (cap:=0) (Nat.le_refl _) (jq FR hlo hl hq) (jq FR hhi hh hr) h0 h1 h2;refine bU.of hrun ⟨by simp,?_⟩;refine .inl ⟨by omega,?_⟩;have e1:h.toNat-l.toNat=0:=by omega
 simp[e1];rw[hev];have hrun:=mr (P:=P) (w:=w) (a:=a) hu hs (ad:=some ad) hcap (jq FR hlo hl hq) (jq FR hhi hh hr) h0 h1 h2;refine bU.of hrun ⟨by simp,?_⟩;refine .inr ⟨pl,cap-l.toNat,if cap=l.toNat then ad else ad.add (l.toNat*sz'),hpl,?_,by omega,?_,?_⟩;have:h.toNat-l.toNat=(h-l).toNat:=by omega
 rw[this];split<;>rfl;have:(cap-l.toNat)*sz'+l.toNat*sz'=cap*sz':=by rw[<-Nat.add_mul];congr 1;omega
 omega;by_cases bM:cap=l.toNat;exact .inl (by omega);rcases had with rfl|rfl;exact .inl (by omega);rw[if_neg bM,Addr.add_lit];exact .inr (by simp);cases e;rename_i p sz' cs hv;obtain⟨rfl,e⟩:=dm e;split at e;rename_i q l r h hl hh;cases e;obtain⟨hp,hq,hr,h0,h1,h2⟩:=hc;obtain⟨ad,len,cap,hev,bO,hcap,hcs⟩:=(aE FR hx hv hp).2.ro;have xg:cs.length/sz'=len:=by rw[bO];exact Nat.mul_div_cancel _ (by omega)
 rw[xg] at h2 hh;rw[hev];have hrun:=mr (P:=P) (w:=w) (a:=a) hu hs (ad:=ad) hcap (jq FR hlo hl hq) (jq FR hhi hh hr) h0 h1 h2;refine bU.of hrun ⟨by simp,?_⟩;simp only[au,aH];refine⟨_,_,_,rfl,?_,by omega,?_⟩;simp only[List.length_drop,List.length_take,bO];have:h.toNat*sz'<=len*sz':=Nat.mul_le_mul_right _ (by omega);rw[Nat.min_eq_left this,<-Nat.sub_mul];rcases hcs with rfl|⟨b,off,cells,rfl,hz,hf⟩;exact .inl (by simp);by_cases bM:cap=l.toNat;left;apply List.eq_nil_of_length_eq_zero;simp only[List.length_drop,List.length_take,bO];have:h.toNat*sz'<=l.toNat*sz':=Nat.mul_le_mul_right _ (by omega);omega;right;refine⟨b,off+l.toNat*sz',cells,?_,hz,?_⟩;rw[if_neg bM];simp[Addr.add_lit];exact(hf.take _).drop _;cases e
 rotate_left
 rename_i p sz' cs hv;obtain⟨rfl,e⟩:=dm e;split at e;rename_i q l r h hl hh;cases e;obtain⟨hp,hq,hr,h0,h1,h2⟩:=hc;obtain⟨ad,len,cap,hev,bO,hcap,hcs⟩:=(aE FR hx hv hp).2.rs;have xg:cs.length/sz'=len:=by rw[bO];exact Nat.mul_div_cancel _ (by omega)
 rw[xg] at h2 hh;rw[hev];have hrun:=mr (P:=P) (w:=w) (a:=a) hu hs (ad:=ad) hcap (jq FR hlo hl hq) (jq FR hhi hh hr) h0 h1 h2;refine bU.of hrun ⟨by simp,au.X7 ?_⟩;refine⟨_,_,_,rfl,?_,by omega,?_⟩;simp only[List.length_drop,List.length_take,bO];have:h.toNat*sz'<=len*sz':=Nat.mul_le_mul_right _ (by omega);rw[Nat.min_eq_left this,<-Nat.sub_mul];rcases hcs with rfl|⟨b,off,cells,rfl,hz,hf⟩;exact .inl (by simp);by_cases bM:cap=l.toNat;left;apply List.eq_nil_of_length_eq_zero;simp only[List.length_drop,List.length_take,bO];have:h.toNat*sz'<=l.toNat*sz':=Nat.mul_le_mul_right _ (by omega);omega;right;refine⟨b,off+l.toNat*sz',cells,?_,hz,?_⟩;rw[if_neg bM];simp[Addr.add_lit];exact(hf.take _).drop _;cases e;cases e;rename_i p d xs hv;obtain⟨hs1,e2⟩:=dm e;subst hs1;split at e2;rename_i q l r h hl hh;cases e2;obtain⟨hp,hq,hr,h0,h1,h2⟩:=hc;obtain⟨ad,len,cap,hev,bO,hcap,hcs⟩:=(aE FR hx hv hp).2.rd;rw[bO] at h2 hh;rw[hev];have hrun:=mr (P:=P) (w:=w) (a:=a) hu hs (ad:=ad) hcap (jq FR hlo hl hq) (jq FR hhi hh hr) h0 h1 h2;refine bU.of hrun ⟨by simp,?_⟩;simp only[au,aH,cA];refine⟨_,_,_,rfl,?_,by omega,?_⟩;simp only[List.length_drop,List.length_take,bO];rw[Nat.min_eq_left (by omega)];rcases hcs with rfl|⟨b,off,cells,rfl,hz,hf⟩;exact .inl (by simp);by_cases bM:cap=l.toNat;left;apply List.eq_nil_of_length_eq_zero;simp only[List.length_drop,List.length_take,bO];omega;right;refine⟨b,off+l.toNat,cells,?_,hz,?_⟩;rw[if_neg bM];simp[Addr.add_lit];exact(hf.take _).drop _;cases e2
theorem L8(FR:aW n η Z F a.tmps){t:TypeId}(hu:P.underlying t=some .string){x':Operand}{x:bR}{lo' hi':Option Operand}{lo hi:Option bR}(hx:bY x'=some x)(hlo:zf lo'=some lo)(hhi:zf hi'=some hi)
 {c:Cd} {v:V} (e:dO F S (.IV x lo hi)=some (c,v)) (hc:c):bU P η Z w (do pure (Next.value (<-Instr.sliceAt t (a.eval x') (lo'.map a.eval) (hi'.map a.eval) none))) v:=by
 simp only[dO] at e;split at e;rename_i p s hv;split at e;rename_i q l r h hl hh;cases e;obtain⟨hp,hq,hr,h0,h1,h2⟩:=hc;rw[mq FR hx hv hp];have hb:=t7 (P:=P) (w:=w) (a:=a) (isS:=false) (Nat.le_refl s.size) (jq FR hlo hl hq) (jq FR hhi hh hr) h0 h1 h2;refine bU.of (u:=.string (s.extract l.toNat h.toNat)) ?_ qp;simp[Instr.sliceAt,run_underlying hu,Instr.slice,hb];cases e;cases e
theorem E8(FR:aW n η Z F a.tmps){t el:TypeId}{sz:Nat}(hu:P.underlying t=some (.slice el))(hs:gE P el=some sz)(hsz:sz≠0){x' i':Operand}{x i:bR}(hx:bY x'=some x)(hi:bY i'=some i)
 {c:Cd} {v:V} (e:dO F S (.indexAddr sz x i)=some (c,v)) (hc:c):bU P η Z w (do pure (Next.value (<-Instr.indexAt t (a.eval x') (a.eval i')))) v:=by
 simp only[dO] at e;split at e;rename_i p m off len sz' q k j hv hk;obtain⟨rfl,e⟩:=dm e;cases e;obtain⟨hp,hq,h0,h1⟩:=hc;obtain⟨_,⟨X8,hev⟩|⟨pl,cap,ad,hpl,hev,hcap,hroom,had⟩⟩:=aE FR hx hv hp;omega;rw[hev,cE FR hi hk hq];have hca:ad=⟨pl.block,pl.off+off,none⟩:=by
  rcases had with rfl|rfl;omega;rfl
 subst hca;refine bU.of (u:=.pointer (some ⟨pl.block,pl.off+off+j.toNat*sz',none⟩)) ?_ ?_;simp[Instr.indexAt,asIntOf,run_underlying hu,h0,h1,dI hs,Addr.add_lit]
 . cases hb:Nat.beq sz' 1 with
   | false=>exact⟨by simp,pl,hpl,by simp[Nat.add_assoc]⟩
   | true =>
     have:sz'=1:=Nat.eq_of_beq_eq_true hb;subst this;exact⟨by simp,pl,hpl,by simp[Nat.add_assoc]⟩
 rename_i p sz' cs q k j hv hk;obtain⟨rfl,e⟩:=dm e;cases e;obtain⟨hp,hq,h0,h1⟩:=hc;obtain⟨ad,len,cap,hev,bO,hcap,hcs⟩:=(aE FR hx hv hp).2.ro;rw[hev,cE FR hi hk hq];rcases hcs with rfl|⟨b,off,cells,rfl,hz,hf⟩;simp at h1;have h2:j<(len:Int):=by
  rw[bO] at h1;have:=Nat.lt_of_mul_lt_mul_right h1;omega
 refine bU.of (u:=.pointer (some ⟨b,off+j.toNat*sz',none⟩)) ?_ ⟨by simp,?_⟩;simp[Instr.indexAt,asIntOf,run_underlying hu,h0,h2,dI hs,Addr.add_lit];simp only[au,aH];exact⟨b,off,cells,rfl,hz,hf⟩;rename_i p d l q k j hv hk;obtain⟨hs1,e2⟩:=dm e;subst hs1;cases e2;obtain⟨hp,hq,h0,h1⟩:=hc;obtain⟨ad,len,cap,hev,bO,hcap,hcs⟩:=(aE FR hx hv hp).2.rd;rw[hev,cE FR hi hk hq];rcases hcs with rfl|⟨b,off,cells,rfl,hz,hf⟩;simp at h1;omega;have h2:j<(len:Int):=by omega
 refine bU.of (u:=.pointer (some ⟨b,off+j.toNat,none⟩)) ?_ ⟨by simp,?_⟩;simp[Instr.indexAt,asIntOf,run_underlying hu,h0,h2,dI hs,Addr.add_lit];simp only[au,aH];exact⟨b,off,cells,rfl,hz,hf⟩;rename_i p m r len q k j hv hk;obtain⟨hs1,e2⟩:=dm e;subst hs1;cases e2;obtain⟨hp,hq,h0,h1⟩:=hc;obtain⟨_,pl,r0,cap,ad,hpl,hr,hev,hcap,had⟩:=aE FR hx hv hp;rw[had (by omega)] at hev;rw[hev,cE FR hi hk hq];refine bU.of (u:=.pointer (some ⟨r0.1,r0.2+j.toNat,none⟩)) ?_ ⟨by simp,pl,r0,hpl,hr,rfl⟩;simp[Instr.indexAt,asIntOf,run_underlying hu,h0,h1,dI hs,Addr.add_lit];rename_i p sz' cs q k j hv hk;obtain⟨rfl,e⟩:=dm e;cases e;obtain⟨hp,hq,h0,h1⟩:=hc;obtain⟨ad,len,cap,hev,bO,hcap,hcs⟩:=(aE FR hx hv hp).2.rs;rw[hev,cE FR hi hk hq];rcases hcs with rfl|⟨b,off,cells,rfl,hz,hf⟩;simp at h1;have h2:j<(len:Int):=by
  rw[bO] at h1;have:=Nat.lt_of_mul_lt_mul_right h1;omega
 refine bU.of (u:=.pointer (some ⟨b,off+j.toNat*sz',none⟩)) ?_ ⟨by simp,?_⟩;simp[Instr.indexAt,asIntOf,run_underlying hu,h0,h2,dI hs,Addr.add_lit];simp only[au,aH];exact⟨b,off,cells,rfl,hz,hf⟩;cases e
theorem DS(FR:aW n η Z F a.tmps){t el:TypeId}{sz len:Nat}(hu:P.underlying t=some (.array len el))(hs:gE P el=some sz){x' i':Operand}{x i:bR}(hx:bY x'=some x)(hi:bY i'=some i)
 {c:Cd} {v:V} (e:dO F S (.w8 len sz x i)=some (c,v)) (hc:c):bU P η Z w (do pure (Next.value (<-Instr.indexAt t (a.eval x') (a.eval i')))) v:=by
 simp only[dO] at e;split at e;rename_i p m off q k j hv hk;cases e;obtain⟨hp,hq,h0,h1⟩:=hc;obtain⟨_,pl,hpl,hev⟩:=aE FR hx hv hp;rw[hev,cE FR hi hk hq];refine bU.of (u:=.pointer (some ⟨pl.block,pl.off+off+j.toNat*sz,none⟩)) ?_ ?_;simp[Instr.indexAt,asIntOf,run_underlying hu,h0,h1,dI hs,Addr.add_lit,Instr.sureAddr]
 . cases hb:Nat.beq sz 1 with
   | false=>exact⟨by simp,pl,hpl,by simp[Nat.add_assoc]⟩
   | true =>
     have:sz=1:=Nat.eq_of_beq_eq_true hb;subst this;exact⟨by simp,pl,hpl,by simp[Nat.add_assoc]⟩
 rename_i p cs off q k j hv hk;cases e;obtain⟨hp,hq,h0,h1⟩:=hc;obtain⟨b,o,cells,hev,hz,hf⟩:=(aE FR hx hv hp).2.rp;rw[hev,cE FR hi hk hq];refine bU.of (u:=.pointer (some ⟨b,o+off+j.toNat*sz,none⟩)) ?_ ⟨by simp,?_⟩;simp[Instr.indexAt,asIntOf,run_underlying hu,h0,h1,dI hs,Addr.add_lit,Instr.sureAddr];simp only[au,aH];exact⟨b,o,cells,by simp[Nat.add_assoc],hz,hf⟩;rename_i p d l off q k j hv hk;cases e;obtain⟨hp,hq,h0,h1⟩:=hc;obtain⟨b,o,cells,hev,hz,hf⟩:=(aE FR hx hv hp).2.re;rw[hev,cE FR hi hk hq];refine bU.of (u:=.pointer (some ⟨b,o+off+j.toNat*sz,none⟩)) ?_ ⟨by simp,?_⟩;simp[Instr.indexAt,asIntOf,run_underlying hu,h0,h1,dI hs,Addr.add_lit,Instr.sureAddr];simp only[au,aH];exact⟨b,o,cells,by simp[Nat.add_assoc],hz,hf⟩;cases e
theorem E9(FR:aW n η Z F a.tmps){s:TypeId}{fs:_}(hu:P.underlying s=some (.struct fs)){f:Nat}{fd:_}(hf:fs[f]? = some fd){k:Nat}(hs:gE P fd.type=some k)(hk:k≠0){x':Operand}{x:bR}(hx:bY x'=some x)
 {c:Cd} {v:V} (e:dO F S (.fieldAddr fd.offset x)=some (c,v)) (hc:c):bU P η Z w (do pure (Next.value (<-Instr.fieldAt s (a.eval x') f))) v:=by
 simp only[dO] at e;split at e;rename_i p m off hv;cases e;obtain⟨_,pl,hpl,hev⟩:=aE FR hx hv hc;rw[hev];refine bU.of (u:=.pointer (some ⟨pl.block,pl.off+off+fd.offset,none⟩)) ?_ ⟨by simp,pl,hpl,by simp[Nat.add_assoc]⟩;simp[Instr.fieldAt,run_underlying hu,hf,Instr.sureAddr,fieldPlace,dI hs,hk,Addr.add_lit];rename_i p cs off hv;cases e;obtain⟨b,o,cells,hev,hz,hfs⟩:=(aE FR hx hv hc).2.rp;rw[hev];refine bU.of (u:=.pointer (some ⟨b,o+off+fd.offset,none⟩)) ?_ ⟨by simp,?_⟩;simp[Instr.fieldAt,run_underlying hu,hf,Instr.sureAddr,fieldPlace,dI hs,hk,Addr.add_lit];simp only[au,aH];exact⟨b,o,cells,by simp[Nat.add_assoc],hz,hfs⟩;rename_i p d l i hv;cases e;obtain⟨b,o,cells,hev,hz,hfs⟩:=(aE FR hx hv hc).2.re;rw[hev];refine bU.of (u:=.pointer (some ⟨b,o+i+fd.offset,none⟩)) ?_ ⟨by simp,?_⟩;simp[Instr.fieldAt,run_underlying hu,hf,Instr.sureAddr,fieldPlace,dI hs,hk,Addr.add_lit];simp only[au,aH];exact⟨b,o,cells,by simp[Nat.add_assoc],hz,hfs⟩;cases e
theorem aL.drop{α β:Type}{R:α->β->Prop}:∀{l:List α}{m:List β}(n:Nat),aL R l m->aL R (l.drop n) (m.drop n)
 | _,_,0,h=>h
 | [],[],_+1,_=>trivial
 | _::_,_::_,n+1,⟨_,h⟩=>by simpa using aL.drop n h
theorem aL.take{α β:Type}{R:α->β->Prop}:∀{l:List α}{m:List β}(n:Nat),aL R l m->aL R (l.take n) (m.take n)
 | _,_,0,_=>trivial
 | [],[],_+1,_=>trivial
 | _::_,_::_,n+1,⟨a,h⟩=>⟨a,aL.take n h⟩
theorem O6(FR:aW n η Z F a.tmps){t:TypeId}{fs:_}(hu:P.underlying t=some (.struct fs)){f:Nat}{fd:_}(hf:fs[f]? = some fd)(hag:rO P fd.type=some false){d:W}{x':Operand}{x:bR}(hx:bY x'=some x)
 {c:Cd} {v:V} (e:dO F S (.field fd.offset d x)=some (c,v)) (hc:c):bU P η Z w (do pure (Next.value (<-Instr.field t (a.eval x') f))) v:=by
 simp only[dO] at e;split at e;rename_i p cs hv;split at e;rename_i y hy;cases e;obtain⟨vs,hev,hd,hl⟩:=dZ FR hx hv hc;rw[hev];obtain⟨u,h1,h2⟩:=hl.get hy;refine bU.of (u:=u) ?_ ⟨hd _ (List.mem_of_getElem? hy),h2⟩;simp[Instr.field,run_underlying hu,hf,asAgg,part,ow hag,h1];cases e;cases e
theorem L9(FR:aW n η Z F a.tmps){t:TypeId}{fs:_}(hu:P.underlying t=some (.struct fs)){f:Nat}{fd:_}(hf:fs[f]? = some fd)(hag:rO P fd.type=some true){k:Nat}(hs:gE P fd.type=some k){x':Operand}{x:bR}(hx:bY x'=some x)
 {c:Cd} {v:V} (e:dO F S (.IU fd.offset k x)=some (c,v)) (hc:c):bU P η Z w (do pure (Next.value (<-Instr.field t (a.eval x') f))) v:=by
 simp only[dO] at e;split at e;rename_i p cs hv;obtain⟨_,e⟩:=ah.aA e;cases e;obtain⟨vs,hev,hd,hl⟩:=dZ FR hx hv hc;rw[hev];refine bU.of (u:=.agg ((vs.drop fd.offset).take k).toArray) ?_ ⟨_,rfl,fun y hy=>hd y (List.mem_of_mem_drop (List.mem_of_mem_take hy)),(hl.drop _).take _⟩;simp[Instr.field,run_underlying hu,hf,asAgg,part,ow hag,dI hs,List.extract_toArray,Nat.add_sub_cancel_left];cases e
theorem Rf(FR:aW n η Z F a.tmps){t el ty:TypeId}{sz:Nat}(hu:P.underlying t=some (.slice el))(hsz:sz≠0){x':Operand}{x:bR}(hx:bY x'=some x)
 {c:Cd} {v:V} (e:dO F S (.llen sz x)=some (c,v)) (hc:c):bU P η Z w (do pure (Next.value (<-Builtin.len_ #[t] ty #[a.eval x']))) v:=by
 simp only[dO] at e;split at e;rename_i p hv;cases e;rw[(aE FR hx hv hc).2.nil_eq];exact bU.of (u:=goInt 0) (by simp[Builtin.len_,run_underlying hu]) eK;rename_i p m off len sz' hv;cases e;obtain⟨_,⟨X8,hev⟩|⟨pl,cap,ad,hpl,hev,_⟩⟩:=aE FR hx hv hc;subst X8;rw[hev];exact bU.of (u:=goInt 0) (by simp[Builtin.len_,run_underlying hu]) eK;rw[hev];exact bU.of (u:=goInt len) (by simp[Builtin.len_,run_underlying hu]) eK;rename_i p sz' cs hv;obtain⟨rfl,e⟩:=dm e;cases e;obtain⟨ad,len,cap,hev,bO,_⟩:=(aE FR hx hv hc).2.ro;have xg:cs.length/sz'=len:=by rw[bO];exact Nat.mul_div_cancel _ (by omega)
 rw[hev,xg];exact bU.of (u:=goInt len) (by simp[Builtin.len_,run_underlying hu]) eK;rename_i p d l hv;cases e;obtain⟨ad,len,cap,hev,bO,_⟩:=(aE FR hx hv hc).2.rd;rw[hev,bO];exact bU.of (u:=goInt len) (by simp[Builtin.len_,run_underlying hu]) eK;rename_i p m r len hv;cases e;obtain⟨_,pl,r0,cap,ad,hpl,hr,hev,hcap,had⟩:=aE FR hx hv hc;rw[hev];exact bU.of (u:=goInt len) (by simp[Builtin.len_,run_underlying hu]) eK;rename_i p sz' cs hv;obtain⟨rfl,e⟩:=dm e;cases e;obtain⟨ad,len,cap,hev,bO,_⟩:=(aE FR hx hv hc).2.rs;have xg:cs.length/sz'=len:=by rw[bO];exact Nat.mul_div_cancel _ (by omega)
 rw[hev,xg];exact bU.of (u:=goInt len) (by simp[Builtin.len_,run_underlying hu]) eK;cases e
theorem Ja(FR : aW n η Z F a.tmps) : ∀{l' : List Operand}{l : List bR}, ox l' = some l → ∀{c : Cd}{r : List (Nat × Nat)}, ze F l = some (c, r) → c → aL (dB η) r (l'.map a.eval)
 | [],l,hl,c,r,e,hc=>by
   cases hl;simp only[ze] at e;cases e;trivial
 | x :: l', l, hl, c, r, e, hc => by
   simp only[ox] at hl;split at hl;rename_i y hy;split at hl;rename_i l2 hl2;cases hl;simp only[ze] at e;split at e;rename_i p m off hv;split at e;rename_i d r' hr';cases e;exact⟨(aE FR hy hv hc.1).2,Ja FR hl2 hr' hc.2⟩;cases e;cases e;cases hl;cases hl
theorem Jb:∀{cs:List W}{vs:List Value}{l:List W}{m:List Value}{off:Nat},aL (au η Z) l m->aL (au η Z) cs vs->aL (au η Z) (jE l off cs) (ah.uQ m off vs)
 | [],[],_,_,_,h,_=>h
 | _::_,_::_,_,_,_,h,⟨a,b⟩=>by rw[jE,ah.uQ];exact Jb (h.set a) b
theorem Gj:∀{cs l:List W}{off:Nat},(∀ x∈l,x≠.cX)->(∀ x∈cs,x≠.cX)->∀ x∈jE l off cs,x≠.cX
 | [],_,_,h,_,x,hx=>h x hx
 | c::cs,l,off,h,k,x,hx=>by
   rw[jE] at hx;refine Gj (fun y hy=>?_) (fun y hy=>k y (List.mem_cons_of_mem _ hy)) x hx;rcases List.mem_or_eq_of_mem_set hy with h1|h1;exact h y h1;subst h1;exact k y (by simp)
theorem uW(FR:aW n η Z F a.tmps){place:Nat->Option (Nat×Nat)}:∀{l:List (Nat×Operand)}{ps:List (Nat×Nat×bR)}{cs out:List W}{q:Cd}{c:Array Value},sV place l=some ps->aL (au η Z) cs c.toList->(∀ x∈cs,x≠.cX)->vL F cs ps=some (q,out)->q->
 ∃ c',Instr.fill place c (l.map fun(i,x)=>(i,a.eval x))=some c'/\aL (au η Z) out c'.toList/\∀ x∈out,x≠.cX
 | [],ps,cs,out,q,c,h,hl,hd,e,_=>by
   cases h;simp only[vL] at e;cases e;exact⟨c,rfl,hl,hd⟩
 | (i, x) :: l, ps, cs, out, q, c, h, hl, hd, e, hq => by
   simp only[sV] at h;split at h;rename_i off k y r h1 h2 h3;cases h;simp only[vL] at e;split at e;rename_i p v hv;obtain⟨hb,e⟩:=ah.aA e;split at e;rename_i q' out' ho;cases e;simp only[Bool.and_eq_true,Nat.beq_eq,Nat.ble_eq] at hb;obtain⟨g1,g2,_⟩:=(dZ FR h2 hv hq.1).cells;have e1:(a.eval x).cells.size=k:=by have:=g1.length;rw[<-hb.1,this];simp
   have e2:c.size=cs.length:=by have:=hl.length;rw[this];simp
   have hput:aL (au η Z) (jE cs off v.cells) (((a.eval x).cells.zipIdx.foldl (fun(cs:Array Value) (x:Value×Nat)=>cs.setIfInBounds (off+x.2) x.1) c)).toList:=by
    rw[<-Array.foldl_toList,Array.toList_zipIdx,ah.tT];simpa using Jb hl g1
   obtain⟨c',h4,h5⟩:=uW FR h3 hput (Gj hd g2) ho hq.2;refine⟨c',?_,h5⟩;have h6:¬(off+k>c.size):=by omega
   simp only[List.map_cons,Instr.fill,h1,e1];simp only[ne_eq,not_true_eq_false,decide_false,h6,Bool.or_self,Bool.false_eq_true,if_false];exact h4;cases e;cases e;cases h
theorem Jc:∀{fs:List Field}{l:List (Nat×Nat)},IL P fs=some l->(fs.mapM (fun f=>do Pure.pure (f.offset,<-sizeOf f.type)):Sem (List (Nat×Nat))).run P w=.ok l w
 | [],l,e=>by cases e;simp
 | f :: fs, l, e => by
   simp only[IL] at e;split at e;rename_i k r h1 h2;cases e;have:=Jc h2;simp only[List.mapM_cons,Sem.run_bind,dI h1,Result.andThen_ok,Sem.run_pure] at this ⊢;rw[this];simp;cases e
theorem Jd{n:Nat}{η:Eta}{Z:ar}:au η Z (.rs n []) (.slice none 0 0):=by
 simp only[au,aH,dw];exact⟨none,0,0,rfl,by simp,Nat.le_refl _,.inl trivial⟩
theorem Je{η : Eta}{Z : ar} : ∀{zs : List PV}{l : List W}{m : List Value}, aL (au η Z) l m → (∀ x ∈ l, x ≠ .cX) → aL (au η Z) (uV zs l) m ∧ ∀ x ∈ uV zs l, x ≠ .cX := by
 intro zs
 induction zs with
 | nil=>intro l m h hd;simpa only[uV] using ⟨h,hd⟩
 | cons z zs ih =>
   intro l m h hd;cases l with
   | nil=>cases z<;>simpa only[uV] using ⟨h,hd⟩
   | cons x l =>
     cases m with
     | nil=>exact h.elim
     | cons v m =>
       obtain⟨a,b⟩:=ih h.2 (fun y hy=>hd y (List.mem_cons_of_mem _ hy));have plain:aL (au η Z) (x::uV zs l) (v::m)/\∀ y∈x::uV zs l,y≠.cX:=by
        refine⟨⟨h.1,a⟩,fun y hy=>?_⟩;rcases List.mem_cons.1 hy with rfl|hy;exact hd _ (by simp);exact b y hy
       unfold uV;split;rename_i hx;cases hx;rename_i hx;cases hx;have hv:v=.slice none 0 0:=h.1.nil_eq;subst hv;refine⟨⟨Jd,a⟩,fun y hy=>?_⟩;rcases List.mem_cons.1 hy with rfl|hy;intro h;cases h;exact b y hy;rename_i h1 h2;cases h1;cases h2;exact plain;exact⟨h,hd⟩
theorem BZ{t:TypeId}{zs:List W}(e:jz P t=some zs):∃ z,(zeroValue t).run P w=.ok z w/\aL (au η Z) zs z.cells.toList/\∀ x∈zs,x≠.cX:=by
 unfold jz at e;split at e;rename_i i hi;split at e;rename_i z hz;split at e;rename_i l hl;cases e;obtain⟨h1,h2,_⟩:=w7 (η:=η) (Z:=Z) hl;obtain⟨h1,h2⟩:=Je (zs:=shapes P t) h1 h2;exact⟨z,by simp[zeroValue,typeInfo,hi,hz],h1,h2⟩;cases e;cases e;cases e
theorem O7(FR:aW n η Z F a.tmps){t:TypeId}{fs:Array Field}(hu:P.underlying t=some (.struct fs)){z:List W}(hz:jz P t=some z){pl:List (Nat×Nat)}(hpl:IL P fs.toList=some pl){parts:Array (Nat×Operand)}{ps:List (Nat×Nat×bR)}(hp:sV (fun i=>pl[i]?) parts.toList=some ps){c:Cd}{v:V}(e:dO F S (.build z ps)=some (c,v))(hc:c) :
 bU P η Z w (do pure (Next.value (<-Instr.build t (parts.map fun(i,x)=>(i,a.eval x))))) v:=by
 simp only[dO] at e;split at e;rename_i p cs hb;cases e;obtain⟨zv,B0,hz1,hz2⟩:=BZ (η:=η) (Z:=Z) (w:=w) hz;obtain⟨c',h1,h2,h3⟩:=uW FR hp hz1 hz2 hb hc;refine bU.of (u:=.agg c') ?_ ⟨c'.toList,by simp,h3,h2⟩;have hm:(fs.mapM (fun f=>do Pure.pure (f.offset,<-sizeOf f.type)):Sem (Array (Nat×Nat))).run P w=.ok pl.toArray w:=by
  rw[<-Array.toArray_toList (xs:=fs),List.mapM_toArray];have:=Jc (w:=w) hpl;simp only[Sem.run_map,this,Result.andThen_ok]
 have hg:(fun i:Nat=>(pl.toArray)[i]?)=fun i=>pl[i]?:=by funext i;simp
 simp only[Instr.build,Sem.run_bind,B0,Result.andThen_ok,run_underlying hu,hm,hg,Array.toList_map,h1];rfl;cases e
theorem Ma(FR:aW n η Z F a.tmps){t el:TypeId}{len sz:Nat}(hu:P.underlying t=some (.array len el)){z:List W}(hz:jz P t=some z)(hs:gE P el=some sz){parts:Array (Nat×Operand)}{ps:List (Nat×Nat×bR)}(hp:sV (fun i=>some (i*sz,sz)) parts.toList=some ps){c:Cd}{v:V}(e:dO F S (.build z ps)=some (c,v))(hc:c) :
 bU P η Z w (do pure (Next.value (<-Instr.build t (parts.map fun(i,x)=>(i,a.eval x))))) v:=by
 simp only[dO] at e;split at e;rename_i p cs hb;cases e;obtain⟨zv,B0,hz1,hz2⟩:=BZ (η:=η) (Z:=Z) (w:=w) hz;obtain⟨c',h1,h2,h3⟩:=uW FR hp hz1 hz2 hb hc;refine bU.of (u:=.agg c') ?_ ⟨c'.toList,by simp,h3,h2⟩;simp only[Instr.build,Sem.run_bind,B0,Result.andThen_ok,run_underlying hu,dI hs,Array.toList_map,h1];rfl;cases e
theorem O8{a b:ByteArray}:(a==b)=decide (a=b):=by
 have h:(a==b)=(a.data==b.data):=rfl;rw[h,Bool.eq_iff_iff,beq_iff_eq,decide_eq_true_iff];exact⟨fun e=>ByteArray.ext e,fun e=>by rw[e]⟩
theorem ZR{t:TypeId}{u:TypeDesc}{d:D}(hu:P.underlying t=some u)(hk:tW u=some d){x y:W}{v v':Value}{b:Bool}(hx:au η Z x v)(hy:au η Z y v')(e:Gf d x y=some b)(k:Nat):(Op.equalIn (k+1) t v v').run P w=.ok b w:=by
 cases d with
 | int k0 =>
   cases x<;>simp only[Gf] at e<;>try cases e
   cases y<;>simp only[] at e<;>try cases e
   rename_i k1 i k2 j;obtain⟨h1,h2⟩:=dm e;subst h1;injection h2 with h2
   subst h2;simp only[au,aH] at hx hy;subst hx hy;cases u<;>simp only[tW] at hk<;>cases hk;simp only[Op.equalIn,Sem.run_bind,run_underlying hu,Result.andThen_ok,if_true,Sem.run_pure];rfl
 | bool =>
   cases x<;>simp only[Gf] at e<;>try cases e
   cases y<;>simp only[] at e<;>try cases e
   simp only[au,aH] at hx hy;subst hx hy;cases u<;>simp only[tW] at hk<;>cases hk;simp only[Op.equalIn,Sem.run_bind,run_underlying hu,Result.andThen_ok,Sem.run_pure]
 | str =>
   cases x<;>simp only[Gf] at e<;>try cases e
   cases y<;>simp only[] at e<;>try cases e
   simp only[au,aH] at hx hy;subst hx hy;cases u<;>simp only[tW] at hk<;>cases hk;simp only[Op.equalIn,Sem.run_bind,run_underlying hu,Result.andThen_ok,Sem.run_pure];congr 1;exact O8
 | sl d=>cases x<;>simp only[Gf] at e<;>cases e
 | pv=>cases x<;>simp only[Gf] at e<;>cases e
theorem Jf{xs ys : List W}{us vs : List Value}(hx : aL (au η Z) xs us)(hy : aL (au η Z) ys vs){g : Field → Option Bool × Unit → Sem (ForInStep (Option Bool × Unit))}
 (hg:∀ f s x y u v b k d,f.name≠ "_"->P.underlying f.type=some k->tW k=some d->us[f.offset]? = some u->vs[f.offset]? = some v->au η Z x u->au η Z y v->Gf d x y=some b->(g f s).run P w=.ok (if b then .yield (none,()) else .done (some false,())) w) :
 ∀{fs:List Field}{O9:List (Nat×D)}{b:Bool},sI P fs=some O9->IQ xs ys O9=some b->(forIn fs (none,()) g:Sem (Option Bool×Unit)).run P w=.ok (if b then none else some false,()) w
 | [],O9,b,h,e=>by
   cases h;cases e;simp
 | f :: fs, O9, b, h, e => by
   simp only[sI] at h;split at h;cases h;rename_i hn;split at h;rename_i k hk;split at h;rename_i d r hd hr;cases h;simp only[IQ] at e;split at e;rename_i x y h1 h2;split at e
   . rename_i b1 b2 h3 h4;cases e;obtain⟨u,hu,hxu⟩:=hx.get h1;obtain⟨v,hv,B6⟩:=hy.get h2;have:=hg f (none,()) x y u v b1 k d hn hk hd hu hv hxu B6 h3;have ih:=Jf hx hy hg hr h4;simp only[List.forIn_cons,Sem.run_bind,this,Result.andThen_ok];cases b1 with
     | true=>simpa using ih
     | false=>simp
   cases e;cases e;cases h;cases h
theorem Gk{t:TypeId}{k:TypeDesc}{d:D}(hu:P.underlying t=some k)(hk:tW k=some d):rO P t=some false:=by
 unfold rO;rw[hu];cases k<;>simp only[tW] at hk<;>first|rfl|cases hk
theorem ZS{t:TypeId}{fs:Array Field}(hu:P.underlying t=some (.struct fs))(hs:P.stoodInHeld t=false){l:List (Nat×D)}(hl:sI P fs.toList=some l){xs ys:List W}{us vs:List Value}(hx:aL (au η Z) xs us)(hy:aL (au η Z) ys vs){b:Bool}(e:IQ xs ys l=some b)(k:Nat) :
 (Op.equalIn (k+1+1) t (.agg us.toArray) (.agg vs.toArray)).run P w=.ok b w:=by
 rw[Op.equalIn];simp only[Sem.run_bind,run_underlying hu,Result.andThen_ok];have hp:Sem.run P program w=.ok P w:=rfl;simp only[hp,Result.andThen_ok,hs,Bool.false_eq_true,if_false,<-Array.forIn_toList,Sem.run_bind];rw[Jf hx hy (fun f s x y u v b k' d hn hk hd hu' hv' hxu B6 he=>?_) hl e];cases b<;>simp;have h1:(part f.type us.toArray f.offset).run P w=.ok u w:=by simp[part,ow (Gk hk hd),hu']
 have h2:(part f.type vs.toArray f.offset).run P w=.ok v w:=by simp[part,ow (Gk hk hd),hv']
 simp only[ne_eq,hn,not_false_eq_true,if_true,Sem.run_bind,h1,h2,Result.andThen_ok,ZR hk hd hxu B6 he];cases b<;>simp
theorem Jg(FR:aW n η Z F a.tmps){t:TypeId}{fs:Array Field}(hu:P.underlying t=some (.struct fs))(hs:P.stoodInHeld t=false)(hgd:P.eqGuardType P.depth t=false){l:List (Nat×D)}(hl:sI P fs.toList=some l){op:BinOp}(hop:op=.eql∨op=.neq){x' y':Operand}{x y:bR}(hx:bY x'=some x)(hy:bY y'=some y){c:Cd}{v:V}(e:dO F S (.aeq op l x y)=some (c,v))(hc:c) :
 bU P η Z w ((do eqGuard op t x' y' (a.eval x') (a.eval y');binOp op t (a.eval x') (a.eval y'):Sem Value) >>= fun u=>Pure.pure (Next.value u)) v:=by
 simp only[dO] at e;split at e;rename_i p xs q ys hvx hvy;split at e;rename_i b hb;cases e;obtain⟨us,h1,_,h3⟩:=dZ FR hx hvx hc.1;obtain⟨vs,g1,_,g3⟩:=dZ FR hy hvy hc.2;rw[h1,g1];have h4:(Op.equal t (.agg us.toArray) (.agg vs.toArray)).run P w=.ok b w:=ZS hu hs hl h3 g3 hb 9998;have hp:Sem.run P program w=.ok P w:=rfl;have h5:(eqGuard op t x' y' (.agg us.toArray) (.agg vs.toArray)).run P w=.ok () w:=by
  rcases hop with rfl|rfl<;>simp[eqGuard,hp,hgd]
 rcases hop with rfl|rfl<;>refine bU.of ?_ iL;have:binOp .eql t (.agg us.toArray) (.agg vs.toArray)=(do pure (.bool (<-Op.equal t (.agg us.toArray) (.agg vs.toArray)))):=rfl;simp only[Sem.run_bind,h5,Result.andThen_ok,this,h4,Sem.run_pure];have:binOp .neq t (.agg us.toArray) (.agg vs.toArray)=(do pure (.bool (!(<-Op.equal t (.agg us.toArray) (.agg vs.toArray))))):=rfl;simp only[Sem.run_bind,h5,Result.andThen_ok,this,h4,Sem.run_pure];cases e;cases e
end
section
variable {P:Program} {base n:Nat} {η:Eta} {Z:ar} {S:af} {w:World} {F:Fr} {a:Act}
theorem Vs{s:ByteArray}{i:Nat}(h:i<s.size):s[i]? = some (s.data.toList.getD i 0):=by
 have h1:i<s.data.toList.length:=by simpa using h
 have:s[i]? = some s[i]:=getElem?_pos s i h;rw[this];congr 1;rw[List.getD_eq_getElem?_getD,List.getElem?_eq_getElem h1];rfl
theorem Rg{x:Operand}(h:bY x=some (.w .kC)):x=.const .nilIface:=by
 cases x with
 | tmp t=>cases h
 | global g=>cases h
 | func f=>cases h
 | const v =>
   simp only[bY] at h;split at h;rename_i y hy;cases h;unfold ME at hy;split at hy;split at hy<;>cases hy;split at hy;rename_i x hx;cases hy;unfold MC at hx;split at hx<;>cases hx;rfl;cases hy;cases h;cases h
theorem Jh(FR:aW n η Z F a.tmps){t:TypeId}{ms:_}(hu:P.underlying t=some (.interface ms)){op:BinOp}{neg:Bool}(hop:(op=.eql/\neg=false)∨(op=.neq/\neg=true)){x' y':Operand}{x:bR}(hx:bY x'=some x)(hy:bY y'=some (.w .kC))
 {c:Cd} {v:V} (e:dO F S (.ieq neg x)=some (c,v)) (hc:c):bU P η Z w (do pure (Next.value (<-(do eqGuard op t x' y' (a.eval x') (a.eval y');binOp op t (a.eval x') (a.eval y'))))) v:=by
 have hy':=Rg hy;subst hy';have h2:a.eval (.const .nilIface)=.nilIface:=rfl;have h3:(Op.equal t .nilIface .nilIface).run P w=.ok true w:=by
  have d:∀ d:Nat,(Op.equalIn (d+1) t .nilIface .nilIface).run P w=.ok true w:=fun d=>by simp[Op.equalIn,run_underlying hu]
  exact d 9999
 have none_:a.eval x'=.nilIface->bU P η Z w (do pure (Next.value (<-(do eqGuard op t x' (.const .nilIface) (a.eval x') (a.eval (.const .nilIface));binOp op t (a.eval x') (a.eval (.const .nilIface)))))) (.c (.bool (!neg))):=by
  intro h1;rw[h1,h2,eqGuard_nil_constR];rcases hop with ⟨rfl,rfl⟩|⟨rfl,rfl⟩;exact bU.of (u:=.bool true) (by simp[binOp,h3]) iL;exact bU.of (u:=.bool false) (by simp[binOp,h3]) iL
 have some_:∀ t' v',a.eval x'=.iface t' v'->bU P η Z w (do pure (Next.value (<-(do eqGuard op t x' (.const .nilIface) (a.eval x') (a.eval (.const .nilIface));binOp op t (a.eval x') (a.eval (.const .nilIface)))))) (.c (.bool neg)):=by
  intro t' v' h1;have h4:(Op.equal t (.iface t' v') .nilIface).run P w=.ok false w:=by
   have d:∀ d:Nat,(Op.equalIn (d+1) t (.iface t' v') .nilIface).run P w=.ok false w:=fun d=>by simp[Op.equalIn,run_underlying hu]
   exact d 9999
  have hg:eqGuard op t x' (.const .nilIface) (.iface t' v') .nilIface=pure ():=by
   rcases hop with ⟨rfl,_⟩|⟨rfl,_⟩<;>rfl
  rw[h1,h2,hg];rcases hop with ⟨rfl,rfl⟩|⟨rfl,rfl⟩;exact bU.of (u:=.bool false) (by simp[binOp,h4]) iL;exact bU.of (u:=.bool true) (by simp[binOp,h4]) iL
 simp only[dO] at e;split at e;rename_i p hxe;cases e;exact none_ (by have:=(aE FR hx hxe hc).2;simpa only[au,aH] using this);rename_i p t' v' hxe;cases e;have h1:a.eval x'=.iface t' v':=by have:=(aE FR hx hxe hc).2;simp only[au,aH] at this;exact this.1
 exact some_ t' v' h1;rename_i p b hxe;cases e;have h1:=(aE FR hx hxe hc).2;simp only[au,aH] at h1;rcases h1 with ⟨rfl,t',v',h1⟩|⟨rfl,h1⟩;have:=some_ t' v' h1;cases neg<;>exact this;have:=none_ h1;cases neg<;>exact this;cases e
theorem Ji(FR:aW n η Z F a.tmps){t el:TypeId}(hu:P.underlying t=some (.pointer el)){k:Nat}(hk:gE P el=some k)(h0:k≠0){op:BinOp}{neg:Bool}(hop:(op=.eql/\neg=false)∨(op=.neq/\neg=true)){x' y':Operand}{x y:bR}(hx:bY x'=some x)(hy:bY y'=some y)
 {c:Cd} {v:V} (e:dO F S (.X4 neg x y)=some (c,v)) (hc:c) :
 bU P η Z w (do pure (Next.value (<-(do eqGuard op t x' y' (a.eval x') (a.eval y');binOp op t (a.eval x') (a.eval y'))))) v:=by
 have hsz:∀ w',(sizeOf el).run P w'=.ok k w':=fun w'=>dI hk w';have step:∀(x y:Value),Op.equal t x y=Op.equalIn (9999+1) t x y:=fun _ _=>rfl;have d0:∀(d:Nat)(b:Option Addr),(Op.equalIn (d+1) t (.pointer none) (.pointer b)).run P w=.ok b.isNone w:=fun d b=>by simp[Op.equalIn,run_underlying hu]
 have d1:∀(d:Nat)(b:Addr),(Op.equalIn (d+1) t (.pointer (some b)) (.pointer none)).run P w=.ok false w:=fun d b=>by simp[Op.equalIn,run_underlying hu]
 have d2:∀(d:Nat)(q q':Addr),q.block=q'.block->(Op.equalIn (d+1) t (.pointer (some q)) (.pointer (some q'))).run P w=.ok (q==q') w:=fun d q q' hq=>by simp[Op.equalIn,run_underlying hu,hsz,h0,sameAddr,hq]
 have eq0:∀ b:Option Addr,(Op.equal t (.pointer none) (.pointer b)).run P w=.ok b.isNone w:=fun b=>by rw[step];exact d0 _ b
 have eq1:∀ b:Addr,(Op.equal t (.pointer (some b)) (.pointer none)).run P w=.ok false w:=fun b=>by rw[step];exact d1 _ b
 have fin:∀(u u':Option Addr)(b:Bool),a.eval x'=.pointer u->a.eval y'=.pointer u'->(Op.equal t (.pointer u) (.pointer u')).run P w=.ok b w->bU P η Z w (do pure (Next.value (<-(do eqGuard op t x' y' (a.eval x') (a.eval y');binOp op t (a.eval x') (a.eval y'))))) (.c (.bool (bif neg then !b else b))):=by
  intro u u' b h1 h2 h3;rw[h1,h2];rcases hop with ⟨rfl,rfl⟩|⟨rfl,rfl⟩;exact bU.of (u:=.bool b) (by simp[eqGuard,binOp,h3]) iL;exact bU.of (u:=.bool (!b)) (by simp[eqGuard,binOp,h3]) iL
 simp only[dO] at e;split at e;rename_i p q hxe p5;cases e;have h1:a.eval x'=.pointer none:=by have:=(aE FR hx hxe hc.1).2;simpa only[au,aH] using this
 have h2:a.eval y'=.pointer none:=by have:=(aE FR hy p5 hc.2).2;simpa only[au,aH] using this
 have:=fin none none true h1 h2 (eq0 none);cases neg<;>simpa using this;rename_i p m off q hxe p5;cases e;obtain⟨_,pl,_,h1⟩:=aE FR hx hxe hc.1;have h2:a.eval y'=.pointer none:=by have:=(aE FR hy p5 hc.2).2;simpa only[au,aH] using this
 have:=fin _ none false h1 h2 (eq1 _);cases neg<;>simpa using this;rename_i p q m off hxe p5;cases e;have h1:a.eval x'=.pointer none:=by have:=(aE FR hx hxe hc.1).2;simpa only[au,aH] using this
 obtain⟨_,pl,_,h2⟩:=aE FR hy p5 hc.2;have:=fin none _ false h1 h2 (eq0 _);cases neg<;>simpa using this;rename_i p m off q m' off' hxe p5;obtain⟨hm,e1⟩:=ah.aA e;clear e;have hm:=Nat.eq_of_beq_eq_true hm;subst hm;cases e1;obtain⟨_,pl,hpl,h1⟩:=aE FR hx hxe hc.1;obtain⟨_,pl',hpl',h2⟩:=aE FR hy p5 hc.2;have:pl=pl':=Option.some.inj (hpl.symm.trans hpl');subst this;refine fin _ _ (Nat.beq off off') h1 h2 ?_;have e2:(((⟨pl.block,pl.off+off,none⟩:Addr)) == ⟨pl.block,pl.off+off',none⟩)=Nat.beq off off':=by
  rw[Bool.eq_iff_iff];simp[Nat.beq_eq]
 rw[step,<-e2];exact d2 _ _ _ rfl;cases e
set_option maxHeartbeats 1000000 in
theorem Rh(R:St base η Z S w)(FR:aW n η Z F a.tmps){o:Oper}{q:Q}(ht:t6 P o.op=some q){c:Cd}{v:V}(e:dO F S q=some (c,v))(hc:c):bU P η Z w (execOp a.eval o) v:=by
 unfold t6 at ht;unfold execOp;split at ht<;>rename_i hop<;>simp only[hop]
 -- move
 obtain⟨x,hx,rfl⟩:=map_some ht;exact⟨_,rfl,dZ FR hx e hc⟩
 -- assign
 obtain⟨x,hx,rfl⟩:=map_some ht;exact⟨_,rfl,dZ FR hx e hc⟩
 -- pick
 split at ht;rename_i c' x' y' hc' hx hy;cases ht;simp only[dO] at e;split at e
 . rename_i p b q u r v' hb hu hv;cases e;obtain⟨hp,hq,hr⟩:=hc;have h1:=nr FR hc' hb hp;rw[h1];cases b with
   | true=>exact⟨.bool u,by simp[asBool,nr FR hx hu (hq rfl)],iL⟩
   | false=>exact⟨.bool v',by simp[asBool,nr FR hy hv (hr rfl)],iL⟩
 cases e;cases ht
 -- load
 split at ht;rename_i hag hx;obtain⟨d,_,rfl⟩:=map_some ht;exact Rc R FR hx hag e hc;rename_i hag hx;obtain⟨k,hk,rfl⟩:=map_some ht;exact O4 R FR hx hag hk e hc;cases ht
 -- nilCheck
 obtain⟨x,hx,rfl⟩:=map_some ht;simp only[dO] at e;split at e;rename_i p m off hv;cases e;obtain⟨_,pl,hpl,hev⟩:=aE FR hx hv hc;rw[hev];exact⟨_,rfl,by simp,pl,hpl,rfl⟩;rename_i p m off i hv;cases e;obtain⟨_,pl,hpl,hev⟩:=aE FR hx hv hc;rw[hev];exact⟨_,rfl,by simp,pl,hpl,rfl⟩;rename_i p cs off hv;cases e;obtain⟨b,o',cells,hev,hz,hf⟩:=(aE FR hx hv hc).2.rp;rw[hev];exact⟨_,rfl,by simp,by simp only[au,aH];exact⟨b,o',cells,rfl,hz,hf⟩⟩;rename_i p d l i hv;cases e;obtain⟨b,o',cells,hev,hz,hf⟩:=(aE FR hx hv hc).2.re;rw[hev];exact⟨_,rfl,by simp,by simp only[au,aH];exact⟨b,o',cells,rfl,hz,hf⟩⟩;rename_i p m i j hv;cases e;obtain⟨_,pl,r0,hpl,hr,hev⟩:=aE FR hx hv hc;rw[hev];exact⟨_,rfl,by simp,pl,r0,hpl,hr,rfl⟩;rename_i p f caps hv;cases e;obtain⟨_,vs,hev,hl⟩:=aE FR hx hv hc;rw[hev];exact⟨_,rfl,by simp,vs,rfl,hl⟩;rename_i p l hv;cases e;have hev:a.eval _=Value.func (.yield l) #[] #[]:=(aE FR hx hv hc).2;rw[hev];exact⟨_,rfl,by simp,rfl⟩;cases e
 -- binOp
 rename_i op t x' y' ty;split at ht;rename_i k hu hx hy;by_cases hib:DQ op=true;rw[if_pos hib] at ht;cases ht;simp only[dO] at e;split at e;rename_i p k1 i q k2 j hi hj;obtain⟨hkk,e2⟩:=dm e;subst hkk;cases e2;rw[cE FR hx hi hc.1,cE FR hy hj hc.2];exact bU.of (Vn hib) eK;cases e;rw[if_neg hib] at ht;split at ht;cases ht;simp only[dO] at e;split at e;rename_i p k1 i q k2 j hi hj;obtain⟨hkk,e2⟩:=dm e;subst hkk;cases e2;rw[cE FR hx hi hc.1,cE FR hy hj hc.2.1];exact bU.of (I8 (.inl rfl) hc.2.2) eK;cases e;cases ht;simp only[dO] at e;split at e;rename_i p k1 i q k2 j hi hj;obtain⟨hkk,e2⟩:=dm e;subst hkk;cases e2;rw[cE FR hx hi hc.1,cE FR hy hj hc.2.1];exact bU.of (I8 (.inr rfl) hc.2.2) eK;cases e;cases ht;simp only[dO] at e;split at e;rename_i p k1 i q k2 j hi hj;cases e;rw[cE FR hx hi hc.1,cE FR hy hj hc.2.1];exact bU.of (Gi (.inl rfl) hc.2.2) eK;cases e;cases ht;simp only[dO] at e;split at e;rename_i p k1 i q k2 j hi hj;cases e;rw[cE FR hx hi hc.1,cE FR hy hj hc.2.1];exact bU.of (Gi (.inr rfl) hc.2.2) eK;cases e;obtain⟨hcmp,ht⟩:=dm ht;cases ht;simp only[dO] at e;split at e;rename_i p k1 i q k2 j hi hj;obtain⟨hkk,e2⟩:=dm e;subst hkk;cases e2;rw[cE FR hx hi hc.1,cE FR hy hj hc.2];exact bU.of (Vo hcmp) iL;cases e;rename_i hu hx hy;split at ht;cases ht;simp only[dO] at e;split at e;rename_i p i q j hi hj;cases e;rw[mq FR hx hi hc.1,mq FR hy hj hc.2.1];exact bU.of (Vr hc.2.2) qp;cases e;obtain⟨hcmp,ht⟩:=dm ht;cases ht;simp only[dO] at e;split at e;rename_i p i q j hi hj;cases e;rw[mq FR hx hi hc.1,mq FR hy hj hc.2];exact bU.of (Vq hcmp) iL;cases e;rename_i hu hx hy;split at ht;cases ht;simp only[dO] at e;split at e;rename_i p i q j hi hj;cases e;rw[nr FR hx hi hc.1,nr FR hy hj hc.2];exact bU.of (MG hu (.inl rfl)) iL;cases e;cases ht;simp only[dO] at e;split at e;rename_i p i q j hi hj;cases e;rw[nr FR hx hi hc.1,nr FR hy hj hc.2];exact bU.of (MG hu (.inr rfl)) iL;cases e;cases ht;rename_i el hu hx hy;split at ht;rename_i k hk;by_cases h0:k=0;rw[if_pos h0] at ht;cases ht;rw[if_neg h0] at ht;split at ht;cases ht;exact Ji FR hu hk h0 (.inl ⟨rfl,rfl⟩) hx hy e hc;cases ht;exact Ji FR hu hk h0 (.inr ⟨rfl,rfl⟩) hx hy e hc;cases ht;cases ht;rename_i ms hu hx hy;split at ht;cases ht;exact Jh FR hu (.inl ⟨rfl,rfl⟩) hx hy e hc;cases ht;exact Jh FR hu (.inr ⟨rfl,rfl⟩) hx hy e hc;cases ht;rename_i fs hu hx hy;obtain⟨⟨hs,hgd⟩,ht⟩:=dm ht;split at ht;rename_i l hl;split at ht;cases ht;exact Jg FR hu hs hgd hl (.inl rfl) hx hy e hc;cases ht;exact Jg FR hu hs hgd hl (.inr rfl) hx hy e hc;cases ht;cases ht;cases ht
 -- neg
 obtain⟨x,hx,rfl⟩:=map_some ht;simp only[dO] at e;split at e;rename_i p k i hi;cases e;rw[cE FR hx hi hc];exact bU.of (by simp[Op.unary,Op.intArith]) eK;cases e
 -- not
 obtain⟨x,hx,rfl⟩:=map_some ht;simp only[dO] at e;split at e;rename_i p i hi;cases e;rw[nr FR hx hi hc];exact bU.of (by simp[Op.unary]) iL;cases e
 -- convert
 split at ht;rename_i k zh Ri hx;cases ht;simp only[dO] at e;split at e;rename_i p k1 i hi;cases e;rw[cE FR hx hi hc];exact bU.of (by simp[convert,run_underlying zh,run_underlying Ri,Conv.intToInt]) eK;cases e;rename_i zh Ri hx;cases ht;simp only[dO] at e;split at e;rename_i p k1 i hi;cases e;rw[cE FR hx hi hc];exact bU.of (by simp[convert,run_underlying zh,run_underlying Ri,Conv.intToString]) qp;cases e;rename_i zh Ri hx;cases ht;simp only[dO] at e;split at e;rename_i p s hs;cases e;rw[mq FR hx hs hc];exact bU.of (by simp[convert,run_underlying zh,run_underlying Ri]) qp;cases e;cases ht
 -- len
 rename_i x' t;split at ht;rename_i hu hx;cases ht;simp only[dO] at e;split at e;rename_i p s hs;cases e;have:=mq FR hx hs hc;exact⟨goInt s.size,by simp[resolve,invoke,builtin,Builtin.len_,run_underlying hu,this],eK⟩;cases e;rename_i el hu hx;split at ht;rename_i k hk;by_cases h0:k=0;rw[if_pos h0] at ht;cases ht;rw[if_neg h0] at ht;cases ht;obtain⟨u,h1,h2⟩:=Rf (P:=P) (ty:=o.type) (w:=w) FR hu h0 hx e hc;exact⟨u,by simpa[resolve,invoke,builtin] using h1,h2⟩;cases ht;rename_i k el hu;cases ht;cases e;exact⟨goInt k,by simp[resolve,invoke,builtin,Builtin.len_,run_underlying hu],eK⟩;cases ht
 -- cap
 split at ht;rename_i el x1 hu hx;cases ht;simp only[dO] at e;split at e;rename_i p hv;cases e;have:=(aE FR hx hv hc).2.nil_eq;exact⟨goInt 0,by simp[resolve,invoke,builtin,Builtin.cap_,run_underlying hu,this],eK⟩;cases e;cases ht
 -- where a slice begins
 obtain⟨x,hx,rfl⟩:=map_some ht;simp only[dO] at e;split at e;rename_i p m off len sz hv;obtain⟨hsz,e1⟩:=ah.aA e;clear e;have hsz:=Nat.eq_of_beq_eq_true hsz;subst hsz;cases e1;obtain⟨hp,h0⟩:=hc;rcases (aE FR hx hv hp).2 with ⟨h1,_⟩|⟨pl,c,ad,hpl,hev,hcap,hroom,had⟩;exact absurd h1 (by have:0<len:=h0;omega);have h0:0<len:=h0;obtain⟨k,rfl⟩:∃ k,c=k+1:=⟨c-1,by omega⟩;rcases had with had|had;cases had;subst had;refine⟨.pointer (some ⟨pl.block,pl.off+off,none⟩),?_,by simp,pl,hpl,by simp⟩;simp[resolve,invoke,builtin,hev];rfl;cases e
 -- min
 split at ht;rename_i hx hy;cases ht;simp only[dO] at e;split at e;rename_i p k i q k' j hi hj;cases e;have h1:=cE FR hx hi hc.1;have h2:=cE FR hy hj hc.2;refine⟨.int k (Min.min i j),?_,eK⟩;have:(if j<i then j else i)=Min.min i j:=by omega
 simp[resolve,invoke,builtin,Builtin.min_,Builtin.min2,h1,h2,this];cases e;cases ht
 -- max
 split at ht;rename_i hx hy;cases ht;simp only[dO] at e;split at e;rename_i p k i q k' j hi hj;cases e;have h1:=cE FR hx hi hc.1;have h2:=cE FR hy hj hc.2;refine⟨.int k (Max.max i j),?_,eK⟩;have:(if i<j then j else i)=Max.max i j:=by omega
 simp[resolve,invoke,builtin,Builtin.max_,Builtin.max2,h1,h2,this];cases e;cases ht
 -- min, max of three
 split at ht;rename_i hx hy hz;cases ht;simp only[dO] at e;split at e;rename_i p k i q k' j r k'' l hi hj hl;cases e;have h1:=cE FR hx hi hc.1;have h2:=cE FR hy hj hc.2.1;have h3:=cE FR hz hl hc.2.2;refine⟨.int k (Min.min (Min.min i j) l),?_,eK⟩;have e1:(if j<i then j else i)=Min.min i j:=by omega
 have e2:(if l<Min.min i j then l else Min.min i j)=Min.min (Min.min i j) l:=by omega
 simp[resolve,invoke,builtin,Builtin.min_,Builtin.min2,h1,h2,h3,e1,e2];cases e;cases ht;split at ht;rename_i hx hy hz;cases ht;simp only[dO] at e;split at e;rename_i p k i q k' j r k'' l hi hj hl;cases e;have h1:=cE FR hx hi hc.1;have h2:=cE FR hy hj hc.2.1;have h3:=cE FR hz hl hc.2.2;refine⟨.int k (Max.max (Max.max i j) l),?_,eK⟩;have e1:(if i<j then j else i)=Max.max i j:=by omega
 have e2:(if Max.max i j<l then l else Max.max i j)=Max.max (Max.max i j) l:=by omega
 simp[resolve,invoke,builtin,Builtin.max_,Builtin.max2,h1,h2,h3,e1,e2];cases e;cases ht
 -- index
 split at ht;rename_i hu hx hi;cases ht;simp only[dO] at e;split at e;rename_i p s q k j hs hj;cases e;obtain⟨hp,hq,h0,h1⟩:=hc;rw[mq FR hx hs hp,cE FR hi hj hq];refine bU.of (u:=.int .u8 (aT s j.toNat)) ?_ eK;have:s[j.toNat]? = some (s.data.toList.getD j.toNat 0):=Vs (by omega);simp[Instr.index,asIntOf,run_underlying hu,h0,this,aT];cases e;cases ht
 -- field
 · split at ht
   rename_i fs hu hx;split at ht;rename_i fd hf;split at ht;rename_i hag;obtain⟨d,_,rfl⟩:=map_some ht;exact O6 FR hu hf hag hx e hc;rename_i hag;obtain⟨k,hk,rfl⟩:=map_some ht;exact L9 FR hu hf hag hk hx e hc;cases ht;cases ht;cases ht
 -- fieldAddr
 · split at ht
   rename_i fs hu hx;split at ht;rename_i fd hf;split at ht;rename_i k hk;by_cases h0:k=0;rw[if_pos h0] at ht;cases ht;rw[if_neg h0] at ht;cases ht;exact E9 FR hu hf hk h0 hx e hc;cases ht;cases ht;cases ht
 -- indexAddr
 · split at ht
   rename_i el hu hx hi;split at ht;rename_i k hk;by_cases h0:k=0;rw[if_pos h0] at ht;cases ht;rw[if_neg h0] at ht;cases ht;exact E8 FR hu hk h0 hx hi e hc;cases ht;rename_i len el hu hx hi;obtain⟨k,hk,rfl⟩:=map_some ht;exact DS FR hu hk hx hi e hc;cases ht
 -- slice
 · split at ht
   rename_i el hu hx hlo hhi;split at ht;rename_i k hk;by_cases h0:k=0;rw[if_pos h0] at ht;cases ht;rw[if_neg h0] at ht;cases ht;exact O5 FR hu hk h0 hx hlo hhi e hc;cases ht;rename_i hu hx hlo hhi;cases ht;exact L8 FR hu hx hlo hhi e hc;cases ht
 -- extract
 rename_i x' i;obtain⟨x,hx,rfl⟩:=map_some ht;simp only[dO] at e;split at e;rename_i t;split at e;rename_i vs hvs;split at e
 . rename_i v' hv';cases e;cases x' with
   | tmp t' =>
     cases hx;obtain⟨u,hu,us,rfl,hl⟩:=FR.2 t _ hvs;obtain⟨y,hy,hr⟩:=hl.get hv';have hev:a.eval (.tmp t)=.tuple us.toArray:=by simp[Act.eval,Array.getD_eq_getD_getElem?,hu]
     rw[hev];refine bU.of (u:=y) ?_ hr;simp[Instr.extract,hy]
   | const _=>simp only[bY] at hx;split at hx<;>cases hx
   | global _=>cases hx
   | func _=>cases hx
 cases e;cases e;cases e
 -- makeFunc
 rename_i f caps;obtain⟨l,hl,rfl⟩:=map_some ht;simp only[dO] at e;split at e;rename_i p cs hcs;cases e;have:=Ja FR hl hcs hc;refine⟨.func (.func f) #[] (caps.map a.eval),by simp[Instr.makeFunc],by simp,caps.toList.map a.eval,?_,this⟩;congr 1;apply Array.ext';simp;cases e
 -- a method with its receiver
 rename_i f x;obtain⟨x',hx,rfl⟩:=map_some ht;simp only[dO] at e;split at e;rename_i p n off hev;cases e;exact⟨.func (.func f) #[a.eval x] #[],by simp[Instr.makeFunc],by simp,a.eval x,rfl,(aE FR hx hev hc).2⟩;cases e
 -- build
 split at ht;rename_i fs z hu hz;split at ht;rename_i pl hpl;obtain⟨ps,hp,rfl⟩:=map_some ht;exact O7 FR hu hz hpl hp e hc;cases ht;rename_i len el z hu hz;split at ht;rename_i k hk;obtain⟨ps,hp,rfl⟩:=map_some ht;exact Ma FR hu hz hk hp e hc;cases ht;cases ht;cases ht
end
theorem Ca:∀{cs l:List W}{off:Nat},(jE l off cs).length=l.length
 | [],_,_=>rfl
 | c::cs,l,off=>by rw[jE,Ca,List.length_set]
theorem CX:∀{cs l:List W}{off i:Nat},off+cs.length<=l.length->(jE l off cs)[i]? = if off<=i/\i<off+cs.length then cs[i-off]? else l[i]?
 | [],l,off,i,_=>by rw[if_neg (by simp)];rfl
 | c :: cs, l, off, i, h => by
   simp only[List.length_cons] at h;rw[jE,CX (by simp;omega)];by_cases h1:i=off;subst h1;rw[if_neg (by omega),if_pos (by simp)];simp[List.getElem?_set];omega;by_cases h2:off+1<=i/\i<off+1+cs.length;rw[if_pos h2,if_pos (by simp;omega)];have:i-off=(i-(off+1))+1:=by omega
   rw[this];simp;rw[if_neg h2,if_neg (by simp;omega),List.getElem?_set_ne (by omega)]
theorem St.store{P:Program}{base:Nat}{η:Eta}{Z:ar}{S:af}{w:World}(R:St base η Z S w){m:Nat}{o:Ob}{p:cn}(h:S.get m=some o)(hp:η m=some p)(hm:¬o.gj)(hnb:¬o.bytes)(Q7:¬o.wb){off:Nat}{cs:List W}{vs:List Value}(hl:aL (au η Z) cs vs)(h1:∀ v∈vs,v.oneCell'=true)(hk:off+cs.length<=o.cells.length){o':Ob}(hty:o'.ty=o.ty)(hcs:o'.cells=jE o.cells off cs) :
 (storeCells ⟨p.block,p.off+off,none⟩ vs).run P w=.ok () (w.setCells p.block (p.off+off) vs)/\qm base η Z S w η (S.put m o') (w.setCells p.block (p.off+off) vs):=by
 obtain⟨hbase,hz,L⟩:=R.aj m o p h hp;obtain⟨c,fz,hc,hroom,hv,p6⟩:=L.there hm;have hfz:=p6.strong hnb;have hsize:=L.size hm;have bO:=hl.length;have hcell:∀ j,j<vs.length->(w.cell? ⟨p.block,p.off+off+j,none⟩).isSome=true:=by
  intro j hj;have:p.off+off+j<c.size:=by omega
  simp[World.cell?,hc,this]
 have hfr:∀ j,j<vs.length->w.frozen? ⟨p.block,p.off+off+j,none⟩=false:=by
  intro j hj;have:=hfz (p.off+off+j) (by omega) (by omega);simp only[World.frozen?,hc];simpa using this
 have hst:=run_storeCells_cells (P:=P) p.block (p.off+off) vs 0 w (by simpa using hcell) (by simpa using hfr) h1;simp only[Nat.add_zero] at hst;refine⟨hst,R.write h hp (ah.iG (Nat.zero_le _) _ _ _).os (ah.iG (Nat.zero_le _) _ _ _).tape (ah.iG (Nat.zero_le _) _ _ _).output (ah.kx _ _ _) (fun b hb=>ah.gA hb _ _ _) ?_⟩;obtain⟨c',h1',h2',h3',h4'⟩:=ah.ku vs (p.off+off) w c hc;have main:∀(i:Nat) x,o'.cells[i]? = some x->∃ v,c'[p.off+i]? = some v/\au η Z x v/\v.oneCell'=true:=?_;refine fk.plain (fun hm'=>?_) ⟨c',fz,by rw[hty];exact h1',by omega,main,p6.plain hnb Q7⟩ (by rw[hcs,Ca];exact hsize);rcases hm' with hm'|⟨k,av,hm'⟩<;>obtain⟨v,_,b,_⟩:=main 0 _ hm'<;>simp only[au,aH] at b;intro i x hx;rw[hcs,CX hk] at hx;split at hx;rename_i hi;obtain⟨v,hv',hr⟩:=hl.get hx;have hj:=(List.getElem?_eq_some_iff.1 hv').1;refine⟨v,?_,hr,h1 v (List.mem_of_getElem? hv')⟩;have:=h4' (i-off) hj (by omega);rw[show p.off+off+(i-off)=p.off+i by omega] at this;rw[this];exact hv';rename_i hi;obtain⟨v,hv',hr,h1c⟩:=hv i x hx;refine⟨v,?_,hr,h1c⟩;rw[h3' (p.off+i) (by omega)];exact hv'
theorem St.del{base:Nat}{η:Eta}{Z:ar}{S:af}{w:World}(R:St base η Z S w)(m:Nat):St base η Z (S.del m) w:=by
 have h:∀ n o,(S.del m).get n=some o->S.get n=some o:=by
  intro n o hn;rw[af.ia] at hn;split at hn;cases hn;exact hn
 exact⟨fun n o p hn=>R.aj n o p (h n o hn),fun n o hn=>R.cG n o (h n o hn),fun n o hn=>R.known n o (h n o hn),fun n n' o o' p p' b hn hn'=>R.jU n n' o o' p p' b (h n o hn) (h n' o' hn'),R.zs,R.fresh,R.iq,fun n o p hn=>R.sat n o p (h n o hn)⟩
theorem vM{η:Eta}{S:af}{m b:Nat}(h:Own η (S.del m) b):Own η S b:=by
 obtain⟨n,o,p,hn,hp,hb⟩:=h;rw[af.ia] at hn;split at hn;cases hn;exact⟨n,o,p,hn,hp,hb⟩
theorem Step.del{η:Eta}{Z:ar}{S:af}{w:World}(m:Nat):Step η Z S w η Z (S.del m) w :=
 ⟨rfl,rfl,rfl,Nat.le_refl _,fun _ _ _=>rfl,fun _ h=>.inl (vM h),ar.le.refl _,fun _ _ h=>.inl h,rfl⟩
theorem St.Rj{base:Nat}{η:Eta}{Z:ar}{S:af}{w w':World}(R:St base η Z S w){o:Ob}{p:cn}
 (hall:∀ b,p.has b->base<=b/\Z b=none/\(∃ ob,w'.heap[b]? = some ob/\o7 ob=true)/\∀ n x q,S.get n=some x->η n=some q->¬q.has b)
 (gC:∀ k,k<w.heap.size->¬p.has k->w'.heap[k]? = w.heap[k]?) (hsz:w.heap.size<=w'.heap.size) (L:fk (η.add S.next p) Z o p w'):St base (η.add S.next p) Z (S.add o) w':=by
 have hfr:=R.fresh S.next (Nat.le_refl _)
 have hle:η.le (η.add S.next p):=Eta.sU hfr;have hget:∀ m,(S.add o).get m=if m=S.next then some o else S.get m:=fun m=>af.fB R.eX
 have hold:∀ n x q,S.get n=some x->η n=some q->∀ b,q.has b->w'.heap[b]? = w.heap[b]?:=fun n x q hx hq b hb=>gC b (R.jV hx hq hb) fun hp=>(hall b hp).2.2.2 n x q hx hq hb;refine⟨?_,?_,?_,?_,?_,?_,?_,?_⟩
 . intro n x q hx hq;rw[hget] at hx;by_cases hn:n=S.next
   subst hn;rw[if_pos rfl] at hx;cases hx;rw[Eta.fT] at hq;cases hq;exact⟨(hall _ p.iH).1,(hall _ p.iH).2.1,L⟩;rw[if_neg hn] at hx;rw[Eta.iW hn] at hq;obtain⟨hb',hz',L'⟩:=R.aj n x q hx hq;exact⟨hb',hz',L'.mono hle (ar.le.refl _) (hold n x q hx hq)⟩
 . intro n x hx hq;rw[hget] at hx;by_cases hn:n=S.next
   subst hn;rw[Eta.fT] at hq;cases hq;rw[if_neg hn] at hx;rw[Eta.iW hn] at hq;exact R.cG n x hx hq
 . intro n x hx;show n<S.next+1
   rw[hget] at hx;by_cases hn:n=S.next
   omega;rw[if_neg hn] at hx;have:=R.known n x hx;omega
 . intro n n' x x' q q' b hx hx' hne hq nK hb hb';rw[hget] at hx hx';by_cases hn:n=S.next
   subst hn;rw[Eta.fT] at hq;cases hq;rw[if_neg (Ne.symm hne)] at hx';rw[Eta.iW (Ne.symm hne)] at nK;exact(hall b hb).2.2.2 n' x' q' hx' nK hb'
   . rw[if_neg hn] at hx;rw[Eta.iW hn] at hq;by_cases hn':n'=S.next
     subst hn';rw[Eta.fT] at nK;cases nK;exact(hall b hb').2.2.2 n x q hx hq hb;rw[if_neg hn'] at hx';rw[Eta.iW hn'] at nK;exact R.jU n n' x x' q q' b hx hx' hne hq nK hb hb'
 intro k c hk;obtain⟨ty,fz,e⟩:=R.zs k c hk;exact⟨ty,fz,(gC k (cS e) (fun hh=>by rw[(hall k hh).2.1] at hk;cases hk)).trans e⟩
 . intro n hn;have:(S.add o).next=S.next+1:=rfl
   rw[Eta.iW (by omega)];exact R.fresh n (by omega)
 exact Nat.le_trans R.iq hsz
 . intro n x q hx hq b hb;rw[hget] at hx;by_cases hn:n=S.next
   subst hn;rw[Eta.fT] at hq;cases hq;obtain⟨h1,h2,h3,_⟩:=hall b (.inr hb);exact⟨h1,h2,h3⟩;rw[if_neg hn] at hx;rw[Eta.iW hn] at hq;obtain⟨h1,h2,ob,h3,h4⟩:=R.sat n x q hx hq b hb;exact⟨h1,h2,ob,(hold n x q hx hq b (.inr hb)).trans h3,h4⟩
theorem St.X9{base:Nat}{η:Eta}{Z:ar}{S:af}{w w':World}(R:St base η Z S w){b:Nat}(hb:base<=b)(hz:Z b=none)(hfree:∀ n o p,S.get n=some o->η n=some p->¬p.has b)
 (gC:∀ k,k≠b->w'.heap[k]? = w.heap[k]?) (hsz:w'.heap.size=w.heap.size) {o:Ob} {p:cn} (hp:p.block=b) (hrows:p.av=[]) (L:fk (η.add S.next p) Z o p w'):St base (η.add S.next p) Z (S.add o) w':=by
 have hhas:∀ c,p.has c->c=b:=by
  rintro c (h|h);exact h.symm.trans hp;unfold cn.sats at h;rw[hrows] at h;cases h
 refine R.Rj (fun c hc=>?_) (fun k _ hk=>gC k fun e=>hk (by subst e;exact .inl hp)) (by omega) L;obtain rfl:=hhas c hc;refine⟨hb,hz,?_,hfree⟩;rw[<-hp];exact L.data
structure bJ(base:Nat)(η:Eta)(Z:ar)(S:af)(w:World)(aC:Eta)(Z':ar)(S':af)(w':World):Prop where
 le:η.le aC
 st:St base aC Z' S' w'
 step:Step η Z S w aC Z' S' w'
theorem qm.up{base:Nat}{η aC:Eta}{Z:ar}{S S':af}{w w':World}(g:qm base η Z S w aC S' w'):bJ base η Z S w aC Z S' w':=⟨g.le,g.st,g.step⟩
theorem bJ.trans{base:Nat}{η eU gk:Eta}{Z Z1 Z2:ar}{S S1 S2:af}{w w1 w2:World}(g:bJ base η Z S w eU Z1 S1 w1)(h:bJ base eU Z1 S1 w1 gk Z2 S2 w2):bJ base η Z S w gk Z2 S2 w2 :=
 ⟨g.le.trans h.le,h.st,g.step.trans h.step⟩
theorem bJ.refl{base:Nat}{η:Eta}{Z:ar}{S:af}{w:World}(R:St base η Z S w):bJ base η Z S w η Z S w:=⟨Eta.le.refl _,R,Step.refl _ _ _ _⟩
def af.Alike(S S':af):Prop:=(S'.next=S.next/\S'.cG=S.cG)/\∀ n,match S.get n,S'.get n with
 | none,none=>True
 | some o,some o'=>o'.ty=o.ty/\o'.cells=o.cells
 | _,_=>False
theorem af.Alike.fN{S S':af}(h:S.Alike S'){n:Nat}{o':Ob}(e:S'.get n=some o'):∃ o,S.get n=some o/\o'.ty=o.ty/\o'.cells=o.cells:=by
 have:=h.2 n;rw[e] at this;cases hh:S.get n with
 | none=>rw[hh] at this;exact this.elim
 | some o=>rw[hh] at this;exact⟨o,rfl,this⟩
theorem fk.alike{η:Eta}{Z:ar}{o o':Ob}{p:cn}{w:World}(L:fk η Z o p w)(h1:o'.ty=o.ty)(h2:o'.cells=o.cells):fk η Z o' p w:=by
 have hi:o'.gj↔o.gj:=by unfold Ob.gj Ob.isMap Ob.jT;rw[h2]
 refine⟨fun hm=>?_,fun hm=>by rw[h2];exact L.size fun h=>hm (hi.2 h),fun k av ht=>by rw[h1];exact L.tabs k av (by unfold Ob.jT at ht ⊢;rw[<-h2];exact ht),fun hm=>by rw[h2];exact L.maps (by unfold Ob.isMap at hm ⊢;rw[<-h2];exact hm)⟩;obtain⟨c,fz,a,b,d,e⟩:=L.there fun h=>hm (hi.2 h);exact⟨c,fz,by rw[h1];exact a,b,by rw[h2];exact d,by unfold y8 Ob.bytes Ob.wb at e ⊢;rw[h2];exact e⟩
theorem St.alike{base:Nat}{η:Eta}{Z:ar}{S S':af}{w:World}(R:St base η Z S w)(h:S.Alike S'):St base η Z S' w:=by
 refine⟨?_,?_,?_,?_,R.zs,by rw[h.1.1];exact R.fresh,R.iq,?_⟩;intro n o' p e hp;obtain⟨o,e1,e2,e3⟩:=h.fN e;obtain⟨a,b,L⟩:=R.aj n o p e1 hp;exact⟨a,b,L.alike e2 e3⟩;intro n o' e hn;obtain⟨o,e1,e2,e3⟩:=h.fN e;rw[e3];exact R.cG n o e1 hn;intro n o' e;obtain⟨o,e1,_⟩:=h.fN e;rw[h.1.1];exact R.known n o e1;intro n n' o o' p p' b e e' hne hp hp';obtain⟨x,e1,_⟩:=h.fN e;obtain⟨x',e1',_⟩:=h.fN e';exact R.jU n n' x x' p p' b e1 e1' hne hp hp';intro n o' p e hp;obtain⟨x,e1,_⟩:=h.fN e;exact R.sat n x p e1 hp
theorem Own.alike{η:Eta}{S S':af}(h:S.Alike S'){b:Nat}:Own η S' b->Own η S b
 | ⟨n,_,p,e,hp,hb⟩=>let ⟨x,e1,_⟩:=h.fN e;⟨n,x,p,e1,hp,hb⟩
theorem bJ.alike{base:Nat}{η aC:Eta}{Z Z':ar}{S S' vN:af}{w w':World}(g:bJ base η Z S w aC Z' S' w')(h:S'.Alike vN):bJ base η Z S w aC Z' vN w' :=
 ⟨g.le,g.st.alike h,⟨g.step.os,g.step.tape,g.step.output,g.step.size,g.step.block,fun b hb=>g.step.own b (hb.alike h),g.step.cI,g.step.iD,h.1.2.trans g.step.gh⟩⟩
theorem af.oJ{S:af}{n:Nat}{o o':Ob}(h1:o'.ty=o.ty)(h2:o'.cells=o.cells):(S.put n o).Alike (S.put n o'):=by
 refine⟨⟨rfl,rfl⟩,fun m=>?_⟩;rw[af.jo,af.jo];by_cases hm:m=n
 . rw[if_pos hm,if_pos hm];cases S.get n with
   | none=>trivial
   | some x=>exact⟨h1,h2⟩
 rw[if_neg hm,if_neg hm];cases S.get m with
 | none=>trivial
 | some x=>exact⟨rfl,rfl⟩
theorem af.jh{S:af}{o o':Ob}(h1:o'.ty=o.ty)(h2:o'.cells=o.cells):(S.add o).Alike (S.add o'):=by
 refine⟨⟨rfl,rfl⟩,fun m=>?_⟩;show (match find (S.aj++[(S.next,o)]) m,find (S.aj++[(S.next,o')]) m with|none,none=>True|some o,some o'=>o'.ty=o.ty/\o'.cells=o.cells|_,_=>False);rw[uU,uU];cases find S.aj m with
 | some x=>exact⟨rfl,rfl⟩
 | none =>
   simp only[find];by_cases hm:S.next=m
   rw[if_pos hm,if_pos hm];exact⟨h1,h2⟩;rw[if_neg hm,if_neg hm];trivial
theorem af.xh{base:Nat}{η:Eta}{Z:ar}{S:af}{w:World}(R:St base η Z S w)(o:Ob)(m:Nat):(S.add o).get m=if m=S.next then some o else S.get m:=af.fB R.eX
theorem St.mP{base:Nat}{η:Eta}{Z:ar}{S:af}{w:World}(R:St base η Z S w){o:Ob}(h:o.cells=[]):bJ base η Z S w η Z (S.add o) w:=by
 have hn:=R.fresh S.next (Nat.le_refl _)
 have hget:=af.xh R o;have fN:∀ m x p,(S.add o).get m=some x->η m=some p->S.get m=some x:=by
  intro m x p hx hp;rw[hget] at hx;by_cases hm:m=S.next
  subst hm;rw[hn] at hp;cases hp;rw[if_neg hm] at hx;exact hx
 refine⟨Eta.le.refl _,⟨fun m x p hx hp=>R.aj m x p (fN m x p hx hp) hp,?_,?_,fun m m' x x' p p' b hx hx' hne hp hp'=>R.jU m m' x x' p p' b (fN m x p hx hp) (fN m' x' p' hx' hp') hne hp hp',R.zs,fun m hm=>R.fresh m (by have:(S.add o).next=S.next+1:=rfl;omega),R.iq,fun m x p hx hp=>R.sat m x p (fN m x p hx hp) hp⟩,
  ⟨rfl,rfl,rfl,Nat.le_refl _,fun _ _ _=>rfl,?_,ar.le.refl _,fun _ _ hh=>.inl hh,rfl⟩⟩
 . intro m x hx hp;rw[hget] at hx;by_cases hm:m=S.next
   rw[if_pos hm] at hx;cases hx;exact h;rw[if_neg hm] at hx;exact R.cG m x hx hp
 . intro m x hx;show m<S.next+1
   rw[hget] at hx;by_cases hm:m=S.next
   omega;rw[if_neg hm] at hx;have:=R.known m x hx;omega
 rintro b ⟨m,x,p,hx,hp,hb⟩;exact .inl ⟨m,x,p,fN m x p hx hp,hp,hb⟩
def ar.add(Z:ar)(b:Nat)(c:Array Value):ar:=fun i=>if i=b then some c else Z i
theorem ar.sU{Z:ar}{b:Nat}{c:Array Value}(h:Z b=none):Z.le (Z.add b c):=by
 intro i x e;unfold ar.add;by_cases hi:i=b;subst hi;rw[h] at e;cases e;rw[if_neg hi];exact e
theorem St.freeze{base:Nat}{η:Eta}{Z:ar}{S:af}{w:World}(R:St base η Z S w){m:Nat}{o:Ob}{p:cn}(h:S.get m=some o)(hp:η m=some p)(hm:¬o.gj) :
 ∃ c ty fz,w.heap[p.block]? = some (.cells c ty fz)/\bJ base η Z S w η (Z.add p.block c) (S.del m) w/\∀(i:Nat) x,o.cells[i]? = some x->∃ v,c[p.off+i]? = some v/\au η Z x v:=by
 obtain⟨hb,hz,L0⟩:=R.aj m o p h hp;obtain⟨c,fz,hc,hroom,hv,hfz⟩:=L0.there hm;refine⟨c,o.ty,fz,hc,?_,fun i x hx=>let ⟨v,a,b,_⟩:=hv i x hx;⟨v,a,b⟩⟩;have hle:Z.le (Z.add p.block c):=ar.sU hz;have R1:=R.del m;have fN:∀ n x,(S.del m).get n=some x->n≠m/\S.get n=some x:=by
  intro n x hx;rw[af.ia] at hx;by_cases hn:n=m;rw[if_pos hn] at hx;cases hx;rw[if_neg hn] at hx;exact⟨hn,hx⟩
 refine⟨Eta.le.refl _,⟨?_,R1.cG,R1.known,R1.jU,?_,R1.fresh,R1.iq,?_⟩,⟨rfl,rfl,rfl,Nat.le_refl _,fun _ _ _=>rfl,fun b hb=>.inl (vM hb),hle,?_,rfl⟩⟩;intro n x q hx hq;obtain⟨a,b,L⟩:=R1.aj n x q hx hq;obtain⟨hne,hx'⟩:=fN n x hx;refine⟨a,?_,L.mono (Eta.le.refl _) hle fun _ _=>rfl⟩;unfold ar.add;rw[if_neg (R.inj n m x o q p hx' h hne hq hp)];exact b;intro b cs e;unfold ar.add at e;by_cases BV:b=p.block;rw[if_pos BV] at e;cases e;subst BV;exact⟨_,_,hc⟩;rw[if_neg BV] at e;exact R.zs b cs e;intro n x q hx hq b hb;obtain⟨h1,h2,h3⟩:=R1.sat n x q hx hq b hb;obtain⟨hne,hx'⟩:=fN n x hx;refine⟨h1,?_,h3⟩;unfold ar.add;rw[if_neg fun e=>R.jU n m x o q p b hx' h hne hq hp (.inr hb) (.inl e.symm)];exact h2;intro b cs e;unfold ar.add at e;by_cases BV:b=p.block;exact .inr (.inl ⟨m,o,p,h,hp,.inl BV.symm⟩);rw[if_neg BV] at e;exact .inl e
theorem qk.sat{k:Nat}{av:List (List Int)}{ty:TypeId}{p:cn}{w:World}(T:qk k av ty p w){b:Nat}(hb:b∈p.sats):∃ c t fz,w.heap[b]? = some (.cells c t fz):=by
 obtain⟨r,hr,rfl⟩:=List.mem_map.1 hb;obtain⟨i,hi⟩:=List.getElem?_of_mem hr;have hlt:=(List.getElem?_eq_some_iff.1 hi).1;have hlt':i<av.length:=by rw[<-T.len];exact hlt
 obtain⟨_,c,t,fz,h,_⟩:=T.row i r av[i] hi (List.getElem?_eq_getElem hlt');exact⟨c,t,fz,h⟩
open Classical in
theorem St.Rk{base:Nat}{η:Eta}{Z:ar}{S:af}{w:World}(R:St base η Z S w){m:Nat}{o:Ob}{p:cn}(h:S.get m=some o)(hp:η m=some p){k:Nat}{av:List (List Int)}(ht:o.jT k av) :
 ∃ Z',bJ base η Z S w η Z' (S.del m) w/\∀ b∈p.sats,∃ c ty fz,w.heap[b]? = some (.cells c ty fz)/\Z' b=some c:=by
 obtain⟨_,_,L0⟩:=R.aj m o p h hp;have T:=L0.tabs k av ht;let Z':ar:=fun b=>if b∈p.sats then(match w.heap[b]? with|some (.cells c _ _)=>some c|_=>none) else Z b;have hZ:∀ b∈p.sats,∃ c ty fz,w.heap[b]? = some (.cells c ty fz)/\Z' b=some c:=by
  intro b hb;obtain⟨c,t,fz,e⟩:=T.sat hb;refine⟨c,t,fz,e,?_⟩;show (if b∈p.sats then _ else _)=_;rw[if_pos hb,e]
 have hle:Z.le Z':=by
  intro b c e;show (if b∈p.sats then _ else _)=_;rw[if_neg];exact e;intro hb;rw[(R.sat m o p h hp b hb).2.1] at e;cases e
 have R1:=R.del m;have fN:∀ n x,(S.del m).get n=some x->n≠m/\S.get n=some x:=by
  intro n x hx;rw[af.ia] at hx;by_cases hn:n=m;rw[if_pos hn] at hx;cases hx;rw[if_neg hn] at hx;exact⟨hn,hx⟩
 have hno:∀ n x q,(S.del m).get n=some x->η n=some q->∀ b,q.has b->Z' b=Z b:=by
  intro n x q hx hq b hb;obtain⟨hne,hx'⟩:=fN n x hx;show (if b∈p.sats then _ else _)=_;rw[if_neg fun e=>R.jU n m x o q p b hx' h hne hq hp hb (.inr e)]
 refine⟨Z',⟨Eta.le.refl _,⟨?_,R1.cG,R1.known,R1.jU,?_,R1.fresh,R1.iq,?_⟩,⟨rfl,rfl,rfl,Nat.le_refl _,fun _ _ _=>rfl,fun b hb=>.inl (vM hb),hle,?_,rfl⟩⟩,hZ⟩;intro n x q hx hq;obtain⟨a,b,L⟩:=R1.aj n x q hx hq;exact⟨a,(hno n x q hx hq _ q.iH).trans b,L.mono (Eta.le.refl _) hle fun _ _=>rfl⟩;intro b cs e;by_cases hb:b∈p.sats;obtain⟨c,t,fz,e1,_⟩:=hZ b hb;obtain⟨c',t',zm,e2,e3⟩:=hZ b hb;rw[e] at e3;cases e3;exact⟨_,_,e2⟩;have e':(if b∈p.sats then(match w.heap[b]? with|some (.cells c _ _)=>some c|_=>none) else Z b)=some cs:=e;rw[if_neg hb] at e';exact R.zs b cs e';intro n x q hx hq b hb;obtain⟨h1,h2,h3⟩:=R1.sat n x q hx hq b hb;exact⟨h1,(hno n x q hx hq b (.inr hb)).trans h2,h3⟩;intro b cs e;by_cases hb:b∈p.sats;exact .inr (.inl ⟨m,o,p,h,hp,.inr hb⟩);have e':(if b∈p.sats then(match w.heap[b]? with|some (.cells c _ _)=>some c|_=>none) else Z b)=some cs:=e;rw[if_neg hb] at e';exact .inl e'
theorem St.lR{base:Nat}{η:Eta}{Z:ar}{S:af}{w:World}(R:St base η Z S w){b:Nat}(h:Own η S b):∃ ob,w.heap[b]? = some ob/\Z b=none/\o7 ob=true:=by
 obtain⟨n,o,p,h1,h2,hb⟩:=h;obtain⟨_,a2,c,hc,hd⟩:=R.all h1 h2 hb;exact⟨c,hc,a2,hd⟩
theorem St.vO{base:Nat}{η:Eta}{Z Z':ar}{S:af}{w w':World}(R:St base η Z S w)(hz:Z.le Z')(hzs:∀ b cs,Z' b=some cs->∃ ty fz,w'.heap[b]? = some (.cells cs ty fz))(hsz:w.heap.size<=w'.heap.size)(hb:∀ b,Own η S b->w'.heap[b]? = w.heap[b]?)(hn:∀ b,Own η S b->Z' b=none):St base η Z' S w':=by
 refine⟨fun n o p h1 h2=>?_,R.cG,R.known,R.jU,hzs,R.fresh,Nat.le_trans R.iq hsz,fun n o p h1 h2 b hbs=>?_⟩;obtain⟨a1,_,L⟩:=R.aj n o p h1 h2;exact⟨a1,hn _ ⟨n,o,p,h1,h2,p.iH⟩,L.mono (Eta.le.refl _) hz fun b hh=>hb b ⟨n,o,p,h1,h2,hh⟩⟩;obtain⟨a1,_,c,hc,hd⟩:=R.sat n o p h1 h2 b hbs;exact⟨a1,hn _ ⟨n,o,p,h1,h2,.inr hbs⟩,c,(hb _ ⟨n,o,p,h1,h2,.inr hbs⟩).trans hc,hd⟩
def zn(l:List UInt8):List W:=l.map fun b=>.int .u8 (b.toNat:Int)
noncomputable def mw(F:Fr):List bR->Option (Cd×List V)
 | []=>some (.t,[])
 | x::l=>match mO F x with
   | some (c,v)=>(match mw F l with|some (d,r)=>some (.and c d,v::r)|none=>none)
   | none=>none
def DT(k:Nat):List (Nat×Operand)->Option (List bR)
 | []=>some []
 | (i,x)::l=>if i=k then(match bY x,DT (k+1) l with|some y,some r=>some (y::r)|_,_=>none) else none
section
variable {P:Program} {base n:Nat} {η:Eta} {Z:ar} {S:af} {w:World} {F:Fr} {a:Act}
def br(P:Program)(base:Nat)(η:Eta)(Z:ar)(S:af)(w:World)(s:Sem Next)(v:A)(S':af):Prop :=
 ∃ nx u w' aC Z',s.run P w=.ok nx w'/\(nx=.value u∨(nx=.skip/\u=undef))/\bJ base η Z S w aC Z' S' w'/\cw aC Z' v u
theorem br.of{s:Sem Value}{v:A}{S':af}{u:Value}{w':World}{aC:Eta}{Z':ar}(h:s.run P w=.ok u w')(g:bJ base η Z S w aC Z' S' w')(r:cw aC Z' v u):br P base η Z S w (do pure (Next.value (<-s))) v S' :=
 ⟨.value u,u,w',aC,Z',by simp[h],.inl rfl,g,r⟩
theorem br.MH{s:Sem Unit}{S':af}{w':World}{aC:Eta}{Z':ar}(h:s.run P w=.ok () w')(g:bJ base η Z S w aC Z' S' w'):br P base η Z S w (do s;pure Next.skip) (.bF []) S' :=
 ⟨.skip,undef,w',aC,Z',by simp[h],.inr ⟨rfl,rfl⟩,g,⟨[],rfl,trivial⟩⟩
theorem br.alike{s:Sem Next}{v:A}{S' vN:af}(g:br P base η Z S w s v S')(h:S'.Alike vN):br P base η Z S w s v vN :=
 let ⟨nx,u,w',aC,Z',a,b,c,d⟩:=g
 ⟨nx,u,w',aC,Z',a,b,c.alike h,d⟩
theorem br.before{s:Sem Next}{v:A}{S1 S':af}{eU:Eta}{Z1:ar}(m:bJ base η Z S w eU Z1 S1 w)(g:br P base eU Z1 S1 w s v S'):br P base η Z S w s v S' :=
 let ⟨nx,u,w',aC,Z',a,b,c,d⟩:=g
 ⟨nx,u,w',aC,Z',a,b,m.trans c,d⟩
theorem sB{t:TypeId}{zs:List W}(e:jz P t=some zs):∃ i z,P.info? t=some i/\i.zero=some z/\aL (au (fun _=>none) (fun _=>none)) zs z.cells.toList/\(zeroValue t).run P w=.ok z w:=by
 unfold jz at e;split at e;rename_i i hi;split at e;rename_i z hz;split at e;rename_i l hl;cases e;obtain⟨h1,h2,_⟩:=w7 (η:=fun _=>none) (Z:=fun _=>none) hl;exact⟨i,z,hi,hz,(Je h1 h2).1,by simp[zeroValue,typeInfo,hi,hz]⟩;cases e;cases e;cases e
theorem oK(R:St base η Z S w)(t:TypeId){cs:List W}{c:Array Value}(hc:aL (au η Z) cs c.toList)(h1:∀ v∈c.toList,v.oneCell'=true) :
 ∃ w',(newRow t c).run P w=.ok ⟨w.heap.size,0,none⟩ w'/\qm base η Z S w (η.add S.next ⟨w.heap.size,0,c.size,[]⟩) (S.add (Ob.of t cs)) w'/\(η.add S.next ⟨w.heap.size,0,c.size,[]⟩) S.next=some ⟨w.heap.size,0,c.size,[]⟩:=by
 have bO:=hc.length;obtain⟨g,hn⟩:=R.new (w':={ w with heap:=w.heap.push (.cells c t (0,0)) }) (Ob.of t cs) c rfl rfl rfl rfl (by rw[Ob.d9];simp at bO;omega) (fun i x hx=>by
  rw[Ob.d9] at hx;obtain⟨v,hv,hr⟩:=hc.get hx;exact⟨v,by simpa using hv,hr,h1 v (List.mem_of_getElem? hv)⟩) rfl
 exact⟨_,by simp[newRow,newObj,Sem.run],g,hn⟩
theorem Pa(R:St base η Z S w){t:TypeId}{i:TypeInfo}{z:Value}(hi:P.info? t=some i)(hz:i.zero=some z){zs:List W}(h1:aL (au η Z) zs z.cells.toList)(h3:∀ v∈z.cells.toList,v.oneCell'=true):br P base η Z S w (do pure (Next.value (<-Instr.alloc t true (.tuple #[])))) (.p (.c (.ptr S.next 0))) (S.add (Ob.of t zs)):=by
 have hz':(zeroValue t).run P w=.ok z w:=by simp[zeroValue,typeInfo,hi,hz]
 obtain⟨w',hr,g,hn⟩:=oK (P:=P) R t h1 h3;exact br.of (u:=.pointer (some ⟨w.heap.size,0,none⟩)) (by simp[Instr.alloc,hz',newVar,hr]) g.up ⟨by simp,_,hn,by simp⟩
theorem Vt(R:St base η Z S w){t:TypeId}{v:V}{u:Value}(h:cV η Z v u):br P base η Z S w (do pure (Next.value (<-Instr.box t u))) (.p (.c (.ptr S.next 0))) (S.add (Ob.of t v.cells)):=by
 obtain⟨h1,h2,h3⟩:=h.cells;obtain⟨w',hr,g,hn⟩:=oK (P:=P) R t h1 h3;exact br.of (u:=.pointer (some ⟨w.heap.size,0,none⟩)) (by simp[Instr.box,newVar,hr]) g.up ⟨by simp,_,hn,by simp⟩
theorem sC(R:St base η Z S w){t:TypeId}{k:Nat}(hs:gE P t=some k){m off:Nat}{o:Ob}(ho:S.get m=some o)(hmo:¬o.gj)(hnb:¬o.bytes)(hnw:¬o.wb){u:Value}(hp:au η Z (.ptr m off) u){v:V}{x:Value}(hv:cV η Z v x)(hk:v.cells.length=k)(hb:off+k<=o.cells.length) :
 br P base η Z S w (do Instr.storeAt t u x;pure Next.skip) (.bF []) (S.put m (Ob.of o.ty (jE o.cells off v.cells))):=by
 obtain⟨p,hpl,rfl⟩:=hp;obtain⟨h1,h2,h3⟩:=hv.cells;obtain⟨hst,g⟩:=R.store (P:=P) ho hpl hmo hnb hnw h1 h3 (off:=off) (by omega) (o':=Ob.of o.ty (jE o.cells off v.cells)) rfl (by simp);refine br.MH ?_ g.up;have bO:x.cells.size=k:=by have:=h1.length;simp at this;omega
 simp[Instr.storeAt,Instr.sureAddr,storeVar,dI hs,bO,hst]
def zo:W->Value->Bool
 | .bool a,.bool b=>a==b
 | .int k a,.int k' b=>decide (k=k')&&a==b
 | .str a,.string b=>Nat.beq a.size 0&&Nat.beq b.size 0
 | .dH,.pointer none=>true
 | .nil,.slice none 0 0=>true
 | .rd _ [],.slice none 0 0=>true
 | .rs _ [],.slice none 0 0=>true
 | .mo,.nilFunc=>true
 | .kC,.nilIface=>true
 | _,_=>false
theorem vP{x:W}{v:Value}(h:zo x v=true):au η Z x v/\x≠.cX/\v.oneCell'=true/\v.cells=#[v]:=by
 unfold zo at h;split at h;simp at h;subst h;exact⟨by simp[au,aH],by simp,rfl,rfl⟩;simp at h;obtain⟨rfl,rfl⟩:=h;exact⟨by simp[au,aH],by simp,rfl,rfl⟩;rename_i a b;simp only[Bool.and_eq_true,Nat.beq_eq] at h;have:a=b:=by
  apply ByteArray.ext;apply Array.ext;have h1:a.data.size=a.size:=rfl;have h2:b.data.size=b.size:=rfl;omega;intro i h1 _;have h2:a.data.size=a.size:=rfl;omega
 subst this;exact⟨by simp[au,aH],by simp,rfl,rfl⟩;exact⟨by simp[au,aH],by simp,rfl,rfl⟩;exact⟨by simp[au,aH],by simp,rfl,rfl⟩;exact⟨by simp only[au,aH,cA];exact⟨none,0,0,rfl,rfl,Nat.le_refl _,.inl trivial⟩,by simp,rfl,rfl⟩;exact⟨Jd,by simp,rfl,rfl⟩;exact⟨by simp[au,aH],by simp,rfl,rfl⟩;exact⟨by simp[au,aH],by simp,rfl,rfl⟩;cases h
theorem Rl(R:St base η Z S w){t el:TypeId}{i:TypeInfo}{z:W}{zv:Value}(hu:P.underlying t=some (.slice el))(hi:P.info? el=some i)(h1:i.size=1)(hzv:i.zero=some zv)(hz:zo z zv=true){kl kc:IntKind}{l c:Int}(h0:0<=l)(hlc:l<=c)(hby:(i.bytes:Int)*c<=140737488355328)(hc:c<=140737488355328) :
 br P base η Z S w (do pure (Next.value (<-Instr.makeSlice t (.int kl l) (.int kc c)))) (.p (.c (.sl S.next 0 l.toNat 1))) (S.add (Ob.of el (List.replicate c.toNat z))):=by
 have hrun:=run_make (P:=P) w t el i zv hu hi hzv kl kc l c h0 hlc (by omega) (by omega);obtain⟨hr,_,hone,hy⟩:=vP (η:=η) (Z:=Z) hz;have hcells:madeCells zv.cells (c.toNat*i.size)=Array.replicate c.toNat zv:=by
  rw[hy,h1,Nat.mul_one];unfold madeCells;apply Array.ext;simp;intro j hj1 hj2;simp[Nat.mod_one]
 have hrel : aL (au η Z) (List.replicate c.toNat z) (Array.replicate c.toNat zv).toList := by
  apply aL.nT;simp;intro j x v hx hv;rw[Array.toList_replicate] at hv;rw[List.getElem?_replicate] at hx hv;split at hx;rename_i hj;rw[if_pos hj] at hv;cases hx;cases hv;exact hr;cases hx
 obtain⟨w',hw,g,hn⟩:=oK (P:=P) R el hrel (by intro v hv;rw[Array.toList_replicate] at hv;rw[List.eq_of_mem_replicate hv];exact hone);have hww:w'=w.alloc (.cells (madeCells zv.cells (c.toNat*i.size)) el):=by
  simp[newRow,newObj,Sem.run] at hw;rw[hcells,<-hw]
 subst hww;refine br.of hrun g.up ⟨by simp,.inr ⟨_,c.toNat,⟨w.heap.size,0,none⟩,hn,rfl,by omega,by simp,.inr (by simp)⟩⟩
theorem MI:∀(vs l:List Value)(off:Nat),off+vs.length<=l.length->ah.uQ l off vs=l.take off++vs++l.drop (off+vs.length)
 | [],l,off,_=>by simp[ah.uQ]
 | v::vs,l,off,h=>by
   simp only[List.length_cons] at h;rw[ah.uQ,MI vs (l.set off v) (off+1) (by simp;omega)];have h1:(l.set off v).take (off+1)=l.take off++[v]:=by
    rw[List.take_add_one,List.take_set_of_le (Nat.le_refl _)];simp[List.getElem?_set];omega
   have h2:(l.set off v).drop (off+1+vs.length)=l.drop (off+(vs.length+1)):=by
    rw[List.drop_set_of_lt (by omega)];congr 1;omega
   rw[h1,h2];simp
theorem Gl{sz:Nat}:∀{l:List (Nat×Value)}{k:Nat}{vs:List Value}{c:Array Value},l=(vs.zipIdx k).map (fun x=>(x.2,x.1))->(∀ v∈vs,v.cells.size=sz)->(k+vs.length)*sz=c.size->
 ∃ c',Instr.fill (fun i=>some (i*sz,sz)) c l=some c'/\c'.toList=c.toList.take (k*sz)++vs.flatMap (fun v=>v.cells.toList)
 | [],k,vs,c,hl,hv,hc=>by
   cases vs with
   | nil =>
     refine⟨c,rfl,?_⟩;simp only[List.flatMap_nil,List.append_nil];rw[List.take_of_length_le (by simp at hc ⊢;omega)]
   | cons _ _=>simp at hl
 | x :: l, k, vs, c, hl, hv, hc => by
   cases vs with
   | nil=>simp at hl
   | cons v vs =>
     simp only[List.zipIdx_cons,List.map_cons,List.cons.injEq] at hl;obtain⟨rfl,hl⟩:=hl;have hvs:v.cells.size=sz:=hv v (by simp);have hk1:(k+1)*sz=k*sz+sz:=Nat.succ_mul _ _;have hle:k*sz+sz<=c.size:=by
      rw[<-hc,<-hk1];exact Nat.mul_le_mul_right _ (by simp)
     simp only[Instr.fill];have h3:¬(k*sz+v.cells.size>c.size):=by omega
     simp only[hvs,ne_eq,not_true_eq_false,decide_false,Bool.false_or];have h4:(decide (k*sz+sz>c.size))=false:=by simp;omega
     rw[h4];simp only[Bool.false_eq_true,if_false];obtain⟨c',h1,h2⟩:=Gl (sz:=sz) (k:=k+1) (vs:=vs) (c:=v.cells.zipIdx.foldl (fun cs (x:Value×Nat)=>cs.setIfInBounds (k*sz+x.2) x.1) c) hl (fun u hu=>hv u (by simp[hu])) (by
      have:=ah.tT (k*sz) v.cells.toList 0 c;have hsz:(v.cells.zipIdx.foldl (fun(cs:Array Value) (x:Value×Nat)=>cs.setIfInBounds (k*sz+x.2) x.1) c).size=c.size:=by
       rw[<-Array.foldl_toList,Array.toList_zipIdx,<-Array.length_toList,this,ah.BS];simp
      rw[hsz,<-hc];congr 1;simp;omega)
     refine⟨c',h1,?_⟩;rw[h2];have:=ah.tT (k*sz) v.cells.toList 0 c;rw[Nat.add_zero,MI _ _ _ (by simp;omega)] at this;rw[<-Array.foldl_toList,Array.toList_zipIdx,this];have hl1:((c.toList.take (k*sz))++v.cells.toList).length=(k+1)*sz:=by simp;omega
     rw[List.append_assoc,<-List.append_assoc,List.take_append_of_le_length (by omega),List.take_of_length_le (by omega)];simp
theorem zq(FR:aW n η Z F a.tmps):∀{l':List (Nat×Operand)}{k:Nat}{l:List bR},DT k l'=some l->∀{c:Cd}{vs:List V},mw F l=some (c,vs)->c->
 ∃ us:List Value,aL (cV η Z) vs us/\l'.map (fun x=>(x.1,a.eval x.2))=(us.zipIdx k).map (fun x=>(x.2,x.1))/\us.length=l.length
 | [],k,l,hl,c,vs,e,hc=>by
   cases hl;simp only[mw] at e;cases e;exact⟨[],trivial,rfl,rfl⟩
 | (i, x) :: l', k, l, hl, c, vs, e, hc => by
   simp only[DT] at hl;obtain⟨hik,hl⟩:=dm hl;subst hik;split at hl;rename_i y r hy hr;cases hl;simp only[mw] at e;split at e;rename_i p v hv;split at e;rename_i d r' hr';cases e;obtain⟨us,h1,h2,h3⟩:=zq FR hr hr' hc.2;exact⟨a.eval x::us,⟨dZ FR hy hv hc.1,h1⟩,by simp[h2],by simp[h3]⟩;cases e;cases e;cases hl
theorem Jj{sz:Nat}:∀{vs:List V}{us:List Value},aL (cV η Z) vs us->(∀ v∈vs,v.cells.length=sz)->aL (au η Z) (vs.flatMap V.cells) (us.flatMap fun v=>v.cells.toList)/\(∀ u∈us,u.cells.size=sz)/\(∀ v∈us.flatMap (fun v=>v.cells.toList),v.oneCell'=true)
 | [],[],_,_=>⟨trivial,by simp,by simp⟩
 | v :: vs, u :: us, ⟨h1, h2⟩, hs => by
   obtain⟨a1,a2,a3⟩:=Jj h2 (fun v hv=>hs v (by simp[hv]));obtain⟨b1,b2,b3⟩:=h1.cells;have hl:=b1.length;rw[hs v (by simp)] at hl;refine⟨?_,?_,?_⟩;simp only[List.flatMap_cons];exact b1.append a1;intro x hx;rcases List.mem_cons.1 hx with rfl|hx
   simpa using hl.symm;exact a2 x hx;intro x hx;simp only[List.flatMap_cons] at hx;rcases List.mem_append.1 hx with hx|hx;exact b3 x hx;exact a3 x hx
theorem CY(R:St base η Z S w){t el:TypeId}{sz:Nat}{parts:Array (Nat×Operand)}{ps:List bR}{z:List W}(hu:P.underlying t=some (.slice el))(hs:gE P el=some sz)(hz:jz P el=some z)(hbig:ps.length*sz<=16777216)(hzl:z.length=sz)
 {vs:List V} {us:List Value} (h1:aL (cV η Z) vs us) (h2:parts.toList.map (fun x=>(x.1,a.eval x.2))=(us.zipIdx 0).map (fun x=>(x.2,x.1))) (h3:us.length=ps.length) (hv:∀ v∈vs,v.cells.length=sz) :
 br P base η Z S w (do pure (Next.value (<-Instr.buildSlice t ps.length (parts.map fun(i,x)=>(i,a.eval x))))) (.p (.c (.sl S.next 0 ps.length sz))) (S.add (Ob.of el (vs.flatMap V.cells))):=by
 obtain⟨f1,f2,f3⟩:=Jj h1 hv;obtain⟨i,zv,_,_,hzs,B0⟩:=sB (w:=w) hz;have hzl':zv.cells.size=sz:=by
  have hr:=hzs;have:=hr.length;simp at this;omega
 have h24:¬(ps.length*sz>2 ^ 24):=by omega
 have Rm:(parts.map fun(x:Nat×Operand)=>(x.1,a.eval x.2)).toList=(us.zipIdx 0).map (fun x=>(x.2,x.1)):=by
  rw[Array.toList_map];exact h2
 have key:∀ zero:Array Value,∃ c',Instr.fill (fun i=>some (i*sz,sz)) ((Array.range (ps.length*sz)).map (zero[· % zero.size]!)) ((us.zipIdx 0).map (fun x=>(x.2,x.1)))=some c'/\c'.toList=us.flatMap (fun v=>v.cells.toList):=by
  intro zero;obtain⟨c',g1,g2⟩:=Gl (sz:=sz) (k:=0) (vs:=us) (c:=(Array.range (ps.length*sz)).map (zero[· % zero.size]!)) rfl f2 (by simp[h3]);exact⟨c',g1,by simpa using g2⟩
 have fin:∀ c':Array Value,c'.toList=us.flatMap (fun v=>v.cells.toList)->∃ w',(newRow el c').run P w=.ok ⟨w.heap.size,0,none⟩ w'/\qm base η Z S w (η.add S.next ⟨w.heap.size,0,c'.size,[]⟩) (S.add (Ob.of el (vs.flatMap V.cells))) w'/\(η.add S.next ⟨w.heap.size,0,c'.size,[]⟩) S.next=some ⟨w.heap.size,0,c'.size,[]⟩:=by
  intro c' hc';exact oK (P:=P) R el (by rw[hc'];exact f1) (by rw[hc'];exact f3)
 have hsize:∀ c':Array Value,c'.toList=us.flatMap (fun v=>v.cells.toList)->c'.size=ps.length*sz:=by
  intro c' hc';rw[<-Array.length_toList,hc',<-h3];have:∀ us:List Value,(∀ u∈us,u.cells.size=sz)->(us.flatMap (fun v=>v.cells.toList)).length=us.length*sz:=by
   intro us
   induction us with
   | nil=>simp
   | cons u us ih =>
     intro hh;simp only[List.flatMap_cons,List.length_append,List.length_cons,ih (fun x hx=>hh x (by simp[hx])),Nat.succ_mul];have:=hh u (by simp);simp;omega
  exact this us f2
 by_cases h0:ps.length*sz=0;obtain⟨c',g1,g2⟩:=key #[];obtain⟨w',hr,g,hn⟩:=fin c' g2;refine br.of (u:=.slice (some ⟨w.heap.size,0,none⟩) ps.length ps.length) (w':=w') ?_ g.up ⟨by simp,.inr ⟨_,ps.length,⟨w.heap.size,0,none⟩,hn,rfl,Nat.le_refl _,by rw[hsize c' g2];simp,.inr (by simp)⟩⟩;simp only[Instr.buildSlice,Sem.run_bind,run_underlying hu,Result.andThen_ok,dI hs,h24,if_false,Rm];rw[if_pos h0];simp only[Sem.run_pure,Result.andThen_ok,g1,Sem.run_bind,hr];obtain⟨c',g1,g2⟩:=key zv.cells;obtain⟨w',hr,g,hn⟩:=fin c' g2;refine br.of (u:=.slice (some ⟨w.heap.size,0,none⟩) ps.length ps.length) (w':=w') ?_ g.up ⟨by simp,.inr ⟨_,ps.length,⟨w.heap.size,0,none⟩,hn,rfl,Nat.le_refl _,by rw[hsize c' g2];simp,.inr (by simp)⟩⟩;simp only[Instr.buildSlice,Sem.run_bind,run_underlying hu,Result.andThen_ok,dI hs,h24,if_false,Rm];rw[if_neg h0];simp only[Sem.run_bind,B0,Sem.run_pure,Result.andThen_ok,g1,hr]
end
section
variable {P:Program} {base n:Nat} {η:Eta} {Z:ar} {S:af} {w:World} {F:Fr} {a:Act}
theorem rP{b o:Nat}{vs:List Value}{w':World}(h:∀(j:Nat) v,vs[j]? = some v->w.cell? ⟨b,o+j,none⟩=some v)(hw:w'.heap=w.heap):(loadCells ⟨b,o,none⟩ vs.length).run P w'=.ok vs.toArray w':=by
 by_cases h0:vs.length=0;have:vs=[]:=List.length_eq_zero_iff.1 h0;subst this;simp[loadCells,loadCellsFrom];have hcell:∀ a,w'.cell? a=w.cell? a:=fun a=>by simp[World.cell?,hw]
 exact run_loadCells_list (P:=P) w' ⟨b,o,none⟩ vs (fun j v hv=>by rw[Addr.add_lit,hcell];exact h j v hv)
theorem Pb(l:List UInt8):aL (au η Z) (zn l) (l.map fun b=>Value.int .u8 b.toNat):=by
 induction l with
 | nil=>trivial
 | cons b l ih=>exact⟨by simp[au,aH],ih⟩
def Src(P:Program)(η:Eta)(Z:ar)(w:World)(u:Value)(sz:Nat)(cs:List W):Prop :=
 ∃ m vs,cs.length=m*sz/\vs.length=m*sz/\aL (au η Z) cs vs/\(∀ v∈vs,v.oneCell'=true)/\(∀ w',(Builtin.lenOf u).run P w'=.ok m w')/\(∀ w' k,w'.heap=w.heap->k<=m->(Builtin.firstCells sz k u).run P w'=.ok (vs.take (k*sz)).toArray w')
theorem oL(sz:Nat){ad:Option Addr}{cap:Nat}:Src P η Z w (.slice ad 0 cap) sz []:=by
 refine⟨0,[],by simp,by simp,trivial,by simp,fun w'=>by simp[Builtin.lenOf],fun w' k _ hk=>?_⟩;have:k=0:=by omega
 subst this;cases ad with
 | none=>simp[Builtin.firstCells]
 | some ad=>simp[Builtin.firstCells,loadCells,loadCellsFrom]
theorem Jk{sz len cap b o:Nat}{cs:List W}{vs:List Value}(h1:aL (au η Z) cs vs)(h2:vs.length=len*sz)(h3:∀ v∈vs,v.oneCell'=true)(h4:∀(j:Nat) v,vs[j]? = some v->w.cell? ⟨b,o+j,none⟩=some v) :
 Src P η Z w (.slice (some ⟨b,o,none⟩) len cap) sz cs:=by
 have hl:=h1.length;refine⟨len,vs,by omega,h2,h1,h3,fun w'=>by simp[Builtin.lenOf],fun w' k hw hk=>?_⟩;have hkl:k*sz<=len*sz:=Nat.mul_le_mul_right _ hk;have:=rP (P:=P) (b:=b) (o:=o) (vs:=vs.take (k*sz)) (fun j v hv=>h4 j v (by rw[List.getElem?_take] at hv;split at hv;exact hv;cases hv)) hw;have hl:(vs.take (k*sz)).length=k*sz:=by simp;omega
 rw[hl] at this;simp[Builtin.firstCells,this]
theorem xj{d:D}{cells:Array Value}{o:Nat}:∀{l:List d.ty}{off:Nat},lQ Z d cells (o+off) l->∃ vs:List Value,aL (au η Z) (l.map d.w) vs/\vs.length=l.length/\(∀ v∈vs,v.oneCell'=true)/\∀(j:Nat) v,vs[j]? = some v->cells[o+off+j]? = some v
 | [],_,_=>⟨[],trivial,rfl,by simp,by simp⟩
 | x :: l, off, h => by
   obtain⟨u,hu,hr⟩:=h 0 x rfl;obtain⟨vs,h1,h2,h3,h4⟩:=xj (l:=l) (o:=o) (off:=off+1) (fun i y hy=>by
    obtain⟨v,a,b⟩:=h (i+1) y (by simpa using hy);exact⟨v,by rw[<-a];congr 1;omega,b⟩)
   refine⟨u::vs,⟨(D.fe d).2 hr,h1⟩,by simp[h2],?_,?_⟩;intro v hv;rcases List.mem_cons.1 hv with rfl|hv;exact cA.one d hr;exact h3 v hv;intro j v hv;cases j with
   | zero=>simp at hv;subst hv;simpa using hu
   | succ j =>
     have:=h4 j v (by simpa using hv);rw[<-this];congr 1;omega
theorem src_rd(R:St base η Z S w){d:D}{l:List d.ty}{u:Value}(h:au η Z (.rd d l) u):Src P η Z w u 1 (l.map d.w):=by
 obtain⟨ad,len,cap,hev,bO,hcap,hcs⟩:=h.rd;rw[hev];rcases hcs with rfl|⟨b,off,cells,rfl,hz,hf⟩;simp at bO;subst bO;exact oL _;obtain⟨vs,h1,h2,h3,h4⟩:=xj (η:=η) (o:=off) (off:=0) hf;obtain⟨ty,fz,hc⟩:=R.zs b cells hz;exact Jk h1 (by omega) h3 (fun j v hv=>by simp[World.cell?,hc];simpa using h4 j v hv)
theorem vQ(R:St base η Z S w){sz:Nat}{m off len:Nat}{u:Value}(h:au η Z (.sl m off len sz) u){o:Ob}(ho:S.get m=some o)(hmo:¬o.gj)(hb:off+len*sz<=o.cells.length):Src P η Z w u sz ((o.cells.drop off).take (len*sz)):=by
 rcases h with ⟨rfl,rfl⟩|⟨pl,cap,ad,hpl,rfl,hcap,hroom,had⟩;simp only[Nat.zero_mul,List.take_zero];exact oL _;obtain⟨vs,h1,h2,h3,h4⟩:=R.reads ho hpl hmo hb;by_cases h0:len=0;subst h0;simp only[Nat.zero_mul,List.take_zero];exact oL _;have hca:ad=⟨pl.block,pl.off+off,none⟩:=by
  rcases had with rfl|rfl;omega;rfl
 subst hca;exact Jk h1 h2 h3 h4
theorem ZT{s:ByteArray}:Src P η Z w (.string s) 1 (zn s.data.toList):=by
 refine⟨s.size,s.data.toList.map fun b=>Value.int .u8 b.toNat,by simp[zn],by simp,Pb _,?_,fun w'=>by simp[Builtin.lenOf],fun w' k _ hk=>?_⟩;intro v hv;simp at hv;obtain⟨b,_,rfl⟩:=hv;rfl;simp only[Builtin.firstCells,Sem.run_pure];congr 1;apply Array.ext';have:(s.extract 0 k).data.toList=s.data.toList.take k:=by
  simp[ByteArray.data_extract]
 simp
theorem xk(R:St base η Z S w){el:TypeId}{z:Value}{sz need sCap:Nat}{cells:List W}{vs:List Value}(hl:aL (au η Z) cells vs)(h1:∀ v∈vs,v.oneCell'=true)(bO:vs.length=need*sz)(hzs:z.cells.size=sz) :
 ∃ aC,qm base η Z S w aC (S.add (Ob.of el cells)) (w.drew.alloc (.cells (vs.toArray++Builtin.zeroCells z.cells (grownCap w need sCap el-need)) el))/\
  au aC Z (.sl S.next 0 need sz) (.slice (some ⟨w.heap.size,0,none⟩) need (grownCap w need sCap el)):=by
 have hge:=grownCap_ge w need sCap el;have hcs:(vs.toArray++Builtin.zeroCells z.cells (grownCap w need sCap el-need)).size=grownCap w need sCap el*sz:=by
  simp only[Array.size_append,List.size_toArray,size_zeroCells,hzs,bO,<-Nat.add_mul];congr 1;omega
 have hlen2:=hl.length
 obtain⟨g,hn⟩:=R.new (w':=w.drew.alloc (.cells (vs.toArray++Builtin.zeroCells z.cells (grownCap w need sCap el-need)) el)) (Ob.of el cells) (vs.toArray++Builtin.zeroCells z.cells (grownCap w need sCap el-need)) rfl rfl rfl rfl
  (by rw[Ob.d9];simp;omega) (fun i x hx=>by
   rw[Ob.d9] at hx;obtain⟨v,hv,hr⟩:=hl.get hx;refine⟨v,?_,hr,h1 v (List.mem_of_getElem? hv)⟩;have:=(List.getElem?_eq_some_iff.1 hv).1;rw[Array.getElem?_append_left (by simpa using this)];simpa using hv) rfl
 refine⟨_,g,.inr ⟨_,grownCap w need sCap el,⟨w.heap.size,0,none⟩,hn,rfl,hge,?_,.inr (by simp)⟩⟩;rw[hcs];simp
theorem o8(R:St base η Z S w){t ts ty el:TypeId}{i:TypeInfo}{d:TypeDesc}{z:List W}(hu:P.underlying t=some (.slice el))(hts:P.underlying ts=some d)(hd:∀ k,d≠.int k)(hi:P.info? el=some i)(hz:jz P el=some z)(hzl:z.length=i.size)(hsz:i.size≠0)
 {uy:Value} {cs:List W} (hsrc:Src P η Z w uy i.size cs) (hby:cs.length/i.size*i.bytes<=140737488355328) (h63:cs.length/i.size<=140737488355328) :
 br P base η Z S w (do pure (Next.value (<-Builtin.append_ #[t,ts] ty #[.slice none 0 0,uy]))) (.p (.c (.sl S.next 0 (cs.length/i.size) i.size))) (S.add (Ob.of el cs)):=by
 obtain⟨m,vs,h1,h2,h3,h4,h5,h6⟩:=hsrc;obtain⟨i',zv,hi',hzv,hzs,_⟩:=sB (w:=w) hz;rw[hi] at hi';cases hi';have Jl:zv.cells.size=i.size:=by
  have hr:=hzs;have:=hr.length;simp at this;omega
 have hdiv:cs.length/i.size=m:=by rw[h1];exact Nat.mul_div_cancel _ (by omega)
 by_cases hm:m=0;subst hm;have hcs:cs=[]:=List.eq_nil_of_length_eq_zero (by simpa using h1);subst hcs;have hnew:=h6 w 0 rfl (Nat.le_refl _);refine br.of (u:=.slice none 0 0) ?_ (R.mP (o:=Ob.of el []) (by simp)) ⟨by simp,.inl ⟨by simp,rfl⟩⟩;simp[Builtin.append_,run_underlying hu,run_underlying hts,sizeOf,typeInfo,hi,h5,hnew];rw[hdiv] at hby h63 ⊢;have hv:(vs.take (m*i.size))=vs:=List.take_of_length_le (by omega);have hnew:=h6 w.drew m rfl (Nat.le_refl _);rw[hv] at hnew;have hrun:=ah.oY (P:=P) (ty:=ty) (m:=m) (olds:=[]) w hu hts hd hi hzv (b:=none) (sLen:=0) (sCap:=0) (by simp[Builtin.firstCells]) (h5 w) hnew (by omega) (by omega) (by simpa using hby);obtain⟨aC,g,hr⟩:=xk (z:=zv) (need:=m) (sCap:=0) (el:=el) R h3 h4 h2 Jl;simp only[Nat.zero_add,Array.empty_append] at hrun;exact br.of hrun g.up ⟨by simp,hr⟩
theorem Pc(R:St base η Z S w){t tn ty el:TypeId}{i:TypeInfo}{z:W}{zv:Value}{kn k:IntKind}(hu:P.underlying t=some (.slice el))(htn:P.underlying tn=some (.int kn))(hi:P.info? el=some i)(h1:i.size=1)(hzv:i.zero=some zv)(hz:zo z zv=true)
 {n:Int} (h0:0<n) (hb:1<=i.bytes) (h48:(i.bytes:Int)*n<=140737488355328) :
 br P base η Z S w (do pure (Next.value (<-Builtin.append_ #[t,tn] ty #[.slice none 0 0,.int k n]))) (.p (.c (.sl S.next 0 n.toNat 1))) (S.add (Ob.of el (List.replicate n.toNat z))):=by
 obtain⟨m,rfl⟩:∃ m:Nat,n=m:=⟨n.toNat,by omega⟩;rw[Int.toNat_natCast];have hm:m<=m*i.bytes:=Nat.le_mul_of_pos_right _ hb;have h48':m*i.bytes<=140737488355328:=by rw[Int.mul_comm,<-Int.natCast_mul] at h48;omega
 have hrun:=Lib.run_append_nil_zeros (P:=P) w t tn ty el i zv k kn hu htn hi hzv m (by omega) (by omega) (by omega) (by omega);obtain⟨hr,_,hone,hy⟩:=vP (η:=η) (Z:=Z) hz;have hcells:Builtin.zeroCells zv.cells m=(List.replicate m zv).toArray:=by
  rw[hy];unfold Builtin.zeroCells;apply Array.ext;simp;intro j hj1 hj2;simp[Nat.mod_one]
 have hrel : aL (au η Z) (List.replicate m z) (List.replicate m zv) := by
  apply aL.nT;simp;intro j x v hx hv;rw[List.getElem?_replicate] at hx hv;split at hx;rename_i hj;rw[if_pos hj] at hv;cases hx;cases hv;exact hr;cases hx
 obtain⟨aC,g,hr'⟩:=xk (z:=zv) (need:=m) (sCap:=0) (sz:=1) (el:=el) R hrel (by intro v hv;rw[List.eq_of_mem_replicate hv];exact hone) (by simp) (by rw[hy];rfl);rw[hcells] at hrun;exact br.of hrun g.up ⟨by simp,hr'⟩
def qR(zs:List PV)(sz m:Nat):List PV:=(List.range m).map fun i=>zs.getD (i%sz) (.bool false)
theorem Mb(R:St base η Z S w){t tn ty el:TypeId}{i:TypeInfo}{zs:List PV}{zv:Value}{kn k:IntKind}(hu:P.underlying t=some (.slice el))(htn:P.underlying tn=some (.int kn))(hi:P.info? el=some i)(h1:0<i.size)(hzv:i.zero=some zv)(hsz:zv.cells.size=i.size)(hz:aL (au η Z) (zs.map PV.w) zv.cells.toList)(hone:∀ v∈zv.cells.toList,v.oneCell'=true)
 {n:Int} (h0:0<n) (hb:1<=i.bytes) (h48:(i.bytes:Int)*n<=140737488355328) :
 br P base η Z S w (do pure (Next.value (<-Builtin.append_ #[t,tn] ty #[.slice none 0 0,.int k n]))) (.p (.c (.sl S.next 0 n.toNat i.size))) (S.add (Ob.of el ((qR zs i.size (n.toNat*i.size)).map PV.w))):=by
 obtain⟨m,rfl⟩:∃ m:Nat,n=m:=⟨n.toNat,by omega⟩;rw[Int.toNat_natCast];have hm:m<=m*i.bytes:=Nat.le_mul_of_pos_right _ hb;have h48':m*i.bytes<=140737488355328:=by rw[Int.mul_comm,<-Int.natCast_mul] at h48;omega
 have hrun:=Lib.run_append_nil_zeros (P:=P) w t tn ty el i zv k kn hu htn hi hzv m (by omega) h1 (by omega) (by omega);have bO:=hz.length;simp only[List.length_map,Array.length_toList] at bO;have hcs:(Builtin.zeroCells zv.cells m).toList.length=m*i.size:=by rw[Array.length_toList,size_zeroCells,hsz]
 have hget:∀ j v,(Builtin.zeroCells zv.cells m).toList[j]? = some v->zv.cells.toList[j%i.size]? = some v:=by
  intro j v hv;have hj:j<m*i.size:=by have:=(List.getElem?_eq_some_iff.1 hv).1;omega
  have hmod:j%i.size<zv.cells.size:=by rw[hsz];exact Nat.mod_lt _ h1
  unfold Builtin.zeroCells at hv;rw[hsz] at hv;simp only[Array.toList_map,Array.toList_range,List.getElem?_map,List.getElem?_range hj,Option.map_some,Option.some.injEq] at hv;rw[<-hv,Array.getElem?_toList,getElem!_pos zv.cells _ hmod,Array.getElem?_eq_getElem hmod]
 have hrel:aL (au η Z) ((qR zs i.size (m*i.size)).map PV.w) (Builtin.zeroCells zv.cells m).toList:=by
  apply aL.nT;rw[hcs];simp[qR];intro j x v hx hv;have hj:j<m*i.size:=by have:=(List.getElem?_eq_some_iff.1 hv).1;omega
  have hg:=hget j v hv;simp only[qR,List.map_map,List.getElem?_map,List.getElem?_range hj,Option.map_some,Option.some.injEq,Function.comp] at hx;have hzl:j%i.size<zs.length:=by rw[bO,hsz];exact Nat.mod_lt _ h1
  rw[List.getD_eq_getElem?_getD,List.getElem?_eq_getElem hzl] at hx;have hx':(zs.map PV.w)[j%i.size]? = some x:=by rw[List.getElem?_map,List.getElem?_eq_getElem hzl,<-hx];rfl
  obtain⟨v',a,b⟩:=hz.get hx';rw[hg] at a;cases a;exact b
 have h1c:∀ v∈(Builtin.zeroCells zv.cells m).toList,v.oneCell'=true:=by
  intro v hv;obtain⟨j,hj⟩:=List.getElem?_of_mem hv;exact hone v (List.mem_of_getElem? (hget j v hj))
 obtain⟨aC,g,hr'⟩:=xk (z:=zv) (need:=m) (sCap:=0) (sz:=i.size) (el:=el) R hrel h1c hcs hsz;rw[Array.toArray_toList] at g;exact br.of hrun g.up ⟨by simp,hr'⟩
theorem uc(R:St base η Z S w){t ts ty el:TypeId}{i:TypeInfo}{d:TypeDesc}{z:List W}(hu:P.underlying t=some (.slice el))(hts:P.underlying ts=some d)(hd:∀ k,d≠.int k)(hi:P.info? el=some i)(hz:jz P el=some z)(hzl:z.length=i.size)(hsz:i.size≠0)
 {uy:Value} {cs:List W} (hsrc:Src P η Z w uy i.size cs) {u:Value} {m off len:Nat} (hx:au η Z (.sl m off len i.size) u) {o:Ob} (ho:S.get m=some o) (hmo:¬o.gj) (hnw:¬o.wb) (hty:o.ty=el)
 (hb:off+len*i.size<=o.cells.length) (hap:¬o.bytes∨o.cells=[]∨(off=0/\len*i.size=o.cells.length/\∀ x∈cs,∃ n,x=W.int .u8 n)) (hby:(len+cs.length/i.size)*i.bytes<=140737488355328) (h63:len+cs.length/i.size<=140737488355328) :
 br P base η Z S w (do pure (Next.value (<-Builtin.append_ #[t,ts] ty #[u,uy]))) (.p (.c (.sl S.next 0 (len+cs.length/i.size) i.size))) ((S.del m).add (Ob.of el ((o.cells.drop off).take (len*i.size)++cs))):=by
 obtain⟨k,vs,h1,h2,h3,h4,h5,h6⟩:=id hsrc;obtain⟨i',zv,hi',hzv,hzs,_⟩:=sB (w:=w) hz;rw[hi] at hi';cases hi';have Jl:zv.cells.size=i.size:=by
  have hr:=hzs;have:=hr.length;simp at this;omega
 have hdiv:cs.length/i.size=k:=by rw[h1];exact Nat.mul_div_cancel _ (by omega)
 rw[hdiv] at hby h63 ⊢;rcases hx with ⟨rfl,rfl⟩|⟨pl,cap,ad,hpl,rfl,hcap,hroom,had⟩;have hg:=o8 (base:=base) (S:=S.del m) (ty:=ty) (R.del m) hu hts hd hi hz hzl hsz hsrc (by rw[hdiv];simpa using hby) (by rw[hdiv];simpa using h63);rw[hdiv] at hg;have e1:(o.cells.drop off).take (0*i.size)++cs=cs:=by simp
 rw[e1,Nat.zero_add];obtain⟨nx,u,w',aC,Z',q1,q2,q3,q4⟩:=hg;exact⟨nx,u,w',aC,Z',q1,q2,⟨q3.le,q3.st,(Step.del m).trans q3.step⟩,q4⟩;obtain⟨olds,o1,o2,o3,o4⟩:=R.reads ho hpl hmo hb;have hvt:(vs.take (k*i.size))=vs:=List.take_of_length_le (by omega);by_cases hfit:len+k<=cap
 · -- in place
   by_cases hc0:cap=0
   · -- nothing is there, nothing comes
     have hl0:len=0:=by omega
     have hk0:k=0:=by omega
     subst hl0;subst hk0;have hcs:cs=[]:=by simpa using h1
     subst hcs;have hnew:=h6 w 0 rfl (Nat.le_refl _);have hrun:(Builtin.append_ #[t,ts] ty #[.slice (some ad) 0 cap,uy]).run P w=.ok (.slice (some ad) 0 cap) w:=by
      simp[Builtin.append_,run_underlying hu,run_underlying hts,sizeOf,typeInfo,hi,h5,hnew,storeCells]
     obtain⟨hbase,hzq,L⟩:=R.aj m o pl ho hpl;obtain⟨cc,fz,hcc,hroom',hv',p6⟩:=L.there hmo;have hfz:fz.1=fz.2∨fz.2<=pl.off:=by
      rcases hap with h|h|⟨h1,h2,_⟩;exact p6.plain h hnw;have:=p6.tail.imp_right (·.resolve_right fun h=>hnw h.1);rw[h] at this;simpa using this;have:=p6.tail.imp_right (·.resolve_right fun h=>hnw h.1);omega
     have hsize:=L.size hmo;let p0:cn:=⟨pl.block,pl.off,pl.room,[]⟩;have R':St base (η.add (S.del m).next p0) Z ((S.del m).add (Ob.of el [])) w:=(R.del m).X9 hbase hzq (fun n' o' p' hn' hp' hb'=>by
      rw[af.ia] at hn';split at hn';cases hn';rename_i hne;exact R.jU n' m o' o p' pl _ hn' ho hne hp' hpl hb' (.inl rfl)) (fun _ _=>rfl) rfl rfl rfl (fk.plain (by simp[Ob.gj,Ob.isMap,Ob.jT]) ⟨cc,fz,by rw[<-hty];exact hcc,hroom',by simp,hfz⟩ (by simp))
     refine br.of (Z':=Z) hrun ⟨Eta.sU (R.fresh _ (Nat.le_refl _)),by simpa using (show St base (η.add S.next p0) Z ((S.del m).add (Ob.of el [])) w from R'),⟨rfl,rfl,rfl,Nat.le_refl _,fun _ _ _=>rfl,?_,ar.le.refl _,fun _ _ hh=>.inl hh,rfl⟩⟩ ⟨by simp,.inr ⟨p0,cap,ad,Eta.fT,rfl,by omega,by subst hc0;simp,.inl hc0⟩⟩;rintro b ⟨n',o',p',hn',hp',hb'⟩;have hg:∀ j,((S.del m).add (Ob.of el [])).get j=if j=S.next then some (Ob.of el []) else(S.del m).get j:=fun j=>af.fB (R.del m).eX
     have hn'':=(hg n').symm.trans (by simpa using hn');by_cases hj:n'=S.next
     subst hj;rw[Eta.fT] at hp';cases hp';exact .inl ⟨m,o,pl,ho,hpl,.inl (cn.vJ hb').symm⟩;rw[if_neg hj] at hn'';rw[Eta.iW hj] at hp';exact .inl (vM ⟨n',o',p',hn'',hp',hb'⟩)
   . have hca:ad=⟨pl.block,pl.off+off,none⟩:=by
      rcases had with h|h;exact absurd h hc0;exact h
     subst hca;obtain⟨hbase,hzq,L⟩:=R.aj m o pl ho hpl;obtain⟨cc,fz,hcc,hroom',hv',p6⟩:=L.there hmo;have hfz:∀ k,pl.off+off+len*i.size<=k->k<cc.size->¬(fz.1<=k/\k<fz.2):=by
      intro k a b;rcases hap with h|h|⟨h1,h2,_⟩;have:=p6.plain h hnw;omega;have:=p6.tail.imp_right (·.resolve_right fun h=>hnw h.1);rw[h] at this;simp at this;omega;have:=p6.tail.imp_right (·.resolve_right fun h=>hnw h.1);omega
     have hsize:=L.size hmo;have hmul:(len+k)*i.size<=cap*i.size:=Nat.mul_le_mul_right _ hfit;rw[Nat.add_mul] at hmul
     have hrun:=ah.tU (P:=P) (ty:=ty) w hu hts hd hi (bk:=pl.block) (off:=pl.off+off) (sLen:=len) (sCap:=cap) (news:=vs) (h5 w) (by have:=h6 w k rfl (Nat.le_refl _);rwa [hvt] at this) hfit
      (fun j hj=>by
       have:pl.off+off+len*i.size+j<cc.size:=by omega
       simp[World.cell?,hcc,this])
      (fun j hj=>by
       have:=hfz (pl.off+off+len*i.size+j) (by omega) (by omega);simp only[World.frozen?,hcc];simpa using this) h4
     obtain⟨c',g1,g2,g3,g4⟩:=ah.ku vs (pl.off+off+len*i.size) w cc hcc;have r5:=ah.iG (base:=0) (bk:=pl.block) (Nat.zero_le _) vs (pl.off+off+len*i.size) w;let p':cn:=⟨pl.block,pl.off+off,pl.room-off,[]⟩;have hle:η.le (η.add S.next p'):=Eta.sU (R.fresh _ (Nat.le_refl _));have hlold:olds.length=len*i.size:=o2;have main:∀(j:Nat) x,(Ob.of el ((o.cells.drop off).take (len*i.size)++cs)).cells[j]? = some x->∃ v,c'[p'.off+j]? = some v/\au (η.add S.next p') Z x v/\v.oneCell'=true:=fun j x hx=>by
      show ∃ v,c'[pl.off+off+j]? = some v/\_;rw[Ob.d9] at hx;have hlen1:((o.cells.drop off).take (len*i.size)).length=len*i.size:=by simp;omega
      by_cases hj:j<len*i.size;rw[List.getElem?_append_left (by omega)] at hx;have hx':o.cells[off+j]? = some x:=by
       rw[List.getElem?_take,if_pos hj,List.getElem?_drop] at hx;exact hx
      obtain⟨v,q1,q2,q3⟩:=hv' _ _ hx';refine⟨v,?_,q2.mono hle (ar.le.refl _),q3⟩;rw[g3 _ (by omega),<-q1];congr 1;omega;rw[List.getElem?_append_right (by omega),hlen1] at hx;obtain⟨v,q1,q2⟩:=h3.get hx;have hjv:=(List.getElem?_eq_some_iff.1 q1).1;refine⟨v,?_,q2.mono hle (ar.le.refl _),h4 v (List.mem_of_getElem? q1)⟩;have:=g4 (j-len*i.size) hjv (by omega);rw[show pl.off+off+len*i.size+(j-len*i.size)=pl.off+off+j by omega] at this;rw[this];exact q1
     have R' : St base (η.add (S.del m).next p') Z ((S.del m).add (Ob.of el ((o.cells.drop off).take (len * i.size) ++ cs))) (w.setCells pl.block (pl.off + off + len * i.size) vs) := (R.del m).X9 hbase hzq (fun n' o' p'' hn' hp' hb' => by
      rw[af.ia] at hn';split at hn';cases hn';rename_i hne;exact R.jU n' m o' o p'' pl _ hn' ho hne hp' hpl hb' (.inl rfl)) (fun b hb'=>ah.gA hb' _ _ _) (ah.kx _ _ _) rfl rfl
      (fk.DN (fun hm'=>by
       rcases hm' with hm'|⟨_,_,hm'⟩<;>obtain⟨v,_,b,_⟩:=main 0 _ hm'<;>simp only[au,aH] at b)
       ⟨c', fz, by rw[← hty]; exact g1, by show pl.off + off + (pl.room - off) ≤ _; omega, main, by
        have hpo:p'.off=pl.off+off:=rfl;rcases Classical.em o.bytes with hB|hB;rcases hap with h|h|⟨q1,q2,q3⟩;exact absurd hB h;left;have:=p6.tail.imp_right (·.resolve_right fun h=>hnw h.1);rw[h] at this;simp at this;omega;have bM:(Ob.of el ((o.cells.drop off).take (len*i.size)++cs)).cells.length=len*i.size+cs.length:=by rw[Ob.d9];simp;omega
        rcases p6.tail.imp_right (·.resolve_right fun h=>hnw h.1) with ht|ht;exact .inl (.inl ht);refine .inr (.inl ⟨fun x hx=>?_,by omega⟩);rw[Ob.d9] at hx;rcases List.mem_append.1 hx with hx|hx;exact hB x (List.mem_of_mem_drop (List.mem_of_mem_take hx));exact q3 x hx;left;have:=p6.plain hB hnw;omega⟩
       (by rw[Ob.d9];show ((o.cells.drop off).take (len*i.size)++cs).length<=pl.room-off;simp;omega))
     refine br.of (Z':=Z) hrun ⟨hle,R',⟨r5.os,r5.tape,r5.output,r5.size,?_,?_,ar.le.refl _,fun _ _ hh=>.inl hh,rfl⟩⟩ ⟨by simp,.inr ⟨p',cap,_,Eta.fT,rfl,hfit,?_,.inr rfl⟩⟩;intro b _ hno;exact ah.gA (fun hh=>hno ⟨m,o,pl,ho,hpl,.inl hh.symm⟩) _ _ _
     . rintro b ⟨n',o',p'',hn',hp',hb'⟩;have hg:∀ j,((S.del m).add (Ob.of el ((o.cells.drop off).take (len*i.size)++cs))).get j=if j=S.next then some (Ob.of el ((o.cells.drop off).take (len*i.size)++cs)) else(S.del m).get j:=fun j=>af.fB (R.del m).eX
       rw[hg] at hn';by_cases hj:n'=S.next
       subst hj;rw[Eta.fT] at hp';cases hp';exact .inl ⟨m,o,pl,ho,hpl,.inl (cn.vJ hb').symm⟩;rw[if_neg hj] at hn';rw[Eta.iW hj] at hp';exact .inl (vM ⟨n',o',p'',hn',hp',hb'⟩)
     show 0+cap*i.size<=pl.room-off;omega
 · -- into new memory
   have hold:(Builtin.firstCells i.size len (.slice (some ad) len cap)).run P w.drew=.ok olds.toArray w.drew:=by
    by_cases hl0:len=0;subst hl0;have:olds=[]:=List.length_eq_zero_iff.1 (by simpa using o2);subst this;simp[Builtin.firstCells,loadCells,loadCellsFrom];have hca:ad=⟨pl.block,pl.off+off,none⟩:=by
     rcases had with h|h;omega;exact h
    subst hca;have:=rP (P:=P) (w:=w) (w':=w.drew) o4 rfl;rw[o2] at this;simp[Builtin.firstCells,this]
   have hnew:=h6 w.drew k rfl (Nat.le_refl _);rw[hvt] at hnew;have hrun:=ah.oY (P:=P) (ty:=ty) w hu hts hd hi hzv (b:=some ad) (sLen:=len) (sCap:=cap) hold (h5 w) hnew (by omega) (by omega) hby;obtain⟨aC,g,hr⟩:=xk (z:=zv) (need:=len+k) (sCap:=cap) (el:=el) (R.del m) (o1.append h3) (fun v hv=>by
    rcases List.mem_append.1 hv with hv|hv;exact o3 v hv;exact h4 v hv) (by simp[o2,h2,Nat.add_mul]) Jl
   have happ:(olds++vs).toArray=olds.toArray++vs.toArray:=by simp
   rw[happ] at g;exact br.of (Z':=Z) hrun ⟨g.le,g.st,(Step.del m).trans g.step⟩ ⟨by simp,hr⟩
structure DU(η:Eta)(S:af)(w:World)(n m k:Nat)(av:List (List Int))(rs:List (Nat×Nat))(b0:Nat):Prop where
 len:rs.length=av.length
 nodup:(rs.map (·.1)).Nodup
 own:∀ b∈rs.map (·.1),b≠b0/\n≠m/\∃ o pn,S.get n=some o/\η n=some pn/\pn.has b
 row:∀(i:Nat) r l,rs[i]? = some r->av[i]? = some l->l.length=k/\∃ c t fz,w.heap[r.1]? = some (.cells c t fz)/\r.2+k<=c.size/\(∀(j:Nat) x,l[j]? = some x->c[r.2+j]? = some (.int .i64 x))/\(∀ j,r.2<=j->j<c.size->¬(fz.1<=j/\j<fz.2))
 b0:b0=w.heap.size∨(n≠m/\∃ o pn,S.get n=some o/\η n=some pn/\pn.has b0)
def MJ(rs:List (Nat×Nat))(k:Nat)(vs:List Value):Prop:=vs.length=rs.length/\∀(i:Nat) r,rs[i]? = some r->∃ cp ad,vs[i]? = some (.slice ad k cp)/\k<=cp/\(0<k->ad=some ⟨r.1,r.2,none⟩)
theorem St.Rn(R:St base η Z S w){n m k b0:Nat}{av:List (List Int)}{rs:List (Nat×Nat)}(hpre:DU η S w n m k av rs b0){om:Ob}{pm:cn}{l l0:List Int}{ro:Nat}(hm:S.get m=some om)(hpm:η m=some pm)(hcm:om.cells=l0.map (W.int .i64))(hl0:l=l0.drop ro)(hl:l.length=k)
 {w':World} {p:cn} {el:TypeId} (hrows:p.av=rs++[(pm.block,if k=0 then pm.off else pm.off+ro)]) (hsz:w.heap.size<=w'.heap.size) (Jm:p.block=w.heap.size∨p.block=b0)
 (gC:∀ b,b<w.heap.size->b≠p.block->w'.heap[b]? = w.heap[b]?)
 (houter:∃ c fz,w'.heap[p.block]? = some (.cells c el fz)/\p.off+p.room<=c.size/\(∀(i:Nat) r,p.av[i]? = some r->∃ cp ad,c[p.off+i]? = some (.slice ad k cp)/\k<=cp/\(0<k->ad=some ⟨r.1,r.2,none⟩))/\(∀ j,p.off<=j->j<c.size->¬(fz.1<=j/\j<fz.2)))
 (hroom:av.length+1<=p.room) (hos:w'.os=w.os) (nk:w'.tape=w.tape) (hout:w'.output=w.output) :
 bJ base η Z S w (η.add S.next p) Z (((S.del n).del m).add ⟨el,[.c (.th k (av++[l]))]⟩) w':=by
 have hle:η.le (η.add S.next p):=Eta.sU (R.fresh _ (Nat.le_refl _));have hmlt:=R.Vi hm hpm;have hdel:∀ n' x,((S.del n).del m).get n'=some x->n'≠n/\n'≠m/\S.get n'=some x:=by
  intro n' x hx;rw[af.ia] at hx;split at hx;cases hx;rename_i h1;rw[af.ia] at hx;split at hx;cases hx;rename_i h2;exact⟨h2,h1,hx⟩
 -- where b0 lies
 have hb0:∀ b,b<w.heap.size->b=b0->n≠m/\∃ o pn,S.get n=some o/\η n=some pn/\pn.has b:=by
  rintro b hb rfl;rcases hpre.b0 with h|h;omega;exact h
 have hmp:pm.block≠p.block:=by
  intro e;rcases Jm with h|h;omega;obtain⟨hnm,o,pn,h1,h2,h3⟩:=hb0 pm.block hmlt (e.trans h);exact R.jU n m o om pn pm _ h1 hm hnm h2 hpm h3 pm.iH
 have hsp:∀ b∈rs.map (·.1),b≠p.block/\b<w.heap.size/\b≠pm.block:=by
  intro b hb;obtain⟨h1,hnm,o,pn,h2,h3,h4⟩:=hpre.own b hb;have hlt:=R.jV h2 h3 h4;refine⟨?_,hlt,fun e=>R.jU n m o om pn pm _ h2 hm hnm h3 hpm h4 (.inl e.symm)⟩;rcases Jm with h|h;omega;rw[h];exact h1
 have Pf:p.sats=rs.map (·.1)++[pm.block]:=by unfold cn.sats;rw[hrows,List.map_append];rfl
 obtain⟨co,fo,jW,Cb,ho3,ho4⟩:=houter
 -- who has the new blocks
 have hown : ∀ b, p.has b → w.heap.size ≤ b ∨ ((∃ o pn, n ≠ m ∧ S.get n = some o ∧ η n = some pn ∧ pn.has b) ∨ pm.has b) := by
  rintro b (h|h);rcases Jm with h'|h';left;omega;rcases Nat.lt_or_ge b w.heap.size with hlt|hge;obtain⟨hnm,o,pn,h2,h3,h4⟩:=hb0 b hlt (h.symm.trans h');exact .inr (.inl ⟨o,pn,hnm,h2,h3,h4⟩);exact .inl hge;rw[Pf] at h;rcases List.mem_append.1 h with h|h;obtain⟨_,hnm,o,pn,h2,h3,h4⟩:=hpre.own b h;exact .inr (.inl ⟨o,pn,hnm,h2,h3,h4⟩);rw[List.mem_singleton] at h;subst h;exact .inr (.inr pm.iH)
 have hL : fk (η.add ((S.del n).del m).next p) Z ⟨el, [.c (.th k (av ++ [l]))]⟩ p w' := by
  obtain⟨_,_,Lm⟩:=R.aj m om pm hm hpm;have hmM:¬om.gj:=by
   rintro (h|⟨k',rows',h⟩);unfold Ob.isMap at h;rw[hcm] at h;cases l0<;>simp at h;unfold Ob.jT at h;rw[hcm] at h;cases l0<;>simp at h
  obtain⟨cm,fm,hc1,hc2,hc3,hcu⟩:=Lm.there hmM;have hc4:∀ q,pm.off<=q->q<cm.size->¬(fm.1<=q/\q<fm.2):=by
   cases hl1:l0 with
   | nil =>
     intro q a b;have:=hcu.tail;rw[hcm,hl1] at this;simp at this;omega
   | cons x l' =>
     refine hcu.strong (fun hB=>?_);obtain⟨n',e⟩:=hB (.int .i64 x) (by rw[hcm,hl1];simp);cases e
  have hsm:=Lm.size hmM;refine fk.tab (k:=k) (av:=av++[l]) (I6 rfl) ⟨⟨co,fo,jW,Cb,ho3,ho4⟩,?_,by simpa using hroom,?_,?_⟩;rw[hrows];simp[hpre.len];intro i r l' hr hl';rw[hrows] at hr;by_cases hi:i<rs.length;rw[List.getElem?_append_left hi] at hr;rw[List.getElem?_append_left (by rw[<-hpre.len];exact hi)] at hl';obtain⟨q1,c,t,fz,q2,q3⟩:=hpre.row i r l' hr hl';have hb:=hsp r.1 (List.mem_map.2 ⟨r,List.mem_of_getElem? hr,rfl⟩);exact⟨q1,c,t,fz,(gC _ hb.2.1 hb.1).trans q2,q3⟩;rw[List.getElem?_append_right (by omega)] at hr;rw[List.getElem?_append_right (by rw[<-hpre.len];omega)] at hl';have hi0:i-rs.length=0:=by
   have:=(List.getElem?_eq_some_iff.1 hr).1;simpa using this
  rw[hi0] at hr;have:i-av.length=0:=by rw[<-hpre.len];exact hi0
  rw[this] at hl';cases hr;cases hl';refine⟨hl,cm,om.ty,fm,(gC _ hmlt hmp).trans hc1,?_,?_,fun q a b=>hc4 q (Nat.le_trans (by show pm.off<=(if k=0 then pm.off else pm.off+ro);split<;>omega) a) b⟩;show (if k=0 then pm.off else pm.off+ro)+k<=cm.size;split;omega;have hl':=hl;rw[hl0,List.length_drop] at hl';rw[hcm,List.length_map] at hsm;omega;intro j x hx;have hk0:¬k=0:=fun h=>by rw[List.eq_nil_of_length_eq_zero (hl.trans h)] at hx;cases hx
  show cm[(if k=0 then pm.off else pm.off+ro)+j]? = _;rw[if_neg hk0];have hx':l0[ro+j]? = some x:=by rw[hl0,List.getElem?_drop] at hx;exact hx
  obtain⟨v,e1,e2,_⟩:=hc3 (ro+j) (.int .i64 x) (by rw[hcm,List.getElem?_map,hx'];rfl);simp only[au,aH] at e2;rw[<-Nat.add_assoc] at e1;rw[e1,e2];rw[Pf,List.nodup_cons];constructor;intro h;rcases List.mem_append.1 h with h|h;exact(hsp _ h).1 rfl;rw[List.mem_singleton] at h;exact hmp h.symm;rw[List.nodup_append];refine⟨hpre.nodup,by simp,?_⟩;intro a ha b hb;rw[List.mem_singleton] at hb;subst hb;exact(hsp a ha).2.2
 refine⟨hle,((R.del n).del m).Rj (p:=p) (w':=w') ?_ (fun k hk hp=>gC k hk fun e=>hp (.inl e.symm)) hsz hL,⟨hos,nk,hout,hsz,?_,?_,ar.le.refl _,fun _ _ h=>.inl h,rfl⟩⟩;intro b hb;have IJ : ∃ ob, w'.heap[b]? = some ob ∧ o7 ob = true := by
  by_cases MK:b=p.block;subst MK;exact⟨_,jW,rfl⟩;rcases hb with h|h;exact absurd h.symm MK;rw[Pf] at h;rcases List.mem_append.1 h with h|h;obtain⟨_,hnm,o,pn,h2,h3,h4⟩:=hpre.own b h;obtain⟨_,_,ob,e1,e2⟩:=R.all h2 h3 h4;exact⟨ob,(gC b (cS e1) MK).trans e1,e2⟩;rw[List.mem_singleton] at h;obtain⟨_,_,ob,e1,e2⟩:=R.all hm hpm (b:=b) (.inl h.symm);exact⟨ob,(gC b (cS e1) MK).trans e1,e2⟩
 rcases hown b hb with h|⟨o,pn,hnm,h2,h3,h4⟩|h;refine⟨Nat.le_trans R.iq h,?_,IJ,fun n' x q hx hq hb'=>?_⟩
 . cases e:Z b with
   | none=>rfl
   | some cs=>have:=R.Vj e;omega
 have:=R.jV (hdel n' x hx).2.2 hq hb';omega;obtain⟨q1,q2,_⟩:=R.all h2 h3 h4;exact⟨q1,q2,IJ,fun n' x q hx hq hb'=>R.jU n' n x o q pn b (hdel n' x hx).2.2 h2 (hdel n' x hx).1 hq h3 hb' h4⟩;obtain⟨q1,q2,_⟩:=R.all hm hpm h;exact⟨q1,q2,IJ,fun n' x q hx hq hb'=>R.jU n' m x om q pm b (hdel n' x hx).2.2 hm (hdel n' x hx).2.1 hq hpm hb' h⟩;intro b hb hno;refine gC b hb fun e=>?_;rcases hown b (.inl e.symm) with h|⟨o,pn,_,h2,h3,h4⟩|h;omega;exact hno ⟨n,o,pn,h2,h3,h4⟩;exact hno ⟨m,om,pm,hm,hpm,h⟩
 . rintro b ⟨n',x,q,hx,hq,hb⟩;have hg:∀ j,(((S.del n).del m).add ⟨el,[.c (.th k (av++[l]))]⟩).get j=if j=S.next then some ⟨el,[.c (.th k (av++[l]))]⟩ else((S.del n).del m).get j:=fun j=>af.fB ((R.del n).del m).eX
   rw[hg] at hx;by_cases hj:n'=S.next
   subst hj;rw[Eta.fT] at hq;cases hq;rcases hown b hb with h|⟨o,pn,_,h2,h3,h4⟩|h;exact .inr h;exact .inl ⟨n,o,pn,h2,h3,h4⟩;exact .inl ⟨m,om,pm,hm,hpm,h⟩;rw[if_neg hj] at hx;rw[Eta.iW hj] at hq;exact .inl ⟨n',x,q,(hdel n' x hx).2.2,hq,hb⟩
theorem ML(R:St base η Z S w){uy:Value}{m k ro:Nat}(hsrc:Src P η Z w uy 1 [.sl m ro k 1]){om:Ob}{l0:List Int}(hm:S.get m=some om)(hcm:om.cells=l0.map (W.int .i64))(hk:0<k∨0<l0.length):∃ pm cp ad,η m=some pm/\k<=cp/\(0<k->ad=some ⟨pm.block,pm.off+ro,none⟩)/\(∀ w',(Builtin.lenOf uy).run P w'=.ok 1 w')/\∀ w',w'.heap=w.heap->(Builtin.firstCells 1 1 uy).run P w'=.ok #[.slice ad k cp] w':=by
 obtain⟨mm,vs,h1,h2,h3,_,h5,h6⟩:=hsrc;have hmm:mm=1:=by simpa using h1.symm
 subst hmm;cases vs with
 | nil=>simp at h2
 | cons v vs =>
   have:vs=[]:=List.eq_nil_of_length_eq_zero (by simpa using h2);subst this;rcases h3.1 with ⟨h0,rfl⟩|⟨pm,cp,ad,q1,rfl,q2,q3,q4⟩
   . subst h0;cases hp:η m with
     | none =>
       have:=R.cG m om hm hp;rw[hcm,List.map_eq_nil_iff] at this;rw[this] at hk;simp at hk
     | some pm=>exact⟨pm,0,none,rfl,Nat.le_refl _,fun h=>absurd h (Nat.lt_irrefl _),h5,fun w' hw=>by simpa using h6 w' 1 hw (Nat.le_refl _)⟩
   exact⟨pm,cp,some ad,q1,q2,fun h=>by
    rcases q4 with h|h;omega;rw[h],h5,fun w' hw=>by simpa using h6 w' 1 hw (Nat.le_refl _)⟩
theorem o9(R:St base η Z S w){t ts ty el:TypeId}{i:TypeInfo}{d:TypeDesc}{z:List W}(hu:P.underlying t=some (.slice el))(hts:P.underlying ts=some d)(hd:∀ k,d≠.int k)(hi:P.info? el=some i)(hz:jz P el=some z)(hzl:z.length=i.size)(h1:i.size=1)
 {uy:Value} {n m k:Nat} {om:Ob} {l l0:List Int} {ro:Nat} (hsrc:Src P η Z w uy 1 [.sl m ro k 1]) (hm:S.get m=some om) (hcm:om.cells=l0.map (W.int .i64)) (hl0:l=l0.drop ro) (hl:l.length=k) (hk:0<k∨0<l0.length) {av:List (List Int)} {rs:List (Nat×Nat)} {b0:Nat} (hpre:DU η S w n m k av rs b0) {olds:List Value} (hold:MJ rs k olds)
 {ad:Option Addr} {cap:Nat} (hfst:∀ w',w'.heap=w.heap->(Builtin.firstCells 1 av.length (.slice ad av.length cap)).run P w'=.ok olds.toArray w') (hfit:cap<av.length+1)
 (hby:(av.length+1)*i.bytes<=140737488355328) (h63:av.length+1<=140737488355328) :
 br P base η Z S w (do pure (Next.value (<-Builtin.append_ #[t,ts] ty #[.slice ad av.length cap,uy]))) (.p (.c (.sl S.next 0 (av.length+1) 1))) (((S.del n).del m).add ⟨el,[.c (.th k (av++[l]))]⟩):=by
 obtain⟨pm,cp,Ro,hpm,hcp,Vu,h5,h6⟩:=ML R hsrc hm hcm hk;obtain⟨i',zv,hi',hzv,hzs,_⟩:=sB (w:=w) hz;rw[hi] at hi';cases hi';have Jl:zv.cells.size=1:=by
  have hr:=hzs;have:=hr.length;simp at this;omega
 let v:Value:=.slice Ro k cp;have hrun:=ah.oY (P:=P) (ty:=ty) (m:=1) (olds:=olds) (news:=[v]) w hu hts hd hi hzv (b:=ad) (sLen:=av.length) (sCap:=cap) (by rw[h1];exact hfst _ rfl) (h5 w) (by rw[h1];exact h6 _ rfl) hfit h63 hby;generalize DK:grownCap w (av.length+1) cap el=gc at hrun;have hge:av.length+1<=gc:=by rw[<-DK];exact grownCap_ge w _ _ _
 have Ya:olds.length=av.length:=by rw[hold.1,hpre.len]
 have hcs:(olds.toArray++[v].toArray++Builtin.zeroCells zv.cells (gc-(av.length+1))).size=gc:=by
  simp only[Array.size_append,List.size_toArray,size_zeroCells,Jl,List.length_singleton,Nat.mul_one];omega
 let p:cn:=⟨w.heap.size,0,gc,rs++[(pm.block,if k=0 then pm.off else pm.off+ro)]⟩
 have hmv := R.Rn hpre hm hpm hcm hl0 hl (w' := w.drew.alloc (.cells (olds.toArray ++ [v].toArray ++ Builtin.zeroCells zv.cells (gc - (av.length + 1))) el)) (p := p) (el := el) rfl (by show w.heap.size ≤ (w.heap.push _).size; rw[Array.size_push]; omega) (.inl rfl)
  (fun b hb hne=>by
   show (w.heap.push _)[b]? = _;rw[Array.getElem?_push,if_neg (by omega)])
  ⟨olds.toArray++[v].toArray++Builtin.zeroCells zv.cells (gc-(av.length+1)),(0,0),Array.getElem?_push_size,by rw[hcs];show 0+gc<=gc;omega,by
   intro j r hr;show ∃ Rp Rq,(olds.toArray++[v].toArray++_)[0+j]? = some (.slice Rq k Rp)/\_;rw[Nat.zero_add];by_cases hj:j<rs.length;have hr':rs[j]? = some r:=by rw[<-hr];exact(List.getElem?_append_left hj).symm
   obtain⟨Rp,Rq,e1,e2⟩:=hold.2 j r hr';refine⟨Rp,Rq,?_,e2⟩;have h0:=hold.1;rw[Array.getElem?_append_left (by simp;omega),Array.getElem?_append_left (by simp;have:=hold.1;omega)];simpa using e1;have hr':[(pm.block,if k=0 then pm.off else pm.off+ro)][j-rs.length]? = some r:=by rw[<-hr];exact(List.getElem?_append_right (by omega)).symm
   have hj0:j-rs.length=0:=by
    have:=(List.getElem?_eq_some_iff.1 hr').1;simpa using this
   rw[hj0] at hr';cases hr';refine⟨cp,Ro,?_,hcp,fun h=>by rw[Vu h];show _=some (⟨pm.block,if k=0 then pm.off else pm.off+ro,none⟩:Addr);rw[if_neg (by omega)]⟩;have hjr:j=olds.length:=by have:=hold.1;omega
   subst hjr;rw[Array.getElem?_append_left (by simp),Array.getElem?_append_right (by simp)];simp[v],fun _ _ _=>by simp⟩
  hge rfl rfl rfl
 exact br.of hrun hmv ⟨by simp,.inr ⟨p,gc,⟨w.heap.size,0,none⟩,Eta.fT,rfl,hge,by show 0+gc*1<=gc;omega,.inr rfl⟩⟩
theorem Rt(R:St base η Z S w){n m k:Nat}{av:List (List Int)}{o:Ob}{pn:cn}(hne:n≠m)(hn:S.get n=some o)(ht:o.jT k av)(Jo:η n=some pn):DU η S w n m k av pn.av pn.block:=by
 obtain⟨_,_,L⟩:=R.aj n o pn hn Jo;have T:=L.tabs k av ht;have hnd:=T.nodup;rw[List.nodup_cons] at hnd;exact⟨T.len,hnd.2,fun b hb=>⟨fun e=>hnd.1 (e▸hb),hne,o,pn,hn,Jo,.inr hb⟩,T.row,.inr ⟨hne,o,pn,hn,Jo,pn.iH⟩⟩
theorem Pg(R:St base η Z S w){n k:Nat}{av:List (List Int)}{o:Ob}{pn:cn}(hn:S.get n=some o)(ht:o.jT k av)(Jo:η n=some pn) :
 ∃ olds,MJ pn.av k olds/\∀(j:Nat) v,olds[j]? = some v->w.cell? ⟨pn.block,pn.off+j,none⟩=some v:=by
 obtain⟨_,_,L⟩:=R.aj n o pn hn Jo;have T:=L.tabs k av ht;obtain⟨c,fz,h1,h2,h3,_⟩:=T.outer;have hroom:=T.room;have bO:=T.len;refine⟨(c.toList.drop pn.off).take pn.av.length,⟨by simp;omega,?_⟩,?_⟩;intro i r hr;obtain⟨cp,ad,e1,e2⟩:=h3 i r hr;have hi:=(List.getElem?_eq_some_iff.1 hr).1;refine⟨cp,ad,?_,e2⟩;rw[List.getElem?_take,if_pos hi,List.getElem?_drop];simpa using e1;intro j v hv;rw[List.getElem?_take] at hv;split at hv;rw[List.getElem?_drop] at hv;simp[World.cell?,h1];simpa using hv;cases hv
theorem DV(R:St base η Z S w){t ts ty el:TypeId}{i:TypeInfo}{d:TypeDesc}{z:List W}(hu:P.underlying t=some (.slice el))(hts:P.underlying ts=some d)(hd:∀ k,d≠.int k)(hi:P.info? el=some i)(hz:jz P el=some z)(hzl:z.length=i.size)(h1:i.size=1)
 {uy:Value} {n m k:Nat} {om:Ob} {l l0:List Int} {ro:Nat} (hsrc:Src P η Z w uy 1 [.sl m ro k 1]) (hm:S.get m=some om) (hcm:om.cells=l0.map (W.int .i64)) (hl0:l=l0.drop ro) (hl:l.length=k) (hk:0<k∨0<l0.length)
 {u:Value} {av:List (List Int)} {o:Ob} (hx:au η Z (.sl n 0 av.length 1) u) (ho:S.get n=some o) (hto:o.jT k av) (hty:o.ty=el) (hne:n≠m)
 (hby:(av.length+1)*i.bytes<=140737488355328) (h63:av.length+1<=140737488355328) :
 br P base η Z S w (do pure (Next.value (<-Builtin.append_ #[t,ts] ty #[u,uy]))) (.p (.c (.sl S.next 0 (av.length+1) 1))) (((S.del n).del m).add ⟨el,[.c (.th k (av++[l]))]⟩):=by
 have hnil:∀{uy:Value},av=[]->DU η S w n m k av [] w.heap.size:=fun h=>⟨by subst h;rfl,by simp,by simp,by simp,.inl rfl⟩;rcases hx with ⟨h0,rfl⟩|⟨pl,cap,ad,hpl,rfl,hcap,hroom,had⟩;have hr0:av=[]:=List.eq_nil_of_length_eq_zero h0;subst hr0;exact o9 (ad:=none) (cap:=0) (olds:=[]) (n:=n) R hu hts hd hi hz hzl h1 hsrc hm hcm hl0 hl hk (hnil (uy:=uy) rfl) ⟨rfl,by simp⟩ (fun w' _=>by simp[Builtin.firstCells]) (by simp) hby h63;have hpre:=Rt R hne ho hto hpl;obtain⟨olds,hold,hcell⟩:=Pg R ho hto hpl;have hca:cap=0∨ad=⟨pl.block,pl.off,none⟩:=by simpa using had
 by_cases hfit:av.length+1<=cap;obtain⟨pm,cp,Ro,hpm,hcp,Vu,h5,h6⟩:=ML R hsrc hm hcm hk;have hca:ad=⟨pl.block,pl.off,none⟩:=by
  rcases hca with h|h;omega;exact h
 subst hca;obtain⟨_,_,L⟩:=R.aj n o pl ho hpl;have T:=L.tabs k av hto;obtain⟨cc,fz,hcc,hsz,hrow,hfz⟩:=T.outer;have hroom':=T.room;let v:Value:=.slice Ro k cp
 have hrun:=ah.tU (P:=P) (ty:=ty) (m:=1) w hu hts hd hi (bk:=pl.block) (off:=pl.off) (sLen:=av.length) (sCap:=cap) (news:=[v]) (h5 w) (by rw[h1];exact h6 w rfl) hfit
  (fun j hj=>by
   have hj0:j=0:=by simpa using hj
   subst hj0;have:pl.off+av.length*i.size+0<cc.size:=by rw[h1];omega
   simp[World.cell?,hcc];simpa using this)
  (fun j hj=>by
   have hj0:j=0:=by simpa using hj
   subst hj0;have:=hfz (pl.off+av.length*i.size+0) (by omega) (by rw[h1];omega);simp only[World.frozen?,hcc];simpa using this) (by intro x hx;rw[List.mem_singleton] at hx;subst hx;rfl)
 rw[h1,Nat.mul_one] at hrun;obtain⟨c',g1,g2,g3,g4⟩:=ah.ku [v] (pl.off+av.length) w cc hcc;have r5:=ah.iG (base:=0) (bk:=pl.block) (Nat.zero_le _) [v] (pl.off+av.length) w;let p:cn:=⟨pl.block,pl.off,pl.room,pl.av++[(pm.block,if k=0 then pm.off else pm.off+ro)]⟩
 have hmv := R.Rn hpre hm hpm hcm hl0 hl (w' := w.setCells pl.block (pl.off + av.length) [v]) (p := p) (el := el) rfl (by rw[ah.kx]; exact Nat.le_refl _) (.inr rfl)
  (fun b _ hb=>ah.gA hb _ _ _)
  ⟨c',fz,by rw[<-hty];exact g1,by rw[g2];exact hsz,by
   intro j r hr;by_cases hj:j<pl.av.length;have hr':pl.av[j]? = some r:=by rw[<-hr];exact(List.getElem?_append_left hj).symm
   obtain⟨Rp,Rq,e1,e2⟩:=hrow j r hr';refine⟨Rp,Rq,?_,e2⟩;rw[<-e1];have:=T.len;exact g3 (pl.off+j) (.inl (by omega));have hr':[(pm.block,if k=0 then pm.off else pm.off+ro)][j-pl.av.length]? = some r:=by rw[<-hr];exact(List.getElem?_append_right (by omega)).symm
   have hj0:j-pl.av.length=0:=by
    have:=(List.getElem?_eq_some_iff.1 hr').1;simpa using this
   rw[hj0] at hr';cases hr';refine⟨cp,Ro,?_,hcp,fun h=>by rw[Vu h];show _=some (⟨pm.block,if k=0 then pm.off else pm.off+ro,none⟩:Addr);rw[if_neg (by omega)]⟩;have:=T.len;have hjr:j=av.length:=by omega
   subst hjr;have:=g4 0 (by simp) (by omega);simpa using this,by rw[g2];exact hfz⟩
  (by show av.length+1<=pl.room;omega) r5.os r5.tape r5.output
 exact br.of hrun hmv ⟨by simp,.inr ⟨p,cap,_,Eta.fT,rfl,hfit,hroom,.inr rfl⟩⟩;refine o9 (n:=n) R hu hts hd hi hz hzl h1 hsrc hm hcm hl0 hl hk hpre hold (fun w' hw'=>?_) (by omega) hby h63;have Ya:olds.length=av.length:=by rw[hold.1,hpre.len]
 by_cases h0:av.length=0;have:olds=[]:=List.length_eq_zero_iff.1 (by omega);subst this;rw[h0];simp[Builtin.firstCells,loadCells,loadCellsFrom];have hca:ad=⟨pl.block,pl.off,none⟩:=by
  rcases hca with h|h;omega;exact h
 subst hca;have:=rP (P:=P) (w:=w) (w':=w') hcell hw';rw[Ya] at this;simp[Builtin.firstCells,this]
theorem Fa(R:St base η Z S w){t ts ty el:TypeId}{i:TypeInfo}{d:TypeDesc}{z:List W}(hu:P.underlying t=some (.slice el))(hts:P.underlying ts=some d)(hd:∀ k,d≠.int k)(hi:P.info? el=some i)(hz:jz P el=some z)(hzl:z.length=i.size)(h1:i.size=1)
 {uy:Value} {m k:Nat} {om:Ob} {l l0:List Int} {ro:Nat} (hsrc:Src P η Z w uy 1 [.sl m ro k 1]) (hm:S.get m=some om) (hcm:om.cells=l0.map (W.int .i64)) (hl0:l=l0.drop ro) (hl:l.length=k) (hk:0<k∨0<l0.length)
 (hby:i.bytes<=140737488355328) :
 br P base η Z S w (do pure (Next.value (<-Builtin.append_ #[t,ts] ty #[.slice none 0 0,uy]))) (.p (.c (.sl S.next 0 1 1))) ((S.del m).add ⟨el,[.c (.th k [l])]⟩):=by
 have g:=o9 (ty:=ty) (ad:=none) (cap:=0) (olds:=[]) (n:=S.next) (av:=[]) (rs:=[]) (b0:=w.heap.size) R hu hts hd hi hz hzl h1 hsrc hm hcm hl0 hl hk ⟨rfl,by simp,by simp,by simp,.inl rfl⟩ ⟨rfl,by simp⟩ (fun w' _=>by simp[Builtin.firstCells]) (by simp) (by simpa using hby) (by simp);refine g.alike ⟨⟨rfl,rfl⟩,fun j=>?_⟩;have e1:∀ j,(((S.del S.next).del m).add ⟨el,[.c (.th k [l])]⟩).get j=if j=S.next then some ⟨el,[.c (.th k [l])]⟩ else((S.del S.next).del m).get j:=fun j=>af.fB ((R.del _).del m).eX
 have e2:∀ j,((S.del m).add ⟨el,[.c (.th k [l])]⟩).get j=if j=S.next then some ⟨el,[.c (.th k [l])]⟩ else(S.del m).get j:=fun j=>af.fB (R.del m).eX
 show match (((S.del S.next).del m).add ⟨el,[.c (.th k [l])]⟩).get j,((S.del m).add ⟨el,[.c (.th k [l])]⟩).get j with|none,none=>True|some o,some o'=>o'.ty=o.ty/\o'.cells=o.cells|_,_=>False
 rw[e1,e2];by_cases hj:j=S.next
 rw[if_pos hj,if_pos hj];exact⟨rfl,rfl⟩;rw[if_neg hj,if_neg hj,af.ia,af.ia,af.ia];rw[if_neg hj];by_cases hjm:j=m;rw[if_pos hjm];trivial;rw[if_neg hjm];cases S.get j with
 | none=>trivial
 | some x=>exact⟨rfl,rfl⟩
end
end Go.aU
