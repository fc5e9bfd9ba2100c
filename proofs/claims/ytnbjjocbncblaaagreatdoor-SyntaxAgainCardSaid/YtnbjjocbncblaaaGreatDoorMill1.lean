/- A verified evaluator for the model, first part. It holds for every program and every world, under the hypotheses that each theorem names. -/
import Derived.RangeFuncLeaves
import Derived.Below
import Derived.Laws.IdiomCopy
import Derived.WalkKit
import Derived.Laws.MakeOwn
import Derived.Lib.AppendZeros
import Derived.Laws.BytesString
import Derived.Lib.UnsafeStr
import Derived.RangeFuncRecord
import Derived.MapKept
namespace Go.ah
open Go.RowKit
noncomputable def sel{α:Type}(b:Bool)(x y:α):α:=@Bool.rec (fun _=>α) y x b
theorem xq{α:Type}(b:Bool)(x y:α):sel b x y=if b=true then x else y:=by cases b<;>rfl
theorem ay{α:Type}{c:Bool}{x:Option α}{y:α}(e:(bif c then x else none)=some y):c=true/\x=some y:=by
 cases c;cases e;exact⟨rfl,e⟩
inductive T(α:Type) where
 | leaf
 | node (l:T α) (v:Option α) (r:T α)
namespace T
variable {α:Type}
noncomputable def get(t:T α):Nat->Option α :=
 T.rec (fun _=>none) (fun _ v _ ihl ihr n=>sel (Nat.beq n 0) v (sel (Nat.beq (Nat.mod n 2) 1) (ihl (Nat.div n 2)) (ihr (Nat.sub (Nat.div n 2) 1)))) t
noncomputable def tF(f:Nat):T α->Nat->Option α->T α :=
 Nat.rec (fun t _ _=>t) (fun _ ih t n a=>T.rec
  (sel (Nat.beq n 0) (node leaf a leaf) (sel (Nat.beq (Nat.mod n 2) 1) (node (ih leaf (Nat.div n 2) a) none leaf) (node leaf none (ih leaf (Nat.sub (Nat.div n 2) 1) a))))
  (fun l v r _ _=>sel (Nat.beq n 0) (node l a r) (sel (Nat.beq (Nat.mod n 2) 1) (node (ih l (Nat.div n 2) a) v r) (node l v (ih r (Nat.sub (Nat.div n 2) 1) a)))) t) f
noncomputable def put(t:T α)(n:Nat)(a:Option α):T α:=tF (Nat.succ n) t n a
noncomputable def set(t:T α)(n:Nat)(a:α):T α:=put t n (some a)
theorem mW(n:Nat):(leaf:T α).get n=none:=rfl
theorem mX(l:T α)(v:Option α)(r:T α)(n:Nat) :
 (node l v r).get n=if n=0 then v else if n%2=1 then l.get (n/2) else r.get (n/2-1):=by
 show sel (Nat.beq n 0) v (sel (Nat.beq (n%2) 1) (l.get (n/2)) (r.get (n/2-1)))=_;rw[xq,xq];simp only[Nat.beq_eq]
theorem S7(f n:Nat)(a:Option α):tF (f+1) leaf n a =
 if n=0 then node leaf a leaf else if n%2=1 then node (tF f leaf (n/2) a) none leaf else node leaf none (tF f leaf (n/2-1) a):=by
 show sel (Nat.beq n 0) (node leaf a leaf) (sel (Nat.beq (n%2) 1) (node (tF f leaf (n/2) a) none leaf) (node leaf none (tF f leaf (n/2-1) a)))=_;rw[xq,xq];simp only[Nat.beq_eq]
theorem S8(f n:Nat)(a:Option α)(l:T α)(v:Option α)(r:T α):tF (f+1) (node l v r) n a =
 if n=0 then node l a r else if n%2=1 then node (tF f l (n/2) a) v r else node l v (tF f r (n/2-1) a):=by
 show sel (Nat.beq n 0) (node l a r) (sel (Nat.beq (n%2) 1) (node (tF f l (n/2) a) v r) (node l v (tF f r (n/2-1) a)))=_;rw[xq,xq];simp only[Nat.beq_eq]
theorem WN(f : Nat) : ∀(t : T α)(n m : Nat)(a : Option α), n < f → (tF f t n a).get m = if m = n then a else t.get m := by
 induction f with
 | zero=>intro t n m a h;omega
 | succ f ih =>
   intro t n m a h;cases t with
   | leaf =>
     rw[S7];by_cases h0:n=0;subst h0;rw[if_pos rfl,mX,mW,mW,mW];split<;>simp_all;rw[if_neg h0];by_cases h1:n%2=1;rw[if_pos h1,mX,ih _ _ _ _ (by omega),mW,mW];by_cases m0:m=0;subst m0;rw[if_pos rfl,if_neg (by omega)];rfl;rw[if_neg m0];by_cases m1:m%2=1;rw[if_pos m1];by_cases e:m=n;rw[if_pos e,if_pos (by omega)];rw[if_neg e,if_neg (by omega)];rfl;rw[if_neg m1,if_neg (by intro e;subst e;exact m1 h1)];rfl;rw[if_neg h1,mX,ih _ _ _ _ (by omega),mW,mW];by_cases m0:m=0;subst m0;rw[if_pos rfl,if_neg (by omega)];rfl;rw[if_neg m0];by_cases m1:m%2=1;rw[if_pos m1,if_neg (by intro e;subst e;exact h1 m1)];rfl;rw[if_neg m1];by_cases e:m=n;rw[if_pos e,if_pos (by omega)];rw[if_neg e,if_neg (by omega)];rfl
   | node l v r =>
     rw[S8];by_cases h0:n=0;subst h0;rw[if_pos rfl,mX,mX];split<;>simp_all;rw[if_neg h0];by_cases h1:n%2=1;rw[if_pos h1,mX,mX,ih _ _ _ _ (by omega)];by_cases m0:m=0;subst m0;rw[if_pos rfl,if_neg (by omega),if_pos rfl];rw[if_neg m0,if_neg m0];by_cases m1:m%2=1;rw[if_pos m1,if_pos m1];by_cases e:m=n;rw[if_pos e,if_pos (by omega)];rw[if_neg e,if_neg (by omega)];rw[if_neg m1,if_neg m1,if_neg (by intro e;subst e;exact m1 h1)];rw[if_neg h1,mX,mX,ih _ _ _ _ (by omega)];by_cases m0:m=0;subst m0;rw[if_pos rfl,if_neg (by omega),if_pos rfl];rw[if_neg m0,if_neg m0];by_cases m1:m%2=1;rw[if_pos m1,if_pos m1,if_neg (by intro e;subst e;exact h1 m1)];rw[if_neg m1,if_neg m1];by_cases e:m=n;rw[if_pos e,if_pos (by omega)];rw[if_neg e,if_neg (by omega)]
theorem j3(t:T α)(n m:Nat)(a:Option α):(t.put n a).get m=if m=n then a else t.get m:=WN _ _ _ _ _ (Nat.lt_succ_self n)
theorem nJ(t:T α)(n m:Nat)(a:α):(t.set n a).get m=if m=n then some a else t.get m:=j3 _ _ _ _
end T
noncomputable def T.yG{α:Type}(t:T α)(i:Nat)(l:List α):T α:=List.rec (fun t _=>t) (fun a _ ih t i=>ih (t.set i a) (Nat.succ i)) l t i
noncomputable def T.ofList{α:Type}(l:List α):T α:=T.yG .leaf 0 l
theorem T.xu{α:Type}:∀(l:List α)(t:T α)(i j:Nat),(T.yG t i l).get j=if j<i then t.get j else match l[j-i]? with|some a=>some a|none=>t.get j
 | [],t,i,j=>by show t.get j=_;simp
 | a :: l, t, i, j => by
   show (T.yG (t.set i a) (i+1) l).get j=_;rw[T.xu l,T.nJ];by_cases h1:j<i;rw[if_pos (by omega),if_neg (by omega),if_pos h1];rw[if_neg h1];by_cases h2:j=i;subst h2;rw[if_pos (by omega),if_pos rfl];simp;rw[if_neg (by omega),if_neg h2];have e:j-i=(j-(i+1))+1:=by omega
   rw[e];simp
theorem T.bH{α:Type}(l:List α)(j:Nat):(T.ofList l).get j=l[j]?:=by
 rw[T.ofList,T.xu,if_neg (by omega)];simp only[Nat.sub_zero];split;rename_i a e;rw[e];rename_i e;rw[e];rfl
theorem heap_setCell{w:World}{bk off:Nat}{v:Value}{c:Array Value}{e:TypeId}{fz:Nat×Nat}(h:w.heap[bk]? = some (.cells c e fz)) :
 (w.setCell ⟨bk,off,none⟩ v).heap[bk]? = some (.cells (c.setIfInBounds off v) e fz):=by
 simp[World.setCell,Array.getElem?_modify,h]
theorem je{base bk:Nat}(hb:base<=bk):∀(vs:List Value)(o:Nat)(w:World),Below base w (w.setCells bk o vs)
 | [],_,w=>Below.refl _ w
 | v::r,o,w=>((Below.refl base w).setCell (p:=⟨bk,o,none⟩) hb v).trans (je hb r (o+1) _)
def wJ(l:List Value)(off:Nat):List Value->List Value
 | []=>l
 | c::cs=>wJ (l.set off c) (off+1) cs
theorem vF(off:Nat):∀(vs:List Value)(k:Nat)(cells:Array Value),((vs.zipIdx k).foldl (fun(cs:Array Value) (x:Value×Nat)=>cs.setIfInBounds (off+x.2) x.1) cells).toList=wJ cells.toList (off+k) vs
 | [],_,_=>rfl
 | v::vs,k,cells=>by
   simp only[List.zipIdx_cons,List.foldl_cons];rw[vF off vs (k+1)];simp[wJ,Array.toList_setIfInBounds,Nat.add_assoc]
theorem Dc:∀(vs:List Value)(l:List Value)(off:Nat),(wJ l off vs).length=l.length
 | [],_,_=>rfl
 | v::vs,l,off=>by simp[wJ,Dc vs]
theorem qM{P:Program}(w:World){t ts el ty:TypeId}{i:TypeInfo}{z:Value}{d:TypeDesc}(hu:P.underlying t=some (.slice el))(hts:P.underlying ts=some d)(hd:∀ k,d≠.int k)(hi:P.info? el=some i)(hz:i.zero=some z)
 {b:Option Addr} {sLen sCap m:Nat} {u:Value} {olds news:List Value} (hold:(Builtin.firstCells i.size sLen (.slice b sLen sCap)).run P w.drew=.ok olds.toArray w.drew)
 (bE:(Builtin.lenOf u).run P w=.ok m w) (hnew:(Builtin.firstCells i.size m u).run P w.drew=.ok news.toArray w.drew) (hg:sCap<sLen+m) (h63:sLen+m<=140737488355328) (hby:(sLen+m)*i.bytes<=140737488355328) :
 (Builtin.append_ #[t,ts] ty #[.slice b sLen sCap,u]).run P w=.ok (.slice (some ⟨w.heap.size,0,none⟩) (sLen+m) (grownCap w (sLen+m) sCap el))
  (w.drew.alloc (.cells (olds.toArray++news.toArray++Builtin.zeroCells z.cells (grownCap w (sLen+m) sCap el-(sLen+m))) el)):=by
 have hn:¬(sLen+m<=sCap):=by omega
 have h63':¬(9223372036854775807<((sLen:Int)+(m:Int))):=by omega
 have h48':¬(281474976710656<Builtin.nextslicecap (sLen+m) sCap*i.bytes):=by have:=growslice_fits hg hby;omega
 simp[Builtin.append_,run_underlying hu,run_underlying hts,sizeOf,typeInfo,zeroValue,hi,hz,bE,hn,h63',h48',Question.forced,hold,hnew,newRow,grownCap];congr 2;apply Array.ext';simp
theorem vG{P:Program}(w:World){t ts el ty:TypeId}{i:TypeInfo}{d:TypeDesc}(hu:P.underlying t=some (.slice el))(hts:P.underlying ts=some d)(hd:∀ k,d≠.int k)(hi:P.info? el=some i)
 {bk off sLen sCap m:Nat} {u:Value} {news:List Value} (bE:(Builtin.lenOf u).run P w=.ok m w) (hnew:(Builtin.firstCells i.size m u).run P w=.ok news.toArray w) (hroom:sLen+m<=sCap)
 (hc:∀ j,j<news.length->(w.cell? ⟨bk,off+sLen*i.size+j,none⟩).isSome=true) (hf:∀ j,j<news.length->w.frozen? ⟨bk,off+sLen*i.size+j,none⟩=false) (h1:∀ v∈news,v.oneCell'=true) :
 (Builtin.append_ #[t,ts] ty #[.slice (some ⟨bk,off,none⟩) sLen sCap,u]).run P w=.ok (.slice (some ⟨bk,off,none⟩) (sLen+m) sCap) (w.setCells bk (off+sLen*i.size) news):=by
 have hst:=run_storeCells_cells (P:=P) bk (off+sLen*i.size) news 0 w (by simpa using hc) (by simpa using hf) h1;simp only[Nat.add_zero] at hst;simp[Builtin.append_,run_underlying hu,run_underlying hts,sizeOf,typeInfo,hi,bE,hroom,hnew,Addr.add_lit,hst]
theorem lM{bk:Nat}{e:TypeId}{fz:Nat×Nat}:∀(vs:List Value)(o:Nat)(w:World)(c:Array Value),w.heap[bk]? = some (.cells c e fz)->
 ∃ c',(w.setCells bk o vs).heap[bk]? = some (.cells c' e fz)/\c'.size=c.size/\(∀ k,(k<o∨o+vs.length<=k)->c'[k]? = c[k]?)/\(∀ j,j<vs.length->o+j<c.size->c'[o+j]? = vs[j]?)
 | [],o,w,c,h=>⟨c,h,rfl,fun _ _=>rfl,fun j hj=>by simp at hj⟩
 | v :: vs, o, w, c, h => by
   obtain⟨c',h1,h2,h3,h4⟩:=lM vs (o+1) (w.setCell ⟨bk,o,none⟩ v) _ (heap_setCell (off:=o) (v:=v) h);refine⟨c',h1,by simpa using h2,?_,?_⟩;intro k hk;simp only[List.length_cons] at hk;rw[h3 k (by omega),Array.getElem?_setIfInBounds_ne (by omega)];intro j hj hs;cases j with
   | zero =>
     rw[Nat.add_zero,h3 o (by omega),Array.getElem?_setIfInBounds_self_of_lt (by omega)];rfl
   | succ j =>
     simp only[List.length_cons] at hj;rw[show o+(j+1)=o+1+j by omega,h4 j (by omega) (by simp;omega)];simp
theorem gT{bk k:Nat}(hk:k≠bk):∀(vs:List Value)(o:Nat)(w:World),(w.setCells bk o vs).heap[k]? = w.heap[k]?
 | [],_,_=>rfl
 | v::vs,o,w=>(gT hk vs (o+1) _).trans (Below.heap_setCell w _ v k hk)
theorem lN{bk:Nat}:∀(vs:List Value)(o:Nat)(w:World),(w.setCells bk o vs).heap.size=w.heap.size
 | [],_,_=>rfl
 | v::vs,o,w=>(lN vs (o+1) _).trans (by simp[World.setCell])
noncomputable def Oa(l:List Int):ByteArray:=⟨⟨l.map fun n=>UInt8.ofNat n.toNat⟩⟩
theorem Qu(l:List Int):Oa l=l.foldl (fun r n=>r.push (UInt8.ofNat n.toNat)) ByteArray.empty:=by
 have:∀(l:List Int)(r:ByteArray),(l.foldl (fun r n=>r.push (UInt8.ofNat n.toNat)) r).data.toList=r.data.toList++l.map fun n=>UInt8.ofNat n.toNat:=by
  intro l
  induction l with
  | nil=>intro r;simp
  | cons n l ih=>intro r;simp only[List.foldl_cons];rw[ih];simp[ByteArray.push]
 have h:=this l ByteArray.empty;apply ByteArray.ext;apply Array.ext';rw[h];simp[Oa]
theorem wK{k:Nat}{w:World}{ob:Obj}(hk:k<w.heap.size):(w.putObj k ob).heap[k]? = some ob:=by
 simp only[World.putObj];rw[Array.getElem?_setIfInBounds_self_of_lt hk]
noncomputable def Ar(a:List UInt8):List UInt8->Bool :=
 List.rec (motive:=fun _=>List UInt8->Bool) (fun b=>match b with | []=>true|_::_=>false)
  (fun x _ ih b=>match b with | []=>false|y::t=>bif Nat.beq x.toNat y.toNat then ih t else false) a
theorem Au:∀{a b:List UInt8},Ar a b=true->a=b
 | [],[],_=>rfl
 | [],_::_,h=>by cases h
 | _::_,[],h=>by cases h
 | x :: a, y :: b, h => by
   have h':(bif Nat.beq x.toNat y.toNat then Ar a b else false)=true:=h;by_cases hx:Nat.beq x.toNat y.toNat=true;rw[hx] at h';have:=Au (a:=a) (b:=b) h';have hxy:x=y:=UInt8.toNat_inj.1 (by simpa[Nat.beq_eq] using hx);rw[this,hxy];simp[hx] at h'
theorem wM:∀(a:List UInt8),Ar a a=true
 | []=>rfl
 | x::a=>by
   show (bif Nat.beq x.toNat x.toNat then Ar a a else false)=true;rw[wM a];simp
theorem WO{a b:ByteArray}:Ar a.data.toList b.data.toList=(a==b):=by
 show _=(a.data==b.data);rw[Bool.eq_iff_iff,beq_iff_eq];constructor;intro h;exact Array.toList_inj.1 (Au h);intro h;rw[h];exact wM _
noncomputable def plainKey:TypeDesc->Bool
 | .int _=>true
 | .string=>true
 | _=>false
theorem mB{P:Program}(w:World){kt:TypeId}{d:TypeDesc}(hd:P.underlying kt=some d)(hp:plainKey d=true)(b:Bool)(v:Value):(Instr.checkKey b 10000 kt v).run P w=.ok () w:=by
 unfold plainKey at hp;split at hp;rw[show (10000:Nat)=9999+1 from rfl,Instr.checkKey];simp only[Sem.run_bind,run_underlying hd,Result.andThen_ok,Sem.run_pure];rw[show (10000:Nat)=9999+1 from rfl,Instr.checkKey];simp only[Sem.run_bind,run_underlying hd,Result.andThen_ok,Sem.run_pure];cases hp
theorem nK{P:Program}(w:World){kt:TypeId}{d:TypeDesc}(hd:P.underlying kt=some d){k:Value}{es:List MapEntry}{r:Option (Nat×Value)}(h:Instr.findNow d k es 0=some r):(Instr.findKey kt k es).run P w=.ok r w:=by
 simp[Instr.findKey,run_underlying hd,h]
theorem Qw{P:Program}{w:World}{t:TypeId}{d:TypeDesc}(hu:P.underlying t=some d)(hd:∀ ms,d≠.interface ms)(xt:TypeId)(ok:Bool) :
 (∀ v,(Instr.typeAssert (.iface t v) xt t ok).run P w=.ok (if ok then .tuple #[v,.bool true] else v) w)/\
 (∀ t' v z,t'≠t->(zeroValue t).run P w=.ok z w->(Instr.typeAssert (.iface t' v) xt t true).run P w=.ok (.tuple #[z,.bool false]) w)/\
 (∀ z,(zeroValue t).run P w=.ok z w->(Instr.typeAssert .nilIface xt t true).run P w=.ok (.tuple #[z,.bool false]) w):=by
 refine⟨fun v=>?_,fun t' v z hne hz=>?_,fun z hz=>?_⟩;unfold Instr.typeAssert;simp only[Sem.run_bind,run_underlying hu,Result.andThen_ok];cases d<;>first|exact absurd rfl (hd _)|(cases ok<;>simp)
 unfold Instr.typeAssert;simp only[Sem.run_bind,run_underlying hu,Result.andThen_ok];cases d<;>first|exact absurd rfl (hd _)|simp[hne,hz]
 unfold Instr.typeAssert;simp only[Sem.run_bind,run_underlying hu,Result.andThen_ok];cases d<;>first|exact absurd rfl (hd _)|simp[hz]
end Go.ah
