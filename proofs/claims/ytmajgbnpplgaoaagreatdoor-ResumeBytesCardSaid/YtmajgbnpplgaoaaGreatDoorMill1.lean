/- A verified evaluator for the model: the parts that are used. It holds for every program and every world, under the hypotheses that each theorem names. -/
import Derived.RangeFuncLeaves
import Derived.Below
import Derived.Laws.IdiomCopy
import Derived.WalkKit
import Derived.Laws.MakeOwn
import Derived.Lib.AppendZeros
import Derived.Laws.BytesString
import Derived.Lib.UnsafeStr
import Derived.RangeFuncRecord
import Derived.MapKept
import Derived.RangeFuncCalls
import Derived.RecoverIn
import Derived.ProofKit
namespace Go.au
open Go.RowKit
noncomputable def sel {α:Type} (b:Bool) (x y:α):α:=@Bool.rec (fun _=>α) y x b
theorem uL {α:Type} (b:Bool) (x y:α):sel b x y=if b=true then x else y:=by cases b <;> rfl
theorem aH {α:Type} {c:Bool} {x:Option α} {y:α} (e:(bif c then x else none)=some y):c=true/\x=some y:=by
 cases c
 . cases e
 . exact ⟨rfl,e⟩
inductive T (α:Type) where
 | leaf
 | node (l:T α) (v:Option α) (r:T α)
namespace T
variable {α:Type}
noncomputable def get (t:T α):Nat->Option α :=
 T.rec (fun _=>none) (fun _ v _ ihl ihr n=>sel (Nat.beq n 0) v (sel (Nat.beq (Nat.mod n 2) 1) (ihl (Nat.div n 2)) (ihr (Nat.sub (Nat.div n 2) 1)))) t
noncomputable def rB (f:Nat):T α->Nat->Option α->T α :=
 Nat.rec (fun t _ _=>t) (fun _ ih t n a=>T.rec
  (sel (Nat.beq n 0) (node leaf a leaf) (sel (Nat.beq (Nat.mod n 2) 1) (node (ih leaf (Nat.div n 2) a) none leaf) (node leaf none (ih leaf (Nat.sub (Nat.div n 2) 1) a))))
  (fun l v r _ _=>sel (Nat.beq n 0) (node l a r) (sel (Nat.beq (Nat.mod n 2) 1) (node (ih l (Nat.div n 2) a) v r) (node l v (ih r (Nat.sub (Nat.div n 2) 1) a)))) t) f
noncomputable def put (t:T α) (n:Nat) (a:Option α):T α:=rB (Nat.succ n) t n a
noncomputable def set (t:T α) (n:Nat) (a:α):T α:=put t n (some a)
theorem lu (n:Nat):(leaf:T α).get n=none:=rfl
theorem lA (l:T α) (v:Option α) (r:T α) (n:Nat) :
 (node l v r).get n=if n=0 then v else if n % 2=1 then l.get (n / 2) else r.get (n / 2-1):=by
 show sel (Nat.beq n 0) v (sel (Nat.beq (n % 2) 1) (l.get (n / 2)) (r.get (n / 2-1)))=_
 rw [uL,uL]
 simp only [Nat.beq_eq]
theorem Q9 (f n:Nat) (a:Option α):rB (f+1) leaf n a =
 if n=0 then node leaf a leaf else if n % 2=1 then node (rB f leaf (n / 2) a) none leaf else node leaf none (rB f leaf (n / 2-1) a):=by
 show sel (Nat.beq n 0) (node leaf a leaf) (sel (Nat.beq (n % 2) 1) (node (rB f leaf (n / 2) a) none leaf) (node leaf none (rB f leaf (n / 2-1) a)))=_
 rw [uL,uL]
 simp only [Nat.beq_eq]
theorem Ra (f n:Nat) (a:Option α) (l:T α) (v:Option α) (r:T α):rB (f+1) (node l v r) n a =
 if n=0 then node l a r else if n % 2=1 then node (rB f l (n / 2) a) v r else node l v (rB f r (n / 2-1) a):=by
 show sel (Nat.beq n 0) (node l a r) (sel (Nat.beq (n % 2) 1) (node (rB f l (n / 2) a) v r) (node l v (rB f r (n / 2-1) a)))=_
 rw [uL,uL]
 simp only [Nat.beq_eq]
theorem Vp (f : Nat) : ∀ (t : T α) (n m : Nat) (a : Option α), n < f → (rB f t n a).get m = if m = n then a else t.get m := by
 induction f with
 | zero=>intro t n m a h;omega
 | succ f ih =>
   intro t n m a h
   cases t with
   | leaf =>
     rw [Q9]
     by_cases h0:n=0
     . subst h0
       rw [if_pos rfl,lA,lu,lu,lu]
       split <;> simp_all
     . rw [if_neg h0]
       by_cases h1:n % 2=1
       . rw [if_pos h1,lA,ih _ _ _ _ (by omega),lu,lu]
         by_cases m0:m=0
         . subst m0;rw [if_pos rfl,if_neg (by omega)];rfl
         . rw [if_neg m0]
           by_cases m1:m % 2=1
           . rw [if_pos m1]
             by_cases e:m=n
             . rw [if_pos e,if_pos (by omega)]
             . rw [if_neg e,if_neg (by omega)];rfl
           . rw [if_neg m1,if_neg (by intro e;subst e;exact m1 h1)];rfl
       . rw [if_neg h1,lA,ih _ _ _ _ (by omega),lu,lu]
         by_cases m0:m=0
         . subst m0;rw [if_pos rfl,if_neg (by omega)];rfl
         . rw [if_neg m0]
           by_cases m1:m % 2=1
           . rw [if_pos m1,if_neg (by intro e;subst e;exact h1 m1)];rfl
           . rw [if_neg m1]
             by_cases e:m=n
             . rw [if_pos e,if_pos (by omega)]
             . rw [if_neg e,if_neg (by omega)];rfl
   | node l v r =>
     rw [Ra]
     by_cases h0:n=0
     . subst h0
       rw [if_pos rfl,lA,lA]
       split <;> simp_all
     . rw [if_neg h0]
       by_cases h1:n % 2=1
       . rw [if_pos h1,lA,lA,ih _ _ _ _ (by omega)]
         by_cases m0:m=0
         . subst m0;rw [if_pos rfl,if_neg (by omega),if_pos rfl]
         . rw [if_neg m0,if_neg m0]
           by_cases m1:m % 2=1
           . rw [if_pos m1,if_pos m1]
             by_cases e:m=n
             . rw [if_pos e,if_pos (by omega)]
             . rw [if_neg e,if_neg (by omega)]
           . rw [if_neg m1,if_neg m1,if_neg (by intro e;subst e;exact m1 h1)]
       . rw [if_neg h1,lA,lA,ih _ _ _ _ (by omega)]
         by_cases m0:m=0
         . subst m0;rw [if_pos rfl,if_neg (by omega),if_pos rfl]
         . rw [if_neg m0,if_neg m0]
           by_cases m1:m % 2=1
           . rw [if_pos m1,if_pos m1,if_neg (by intro e;subst e;exact h1 m1)]
           . rw [if_neg m1,if_neg m1]
             by_cases e:m=n
             . rw [if_pos e,if_pos (by omega)]
             . rw [if_neg e,if_neg (by omega)]
theorem iW (t:T α) (n m:Nat) (a:Option α):(t.put n a).get m=if m=n then a else t.get m:=Vp _ _ _ _ _ (Nat.lt_succ_self n)
theorem ow (t:T α) (n m:Nat) (a:α):(t.set n a).get m=if m=n then some a else t.get m:=iW _ _ _ _
end T
noncomputable def T.vR {α:Type} (t:T α) (i:Nat) (l:List α):T α:=List.rec (fun t _=>t) (fun a _ ih t i=>ih (t.set i a) (Nat.succ i)) l t i
noncomputable def T.ofList {α:Type} (l:List α):T α:=T.vR .leaf 0 l
theorem T.uM {α:Type}:∀ (l:List α) (t:T α) (i j:Nat),(T.vR t i l).get j=if j<i then t.get j else match l[j-i]? with | some a=>some a | none=>t.get j
 | [],t,i,j=>by show t.get j=_;simp
 | a :: l, t, i, j => by
   show (T.vR (t.set i a) (i+1) l).get j=_
   rw [T.uM l,T.ow]
   by_cases h1:j<i
   . rw [if_pos (by omega),if_neg (by omega),if_pos h1]
   . rw [if_neg h1]
     by_cases h2:j=i
     . subst h2;rw [if_pos (by omega),if_pos rfl];simp
     . rw [if_neg (by omega),if_neg h2]
       have e:j-i=(j-(i+1))+1:=by omega
       rw [e];simp
theorem T.aU {α:Type} (l:List α) (j:Nat):(T.ofList l).get j=l[j]?:=by
 rw [T.ofList,T.uM,if_neg (by omega)]
 simp only [Nat.sub_zero]
 split
 . rename_i a e;rw [e]
 . rename_i e;rw [e];rfl
theorem heap_setCell {w:World} {bk off:Nat} {v:Value} {c:Array Value} {e:TypeId} {fz:Nat×Nat} (h:w.heap[bk]? = some (.cells c e fz)) :
 (w.setCell ⟨bk,off,none⟩ v).heap[bk]? = some (.cells (c.setIfInBounds off v) e fz):=by
 simp [World.setCell,Array.getElem?_modify,h]
theorem ij {base bk:Nat} (hb:base<=bk):∀ (vs:List Value) (o:Nat) (w:World),Below base w (w.setCells bk o vs)
 | [],_,w=>Below.refl _ w
 | v::r,o,w=>((Below.refl base w).setCell (p:=⟨bk,o,none⟩) hb v).trans (ij hb r (o+1) _)
def uh (l:List Value) (off:Nat):List Value->List Value
 | []=>l
 | c::cs=>uh (l.set off c) (off+1) cs
theorem tj (off:Nat):∀ (vs:List Value) (k:Nat) (cells:Array Value),((vs.zipIdx k).foldl (fun (cs:Array Value) (x:Value×Nat)=>cs.setIfInBounds (off+x.2) x.1) cells).toList=uh cells.toList (off+k) vs
 | [],_,_=>rfl
 | v::vs,k,cells=>by
   simp only [List.zipIdx_cons,List.foldl_cons]
   rw [tj off vs (k+1)]
   simp [uh,Array.toList_setIfInBounds,Nat.add_assoc]
theorem AL:∀ (vs:List Value) (l:List Value) (off:Nat),(uh l off vs).length=l.length
 | [],_,_=>rfl
 | v::vs,l,off=>by simp [uh,AL vs]
theorem oP {P:Program} (w:World) {t ts el ty:TypeId} {i:TypeInfo} {z:Value} {d:TypeDesc} (hu:P.underlying t=some (.slice el)) (hts:P.underlying ts=some d) (hd:∀ k,d≠.int k) (hi:P.info? el=some i) (hz:i.zero=some z)
 {b:Option Addr} {sLen sCap m:Nat} {u:Value} {olds news:List Value} (hold:(Builtin.firstCells i.size sLen (.slice b sLen sCap)).run P w.drew=.ok olds.toArray w.drew)
 (cB:(Builtin.lenOf u).run P w=.ok m w) (hnew:(Builtin.firstCells i.size m u).run P w.drew=.ok news.toArray w.drew) (hg:sCap<sLen+m) (h63:sLen+m<=140737488355328) (hby:(sLen+m)*i.bytes<=140737488355328) :
 (Builtin.append_ #[t,ts] ty #[.slice b sLen sCap,u]).run P w=.ok (.slice (some ⟨w.heap.size,0,none⟩) (sLen+m) (grownCap w (sLen+m) sCap el))
  (w.drew.alloc (.cells (olds.toArray++news.toArray++Builtin.zeroCells z.cells (grownCap w (sLen+m) sCap el-(sLen+m))) el)):=by
 have hn:¬ (sLen+m<=sCap):=by omega
 have h63':¬ (9223372036854775807<((sLen:Int)+(m:Int))):=by omega
 have h48':¬ (281474976710656<Builtin.nextslicecap (sLen+m) sCap*i.bytes):=by have:=growslice_fits hg hby;omega
 simp [Builtin.append_,run_underlying hu,run_underlying hts,sizeOf,typeInfo,zeroValue,hi,hz,cB,hn,h63',h48',Question.forced,hold,hnew,newRow,grownCap]
 congr 2
 apply Array.ext'
 simp
theorem tu {P:Program} (w:World) {t ts el ty:TypeId} {i:TypeInfo} {d:TypeDesc} (hu:P.underlying t=some (.slice el)) (hts:P.underlying ts=some d) (hd:∀ k,d≠.int k) (hi:P.info? el=some i)
 {bk off sLen sCap m:Nat} {u:Value} {news:List Value} (cB:(Builtin.lenOf u).run P w=.ok m w) (hnew:(Builtin.firstCells i.size m u).run P w=.ok news.toArray w) (hroom:sLen+m<=sCap)
 (hc:∀ j,j<news.length->(w.cell? ⟨bk,off+sLen*i.size+j,none⟩).isSome=true) (hf:∀ j,j<news.length->w.frozen? ⟨bk,off+sLen*i.size+j,none⟩=false) (h1:∀ v∈news,v.oneCell'=true) :
 (Builtin.append_ #[t,ts] ty #[.slice (some ⟨bk,off,none⟩) sLen sCap,u]).run P w=.ok (.slice (some ⟨bk,off,none⟩) (sLen+m) sCap) (w.setCells bk (off+sLen*i.size) news):=by
 have hst:=run_storeCells_cells (P:=P) bk (off+sLen*i.size) news 0 w (by simpa using hc) (by simpa using hf) h1
 simp only [Nat.add_zero] at hst
 simp [Builtin.append_,run_underlying hu,run_underlying hts,sizeOf,typeInfo,hi,cB,hroom,hnew,Addr.add_lit,hst]
theorem kg {bk:Nat} {e:TypeId} {fz:Nat×Nat}:∀ (vs:List Value) (o:Nat) (w:World) (c:Array Value),w.heap[bk]? = some (.cells c e fz)->
 ∃ c',(w.setCells bk o vs).heap[bk]? = some (.cells c' e fz)/\c'.size=c.size/\(∀ k,(k<o∨o+vs.length<=k)->c'[k]? = c[k]?)/\(∀ j,j<vs.length->o+j<c.size->c'[o+j]? = vs[j]?)
 | [],o,w,c,h=>⟨c,h,rfl,fun _ _=>rfl,fun j hj=>by simp at hj⟩
 | v :: vs, o, w, c, h => by
   obtain ⟨c',h1,h2,h3,h4⟩:=kg vs (o+1) (w.setCell ⟨bk,o,none⟩ v) _ (heap_setCell (off:=o) (v:=v) h)
   refine ⟨c',h1,by simpa using h2,?_,?_⟩
   . intro k hk
     simp only [List.length_cons] at hk
     rw [h3 k (by omega),Array.getElem?_setIfInBounds_ne (by omega)]
   . intro j hj hs
     cases j with
     | zero =>
       rw [Nat.add_zero,h3 o (by omega),Array.getElem?_setIfInBounds_self_of_lt (by omega)]
       rfl
     | succ j =>
       simp only [List.length_cons] at hj
       rw [show o+(j+1)=o+1+j by omega,h4 j (by omega) (by simp;omega)]
       simp
theorem fW {bk k:Nat} (hk:k≠bk):∀ (vs:List Value) (o:Nat) (w:World),(w.setCells bk o vs).heap[k]? = w.heap[k]?
 | [],_,_=>rfl
 | v::vs,o,w=>(fW hk vs (o+1) _).trans (Below.heap_setCell w _ v k hk)
theorem ko {bk:Nat}:∀ (vs:List Value) (o:Nat) (w:World),(w.setCells bk o vs).heap.size=w.heap.size
 | [],_,_=>rfl
 | v::vs,o,w=>(ko vs (o+1) _).trans (by simp [World.setCell])
noncomputable def Mx (l:List Int):ByteArray:=⟨⟨l.map fun n=>UInt8.ofNat n.toNat⟩⟩
theorem Ox (l:List Int):Mx l=l.foldl (fun r n=>r.push (UInt8.ofNat n.toNat)) ByteArray.empty:=by
 have:∀ (l:List Int) (r:ByteArray),(l.foldl (fun r n=>r.push (UInt8.ofNat n.toNat)) r).data.toList=r.data.toList++l.map fun n=>UInt8.ofNat n.toNat:=by
  intro l
  induction l with
  | nil=>intro r;simp
  | cons n l ih=>intro r;simp only [List.foldl_cons];rw [ih];simp [ByteArray.push]
 have h:=this l ByteArray.empty
 apply ByteArray.ext
 apply Array.ext'
 rw [h]
 simp [Mx]
theorem uj {k:Nat} {w:World} {ob:Obj} (hk:k<w.heap.size):(w.putObj k ob).heap[k]? = some ob:=by
 simp only [World.putObj]
 rw [Array.getElem?_setIfInBounds_self_of_lt hk]
noncomputable def x7 (a:List UInt8):List UInt8->Bool :=
 List.rec (motive:=fun _=>List UInt8->Bool) (fun b=>match b with | []=>true | _::_=>false)
  (fun x _ ih b=>match b with | []=>false | y::t=>bif Nat.beq x.toNat y.toNat then ih t else false) a
theorem x9:∀ {a b:List UInt8},x7 a b=true->a=b
 | [],[],_=>rfl
 | [],_::_,h=>by cases h
 | _::_,[],h=>by cases h
 | x :: a, y :: b, h => by
   have h':(bif Nat.beq x.toNat y.toNat then x7 a b else false)=true:=h
   by_cases hx:Nat.beq x.toNat y.toNat=true
   . rw [hx] at h'
     have:=x9 (a:=a) (b:=b) h'
     have hxy:x=y:=UInt8.toNat_inj.1 (by simpa [Nat.beq_eq] using hx)
     rw [this,hxy]
   . simp [hx] at h'
theorem ul:∀ (a:List UInt8),x7 a a=true
 | []=>rfl
 | x::a=>by
   show (bif Nat.beq x.toNat x.toNat then x7 a a else false)=true
   rw [ul a];simp
theorem Vq {a b:ByteArray}:x7 a.data.toList b.data.toList=(a == b):=by
 show _=(a.data == b.data)
 rw [Bool.eq_iff_iff,beq_iff_eq]
 constructor
 . intro h
   exact Array.toList_inj.1 (x9 h)
 . intro h;rw [h];exact ul _
noncomputable def plainKey:TypeDesc->Bool
 | .int _=>true
 | .string=>true
 | _=>false
theorem kO {P:Program} (w:World) {kt:TypeId} {d:TypeDesc} (hd:P.underlying kt=some d) (hp:plainKey d=true) (b:Bool) (v:Value):(Instr.checkKey b 10000 kt v).run P w=.ok () w:=by
 unfold plainKey at hp
 split at hp
 . rw [show (10000:Nat)=9999+1 from rfl,Instr.checkKey]
   simp only [Sem.run_bind,run_underlying hd,Result.andThen_ok,Sem.run_pure]
 . rw [show (10000:Nat)=9999+1 from rfl,Instr.checkKey]
   simp only [Sem.run_bind,run_underlying hd,Result.andThen_ok,Sem.run_pure]
 . cases hp
theorem lS {P:Program} (w:World) {kt:TypeId} {d:TypeDesc} (hd:P.underlying kt=some d) {k:Value} {es:List MapEntry} {r:Option (Nat×Value)} (h:Instr.findNow d k es 0=some r):(Instr.findKey kt k es).run P w=.ok r w:=by
 simp [Instr.findKey,run_underlying hd,h]
theorem Oy {P:Program} {w:World} {t:TypeId} {d:TypeDesc} (hu:P.underlying t=some d) (hd:∀ ms,d≠.interface ms) (xt:TypeId) (ok:Bool) :
 (∀ v,(Instr.typeAssert (.iface t v) xt t ok).run P w=.ok (if ok then .tuple #[v,.bool true] else v) w)/\
 (∀ t' v z,t'≠t->(zeroValue t).run P w=.ok z w->(Instr.typeAssert (.iface t' v) xt t true).run P w=.ok (.tuple #[z,.bool false]) w)/\
 (∀ z,(zeroValue t).run P w=.ok z w->(Instr.typeAssert .nilIface xt t true).run P w=.ok (.tuple #[z,.bool false]) w):=by
 refine ⟨fun v=>?_,fun t' v z hne hz=>?_,fun z hz=>?_⟩
 . unfold Instr.typeAssert
   simp only [Sem.run_bind,run_underlying hu,Result.andThen_ok]
   cases d <;> first | exact absurd rfl (hd _) | (cases ok <;> simp)
 . unfold Instr.typeAssert
   simp only [Sem.run_bind,run_underlying hu,Result.andThen_ok]
   cases d <;> first | exact absurd rfl (hd _) | simp [hne,hz]
 . unfold Instr.typeAssert
   simp only [Sem.run_bind,run_underlying hu,Result.andThen_ok]
   cases d <;> first | exact absurd rfl (hd _) | simp [hz]
inductive X where
 | normal
 | exit (id:Nat)
 | ret
def X.toExit:X->Exit
 | .normal=>.normal
 | .exit id=>.exit id
 | .ret=>.ret
def cI:Op->Bool
 | .move _ | .assign _ | .pick .. | .build .. | .load .. | .nilCheck _ | .binOp .. | .unOp .. | .makeInterface .. | .makeFunc .. | .slice .. | .fieldAddr .. | .field .. | .indexAddr .. | .index .. | .extract .. => false
 | .call { callee:=.builtin .len,.. } | .call { callee:=.builtin .cap,.. } | .call { callee:=.builtin .min,.. } | .call { callee:=.builtin .max,.. } | .call { callee:=.builtin .unsafeSliceData,.. }=>false
 | .convert .. => true
 | _=>true
def slotsOf (ops:Array Oper) (o:Oper):List Nat :=
 (match o.guard with | some (j,_)=>((ops[j]?).bind (·.dst)).toList | none=>[])++(o.op.operands.toList.filterMap fun | .tmp t=>some t | _=>none)
noncomputable def dZ (l:List Oper) (acc:List Nat):List Nat :=
 List.rec (fun acc=>acc) (fun o _ ih acc=>ih (acc++[o.after.toList.foldl (fun s e=>bif Region.binds .any e then Nat.lor s (Nat.lor (Nat.pow 2 e.on) (acc.getD e.on 0)) else s) 0])) l acc
def bit (m i:Nat):Bool:=Nat.beq (Nat.mod (Nat.div m (Nat.pow 2 i)) 2) 1
def nX (e:Edge):Bool:=match e.ground with | .gcOnly _=>true | _=>false
def Yw (ops:Array Oper) (m:Region.Mode) (l:List Nat):Bool :=
 (l.zipIdx.all fun (i,k)=>match ops[i]? with | some o=>o.after.toList.all fun e=>!(Region.binds m e)||(l.take k).any (Nat.beq e.on ·) | none=>true) &&
 (((List.range ops.size).all fun i=>l.any (Nat.beq i ·))&&l.all fun i=>Nat.blt i ops.size)
noncomputable def pY (ops:Array Oper):Bool :=
 let l:=ops.toList
 let bf:=dZ l []
 let ix:=l.zipIdx
 -- edges go back
 (ix.all fun (o,i)=>o.after.toList.all fun e=>nX e||Nat.blt e.on i) &&
 (bif ops.any (fun o=>o.after.any nX) then Yw ops .gc (Region.linearise .gc ops 0) else true) &&
 -- writers of one slot are in order
 (ix.all fun (o,i)=>ix.all fun (o',j)=>!(Nat.blt i j)||(match o.dst,o'.dst with | some d,some d'=>!(Nat.beq d d')||bit (bf.getD j 0) i | _,_=>true)) &&
 -- readers and writers of one slot are in order
 (ix.all fun (o,i)=>(slotsOf ops o).all fun s=>ix.all fun (o',j)=>match o'.dst with
  | some d=>!(Nat.beq d s)||(Nat.beq i j||(bif Nat.blt j i then bit (bf.getD i 0) j else bit (bf.getD j 0) i))
  | none=>true)
noncomputable def yc (ops:Array Oper):Bool :=
 let bf:=dZ ops.toList []
 let ix:=ops.toList.zipIdx
 pY ops&&(ix.all fun (o,i)=>ix.all fun (o',j)=>!(Nat.blt i j)||(!(cI o.op)||(!(cI o'.op)||bit (bf.getD j 0) i)))
noncomputable def dm (ops:Array Oper) (i:Nat):Nat×Nat :=
 let bf:=dZ ops.toList []
 let ix:=ops.toList.zipIdx
 ((ix.filter fun (o,j)=>cI o.op&&bit (bf.getD i 0) j).length,(ix.filter fun (o,j)=>cI o.op&&!(bit (bf.getD j 0) i)&&!(Nat.beq i j)).length)
def WF (F:Fence):Prop:=F=Fence.wide∨∃ l,F=Fence.wide.inRound l
theorem WF.fn {F:Fence} (h:WF F) (f:FuncId):F.fn f:=by
 rcases h with rfl | ⟨l,rfl⟩ <;> trivial
theorem WF.depth {F:Fence} (h:WF F) {p:Prop}:F.depth.isSome=true->p:=by
 rcases h with rfl | ⟨l,rfl⟩ <;> simp [Fence.wide,Fence.inRound]
theorem WF.calls {F:Fence} (h:WF F) {n:Nat} {P:Program} {f:FuncId} {args:Array Value} {w:World} {R:Ending->World->Prop} (hc:CallsIn Fence.wide n P f args w R):CallsIn F n P f args w R:=by
 rcases h with rfl | ⟨l,rfl⟩
 . exact hc
 . exact hc
theorem WF.rounds {F:Fence} (h:WF F) {n:Nat} {P:Program} {l:Nat} {f:FuncId} {tmps:Array Value} {assign body:Code} {w:World} {R:Ending->World->Prop} (hc:RoundIn Fence.wide n P l f tmps assign body w R):RoundIn F n P l f tmps assign body w R:=by
 rcases h with rfl | ⟨l',rfl⟩
 . exact hc
 . exact hc
def abl (Q:Exit->Act->World->Prop):Exit->Act->World->Prop:=fun e a w=>match e with
 | .goto _=>False
 | e=>Q e a w
theorem lT {P:Program} {b:Frame} {a:Act} {k:List Item} {cs:List Frame} {w:World} {c:Code}:step P (lone (b.atR a (.code (.scope c)::k)) cs w)=.next (lone (b.atR a (.code c::.inScope c::k)) cs w) :=
 step_lone_go (by simp [stepG,stepG.exec,Frame.atR])
theorem Hl {P:Program} {b:Frame} {a:Act} {k:List Item} {cs:List Frame} {w:World} {c:Code}:step P (lone (b.atR a (.inScope c::k)) cs w)=.next (lone (b.atR a k) cs w) :=
 step_lone_go (by simp [stepG,stepG.exec,Frame.atR])
theorem Oz {F:Fence} {n:Nat} {P:Program} {c:Code} {Q:Exit->Act->World->Prop} {a:Act} {w:World} (h:c.wpIn F n P (abl Q) a w):(Code.scope c).wpIn F n P Q a w:=by
 intro b k cs hro hb hr
 have h0:(lone (b.atR a (.code (.scope c)::k)) cs w).fenced P F:=fenced_calm hb hr rfl
 obtain ⟨e,a₁,w₁,hq,harr⟩:=h b (.inScope c::k) cs hro hb hr
 cases e with
 | normal=>exact ⟨.normal,a₁,w₁,hq,.head h0 lT (StepsIn.trans harr (.one (fenced_calm hb hr rfl) Hl))⟩
 | exit id =>
   have hx:exitTo id (.inScope c::k)=exitTo id k:=by simp [exitTo]
   exact ⟨.exit id,a₁,w₁,hq,fun k' hk=>.head h0 lT (harr.1 k' (by rw [hx];exact hk)),
    fun hr' hk=>let ⟨k₁,h1,h2⟩:=harr.2 hr' (by rw [hx];exact hk);⟨k₁,h1,.head h0 lT h2⟩⟩
 | goto l=>exact hq.elim
 | ret=>exact ⟨_,a₁,w₁,hq,.of_steps (.one h0 lT) harr⟩
 | panic ch=>exact ⟨_,a₁,w₁,hq,.of_steps (.one h0 lT) harr⟩
 | outgrown=>exact ⟨_,a₁,w₁,hq,.of_steps (.one h0 lT) harr⟩
theorem Cz (m i:Nat):bit m i=m.testBit i:=by
 rw [Nat.testBit_eq_decide_div_mod_eq]
 unfold bit
 rw [Bool.eq_iff_iff]
 simp only [Nat.beq_eq,decide_eq_true_eq]
 rfl
def zX (acc:List Nat) (s:Nat) (e:Edge):Nat:=bif Region.binds .any e then Nat.lor s (Nat.lor (Nat.pow 2 e.on) (acc.getD e.on 0)) else s
theorem Ia {o:Oper} {l:List Oper} {acc:List Nat}:dZ (o::l) acc=dZ l (acc++[o.after.toList.foldl (zX acc) 0]):=rfl
theorem AO {acc:List Nat}:dZ [] acc=acc:=rfl
theorem Fv (acc:List Nat) (j:Nat):∀ (es:List Edge) (s:Nat),bit (es.foldl (zX acc) s) j=true->bit s j=true∨∃ e∈es,Region.binds .any e=true/\(e.on=j∨bit (acc.getD e.on 0) j=true)
 | [],s,h=>.inl h
 | e :: es, s, h => by
   simp only [List.foldl_cons] at h
   rcases Fv acc j es _ h with h | ⟨e',he,hb,hj⟩
   . unfold zX at h
     by_cases hb:Region.binds .any e=true
     . rw [hb] at h
       simp only [cond_true] at h
       rw [Cz] at h
       have h':(s ||| (2 ^ e.on ||| acc.getD e.on 0)).testBit j=true:=h
       rw [Nat.testBit_or,Nat.testBit_or,Nat.testBit_two_pow,Bool.or_eq_true,Bool.or_eq_true] at h'
       rcases h' with h' | h' | h'
       . exact .inl (by rw [Cz];exact h')
       . exact .inr ⟨e,by simp,hb,.inl (by simpa using h')⟩
       . exact .inr ⟨e,by simp,hb,.inr (by rw [Cz];exact h')⟩
     . simp only [hb,cond_false] at h
       exact .inl h
   . exact .inr ⟨e',by simp [he],hb,hj⟩
theorem yd : ∀ (l : List Oper) (acc : List Nat), (dZ l acc).length = acc.length + l.length ∧ (∀ i, i < acc.length → (dZ l acc)[i]? = acc[i]?) ∧
 (∀ k o,l[k]? = some o->(dZ l acc)[acc.length+k]? = some (o.after.toList.foldl (zX ((dZ l acc).take (acc.length+k))) 0))
 | [],acc=>⟨by simp [AO],fun i _=>by rw [AO],fun k o h=>by simp at h⟩
 | o :: l, acc => by
   rw [Ia]
   obtain ⟨h1,h2,h3⟩:=yd l (acc++[o.after.toList.foldl (zX acc) 0])
   refine ⟨by simp at h1 ⊢;omega,?_,?_⟩
   . intro i hi
     rw [h2 i (by simp;omega),List.getElem?_append_left hi]
   . intro k o' hk
     cases k with
     | zero =>
       simp only [List.getElem?_cons_zero,Option.some.injEq] at hk
       subst hk
       rw [Nat.add_zero,h2 acc.length (by simp)]
       have htake:(dZ l (acc++[o.after.toList.foldl (zX acc) 0])).take acc.length=acc:=by
        apply List.ext_getElem?
        intro i
        rw [List.getElem?_take]
        by_cases hi:i<acc.length
        . rw [if_pos hi,h2 i (by simp;omega),List.getElem?_append_left hi]
        . rw [if_neg hi,List.getElem?_eq_none (by omega)]
       rw [htake]
       simp
     | succ k =>
       simp only [List.getElem?_cons_succ] at hk
       have:=h3 k o' hk
       simp only [List.length_append,List.length_singleton] at this
       rw [show acc.length+(k+1)=acc.length+1+k by omega]
       exact this
noncomputable def uN (ops:Array Oper) (i j:Nat):Prop:=bit ((dZ ops.toList []).getD i 0) j=true
theorem uN.step {ops:Array Oper} {i j:Nat} {o:Oper} (ho:ops[i]? = some o) (hback:∀ e∈o.after,Region.binds .any e=true->e.on<i) (h:uN ops i j):∃ e∈o.after,Region.binds .any e=true/\(e.on=j∨uN ops e.on j):=by
 obtain ⟨h1,h2,h3⟩:=yd ops.toList []
 have hi:=h3 i o (by simpa using ho)
 simp only [List.length_nil,Nat.zero_add] at hi
 unfold uN at h
 rw [List.getD_eq_getElem?_getD,hi,Option.getD_some] at h
 rcases Fv _ j _ _ h with h | ⟨e,he,hb,hj⟩
 . simp [Cz] at h
 . refine ⟨e,by simpa using he,hb,?_⟩
   rcases hj with hj | hj
   . exact .inl hj
   . right
     have hlt:=hback e (by simpa using he) hb
     unfold uN
     rw [List.getD_eq_getElem?_getD] at hj ⊢
     rw [List.getElem?_take,if_pos hlt] at hj
     exact hj
structure DrawQ (ops:Array Oper):Prop where
 eT:∀ (i:Nat) (o:Oper),ops[i]? = some o->∀ e∈o.after,Region.binds .any e=true->e.on<i
 orders:∀ m:Region.Mode,∃ l:List Nat,((∀ i,i<ops.size->i∈l)/\∀ i,i∈l->i<ops.size)/\∀ (k i:Nat),l[k]? = some i->∀ o,ops[i]? = some o->∀ e∈o.after,Region.binds m e=true->e.on∈l.take k
 ww:∀ (i j:Nat) (o o':Oper) (d:Nat),i<j->ops[i]? = some o->ops[j]? = some o'->o.dst=some d->o'.dst=some d->uN ops j i
 rw_:∀ (i j:Nat) (o o':Oper) (s:Nat),ops[i]? = some o->ops[j]? = some o'->s∈slotsOf ops o->o'.dst=some s->i≠j->(j<i->uN ops i j)/\(i<j->uN ops j i)
structure Yx (ops:Array Oper):Prop extends DrawQ ops where
 ll:∀ (i j:Nat) (o o':Oper),i<j->ops[i]? = some o->ops[j]? = some o'->cI o.op=true->cI o'.op=true->uN ops j i
theorem jx {ops:Array Oper} {i:Nat} {o:Oper} (h:ops[i]? = some o):(o,i)∈ops.toList.zipIdx:=by
 rw [List.mem_zipIdx_iff_getElem?]
 simpa using h
theorem oQ {ops:Array Oper} (h:pY ops=true):DrawQ ops:=by
 unfold pY at h
 simp only [Bool.and_eq_true,List.all_eq_true] at h
 obtain ⟨⟨⟨h1,CA⟩,h2⟩,h3⟩:=h
 have hb:∀ (i:Nat) (o:Oper),ops[i]? = some o->∀ e∈o.after,nX e=false->e.on<i:=by
  intro i o ho e he hg
  have:=h1 (o,i) (jx ho) e (by simpa using he)
  simp only [hg,Bool.false_or,Nat.blt_eq] at this
  exact this
 have hany:∀ (m:Region.Mode) (e:Edge),m≠.gc->Region.binds m e=true->nX e=false:=by
  intro m e hm um
  unfold Region.binds at um
  unfold nX
  cases hg:e.ground <;> rw [hg] at um <;> simp_all
 have Rb:∀ m:Region.Mode,(∀ (i:Nat) (o:Oper),ops[i]? = some o->∀ e∈o.after,Region.binds m e=true->e.on<i)->
  ∃ l:List Nat,((∀ i,i<ops.size->i∈l)/\∀ i,i∈l->i<ops.size)/\∀ (k i:Nat),l[k]? = some i->∀ o,ops[i]? = some o->∀ e∈o.after,Region.binds m e=true->e.on∈l.take k:=by
  intro m hh
  refine ⟨List.range ops.size,⟨fun i hi=>List.mem_range.2 hi,fun i hi=>List.mem_range.1 hi⟩,fun k i hk o ho e he um=>?_⟩
  have hlt:=hh i o ho e he um
  obtain ⟨hk1,hk2⟩:=List.getElem?_eq_some_iff.1 hk
  simp at hk1 hk2
  subst hk2
  rw [List.take_range]
  exact List.mem_range.2 (by omega)
 constructor
 . intro i o ho e he um
   exact hb i o ho e he (hany .any e (by simp) um)
 · intro m
   by_cases hm:m=.gc
   · subst hm
     by_cases hx:(ops.any (fun o=>o.after.any nX))=true
     . rw [hx] at CA
       simp only [cond_true] at CA
       unfold Yw at CA
       simp only [Bool.and_eq_true,List.all_eq_true] at CA
       refine ⟨Region.linearise .gc ops 0,⟨fun i hi=>?_,fun i hi=>by simpa [Nat.blt_eq] using CA.2.2 i hi⟩,fun k i hk o ho e he um=>?_⟩
       . have:=CA.2.1 i (List.mem_range.2 hi)
         rw [List.any_eq_true] at this
         obtain ⟨j,hj,hji⟩:=this
         simp only [Nat.beq_eq] at hji
         rw [hji];exact hj
       . have:=CA.1 (i,k) (by rw [List.mem_zipIdx_iff_getElem?];exact hk)
         simp only [ho,List.all_eq_true] at this
         have h5:=this e (by simpa using he)
         rw [um] at h5
         simp only [Bool.not_true,Bool.false_or,List.any_eq_true] at h5
         obtain ⟨j,hj,hji⟩:=h5
         simp only [Nat.beq_eq] at hji
         rw [hji];exact hj
     . refine Rb _ (fun i o ho e he _=>hb i o ho e he ?_)
       cases hg:nX e with
       | false=>rfl
       | true =>
         exfalso
         apply hx
         rw [Array.any_eq_true']
         refine ⟨o,?_,?_⟩
         . exact Array.mem_of_getElem? ho
         . rw [Array.any_eq_true']
           exact ⟨e,he,hg⟩
   . exact Rb m (fun i o ho e he um=>hb i o ho e he (hany m e hm um))
 . intro i j o o' d hij ho ho' hd hd'
   have:=h2 (o,i) (jx ho) (o',j) (jx ho')
   simp only [hd,hd'] at this
   have hb:Nat.blt i j=true:=by simpa [Nat.blt_eq] using hij
   have hbe:Nat.beq d d=true:=by simp
   simp only [hb,hbe,Bool.not_true,Bool.false_or] at this
   exact this
 . intro i j o o' s ho ho' hs hd hne
   have:=h3 (o,i) (jx ho) s hs (o',j) (jx ho')
   simp only [hd] at this
   have hbe:Nat.beq s s=true:=by simp
   have rN:Nat.beq i j=false:=by
    cases hh:Nat.beq i j with
    | false=>rfl
    | true=>exact absurd (by simpa [Nat.beq_eq] using hh) hne
   simp only [hbe,rN,Bool.not_true,Bool.false_or] at this
   refine ⟨fun hlt=>?_,fun hlt=>?_⟩
   . have hb:Nat.blt j i=true:=by simpa [Nat.blt_eq] using hlt
     rw [hb] at this;exact this
   . have hb:Nat.blt j i=false:=by
      cases hh:Nat.blt j i with
      | false=>rfl
      | true => have : j < i := by simpa [Nat.blt_eq] using hh
                omega
     rw [hb] at this;exact this
theorem LZ {ops:Array Oper} (h:yc ops=true):Yx ops:=by
 unfold yc at h
 simp only [Bool.and_eq_true,List.all_eq_true] at h
 obtain ⟨h0,h4⟩:=h
 refine ⟨oQ h0,?_⟩
 . intro i j o o' hij ho ho' hl hl'
   have:=h4 (o,i) (jx ho) (o',j) (jx ho')
   have hb:Nat.blt i j=true:=by simpa [Nat.blt_eq] using hij
   simp only [hb,hl,hl',Bool.not_true,Bool.false_or] at this
   exact this
def Closed (ops:Array Oper) (D:Nat->Bool):Prop:=∀ (i:Nat) (o:Oper),D i=true->ops[i]? = some o->∀ e∈o.after,Region.binds .any e=true->D e.on=true
def Ready (ops:Array Oper) (D:Nat->Bool) (i:Nat):Prop:=D i=false/\∃ o,ops[i]? = some o/\∀ e∈o.after,Region.binds .any e=true->D e.on=true
theorem jc {ops:Array Oper} (hp:DrawQ ops) {D:Nat->Bool} (hc:Closed ops D):∀ (i j:Nat),D i=true->i<ops.size->uN ops i j->D j=true:=by
 intro i
 induction i using Nat.strongRecOn with
 | _ i ih =>
   intro j hi hsz hb
   have ho:ops[i]? = some ops[i]:=Array.getElem?_eq_getElem hsz
   obtain ⟨e,he,CB,hj⟩:=uN.step ho (fun e he j5=>hp.eT i _ ho e he j5) hb
   have uO:=hc i _ hi ho e he CB
   have hlt:=hp.eT i _ ho e he CB
   rcases hj with rfl | hj
   . exact uO
   . exact ih e.on hlt j uO (by omega) hj
theorem ld {ops:Array Oper} (hp:DrawQ ops) {D:Nat->Bool} (hc:Closed ops D) {i j:Nat} (hr:Ready ops D i) (hb:uN ops i j):D j=true:=by
 obtain ⟨_,o,ho,hpre⟩:=hr
 have hsz:i<ops.size:=by
  rcases Nat.lt_or_ge i ops.size with h | h
  . exact h
  . rw [Array.getElem?_eq_none h] at ho;cases ho
 obtain ⟨e,he,CB,hj⟩:=uN.step ho (fun e he j5=>hp.eT i _ ho e he j5) hb
 have uO:=hpre e he CB
 have hlt:=hp.eT i _ ho e he CB
 rcases hj with rfl | hj
 . exact uO
 . exact jc hp hc e.on j uO (by omega) hj
def jy (D:Nat->Bool) (i:Nat):Nat->Bool:=fun j=>D j||Nat.beq j i
theorem ox (D:Nat->Bool) (i:Nat):jy D i i=true:=by simp [jy]
theorem f5 (D:Nat->Bool) {i j:Nat} (h:j≠i):jy D i j=D j:=by
 unfold jy
 cases hh:Nat.beq j i with
 | false=>simp
 | true=>exact absurd (by simpa [Nat.beq_eq] using hh) h
theorem Ready.closed {ops:Array Oper} {D:Nat->Bool} (hc:Closed ops D) {i:Nat} (hr:Ready ops D i):Closed ops (jy D i):=by
 intro j o hj ho e he hb
 by_cases hji:j=i
 . subst hji
   obtain ⟨_,o',ho',hpre⟩:=hr
   rw [ho] at ho';cases ho'
   have:=hpre e he hb
   simp [jy,this]
 . rw [f5 D hji] at hj
   have:=hc j o hj ho e he hb
   simp [jy,this]
def Valid (ops:Array Oper):(Nat->Bool)->List Nat->Prop
 | D,[]=>∀ i,i<ops.size->D i=true
 | D,i::bn=>Ready ops D i/\Valid ops (jy D i) bn
def kx (ops:Array Oper) (j:Nat):Option Nat:=(ops[j]?).bind (·.dst)
def dB (ops:Array Oper) (j:Nat):Bool:=match ops[j]? with | some o=>cI o.op | none=>false
def cW (ops:Array Oper) (D:Nat->Bool):Nat->Nat
 | 0=>0
 | k+1=>cW ops D k+if D k=true/\dB ops k=true then 1 else 0
theorem lB {ops:Array Oper} {D D':Nat->Bool}:∀ (k:Nat),(∀ j,j<k->dB ops j=true->D j=D' j)->cW ops D k=cW ops D' k
 | 0,_=>rfl
 | k+1,h=>by
   simp only [cW]
   rw [lB k (fun j hj hl=>h j (by omega) hl)]
   by_cases hl:dB ops k=true
   . rw [h k (by omega) hl]
   . simp [hl]
theorem qG {ops:Array Oper} {D D':Nat->Bool}:∀ (k:Nat),(∀ j,j<k->dB ops j=true->D j=true->D' j=true)->cW ops D k<=cW ops D' k
 | 0,_=>Nat.le_refl _
 | k+1,h=>by
   simp only [cW]
   have:=qG k (fun j hj hl=>h j (by omega) hl)
   by_cases hl:D k=true/\dB ops k=true
   . rw [if_pos hl,if_pos ⟨h k (by omega) hl.2 hl.1,hl.2⟩];omega
   . rw [if_neg hl];omega
theorem sF {ops:Array Oper} {D:Nat->Bool} {i:Nat} (hD:D i=false):∀ (k:Nat),i<k->cW ops (jy D i) k=cW ops D k+if dB ops i=true then 1 else 0
 | 0,h=>by omega
 | k + 1, h => by
   simp only [cW]
   by_cases hk:k=i
   . subst hk
     rw [lB k (fun j hj _=>f5 D (show j≠k by omega)),ox]
     simp [hD]
   . rw [sF hD k (by omega),f5 D hk]
     omega
def qH (D:Nat->Bool):Nat->Nat
 | 0=>0
 | k+1=>qH D k+if D k=true then 0 else 1
theorem Mz {D:Nat->Bool} {i:Nat} (hD:D i=false):∀ (k:Nat),i<k->qH (jy D i) k+1=qH D k
 | 0,h=>by omega
 | k + 1, h => by
   simp only [qH]
   by_cases hk:k=i
   . subst hk
     have:∀ k',k'<=k->qH (jy D k) k'=qH D k':=by
      intro k' hk'
      induction k' with
      | zero=>rfl
      | succ k' ih=>simp only [qH];rw [ih (by omega),f5 D (show k'≠k by omega)]
     rw [this k (Nat.le_refl _),ox]
     simp [hD]
   . rw [f5 D hk]
     have:=Mz hD k (by omega)
     omega
theorem BF {D:Nat->Bool}:∀ (k:Nat),qH D k=0->∀ i,i<k->D i=true
 | 0,_,i,hi=>by omega
 | k + 1, h, i, hi => by
   simp only [qH] at h
   by_cases hk:i=k
   . subst hk
     cases hd:D i with
     | true=>rfl
     | false=>rw [hd] at h;simp at h
   . exact BF k (by omega) i (by omega)
theorem MA {D:Nat->Bool}:∀ (k:Nat),0<qH D k->∃ i,i<k/\D i=false/\∀ j,j<i->D j=true
 | 0,h=>by simp [qH] at h
 | k + 1, h => by
   by_cases h0:0<qH D k
   . obtain ⟨i,hi,hd,hj⟩:=MA k h0
     exact ⟨i,by omega,hd,hj⟩
   . have h0':qH D k=0:=by omega
     refine ⟨k,by omega,?_,BF k h0'⟩
     simp only [qH,h0'] at h
     cases hd:D k with
     | false=>rfl
     | true=>rw [hd] at h;simp at h
theorem Rc {m:Region.Mode} {e:Edge} (h:Region.binds .any e=true):Region.binds m e=true:=by
 unfold Region.binds at h ⊢
 cases hg:e.ground <;> rw [hg] at h <;> simp_all
theorem Ib {ops : Array Oper} (hp : DrawQ ops) (m : Region.Mode) : ∀ (fuel t : Nat) (listed : Array Bool) (acc : List Nat), listed.size = ops.size → Closed ops (fun i => listed.getD i false) → fuel = qH (fun i => listed.getD i false) ops.size →
 ∃ bn,Region.linearise.go m ops fuel t listed acc=acc.reverse++bn/\Valid ops (fun i=>listed.getD i false) bn
 | 0,t,listed,acc,hs,hc,hf=>⟨[],by simp [Region.linearise.go],BF _ hf.symm⟩
 | fuel+1,t,listed,acc,hs,hc,hf=>by
   generalize hD:(fun i=>listed.getD i false)=D at *
   have oR:∀ i,D i=listed.getD i false:=fun i=>by rw [<-hD]
   obtain ⟨i1,hi1,hd1,_⟩:=MA (D:=D) ops.size (by omega)
   obtain ⟨l0,⟨hall0,hin0⟩,hord0⟩:=hp.orders m
   -- the first of that order that is not listed
   obtain ⟨k0,i0,hk0,hd0,hj0⟩:∃ (k:Nat) (i:Nat),l0[k]? = some i/\D i=false/\∀ j,j∈l0.take k->D j=true:=by
    have : ∀ (l : List Nat), i1 ∈ l → ∃ (k : Nat) (i : Nat), l[k]? = some i ∧ D i = false ∧ ∀ j, j ∈ l.take k → D j = true := by
     intro l
     induction l with
     | nil=>intro hh;cases hh
     | cons x l ihl =>
       intro hh
       by_cases hx:D x=true
       . rcases List.mem_cons.1 hh with rfl | hh
         . rw [hd1] at hx;cases hx
         . obtain ⟨k,i,a1,a2,a3⟩:=ihl hh
           refine ⟨k+1,i,by simpa using a1,a2,fun j hj=>?_⟩
           simp only [List.take_succ_cons,List.mem_cons] at hj
           rcases hj with rfl | hj
           . exact hx
           . exact a3 j hj
       . exact ⟨0,x,rfl,by simpa using hx,fun j hj=>by simp at hj⟩
    exact this l0 (hall0 i1 hi1)
   have hi0:i0<ops.size:=hin0 i0 (List.mem_of_getElem? hk0)
   simp only [Region.linearise.go]
   generalize Ic:((List.range ops.size).filter fun i=>!listed.getD i true&&((ops[i]?).map (·.after.all fun e=>!Region.binds m e||listed.getD e.on false)).getD false)=rs
   have hget:∀ i,i<ops.size->listed.getD i true=listed.getD i false:=by
    intro i hi
    simp [Array.getD_eq_getD_getElem?,Array.getElem?_eq_getElem (show i<listed.size by omega)]
   have hin:i0∈rs:=by
    rw [<-Ic,List.mem_filter]
    refine ⟨List.mem_range.2 hi0,?_⟩
    have ho:ops[i0]? = some ops[i0]:=Array.getElem?_eq_getElem hi0
    rw [hget i0 hi0,<-oR,hd0,ho]
    simp only [Bool.not_false,Bool.true_and,Option.map_some,Option.getD_some]
    rw [Array.all_eq_true_iff_forall_mem]
    intro e he
    by_cases hbm:Region.binds m e=true
    . rw [Bool.or_eq_true]
      right
      rw [<-oR];exact hj0 _ (hord0 k0 i0 hk0 _ ho e he hbm)
    . simp [hbm]
   have cB:0<rs.length:=List.length_pos_of_mem hin
   obtain ⟨i,hi⟩:∃ i,rs[t % rs.length]? = some i:=⟨_,List.getElem?_eq_getElem (Nat.mod_lt _ cB)⟩
   rw [hi]
   simp only
   have hmem:=List.mem_of_getElem? hi
   rw [<-Ic,List.mem_filter] at hmem
   obtain ⟨hir,CC⟩:=hmem
   have hilt:=List.mem_range.1 hir
   have ho:ops[i]? = some ops[i]:=Array.getElem?_eq_getElem hilt
   rw [hget i hilt,<-oR,ho] at CC
   simp only [Option.map_some,Option.getD_some,Bool.and_eq_true,Bool.not_eq_true'] at CC
   have iU:Ready ops D i:=by
    refine ⟨CC.1,_,ho,fun e he hb=>?_⟩
    have h2:=CC.2
    rw [Array.all_eq_true_iff_forall_mem] at h2
    have:=h2 e he
    rw [Rc hb] at this
    simp only [Bool.not_true,Bool.false_or] at this
    rw [oR];exact this
   have hD':(fun j=>(listed.setIfInBounds i true).getD j false)=jy D i:=by
    funext j
    simp only [Array.getD_eq_getD_getElem?]
    by_cases hji:j=i
    . subst hji
      rw [Array.getElem?_setIfInBounds_self_of_lt (by omega),ox];rfl
    . rw [Array.getElem?_setIfInBounds_ne (by omega),f5 D hji,oR]
      simp [Array.getD_eq_getD_getElem?]
   have hun:=Mz CC.1 ops.size hilt
   obtain ⟨bn,hgo,hv⟩:=Ib hp m fuel (t / rs.length) (listed.setIfInBounds i true) (i::acc) (by simpa using hs) (by rw [hD'];exact iU.closed hc) (by rw [hD'];omega)
   refine ⟨i::bn,?_,iU,by rw [<-hD'];exact hv⟩
   rw [hgo];simp
theorem Fw:∀ k,qH (fun _=>false) k=k
 | 0=>rfl
 | k+1=>by simp [qH,Fw k]
theorem tv {ops:Array Oper} (hp:DrawQ ops) (m:Region.Mode) (t:Nat):Valid ops (fun _=>false) (Region.linearise m ops t):=by
 have hD:(fun i=>(Array.replicate ops.size false).getD i false)=fun _=>false:=by
  funext i
  simp only [Array.getD_eq_getD_getElem?,Array.getElem?_replicate]
  split <;> rfl
 obtain ⟨bn,h,hv⟩:=Ib hp m ops.size t (Array.replicate ops.size false) [] (by simp) (by rw [hD];intro i o hi;cases hi) (by rw [hD,Fw])
 rw [hD] at hv
 unfold Region.linearise
 rw [h]
 simpa using hv
theorem mW {ops:Array Oper} (hp:DrawQ ops) (mixed:Bool) (t:Nat):Valid ops (fun _=>false) (Region.schedule mixed ops t):=by
 unfold Region.schedule
 split
 . exact tv hp _ _
 . exact tv hp _ _
def kP (D:Nat->Bool):List Oper->Nat->Nat
 | [],_=>0
 | o::l,k=>(if D k=true/\cI o.op=true then 1 else 0)+kP D l (k+1)
theorem ye {ops:Array Oper} {D:Nat->Bool}:∀ (k:Nat),k<=ops.size->cW ops D k+kP D (ops.toList.drop k) k=kP D ops.toList 0
 | 0,_=>by simp [cW]
 | k+1,h=>by
   have:=ye (ops:=ops) (D:=D) k (by omega)
   have hk:k<ops.toList.length:=by simp;omega
   rw [List.drop_eq_getElem_cons hk] at this
   simp only [kP] at this
   simp only [cW]
   have hl:dB ops k=cI (ops.toList[k]).op:=by
    unfold dB
    have:ops[k]? = some ops.toList[k]:=by simp [Array.getElem?_eq_getElem (show k<ops.size by omega)]
    rw [this]
   rw [hl]
   omega
theorem Ie {ops:Array Oper} {D:Nat->Bool}:kP D ops.toList 0=cW ops D ops.size:=by
 have:=ye (ops:=ops) (D:=D) ops.size (Nat.le_refl _)
 have hd:ops.toList.drop ops.size=[]:=by simp
 rw [hd] at this
 simpa [kP] using this.symm
theorem vS {D:Nat->Bool}:∀ (l:List Oper) (k:Nat),((l.zipIdx k).filter fun (x:Oper×Nat)=>cI x.1.op&&D x.2).length=kP D l k
 | [],_=>rfl
 | o :: l, k => by
   simp only [List.zipIdx_cons,List.filter_cons,kP]
   rw [<-vS l (k+1)]
   by_cases h:(cI o.op&&D k)=true
   . rw [if_pos h]
     simp only [Bool.and_eq_true] at h
     rw [if_pos ⟨h.2,h.1⟩]
     simp;omega
   . rw [if_neg h,if_neg (fun hh=>h (by simp [hh.1,hh.2]))]
     omega
theorem uP {ops:Array Oper} {i:Nat}:dm ops i=(cW ops (fun j=>bit ((dZ ops.toList []).getD i 0) j) ops.size,cW ops (fun j=>!(bit ((dZ ops.toList []).getD j 0) i)&&!(Nat.beq i j)) ops.size):=by
 unfold dm
 simp only [Prod.mk.injEq]
 refine ⟨?_,?_⟩
 . rw [vS (D:=fun j=>bit ((dZ ops.toList []).getD i 0) j),Ie]
 . rw [<-Ie,<-vS]
   congr 2
   funext x
   simp [Bool.and_assoc]
def lc (l:List Oper) (j:Nat):Nat:=kP (fun _=>true) (l.take j) 0
theorem Fx (l:List Oper):∀ k k',kP (fun _=>true) l k=kP (fun _=>true) l k':=by
 induction l with
 | nil=>intros;rfl
 | cons o l ih=>intro k k';simp only [kP];rw [ih (k+1) (k'+1)]
theorem ZG (o:Oper) (l:List Oper) (j:Nat):lc (o::l) (j+1)=(if cI o.op=true then 1 else 0)+lc l j:=by
 unfold lc
 simp only [List.take_succ_cons,kP,true_and]
 rw [Fx _ 1 0]
theorem ZH {ops:Array Oper} {k:Nat} (hk:k<=ops.size):lc ops.toList k=cW ops (fun j=>decide (j<k)) ops.size:=by
 have h1:∀ k,k<=ops.size->cW ops (fun _=>true) k=lc ops.toList k:=by
  intro k hk
  have:=ye (ops:=ops) (D:=fun _=>true) k hk
  have h2:kP (fun _=>true) ops.toList 0=lc ops.toList k+kP (fun _=>true) (ops.toList.drop k) k:=by
   unfold lc
   have happ:∀ (a b:List Oper) (m:Nat),kP (fun _=>true) (a++b) m=kP (fun _=>true) a m+kP (fun _=>true) b (m+a.length):=by
    intro a
    induction a with
    | nil=>intro b m;simp [kP]
    | cons o a ih=>intro b m;simp only [List.cons_append,kP,List.length_cons];rw [ih];rw [show m+1+a.length=m+(a.length+1) by omega];omega
   have:=happ (ops.toList.take k) (ops.toList.drop k) 0
   rw [List.take_append_drop] at this
   rw [this,Fx (ops.toList.drop k) _ k]
  omega
 rw [<-h1 k hk]
 have h3 : ∀ m, k ≤ m → cW ops (fun j => decide (j < k)) m = cW ops (fun _ => true) k := by
  intro m hm
  induction m with
  | zero => have : k = 0 := by omega
            subst this;rfl
  | succ m ih =>
    by_cases hkm:k=m+1
    . subst hkm
      exact lB _ (fun j hj _=>by simp [hj])
    . simp only [cW]
      rw [ih (by omega)]
      have:¬ (m<k):=by omega
      simp [this]
 rw [h3 _ hk]
end Go.au
namespace Go.au
open Go.RowKit Go.ChangeShapes Go.WideShapes Go.ChangeAt
theorem Ho {H:Type} {enc:TypeId×Value->H} {P:Program} {f:Func} {s:ChangeSpec} {apart fresh handsOn again:Bool} {W W':World} {args:Array Value} {v:Value} {ds gs:List (DataW H)} {before pa pv:List MemPlace}
 (hW:DataW.Whole enc P f.params.toList s.vars apart W args.toList ds gs before)
 (hres:∀ (b:Nat) (sp:Nat->Bool) (hd:Bool),DataW.TrodAll enc P W' b sp hd f.resultTypes.toList (v.resultList f.resultTypes.size) (s.fn H (ds++gs)).results [])
 (hargs:∀ sp:Nat->Bool,(∀ p∈before,sp p.block=true)->DataW.TrodAll enc P W' 0 sp true f.params.toList args.toList (s.fn H (ds++gs)).args pa)
 (hvars:∀ sp:Nat->Bool,(∀ p∈before,sp p.block=true)->DataW.TrodVars enc P W' sp s.vars (s.fn H (ds++gs)).vars pv)
 (hps:before=pa++pv) (hB:Below W.heap.size W W')
 (hok:∀ (j:Nat) (t:TypeId) (r:Value),f.resultTypes[j]? = some t->(v.resultList f.resultTypes.size)[j]? = some r->Value.okWide P W' .any 0 t r) :
 s.post enc P f apart fresh handsOn again W args v W':=by
 have hlt:∀ p∈before,p.block<W.heap.size:=fun p hp=>hW.lt p hp
 have hold:∀ p∈before,(fun b=>decide (b<W.heap.size)) p.block=true:=fun p hp=>by simpa using hlt p hp
 refine ⟨ds,gs,before,[],pa,pv,hW,hres _ _ _,hargs _ hold,hvars _ hold,World.keptBut_mono (fun p hp=>⟨hp,?_⟩) (hB.frame (·∈before)),fun _=>?_⟩
 . rw [hps,List.mem_append] at hp
   exact Or.inr hp
 . obtain ⟨_,_,_,_,_,hz,hn⟩:=hW
   refine ⟨hok,_,_,([]++pa)++pv,⟨[]++pa,pv,trodAll_append (hargs _ (fun _ _=>rfl)) (hres _ _ _),hvars _ (fun _ _=>rfl),rfl,?_,?_⟩,?_⟩
   . intro b off hp
     have hp':(MemPlace.cell b off)∈before:=by rw [hps];simpa using hp
     rw [hB.frozen (by have:=hlt _ hp';exact this)]
     exact hz b off hp'
   . intro ha
     have:=hn ha
     rw [hps] at this
     simpa using this
   . intro p hp _
     rw [hps]
     simpa using hp
end Go.au
