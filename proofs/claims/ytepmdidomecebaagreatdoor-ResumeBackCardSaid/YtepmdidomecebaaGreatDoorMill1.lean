/- A verified evaluator for the model: the parts that are used. It holds for every program and every world, under the hypotheses that each theorem names. -/
import Derived.RangeFuncLeaves
import Derived.Below
import Derived.Laws.IdiomCopy
import Derived.WalkKit
import Derived.Laws.MakeOwn
import Derived.Lib.AppendZeros
import Derived.Laws.BytesString
import Derived.Lib.UnsafeStr
import Derived.RangeFuncRecord
import Derived.MapKept
import Derived.RangeFuncCalls
import Derived.RecoverIn
import Derived.ProofKit
namespace Go.ar
open Go.RowKit
noncomputable def sel {α:Type} (b:Bool) (x y:α):α:=@Bool.rec (fun _=>α) y x b
theorem tM {α:Type} (b:Bool) (x y:α):sel b x y=if b=true then x else y:=by cases b <;> rfl
theorem aD {α:Type} {c:Bool} {x:Option α} {y:α} (e:(bif c then x else none)=some y):c=true/\x=some y:=by
 cases c
 . cases e
 . exact ⟨rfl,e⟩
inductive T (α:Type) where
 | leaf
 | node (l:T α) (v:Option α) (r:T α)
namespace T
variable {α:Type}
noncomputable def get (t:T α):Nat->Option α :=
 T.rec (fun _=>none) (fun _ v _ ihl ihr n=>sel (Nat.beq n 0) v (sel (Nat.beq (Nat.mod n 2) 1) (ihl (Nat.div n 2)) (ihr (Nat.sub (Nat.div n 2) 1)))) t
noncomputable def qd (f:Nat):T α->Nat->Option α->T α :=
 Nat.rec (fun t _ _=>t) (fun _ ih t n a=>T.rec
  (sel (Nat.beq n 0) (node leaf a leaf) (sel (Nat.beq (Nat.mod n 2) 1) (node (ih leaf (Nat.div n 2) a) none leaf) (node leaf none (ih leaf (Nat.sub (Nat.div n 2) 1) a))))
  (fun l v r _ _=>sel (Nat.beq n 0) (node l a r) (sel (Nat.beq (Nat.mod n 2) 1) (node (ih l (Nat.div n 2) a) v r) (node l v (ih r (Nat.sub (Nat.div n 2) 1) a)))) t) f
noncomputable def put (t:T α) (n:Nat) (a:Option α):T α:=qd (Nat.succ n) t n a
noncomputable def set (t:T α) (n:Nat) (a:α):T α:=put t n (some a)
theorem j4 (n:Nat):(leaf:T α).get n=none:=rfl
theorem j5 (l:T α) (v:Option α) (r:T α) (n:Nat) :
 (node l v r).get n=if n=0 then v else if n % 2=1 then l.get (n / 2) else r.get (n / 2-1):=by
 show sel (Nat.beq n 0) v (sel (Nat.beq (n % 2) 1) (l.get (n / 2)) (r.get (n / 2-1)))=_;rw [tM,tM];simp only [Nat.beq_eq]
theorem PL (f n:Nat) (a:Option α):qd (f+1) leaf n a =
 if n=0 then node leaf a leaf else if n % 2=1 then node (qd f leaf (n / 2) a) none leaf else node leaf none (qd f leaf (n / 2-1) a):=by
 show sel (Nat.beq n 0) (node leaf a leaf) (sel (Nat.beq (n % 2) 1) (node (qd f leaf (n / 2) a) none leaf) (node leaf none (qd f leaf (n / 2-1) a)))=_;rw [tM,tM];simp only [Nat.beq_eq]
theorem PN (f n:Nat) (a:Option α) (l:T α) (v:Option α) (r:T α):qd (f+1) (node l v r) n a =
 if n=0 then node l a r else if n % 2=1 then node (qd f l (n / 2) a) v r else node l v (qd f r (n / 2-1) a):=by
 show sel (Nat.beq n 0) (node l a r) (sel (Nat.beq (n % 2) 1) (node (qd f l (n / 2) a) v r) (node l v (qd f r (n / 2-1) a)))=_;rw [tM,tM];simp only [Nat.beq_eq]
theorem TU (f : Nat) : ∀ (t : T α) (n m : Nat) (a : Option α), n < f → (qd f t n a).get m = if m = n then a else t.get m := by
 induction f with
 | zero=>intro t n m a h;omega
 | succ f ih =>
   intro t n m a h;cases t with
   | leaf =>
     rw [PL];by_cases h0:n=0
     . subst h0;rw [if_pos rfl,j5,j4,j4,j4];split <;> simp_all
     . rw [if_neg h0];by_cases h1:n % 2=1
       . rw [if_pos h1,j5,ih _ _ _ _ (by omega),j4,j4];by_cases m0:m=0
         . subst m0;rw [if_pos rfl,if_neg (by omega)];rfl
         . rw [if_neg m0];by_cases m1:m % 2=1
           . rw [if_pos m1];by_cases e:m=n
             . rw [if_pos e,if_pos (by omega)]
             . rw [if_neg e,if_neg (by omega)];rfl
           . rw [if_neg m1,if_neg (by intro e;subst e;exact m1 h1)];rfl
       . rw [if_neg h1,j5,ih _ _ _ _ (by omega),j4,j4];by_cases m0:m=0
         . subst m0;rw [if_pos rfl,if_neg (by omega)];rfl
         . rw [if_neg m0];by_cases m1:m % 2=1
           . rw [if_pos m1,if_neg (by intro e;subst e;exact h1 m1)];rfl
           . rw [if_neg m1];by_cases e:m=n
             . rw [if_pos e,if_pos (by omega)]
             . rw [if_neg e,if_neg (by omega)];rfl
   | node l v r =>
     rw [PN];by_cases h0:n=0
     . subst h0;rw [if_pos rfl,j5,j5];split <;> simp_all
     . rw [if_neg h0];by_cases h1:n % 2=1
       . rw [if_pos h1,j5,j5,ih _ _ _ _ (by omega)];by_cases m0:m=0
         . subst m0;rw [if_pos rfl,if_neg (by omega),if_pos rfl]
         . rw [if_neg m0,if_neg m0];by_cases m1:m % 2=1
           . rw [if_pos m1,if_pos m1];by_cases e:m=n
             . rw [if_pos e,if_pos (by omega)]
             . rw [if_neg e,if_neg (by omega)]
           . rw [if_neg m1,if_neg m1,if_neg (by intro e;subst e;exact m1 h1)]
       . rw [if_neg h1,j5,j5,ih _ _ _ _ (by omega)];by_cases m0:m=0
         . subst m0;rw [if_pos rfl,if_neg (by omega),if_pos rfl]
         . rw [if_neg m0,if_neg m0];by_cases m1:m % 2=1
           . rw [if_pos m1,if_pos m1,if_neg (by intro e;subst e;exact h1 m1)]
           . rw [if_neg m1,if_neg m1];by_cases e:m=n
             . rw [if_pos e,if_pos (by omega)]
             . rw [if_neg e,if_neg (by omega)]
theorem gL (t:T α) (n m:Nat) (a:Option α):(t.put n a).get m=if m=n then a else t.get m:=TU _ _ _ _ _ (Nat.lt_succ_self n)
theorem mT (t:T α) (n m:Nat) (a:α):(t.set n a).get m=if m=n then some a else t.get m:=gL _ _ _ _
end T
noncomputable def T.uL {α:Type} (t:T α) (i:Nat) (l:List α):T α:=List.rec (fun t _=>t) (fun a _ ih t i=>ih (t.set i a) (Nat.succ i)) l t i
noncomputable def T.ofList {α:Type} (l:List α):T α:=T.uL .leaf 0 l
theorem T.tN {α:Type}:∀ (l:List α) (t:T α) (i j:Nat),(T.uL t i l).get j=if j<i then t.get j else match l[j-i]? with | some a=>some a | none=>t.get j
 | [],t,i,j=>by show t.get j=_;simp
 | a :: l, t, i, j => by
   show (T.uL (t.set i a) (i+1) l).get j=_;rw [T.tN l,T.mT];by_cases h1:j<i
   . rw [if_pos (by omega),if_neg (by omega),if_pos h1]
   . rw [if_neg h1];by_cases h2:j=i
     . subst h2;rw [if_pos (by omega),if_pos rfl];simp
     . rw [if_neg (by omega),if_neg h2];have e:j-i=(j-(i+1))+1:=by omega
       rw [e];simp
theorem T.aL {α:Type} (l:List α) (j:Nat):(T.ofList l).get j=l[j]?:=by
 rw [T.ofList,T.tN,if_neg (by omega)];simp only [Nat.sub_zero];split
 . rename_i a e;rw [e]
 . rename_i e;rw [e];rfl
theorem heap_setCell {w:World} {bk off:Nat} {v:Value} {c:Array Value} {e:TypeId} {fz:Nat×Nat} (h:w.heap[bk]? = some (.cells c e fz)) :
 (w.setCell ⟨bk,off,none⟩ v).heap[bk]? = some (.cells (c.setIfInBounds off v) e fz):=by
 simp [World.setCell,Array.getElem?_modify,h]
theorem gM {base bk:Nat} (hb:base<=bk):∀ (vs:List Value) (o:Nat) (w:World),Below base w (w.setCells bk o vs)
 | [],_,w=>Below.refl _ w
 | v::r,o,w=>((Below.refl base w).setCell (p:=⟨bk,o,none⟩) hb v).trans (gM hb r (o+1) _)
def s8 (l:List Value) (off:Nat):List Value->List Value
 | []=>l
 | c::cs=>s8 (l.set off c) (off+1) cs
theorem rW (off:Nat):∀ (vs:List Value) (k:Nat) (cells:Array Value),((vs.zipIdx k).foldl (fun (cs:Array Value) (x:Value×Nat)=>cs.setIfInBounds (off+x.2) x.1) cells).toList=s8 cells.toList (off+k) vs
 | [],_,_=>rfl
 | v::vs,k,cells=>by
   simp only [List.zipIdx_cons,List.foldl_cons];rw [rW off vs (k+1)];simp [s8,Array.toList_setIfInBounds,Nat.add_assoc]
theorem zL:∀ (vs:List Value) (l:List Value) (off:Nat),(s8 l off vs).length=l.length
 | [],_,_=>rfl
 | v::vs,l,off=>by simp [s8,zL vs]
theorem nE {P:Program} (w:World) {t ts el ty:TypeId} {i:TypeInfo} {z:Value} {d:TypeDesc} (hu:P.underlying t=some (.slice el)) (hts:P.underlying ts=some d) (hd:∀ k,d≠.int k) (hi:P.info? el=some i) (hz:i.zero=some z)
 {b:Option Addr} {sLen sCap m:Nat} {u:Value} {olds news:List Value} (hold:(Builtin.firstCells i.size sLen (.slice b sLen sCap)).run P w.drew=.ok olds.toArray w.drew)
 (hlen:(Builtin.lenOf u).run P w=.ok m w) (hnew:(Builtin.firstCells i.size m u).run P w.drew=.ok news.toArray w.drew) (hg:sCap<sLen+m) (h63:sLen+m<=140737488355328) (hby:(sLen+m)*i.bytes<=140737488355328) :
 (Builtin.append_ #[t,ts] ty #[.slice b sLen sCap,u]).run P w=.ok (.slice (some ⟨w.heap.size,0,none⟩) (sLen+m) (grownCap w (sLen+m) sCap el))
  (w.drew.alloc (.cells (olds.toArray++news.toArray++Builtin.zeroCells z.cells (grownCap w (sLen+m) sCap el-(sLen+m))) el)):=by
 have hn:¬ (sLen+m<=sCap):=by omega
 have h63':¬ (9223372036854775807<((sLen:Int)+(m:Int))):=by omega
 have h48':¬ (281474976710656<Builtin.nextslicecap (sLen+m) sCap*i.bytes):=by have:=growslice_fits hg hby;omega
 simp [Builtin.append_,run_underlying hu,run_underlying hts,sizeOf,typeInfo,zeroValue,hi,hz,hlen,hn,h63',h48',Question.forced,hold,hnew,newRow,grownCap];congr 2;apply Array.ext';simp
theorem rX {P:Program} (w:World) {t ts el ty:TypeId} {i:TypeInfo} {d:TypeDesc} (hu:P.underlying t=some (.slice el)) (hts:P.underlying ts=some d) (hd:∀ k,d≠.int k) (hi:P.info? el=some i)
 {bk off sLen sCap m:Nat} {u:Value} {news:List Value} (hlen:(Builtin.lenOf u).run P w=.ok m w) (hnew:(Builtin.firstCells i.size m u).run P w=.ok news.toArray w) (hroom:sLen+m<=sCap)
 (hc:∀ j,j<news.length->(w.cell? ⟨bk,off+sLen*i.size+j,none⟩).isSome=true) (hf:∀ j,j<news.length->w.frozen? ⟨bk,off+sLen*i.size+j,none⟩=false) (h1:∀ v∈news,v.oneCell'=true) :
 (Builtin.append_ #[t,ts] ty #[.slice (some ⟨bk,off,none⟩) sLen sCap,u]).run P w=.ok (.slice (some ⟨bk,off,none⟩) (sLen+m) sCap) (w.setCells bk (off+sLen*i.size) news):=by
 have hst:=run_storeCells_cells (P:=P) bk (off+sLen*i.size) news 0 w (by simpa using hc) (by simpa using hf) h1;simp only [Nat.add_zero] at hst;simp [Builtin.append_,run_underlying hu,run_underlying hts,sizeOf,typeInfo,hi,hlen,hroom,hnew,Addr.add_lit,hst]
theorem kz {bk:Nat} {e:TypeId} {fz:Nat×Nat}:∀ (vs:List Value) (o:Nat) (w:World) (c:Array Value),w.heap[bk]? = some (.cells c e fz)->
 ∃ c',(w.setCells bk o vs).heap[bk]? = some (.cells c' e fz)/\c'.size=c.size/\(∀ k,(k<o∨o+vs.length<=k)->c'[k]? = c[k]?)/\(∀ j,j<vs.length->o+j<c.size->c'[o+j]? = vs[j]?)
 | [],o,w,c,h=>⟨c,h,rfl,fun _ _=>rfl,fun j hj=>by simp at hj⟩
 | v :: vs, o, w, c, h => by
   obtain ⟨c',h1,h2,h3,h4⟩:=kz vs (o+1) (w.setCell ⟨bk,o,none⟩ v) _ (heap_setCell (off:=o) (v:=v) h);refine ⟨c',h1,by simpa using h2,?_,?_⟩
   . intro k hk;simp only [List.length_cons] at hk;rw [h3 k (by omega),Array.getElem?_setIfInBounds_ne (by omega)]
   . intro j hj hs;cases j with
     | zero =>
       rw [Nat.add_zero,h3 o (by omega),Array.getElem?_setIfInBounds_self_of_lt (by omega)];rfl
     | succ j =>
       simp only [List.length_cons] at hj;rw [show o+(j+1)=o+1+j by omega,h4 j (by omega) (by simp;omega)];simp
theorem fP {bk k:Nat} (hk:k≠bk):∀ (vs:List Value) (o:Nat) (w:World),(w.setCells bk o vs).heap[k]? = w.heap[k]?
 | [],_,_=>rfl
 | v::vs,o,w=>(fP hk vs (o+1) _).trans (Below.heap_setCell w _ v k hk)
theorem kA {bk:Nat}:∀ (vs:List Value) (o:Nat) (w:World),(w.setCells bk o vs).heap.size=w.heap.size
 | [],_,_=>rfl
 | v::vs,o,w=>(kA vs (o+1) _).trans (by simp [World.setCell])
noncomputable def K4 (l:List Int):ByteArray:=⟨⟨l.map fun n=>UInt8.ofNat n.toNat⟩⟩
theorem MS (l:List Int):K4 l=l.foldl (fun r n=>r.push (UInt8.ofNat n.toNat)) ByteArray.empty:=by
 have:∀ (l:List Int) (r:ByteArray),(l.foldl (fun r n=>r.push (UInt8.ofNat n.toNat)) r).data.toList=r.data.toList++l.map fun n=>UInt8.ofNat n.toNat:=by
  intro l
  induction l with
  | nil=>intro r;simp
  | cons n l ih=>intro r;simp only [List.foldl_cons];rw [ih];simp [ByteArray.push]
 have h:=this l ByteArray.empty;apply ByteArray.ext;apply Array.ext';rw [h];simp [K4]
theorem s9 {k:Nat} {w:World} {ob:Obj} (hk:k<w.heap.size):(w.putObj k ob).heap[k]? = some ob:=by
 simp only [World.putObj];rw [Array.getElem?_setIfInBounds_self_of_lt hk]
noncomputable def wP (a:List UInt8):List UInt8->Bool :=
 List.rec (motive:=fun _=>List UInt8->Bool) (fun b=>match b with | []=>true | _::_=>false)
  (fun x _ ih b=>match b with | []=>false | y::t=>bif Nat.beq x.toNat y.toNat then ih t else false) a
theorem wQ:∀ {a b:List UInt8},wP a b=true->a=b
 | [],[],_=>rfl
 | [],_::_,h=>by cases h
 | _::_,[],h=>by cases h
 | x :: a, y :: b, h => by
   have h':(bif Nat.beq x.toNat y.toNat then wP a b else false)=true:=h;by_cases hx:Nat.beq x.toNat y.toNat=true
   . rw [hx] at h';have:=wQ (a:=a) (b:=b) h';have hxy:x=y:=UInt8.toNat_inj.1 (by simpa [Nat.beq_eq] using hx);rw [this,hxy]
   . simp [hx] at h'
theorem tf:∀ (a:List UInt8),wP a a=true
 | []=>rfl
 | x::a=>by
   show (bif Nat.beq x.toNat x.toNat then wP a a else false)=true;rw [tf a];simp
theorem TV {a b:ByteArray}:wP a.data.toList b.data.toList=(a == b):=by
 show _=(a.data == b.data);rw [Bool.eq_iff_iff,beq_iff_eq];constructor
 . intro h;exact Array.toList_inj.1 (wQ h)
 . intro h;rw [h];exact tf _
noncomputable def plainKey:TypeDesc->Bool
 | .int _=>true
 | .string=>true
 | _=>false
theorem jI {P:Program} (w:World) {kt:TypeId} {d:TypeDesc} (hd:P.underlying kt=some d) (hp:plainKey d=true) (b:Bool) (v:Value):(Instr.checkKey b 10000 kt v).run P w=.ok () w:=by
 unfold plainKey at hp;split at hp
 . rw [show (10000:Nat)=9999+1 from rfl,Instr.checkKey];simp only [Sem.run_bind,run_underlying hd,Result.andThen_ok,Sem.run_pure]
 . rw [show (10000:Nat)=9999+1 from rfl,Instr.checkKey];simp only [Sem.run_bind,run_underlying hd,Result.andThen_ok,Sem.run_pure]
 . cases hp
theorem kG {P:Program} (w:World) {kt:TypeId} {d:TypeDesc} (hd:P.underlying kt=some d) {k:Value} {es:List MapEntry} {r:Option (Nat×Value)} (h:Instr.findNow d k es 0=some r):(Instr.findKey kt k es).run P w=.ok r w:=by
 simp [Instr.findKey,run_underlying hd,h]
theorem MT {P:Program} {w:World} {t:TypeId} {d:TypeDesc} (hu:P.underlying t=some d) (hd:∀ ms,d≠.interface ms) (xt:TypeId) (ok:Bool) :
 (∀ v,(Instr.typeAssert (.iface t v) xt t ok).run P w=.ok (if ok then .tuple #[v,.bool true] else v) w)/\
 (∀ t' v z,t'≠t->(zeroValue t).run P w=.ok z w->(Instr.typeAssert (.iface t' v) xt t true).run P w=.ok (.tuple #[z,.bool false]) w)/\
 (∀ z,(zeroValue t).run P w=.ok z w->(Instr.typeAssert .nilIface xt t true).run P w=.ok (.tuple #[z,.bool false]) w):=by
 refine ⟨fun v=>?_,fun t' v z hne hz=>?_,fun z hz=>?_⟩
 . unfold Instr.typeAssert;simp only [Sem.run_bind,run_underlying hu,Result.andThen_ok];cases d <;> first | exact absurd rfl (hd _) | (cases ok <;> simp)
 . unfold Instr.typeAssert;simp only [Sem.run_bind,run_underlying hu,Result.andThen_ok];cases d <;> first | exact absurd rfl (hd _) | simp [hne,hz]
 . unfold Instr.typeAssert;simp only [Sem.run_bind,run_underlying hu,Result.andThen_ok];cases d <;> first | exact absurd rfl (hd _) | simp [hz]
inductive X where
 | normal
 | exit (id:Nat)
 | ret
def X.toExit:X->Exit
 | .normal=>.normal
 | .exit id=>.exit id
 | .ret=>.ret
def bY:Op->Bool
 | .move _ | .assign _ | .pick .. | .build .. | .load .. | .nilCheck _ | .binOp .. | .unOp .. | .makeInterface .. | .makeFunc .. | .slice .. | .fieldAddr .. | .field .. | .indexAddr .. | .index .. | .extract .. => false
 | .call { callee:=.builtin .len,.. } | .call { callee:=.builtin .cap,.. } | .call { callee:=.builtin .min,.. } | .call { callee:=.builtin .max,.. } | .call { callee:=.builtin .unsafeSliceData,.. }=>false
 | .convert .. => true
 | _=>true
def slotsOf (ops:Array Oper) (o:Oper):List Nat :=
 (match o.guard with | some (j,_)=>((ops[j]?).bind (·.dst)).toList | none=>[])++(o.op.operands.toList.filterMap fun | .tmp t=>some t | _=>none)
noncomputable def dF (l:List Oper) (acc:List Nat):List Nat :=
 List.rec (fun acc=>acc) (fun o _ ih acc=>ih (acc++[o.after.toList.foldl (fun s e=>bif Region.binds .any e then Nat.lor s (Nat.lor (Nat.pow 2 e.on) (acc.getD e.on 0)) else s) 0])) l acc
def bit (m i:Nat):Bool:=Nat.beq (Nat.mod (Nat.div m (Nat.pow 2 i)) 2) 1
def mF (e:Edge):Bool:=match e.ground with | .gcOnly _=>true | _=>false
def Xa (ops:Array Oper) (m:Region.Mode) (l:List Nat):Bool :=
 (l.zipIdx.all fun (i,k)=>match ops[i]? with | some o=>o.after.toList.all fun e=>!(Region.binds m e)||(l.take k).any (Nat.beq e.on ·) | none=>true) &&
 (((List.range ops.size).all fun i=>l.any (Nat.beq i ·))&&l.all fun i=>Nat.blt i ops.size)
noncomputable def qN (ops:Array Oper):Bool :=
 let l:=ops.toList;let bf:=dF l [];let ix:=l.zipIdx
 -- edges go back
 (ix.all fun (o,i)=>o.after.toList.all fun e=>mF e||Nat.blt e.on i) &&
 (bif ops.any (fun o=>o.after.any mF) then Xa ops .gc (Region.linearise .gc ops 0) else true) &&
 -- writers of one slot are in order
 (ix.all fun (o,i)=>ix.all fun (o',j)=>!(Nat.blt i j)||(match o.dst,o'.dst with | some d,some d'=>!(Nat.beq d d')||bit (bf.getD j 0) i | _,_=>true)) &&
 -- readers and writers of one slot are in order
 (ix.all fun (o,i)=>(slotsOf ops o).all fun s=>ix.all fun (o',j)=>match o'.dst with
  | some d=>!(Nat.beq d s)||(Nat.beq i j||(bif Nat.blt j i then bit (bf.getD i 0) j else bit (bf.getD j 0) i))
  | none=>true)
noncomputable def wR (ops:Array Oper):Bool :=
 let bf:=dF ops.toList [];let ix:=ops.toList.zipIdx
 qN ops&&(ix.all fun (o,i)=>ix.all fun (o',j)=>!(Nat.blt i j)||(!(bY o.op)||(!(bY o'.op)||bit (bf.getD j 0) i)))
noncomputable def cK (ops:Array Oper) (i:Nat):Nat×Nat :=
 let bf:=dF ops.toList [];let ix:=ops.toList.zipIdx
 ((ix.filter fun (o,j)=>bY o.op&&bit (bf.getD i 0) j).length,(ix.filter fun (o,j)=>bY o.op&&!(bit (bf.getD j 0) i)&&!(Nat.beq i j)).length)
def WF (F:Fence):Prop:=F=Fence.wide∨∃ l,F=Fence.wide.inRound l
theorem WF.fn {F:Fence} (h:WF F) (f:FuncId):F.fn f:=by
 rcases h with rfl | ⟨l,rfl⟩ <;> trivial
theorem WF.depth {F:Fence} (h:WF F) {p:Prop}:F.depth.isSome=true->p:=by
 rcases h with rfl | ⟨l,rfl⟩ <;> simp [Fence.wide,Fence.inRound]
theorem WF.calls {F:Fence} (h:WF F) {n:Nat} {P:Program} {f:FuncId} {args:Array Value} {w:World} {R:Ending->World->Prop} (hc:CallsIn Fence.wide n P f args w R):CallsIn F n P f args w R:=by
 rcases h with rfl | ⟨l,rfl⟩
 . exact hc
 . exact hc
theorem WF.rounds {F:Fence} (h:WF F) {n:Nat} {P:Program} {l:Nat} {f:FuncId} {tmps:Array Value} {assign body:Code} {w:World} {R:Ending->World->Prop} (hc:RoundIn Fence.wide n P l f tmps assign body w R):RoundIn F n P l f tmps assign body w R:=by
 rcases h with rfl | ⟨l',rfl⟩
 . exact hc
 . exact hc
def ZO (Q:Exit->Act->World->Prop):Exit->Act->World->Prop:=fun e a w=>match e with
 | .goto _=>False
 | e=>Q e a w
theorem kH {P:Program} {b:Frame} {a:Act} {k:List Item} {cs:List Frame} {w:World} {c:Code}:step P (lone (b.atR a (.code (.scope c)::k)) cs w)=.next (lone (b.atR a (.code c::.inScope c::k)) cs w) :=
 step_lone_go (by simp [stepG,stepG.exec,Frame.atR])
theorem F4 {P:Program} {b:Frame} {a:Act} {k:List Item} {cs:List Frame} {w:World} {c:Code}:step P (lone (b.atR a (.inScope c::k)) cs w)=.next (lone (b.atR a k) cs w) :=
 step_lone_go (by simp [stepG,stepG.exec,Frame.atR])
theorem MU {F:Fence} {n:Nat} {P:Program} {c:Code} {Q:Exit->Act->World->Prop} {a:Act} {w:World} (h:c.wpIn F n P (ZO Q) a w):(Code.scope c).wpIn F n P Q a w:=by
 intro b k cs hro hb hr;have h0:(lone (b.atR a (.code (.scope c)::k)) cs w).fenced P F:=fenced_calm hb hr rfl;obtain ⟨e,a₁,w₁,hq,harr⟩:=h b (.inScope c::k) cs hro hb hr;cases e with
 | normal=>exact ⟨.normal,a₁,w₁,hq,.head h0 kH (StepsIn.trans harr (.one (fenced_calm hb hr rfl) F4))⟩
 | exit id =>
   have hx:exitTo id (.inScope c::k)=exitTo id k:=by simp [exitTo]
   exact ⟨.exit id,a₁,w₁,hq,fun k' hk=>.head h0 kH (harr.1 k' (by rw [hx];exact hk)),
    fun hr' hk=>let ⟨k₁,h1,h2⟩:=harr.2 hr' (by rw [hx];exact hk);⟨k₁,h1,.head h0 kH h2⟩⟩
 | goto l=>exact hq.elim
 | ret=>exact ⟨_,a₁,w₁,hq,.of_steps (.one h0 kH) harr⟩
 | panic ch=>exact ⟨_,a₁,w₁,hq,.of_steps (.one h0 kH) harr⟩
 | outgrown=>exact ⟨_,a₁,w₁,hq,.of_steps (.one h0 kH) harr⟩
theorem BF (m i:Nat):bit m i=m.testBit i:=by
 rw [Nat.testBit_eq_decide_div_mod_eq];unfold bit;rw [Bool.eq_iff_iff];simp only [Nat.beq_eq,decide_eq_true_eq];rfl
def yY (acc:List Nat) (s:Nat) (e:Edge):Nat:=bif Region.binds .any e then Nat.lor s (Nat.lor (Nat.pow 2 e.on) (acc.getD e.on 0)) else s
theorem Gw {o:Oper} {l:List Oper} {acc:List Nat}:dF (o::l) acc=dF l (acc++[o.after.toList.foldl (yY acc) 0]):=rfl
theorem zM {acc:List Nat}:dF [] acc=acc:=rfl
theorem Ep (acc:List Nat) (j:Nat):∀ (es:List Edge) (s:Nat),bit (es.foldl (yY acc) s) j=true->bit s j=true∨∃ e∈es,Region.binds .any e=true/\(e.on=j∨bit (acc.getD e.on 0) j=true)
 | [],s,h=>.inl h
 | e :: es, s, h => by
   simp only [List.foldl_cons] at h;rcases Ep acc j es _ h with h | ⟨e',he,hb,hj⟩
   . unfold yY at h;by_cases hb:Region.binds .any e=true
     . rw [hb] at h;simp only [cond_true] at h;rw [BF] at h;have h':(s ||| (2 ^ e.on ||| acc.getD e.on 0)).testBit j=true:=h;rw [Nat.testBit_or,Nat.testBit_or,Nat.testBit_two_pow,Bool.or_eq_true,Bool.or_eq_true] at h';rcases h' with h' | h' | h'
       . exact .inl (by rw [BF];exact h')
       . exact .inr ⟨e,by simp,hb,.inl (by simpa using h')⟩
       . exact .inr ⟨e,by simp,hb,.inr (by rw [BF];exact h')⟩
     . simp only [hb,cond_false] at h;exact .inl h
   . exact .inr ⟨e',by simp [he],hb,hj⟩
theorem wS : ∀ (l : List Oper) (acc : List Nat), (dF l acc).length = acc.length + l.length ∧ (∀ i, i < acc.length → (dF l acc)[i]? = acc[i]?) ∧
 (∀ k o,l[k]? = some o->(dF l acc)[acc.length+k]? = some (o.after.toList.foldl (yY ((dF l acc).take (acc.length+k))) 0))
 | [],acc=>⟨by simp [zM],fun i _=>by rw [zM],fun k o h=>by simp at h⟩
 | o :: l, acc => by
   rw [Gw];obtain ⟨h1,h2,h3⟩:=wS l (acc++[o.after.toList.foldl (yY acc) 0]);refine ⟨by simp at h1 ⊢;omega,?_,?_⟩
   . intro i hi;rw [h2 i (by simp;omega),List.getElem?_append_left hi]
   . intro k o' hk;cases k with
     | zero =>
       simp only [List.getElem?_cons_zero,Option.some.injEq] at hk;subst hk;rw [Nat.add_zero,h2 acc.length (by simp)];have htake:(dF l (acc++[o.after.toList.foldl (yY acc) 0])).take acc.length=acc:=by
        apply List.ext_getElem?;intro i;rw [List.getElem?_take];by_cases hi:i<acc.length
        . rw [if_pos hi,h2 i (by simp;omega),List.getElem?_append_left hi]
        . rw [if_neg hi,List.getElem?_eq_none (by omega)]
       rw [htake];simp
     | succ k =>
       simp only [List.getElem?_cons_succ] at hk;have:=h3 k o' hk;simp only [List.length_append,List.length_singleton] at this;rw [show acc.length+(k+1)=acc.length+1+k by omega];exact this
noncomputable def tO (ops:Array Oper) (i j:Nat):Prop:=bit ((dF ops.toList []).getD i 0) j=true
theorem tO.step {ops:Array Oper} {i j:Nat} {o:Oper} (ho:ops[i]? = some o) (hback:∀ e∈o.after,Region.binds .any e=true->e.on<i) (h:tO ops i j):∃ e∈o.after,Region.binds .any e=true/\(e.on=j∨tO ops e.on j):=by
 obtain ⟨h1,h2,h3⟩:=wS ops.toList [];have hi:=h3 i o (by simpa using ho);simp only [List.length_nil,Nat.zero_add] at hi;unfold tO at h;rw [List.getD_eq_getElem?_getD,hi,Option.getD_some] at h;rcases Ep _ j _ _ h with h | ⟨e,he,hb,hj⟩
 . simp [BF] at h
 . refine ⟨e,by simpa using he,hb,?_⟩;rcases hj with hj | hj
   . exact .inl hj
   . right;have hlt:=hback e (by simpa using he) hb;unfold tO;rw [List.getD_eq_getElem?_getD] at hj ⊢;rw [List.getElem?_take,if_pos hlt] at hj;exact hj
structure DrawQ (ops:Array Oper):Prop where
 back:∀ (i:Nat) (o:Oper),ops[i]? = some o->∀ e∈o.after,Region.binds .any e=true->e.on<i
 orders:∀ m:Region.Mode,∃ l:List Nat,((∀ i,i<ops.size->i∈l)/\∀ i,i∈l->i<ops.size)/\∀ (k i:Nat),l[k]? = some i->∀ o,ops[i]? = some o->∀ e∈o.after,Region.binds m e=true->e.on∈l.take k
 ww:∀ (i j:Nat) (o o':Oper) (d:Nat),i<j->ops[i]? = some o->ops[j]? = some o'->o.dst=some d->o'.dst=some d->tO ops j i
 rw_:∀ (i j:Nat) (o o':Oper) (s:Nat),ops[i]? = some o->ops[j]? = some o'->s∈slotsOf ops o->o'.dst=some s->i≠j->(j<i->tO ops i j)/\(i<j->tO ops j i)
structure Xb (ops:Array Oper):Prop extends DrawQ ops where
 ll:∀ (i j:Nat) (o o':Oper),i<j->ops[i]? = some o->ops[j]? = some o'->bY o.op=true->bY o'.op=true->tO ops j i
theorem iE {ops:Array Oper} {i:Nat} {o:Oper} (h:ops[i]? = some o):(o,i)∈ops.toList.zipIdx:=by
 rw [List.mem_zipIdx_iff_getElem?];simpa using h
theorem qV {ops:Array Oper} (h:qN ops=true):DrawQ ops:=by
 unfold qN at h;simp only [Bool.and_eq_true,List.all_eq_true] at h;obtain ⟨⟨⟨h1,BG⟩,h2⟩,h3⟩:=h;have hb:∀ (i:Nat) (o:Oper),ops[i]? = some o->∀ e∈o.after,mF e=false->e.on<i:=by
  intro i o ho e he hg;have:=h1 (o,i) (iE ho) e (by simpa using he);simp only [hg,Bool.false_or,Nat.blt_eq] at this;exact this
 have hany:∀ (m:Region.Mode) (e:Edge),m≠.gc->Region.binds m e=true->mF e=false:=by
  intro m e hm tg;unfold Region.binds at tg;unfold mF;cases hg:e.ground <;> rw [hg] at tg <;> simp_all
 have PO:∀ m:Region.Mode,(∀ (i:Nat) (o:Oper),ops[i]? = some o->∀ e∈o.after,Region.binds m e=true->e.on<i)->
  ∃ l:List Nat,((∀ i,i<ops.size->i∈l)/\∀ i,i∈l->i<ops.size)/\∀ (k i:Nat),l[k]? = some i->∀ o,ops[i]? = some o->∀ e∈o.after,Region.binds m e=true->e.on∈l.take k:=by
  intro m hh;refine ⟨List.range ops.size,⟨fun i hi=>List.mem_range.2 hi,fun i hi=>List.mem_range.1 hi⟩,fun k i hk o ho e he tg=>?_⟩;have hlt:=hh i o ho e he tg;obtain ⟨hk1,hk2⟩:=List.getElem?_eq_some_iff.1 hk;simp at hk1 hk2;subst hk2;rw [List.take_range];exact List.mem_range.2 (by omega)
 constructor
 . intro i o ho e he tg;exact hb i o ho e he (hany .any e (by simp) tg)
 · intro m
   by_cases hm:m=.gc
   · subst hm
     by_cases hx:(ops.any (fun o=>o.after.any mF))=true
     . rw [hx] at BG;simp only [cond_true] at BG;unfold Xa at BG;simp only [Bool.and_eq_true,List.all_eq_true] at BG;refine ⟨Region.linearise .gc ops 0,⟨fun i hi=>?_,fun i hi=>by simpa [Nat.blt_eq] using BG.2.2 i hi⟩,fun k i hk o ho e he tg=>?_⟩
       . have:=BG.2.1 i (List.mem_range.2 hi);rw [List.any_eq_true] at this;obtain ⟨j,hj,hji⟩:=this;simp only [Nat.beq_eq] at hji;rw [hji];exact hj
       . have:=BG.1 (i,k) (by rw [List.mem_zipIdx_iff_getElem?];exact hk);simp only [ho,List.all_eq_true] at this;have h5:=this e (by simpa using he);rw [tg] at h5;simp only [Bool.not_true,Bool.false_or,List.any_eq_true] at h5;obtain ⟨j,hj,hji⟩:=h5;simp only [Nat.beq_eq] at hji;rw [hji];exact hj
     . refine PO _ (fun i o ho e he _=>hb i o ho e he ?_);cases hg:mF e with
       | false=>rfl
       | true =>
         exfalso;apply hx;rw [Array.any_eq_true'];refine ⟨o,?_,?_⟩
         . exact Array.mem_of_getElem? ho
         . rw [Array.any_eq_true'];exact ⟨e,he,hg⟩
   . exact PO m (fun i o ho e he tg=>hb i o ho e he (hany m e hm tg))
 . intro i j o o' d hij ho ho' hd hd';have:=h2 (o,i) (iE ho) (o',j) (iE ho');simp only [hd,hd'] at this;have hb:Nat.blt i j=true:=by simpa [Nat.blt_eq] using hij
   have hbe:Nat.beq d d=true:=by simp
   simp only [hb,hbe,Bool.not_true,Bool.false_or] at this;exact this
 . intro i j o o' s ho ho' hs hd hne;have:=h3 (o,i) (iE ho) s hs (o',j) (iE ho');simp only [hd] at this;have hbe:Nat.beq s s=true:=by simp
   have wD:Nat.beq i j=false:=by
    cases hh:Nat.beq i j with
    | false=>rfl
    | true=>exact absurd (by simpa [Nat.beq_eq] using hh) hne
   simp only [hbe,wD,Bool.not_true,Bool.false_or] at this;refine ⟨fun hlt=>?_,fun hlt=>?_⟩
   . have hb:Nat.blt j i=true:=by simpa [Nat.blt_eq] using hlt
     rw [hb] at this;exact this
   . have hb:Nat.blt j i=false:=by
      cases hh:Nat.blt j i with
      | false=>rfl
      | true => have : j < i := by simpa [Nat.blt_eq] using hh
                omega
     rw [hb] at this;exact this
theorem KA {ops:Array Oper} (h:wR ops=true):Xb ops:=by
 unfold wR at h;simp only [Bool.and_eq_true,List.all_eq_true] at h;obtain ⟨h0,h4⟩:=h;refine ⟨qV h0,?_⟩
 . intro i j o o' hij ho ho' hl hl';have:=h4 (o,i) (iE ho) (o',j) (iE ho');have hb:Nat.blt i j=true:=by simpa [Nat.blt_eq] using hij
   simp only [hb,hl,hl',Bool.not_true,Bool.false_or] at this;exact this
def Closed (ops:Array Oper) (D:Nat->Bool):Prop:=∀ (i:Nat) (o:Oper),D i=true->ops[i]? = some o->∀ e∈o.after,Region.binds .any e=true->D e.on=true
def Ready (ops:Array Oper) (D:Nat->Bool) (i:Nat):Prop:=D i=false/\∃ o,ops[i]? = some o/\∀ e∈o.after,Region.binds .any e=true->D e.on=true
theorem gV {ops:Array Oper} (hp:DrawQ ops) {D:Nat->Bool} (hc:Closed ops D):∀ (i j:Nat),D i=true->i<ops.size->tO ops i j->D j=true:=by
 intro i
 induction i using Nat.strongRecOn with
 | _ i ih =>
   intro j hi hsz hb;have ho:ops[i]? = some ops[i]:=Array.getElem?_eq_getElem hsz;obtain ⟨e,he,BH,hj⟩:=tO.step ho (fun e he qW=>hp.back i _ ho e he qW) hb;have tP:=hc i _ hi ho e he BH;have hlt:=hp.back i _ ho e he BH;rcases hj with rfl | hj
   . exact tP
   . exact ih e.on hlt j tP (by omega) hj
theorem jU {ops:Array Oper} (hp:DrawQ ops) {D:Nat->Bool} (hc:Closed ops D) {i j:Nat} (hr:Ready ops D i) (hb:tO ops i j):D j=true:=by
 obtain ⟨_,o,ho,hpre⟩:=hr;have hsz:i<ops.size:=by
  rcases Nat.lt_or_ge i ops.size with h | h
  . exact h
  . rw [Array.getElem?_eq_none h] at ho;cases ho
 obtain ⟨e,he,BH,hj⟩:=tO.step ho (fun e he qW=>hp.back i _ ho e he qW) hb;have tP:=hpre e he BH;have hlt:=hp.back i _ ho e he BH;rcases hj with rfl | hj
 . exact tP
 . exact gV hp hc e.on j tP (by omega) hj
def iF (D:Nat->Bool) (i:Nat):Nat->Bool:=fun j=>D j||Nat.beq j i
theorem mU (D:Nat->Bool) (i:Nat):iF D i i=true:=by simp [iF]
theorem eV (D:Nat->Bool) {i j:Nat} (h:j≠i):iF D i j=D j:=by
 unfold iF;cases hh:Nat.beq j i with
 | false=>simp
 | true=>exact absurd (by simpa [Nat.beq_eq] using hh) h
theorem Ready.closed {ops:Array Oper} {D:Nat->Bool} (hc:Closed ops D) {i:Nat} (hr:Ready ops D i):Closed ops (iF D i):=by
 intro j o hj ho e he hb;by_cases hji:j=i
 . subst hji;obtain ⟨_,o',ho',hpre⟩:=hr;rw [ho] at ho';cases ho';have:=hpre e he hb;simp [iF,this]
 . rw [eV D hji] at hj;have:=hc j o hj ho e he hb;simp [iF,this]
def Valid (ops:Array Oper):(Nat->Bool)->List Nat->Prop
 | D,[]=>∀ i,i<ops.size->D i=true
 | D,i::rest=>Ready ops D i/\Valid ops (iF D i) rest
def jo (ops:Array Oper) (j:Nat):Option Nat:=(ops[j]?).bind (·.dst)
def cM (ops:Array Oper) (j:Nat):Bool:=match ops[j]? with | some o=>bY o.op | none=>false
def cF (ops:Array Oper) (D:Nat->Bool):Nat->Nat
 | 0=>0
 | k+1=>cF ops D k+if D k=true/\cM ops k=true then 1 else 0
theorem j6 {ops:Array Oper} {D D':Nat->Bool}:∀ (k:Nat),(∀ j,j<k->cM ops j=true->D j=D' j)->cF ops D k=cF ops D' k
 | 0,_=>rfl
 | k+1,h=>by
   simp only [cF];rw [j6 k (fun j hj hl=>h j (by omega) hl)];by_cases hl:cM ops k=true
   . rw [h k (by omega) hl]
   . simp [hl]
theorem pI {ops:Array Oper} {D D':Nat->Bool}:∀ (k:Nat),(∀ j,j<k->cM ops j=true->D j=true->D' j=true)->cF ops D k<=cF ops D' k
 | 0,_=>Nat.le_refl _
 | k+1,h=>by
   simp only [cF];have:=pI k (fun j hj hl=>h j (by omega) hl);by_cases hl:D k=true/\cM ops k=true
   . rw [if_pos hl,if_pos ⟨h k (by omega) hl.2 hl.1,hl.2⟩];omega
   . rw [if_neg hl];omega
theorem qX {ops:Array Oper} {D:Nat->Bool} {i:Nat} (hD:D i=false):∀ (k:Nat),i<k->cF ops (iF D i) k=cF ops D k+if cM ops i=true then 1 else 0
 | 0,h=>by omega
 | k + 1, h => by
   simp only [cF];by_cases hk:k=i
   . subst hk;rw [j6 k (fun j hj _=>eV D (show j≠k by omega)),mU];simp [hD]
   . rw [qX hD k (by omega),eV D hk];omega
def pJ (D:Nat->Bool):Nat->Nat
 | 0=>0
 | k+1=>pJ D k+if D k=true then 0 else 1
theorem K5 {D:Nat->Bool} {i:Nat} (hD:D i=false):∀ (k:Nat),i<k->pJ (iF D i) k+1=pJ D k
 | 0,h=>by omega
 | k + 1, h => by
   simp only [pJ];by_cases hk:k=i
   . subst hk;have:∀ k',k'<=k->pJ (iF D k) k'=pJ D k':=by
      intro k' hk'
      induction k' with
      | zero=>rfl
      | succ k' ih=>simp only [pJ];rw [ih (by omega),eV D (show k'≠k by omega)]
     rw [this k (Nat.le_refl _),mU];simp [hD]
   . rw [eV D hk];have:=K5 hD k (by omega);omega
theorem AF {D:Nat->Bool}:∀ (k:Nat),pJ D k=0->∀ i,i<k->D i=true
 | 0,_,i,hi=>by omega
 | k + 1, h, i, hi => by
   simp only [pJ] at h;by_cases hk:i=k
   . subst hk;cases hd:D i with
     | true=>rfl
     | false=>rw [hd] at h;simp at h
   . exact AF k (by omega) i (by omega)
theorem K6 {D:Nat->Bool}:∀ (k:Nat),0<pJ D k->∃ i,i<k/\D i=false/\∀ j,j<i->D j=true
 | 0,h=>by simp [pJ] at h
 | k + 1, h => by
   by_cases h0:0<pJ D k
   . obtain ⟨i,hi,hd,hj⟩:=K6 k h0;exact ⟨i,by omega,hd,hj⟩
   . have h0':pJ D k=0:=by omega
     refine ⟨k,by omega,?_,AF k h0'⟩;simp only [pJ,h0'] at h;cases hd:D k with
     | false=>rfl
     | true=>rw [hd] at h;simp at h
theorem PU {m:Region.Mode} {e:Edge} (h:Region.binds .any e=true):Region.binds m e=true:=by
 unfold Region.binds at h ⊢;cases hg:e.ground <;> rw [hg] at h <;> simp_all
theorem Gx {ops : Array Oper} (hp : DrawQ ops) (m : Region.Mode) : ∀ (fuel t : Nat) (listed : Array Bool) (acc : List Nat), listed.size = ops.size → Closed ops (fun i => listed.getD i false) → fuel = pJ (fun i => listed.getD i false) ops.size →
 ∃ rest,Region.linearise.go m ops fuel t listed acc=acc.reverse++rest/\Valid ops (fun i=>listed.getD i false) rest
 | 0,t,listed,acc,hs,hc,hf=>⟨[],by simp [Region.linearise.go],AF _ hf.symm⟩
 | fuel+1,t,listed,acc,hs,hc,hf=>by
   generalize hD:(fun i=>listed.getD i false)=D at *;have nF:∀ i,D i=listed.getD i false:=fun i=>by rw [<-hD]
   obtain ⟨i1,hi1,hd1,_⟩:=K6 (D:=D) ops.size (by omega);obtain ⟨l0,⟨hall0,hin0⟩,hord0⟩:=hp.orders m
   -- the first of that order that is not listed
   obtain ⟨k0,i0,hk0,hd0,hj0⟩:∃ (k:Nat) (i:Nat),l0[k]? = some i/\D i=false/\∀ j,j∈l0.take k->D j=true:=by
    have : ∀ (l : List Nat), i1 ∈ l → ∃ (k : Nat) (i : Nat), l[k]? = some i ∧ D i = false ∧ ∀ j, j ∈ l.take k → D j = true := by
     intro l
     induction l with
     | nil=>intro hh;cases hh
     | cons x l ihl =>
       intro hh;by_cases hx:D x=true
       . rcases List.mem_cons.1 hh with rfl | hh
         . rw [hd1] at hx;cases hx
         . obtain ⟨k,i,a1,a2,a3⟩:=ihl hh;refine ⟨k+1,i,by simpa using a1,a2,fun j hj=>?_⟩;simp only [List.take_succ_cons,List.mem_cons] at hj;rcases hj with rfl | hj
           . exact hx
           . exact a3 j hj
       . exact ⟨0,x,rfl,by simpa using hx,fun j hj=>by simp at hj⟩
    exact this l0 (hall0 i1 hi1)
   have hi0:i0<ops.size:=hin0 i0 (List.mem_of_getElem? hk0);simp only [Region.linearise.go];generalize Gy:((List.range ops.size).filter fun i=>!listed.getD i true&&((ops[i]?).map (·.after.all fun e=>!Region.binds m e||listed.getD e.on false)).getD false)=rs;have hget:∀ i,i<ops.size->listed.getD i true=listed.getD i false:=by
    intro i hi;simp [Array.getD_eq_getD_getElem?,Array.getElem?_eq_getElem (show i<listed.size by omega)]
   have hin:i0∈rs:=by
    rw [<-Gy,List.mem_filter];refine ⟨List.mem_range.2 hi0,?_⟩;have ho:ops[i0]? = some ops[i0]:=Array.getElem?_eq_getElem hi0;rw [hget i0 hi0,<-nF,hd0,ho];simp only [Bool.not_false,Bool.true_and,Option.map_some,Option.getD_some];rw [Array.all_eq_true_iff_forall_mem];intro e he;by_cases hbm:Region.binds m e=true
    . rw [Bool.or_eq_true];right;rw [<-nF];exact hj0 _ (hord0 k0 i0 hk0 _ ho e he hbm)
    . simp [hbm]
   have hlen:0<rs.length:=List.length_pos_of_mem hin;obtain ⟨i,hi⟩:∃ i,rs[t % rs.length]? = some i:=⟨_,List.getElem?_eq_getElem (Nat.mod_lt _ hlen)⟩;rw [hi];simp only;have hmem:=List.mem_of_getElem? hi;rw [<-Gy,List.mem_filter] at hmem;obtain ⟨hir,BI⟩:=hmem;have hilt:=List.mem_range.1 hir;have ho:ops[i]? = some ops[i]:=Array.getElem?_eq_getElem hilt;rw [hget i hilt,<-nF,ho] at BI;simp only [Option.map_some,Option.getD_some,Bool.and_eq_true,Bool.not_eq_true'] at BI;have gJ:Ready ops D i:=by
    refine ⟨BI.1,_,ho,fun e he hb=>?_⟩;have h2:=BI.2;rw [Array.all_eq_true_iff_forall_mem] at h2;have:=h2 e he;rw [PU hb] at this;simp only [Bool.not_true,Bool.false_or] at this;rw [nF];exact this
   have ZP:(fun j=>(listed.setIfInBounds i true).getD j false)=iF D i:=by
    funext j;simp only [Array.getD_eq_getD_getElem?];by_cases hji:j=i
    . subst hji;rw [Array.getElem?_setIfInBounds_self_of_lt (by omega),mU];rfl
    . rw [Array.getElem?_setIfInBounds_ne (by omega),eV D hji,nF];simp [Array.getD_eq_getD_getElem?]
   have hun:=K5 BI.1 ops.size hilt;obtain ⟨rest,hgo,hv⟩:=Gx hp m fuel (t / rs.length) (listed.setIfInBounds i true) (i::acc) (by simpa using hs) (by rw [ZP];exact gJ.closed hc) (by rw [ZP];omega);refine ⟨i::rest,?_,gJ,by rw [<-ZP];exact hv⟩;rw [hgo];simp
theorem Er:∀ k,pJ (fun _=>false) k=k
 | 0=>rfl
 | k+1=>by simp [pJ,Er k]
theorem rY {ops:Array Oper} (hp:DrawQ ops) (m:Region.Mode) (t:Nat):Valid ops (fun _=>false) (Region.linearise m ops t):=by
 have hD:(fun i=>(Array.replicate ops.size false).getD i false)=fun _=>false:=by
  funext i;simp only [Array.getD_eq_getD_getElem?,Array.getElem?_replicate];split <;> rfl
 obtain ⟨rest,h,hv⟩:=Gx hp m ops.size t (Array.replicate ops.size false) [] (by simp) (by rw [hD];intro i o hi;cases hi) (by rw [hD,Er]);rw [hD] at hv;unfold Region.linearise;rw [h];simpa using hv
theorem oy {ops:Array Oper} (hp:DrawQ ops) (mixed:Bool) (t:Nat):Valid ops (fun _=>false) (Region.schedule mixed ops t):=by
 unfold Region.schedule;split
 . exact rY hp _ _
 . exact rY hp _ _
def jJ (D:Nat->Bool):List Oper->Nat->Nat
 | [],_=>0
 | o::l,k=>(if D k=true/\bY o.op=true then 1 else 0)+jJ D l (k+1)
theorem wT {ops:Array Oper} {D:Nat->Bool}:∀ (k:Nat),k<=ops.size->cF ops D k+jJ D (ops.toList.drop k) k=jJ D ops.toList 0
 | 0,_=>by simp [cF]
 | k+1,h=>by
   have:=wT (ops:=ops) (D:=D) k (by omega);have hk:k<ops.toList.length:=by simp;omega
   rw [List.drop_eq_getElem_cons hk] at this;simp only [jJ] at this;simp only [cF];have hl:cM ops k=bY (ops.toList[k]).op:=by
    unfold cM;have:ops[k]? = some ops.toList[k]:=by simp [Array.getElem?_eq_getElem (show k<ops.size by omega)]
    rw [this]
   rw [hl];omega
theorem Gz {ops:Array Oper} {D:Nat->Bool}:jJ D ops.toList 0=cF ops D ops.size:=by
 have:=wT (ops:=ops) (D:=D) ops.size (Nat.le_refl _);have hd:ops.toList.drop ops.size=[]:=by simp
 rw [hd] at this;simpa [jJ] using this.symm
theorem uM {D:Nat->Bool}:∀ (l:List Oper) (k:Nat),((l.zipIdx k).filter fun (x:Oper×Nat)=>bY x.1.op&&D x.2).length=jJ D l k
 | [],_=>rfl
 | o :: l, k => by
   simp only [List.zipIdx_cons,List.filter_cons,jJ];rw [<-uM l (k+1)];by_cases h:(bY o.op&&D k)=true
   . rw [if_pos h];simp only [Bool.and_eq_true] at h;rw [if_pos ⟨h.2,h.1⟩];simp;omega
   . rw [if_neg h,if_neg (fun hh=>h (by simp [hh.1,hh.2]))];omega
theorem tQ {ops:Array Oper} {i:Nat}:cK ops i=(cF ops (fun j=>bit ((dF ops.toList []).getD i 0) j) ops.size,cF ops (fun j=>!(bit ((dF ops.toList []).getD j 0) i)&&!(Nat.beq i j)) ops.size):=by
 unfold cK;simp only [Prod.mk.injEq];refine ⟨?_,?_⟩
 . rw [uM (D:=fun j=>bit ((dF ops.toList []).getD i 0) j),Gz]
 . rw [<-Gz,<-uM];congr 2;funext x;simp [Bool.and_assoc]
def lc (l:List Oper) (j:Nat):Nat:=jJ (fun _=>true) (l.take j) 0
theorem Es (l:List Oper):∀ k k',jJ (fun _=>true) l k=jJ (fun _=>true) l k':=by
 induction l with
 | nil=>intros;rfl
 | cons o l ih=>intro k k';simp only [jJ];rw [ih (k+1) (k'+1)]
theorem Ym (o:Oper) (l:List Oper) (j:Nat):lc (o::l) (j+1)=(if bY o.op=true then 1 else 0)+lc l j:=by
 unfold lc;simp only [List.take_succ_cons,jJ,true_and];rw [Es _ 1 0]
theorem Yn {ops:Array Oper} {k:Nat} (hk:k<=ops.size):lc ops.toList k=cF ops (fun j=>decide (j<k)) ops.size:=by
 have h1:∀ k,k<=ops.size->cF ops (fun _=>true) k=lc ops.toList k:=by
  intro k hk;have:=wT (ops:=ops) (D:=fun _=>true) k hk;have h2:jJ (fun _=>true) ops.toList 0=lc ops.toList k+jJ (fun _=>true) (ops.toList.drop k) k:=by
   unfold lc;have happ:∀ (a b:List Oper) (m:Nat),jJ (fun _=>true) (a++b) m=jJ (fun _=>true) a m+jJ (fun _=>true) b (m+a.length):=by
    intro a
    induction a with
    | nil=>intro b m;simp [jJ]
    | cons o a ih=>intro b m;simp only [List.cons_append,jJ,List.length_cons];rw [ih];rw [show m+1+a.length=m+(a.length+1) by omega];omega
   have:=happ (ops.toList.take k) (ops.toList.drop k) 0;rw [List.take_append_drop] at this;rw [this,Es (ops.toList.drop k) _ k]
  omega
 rw [<-h1 k hk];have h3 : ∀ m, k ≤ m → cF ops (fun j => decide (j < k)) m = cF ops (fun _ => true) k := by
  intro m hm
  induction m with
  | zero => have : k = 0 := by omega
            subst this;rfl
  | succ m ih =>
    by_cases hkm:k=m+1
    . subst hkm;exact j6 _ (fun j hj _=>by simp [hj])
    . simp only [cF];rw [ih (by omega)];have:¬ (m<k):=by omega
      simp [this]
 rw [h3 _ hk]
end Go.ar
namespace Go.ar
open Go.RowKit Go.ChangeShapes Go.WideShapes Go.ChangeAt
theorem F5 {H:Type} {enc:TypeId×Value->H} {P:Program} {f:Func} {s:ChangeSpec} {apart fresh handsOn again:Bool} {W W':World} {args:Array Value} {v:Value} {ds gs:List (DataW H)} {before pa pv:List MemPlace}
 (hW:DataW.Whole enc P f.params.toList s.vars apart W args.toList ds gs before)
 (hres:∀ (b:Nat) (sp:Nat->Bool) (hd:Bool),DataW.TrodAll enc P W' b sp hd f.resultTypes.toList (v.resultList f.resultTypes.size) (s.fn H (ds++gs)).results [])
 (hargs:∀ sp:Nat->Bool,(∀ p∈before,sp p.block=true)->DataW.TrodAll enc P W' 0 sp true f.params.toList args.toList (s.fn H (ds++gs)).args pa)
 (hvars:∀ sp:Nat->Bool,(∀ p∈before,sp p.block=true)->DataW.TrodVars enc P W' sp s.vars (s.fn H (ds++gs)).vars pv)
 (hps:before=pa++pv) (hB:Below W.heap.size W W')
 (hok:∀ (j:Nat) (t:TypeId) (r:Value),f.resultTypes[j]? = some t->(v.resultList f.resultTypes.size)[j]? = some r->Value.okWide P W' .any 0 t r) :
 s.post enc P f apart fresh handsOn again W args v W':=by
 have hlt:∀ p∈before,p.block<W.heap.size:=fun p hp=>hW.lt p hp;have hold:∀ p∈before,(fun b=>decide (b<W.heap.size)) p.block=true:=fun p hp=>by simpa using hlt p hp
 refine ⟨ds,gs,before,[],pa,pv,hW,hres _ _ _,hargs _ hold,hvars _ hold,World.keptBut_mono (fun p hp=>⟨hp,?_⟩) (hB.frame (·∈before)),fun _=>?_⟩
 . rw [hps,List.mem_append] at hp;exact Or.inr hp
 . obtain ⟨_,_,_,_,_,hz,hn⟩:=hW;refine ⟨hok,_,_,([]++pa)++pv,⟨[]++pa,pv,trodAll_append (hargs _ (fun _ _=>rfl)) (hres _ _ _),hvars _ (fun _ _=>rfl),rfl,?_,?_⟩,?_⟩
   . intro b off hp;have hp':(MemPlace.cell b off)∈before:=by rw [hps];simpa using hp
     rw [hB.frozen (by have:=hlt _ hp';exact this)];exact hz b off hp'
   . intro ha;have:=hn ha;rw [hps] at this;simpa using this
   . intro p hp _;rw [hps];simpa using hp
end Go.ar
