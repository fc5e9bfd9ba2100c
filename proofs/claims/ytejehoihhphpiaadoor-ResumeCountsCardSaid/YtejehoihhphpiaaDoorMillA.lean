/- A verified evaluator for the model. It holds for every program and every world, under the hypotheses that each theorem names. -/
import Derived.RangeFuncLeaves
import Derived.Below
namespace Go.Mill
open Go.RowKit

noncomputable def sel {α:Type} (b:Bool) (x y:α):α:=@Bool.rec (fun _=>α) y x b
theorem sel_eq {α:Type} (b:Bool) (x y:α):sel b x y=if b=true then x else y:=by cases b <;> rfl

theorem bif_some {α:Type} {c:Bool} {x:Option α} {y:α} (e:(bif c then x else none)=some y):c=true/\x=some y:=by
 cases c
 . cases e
 . exact ⟨rfl,e⟩

/-! ### A map from numbers, as a tree -/
inductive T (α:Type) where
 | leaf
 | node (l:T α) (v:Option α) (r:T α)

namespace T
variable {α:Type}
noncomputable def get (t:T α):Nat->Option α :=
 T.rec (fun _=>none) (fun _ v _ ihl ihr n=>sel (Nat.beq n 0) v (sel (Nat.beq (Nat.mod n 2) 1) (ihl (Nat.div n 2)) (ihr (Nat.sub (Nat.div n 2) 1)))) t
noncomputable def putF (f:Nat):T α->Nat->Option α->T α :=
 Nat.rec (fun t _ _=>t) (fun _ ih t n a=>T.rec
  (sel (Nat.beq n 0) (node leaf a leaf) (sel (Nat.beq (Nat.mod n 2) 1) (node (ih leaf (Nat.div n 2) a) none leaf) (node leaf none (ih leaf (Nat.sub (Nat.div n 2) 1) a))))
  (fun l v r _ _=>sel (Nat.beq n 0) (node l a r) (sel (Nat.beq (Nat.mod n 2) 1) (node (ih l (Nat.div n 2) a) v r) (node l v (ih r (Nat.sub (Nat.div n 2) 1) a)))) t) f
noncomputable def put (t:T α) (n:Nat) (a:Option α):T α:=putF (Nat.succ n) t n a
noncomputable def set (t:T α) (n:Nat) (a:α):T α:=put t n (some a)

theorem get_leaf (n:Nat):(leaf:T α).get n=none:=rfl
theorem get_node (l:T α) (v:Option α) (r:T α) (n:Nat) :
 (node l v r).get n=if n=0 then v else if n % 2=1 then l.get (n / 2) else r.get (n / 2-1):=by
 show sel (Nat.beq n 0) v (sel (Nat.beq (n % 2) 1) (l.get (n / 2)) (r.get (n / 2-1)))=_
 rw [sel_eq,sel_eq]
 simp only [Nat.beq_eq]
theorem putF_leaf (f n:Nat) (a:Option α):putF (f+1) leaf n a =
 if n=0 then node leaf a leaf else if n % 2=1 then node (putF f leaf (n / 2) a) none leaf else node leaf none (putF f leaf (n / 2-1) a):=by
 show sel (Nat.beq n 0) (node leaf a leaf) (sel (Nat.beq (n % 2) 1) (node (putF f leaf (n / 2) a) none leaf) (node leaf none (putF f leaf (n / 2-1) a)))=_
 rw [sel_eq,sel_eq]
 simp only [Nat.beq_eq]
theorem putF_node (f n:Nat) (a:Option α) (l:T α) (v:Option α) (r:T α):putF (f+1) (node l v r) n a =
 if n=0 then node l a r else if n % 2=1 then node (putF f l (n / 2) a) v r else node l v (putF f r (n / 2-1) a):=by
 show sel (Nat.beq n 0) (node l a r) (sel (Nat.beq (n % 2) 1) (node (putF f l (n / 2) a) v r) (node l v (putF f r (n / 2-1) a)))=_
 rw [sel_eq,sel_eq]
 simp only [Nat.beq_eq]
theorem get_putF (f:Nat):∀ (t:T α) (n m:Nat) (a:Option α),n<f->(putF f t n a).get m=if m=n then a else t.get m:=by
 induction f with
 | zero=>intro t n m a h;omega
 | succ f ih =>
   intro t n m a h
   cases t with
   | leaf =>
     rw [putF_leaf]
     by_cases h0:n=0
     . subst h0
       rw [if_pos rfl,get_node,get_leaf,get_leaf,get_leaf]
       split <;> simp_all
     . rw [if_neg h0]
       by_cases h1:n % 2=1
       . rw [if_pos h1,get_node,ih _ _ _ _ (by omega),get_leaf,get_leaf]
         by_cases m0:m=0
         . subst m0;rw [if_pos rfl,if_neg (by omega)];rfl
         . rw [if_neg m0]
           by_cases m1:m % 2=1
           . rw [if_pos m1]
             by_cases e:m=n
             . rw [if_pos e,if_pos (by omega)]
             . rw [if_neg e,if_neg (by omega)];rfl
           . rw [if_neg m1,if_neg (by intro e;subst e;exact m1 h1)];rfl
       . rw [if_neg h1,get_node,ih _ _ _ _ (by omega),get_leaf,get_leaf]
         by_cases m0:m=0
         . subst m0;rw [if_pos rfl,if_neg (by omega)];rfl
         . rw [if_neg m0]
           by_cases m1:m % 2=1
           . rw [if_pos m1,if_neg (by intro e;subst e;exact h1 m1)];rfl
           . rw [if_neg m1]
             by_cases e:m=n
             . rw [if_pos e,if_pos (by omega)]
             . rw [if_neg e,if_neg (by omega)];rfl
   | node l v r =>
     rw [putF_node]
     by_cases h0:n=0
     . subst h0
       rw [if_pos rfl,get_node,get_node]
       split <;> simp_all
     . rw [if_neg h0]
       by_cases h1:n % 2=1
       . rw [if_pos h1,get_node,get_node,ih _ _ _ _ (by omega)]
         by_cases m0:m=0
         . subst m0;rw [if_pos rfl,if_neg (by omega),if_pos rfl]
         . rw [if_neg m0,if_neg m0]
           by_cases m1:m % 2=1
           . rw [if_pos m1,if_pos m1]
             by_cases e:m=n
             . rw [if_pos e,if_pos (by omega)]
             . rw [if_neg e,if_neg (by omega)]
           . rw [if_neg m1,if_neg m1,if_neg (by intro e;subst e;exact m1 h1)]
       . rw [if_neg h1,get_node,get_node,ih _ _ _ _ (by omega)]
         by_cases m0:m=0
         . subst m0;rw [if_pos rfl,if_neg (by omega),if_pos rfl]
         . rw [if_neg m0,if_neg m0]
           by_cases m1:m % 2=1
           . rw [if_pos m1,if_pos m1,if_neg (by intro e;subst e;exact h1 m1)]
           . rw [if_neg m1,if_neg m1]
             by_cases e:m=n
             . rw [if_pos e,if_pos (by omega)]
             . rw [if_neg e,if_neg (by omega)]
theorem get_put (t:T α) (n m:Nat) (a:Option α):(t.put n a).get m=if m=n then a else t.get m:=get_putF _ _ _ _ _ (Nat.lt_succ_self n)
theorem get_set (t:T α) (n m:Nat) (a:α):(t.set n a).get m=if m=n then some a else t.get m:=get_put _ _ _ _
end T
end Go.Mill
