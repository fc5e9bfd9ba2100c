/- Words in plain terms: free reduction. -/
namespace Go.Words
/-! Words: free reduction, in plain terms. -/
def opp (x y:Int):Bool:=decide (x≠0)&&decide (y=-x)
theorem opp_true {x y:Int}:opp x y=true↔x≠0/\y=-x:=by simp [opp]
theorem opp_comm (x y:Int):opp x y=opp y x:=by
 rw [Bool.eq_iff_iff,opp_true,opp_true];omega
def act (x:Int):List Int->List Int
 | []=>[x]
 | y::l=>if opp y x then l else x::y::l
def run (r w:List Int):List Int:=w.foldl (fun r x=>act x r) r
def Rd:List Int->Prop
 | []=>True
 | [_]=>True
 | x::y::l=>opp x y=false/\Rd (y::l)
theorem Rd.tail {x:Int} {l:List Int} (h:Rd (x::l)):Rd l:=by
 cases l with
 | nil=>trivial
 | cons y l=>exact h.2
theorem act_rd {x:Int} {l:List Int} (h:Rd l):Rd (act x l):=by
 cases l with
 | nil=>trivial
 | cons y l =>
   simp only [act]
   split
   . exact h.tail
   . rename_i ho
     exact ⟨by rw [opp_comm];simpa using ho,h⟩
theorem run_append (r u v:List Int):run r (u++v)=run (run r u) v:=by simp [run]
theorem run_rd {r:List Int} (h:Rd r) (w:List Int):Rd (run r w):=by
 induction w generalizing r with
 | nil=>exact h
 | cons x w ih=>exact ih (act_rd h)
def Eqv (u v:List Int):Prop:=∀ r,Rd r->run r u=run r v
theorem Eqv.refl (u:List Int):Eqv u u:=fun _ _=>rfl
theorem Eqv.symm {u v:List Int} (h:Eqv u v):Eqv v u:=fun r hr=>(h r hr).symm
theorem Eqv.trans {u v t:List Int} (h:Eqv u v) (g:Eqv v t):Eqv u t:=fun r hr=>(h r hr).trans (g r hr)
theorem Eqv.app {u v u' v':List Int} (h:Eqv u u') (g:Eqv v v'):Eqv (u++v) (u'++v'):=fun r hr=>by
 rw [run_append,run_append,h r hr,g _ (run_rd hr _)]
/-! Inverses. -/
def NZ (w:List Int):Prop:=∀ x∈w,x≠0
theorem NZ.app {u v:List Int} (h:NZ u) (g:NZ v):NZ (u++v):=fun x hx=>(List.mem_append.mp hx).elim (h x) (g x)
end Go.Words

namespace Go.Words
/-! Cyclically reduced words. -/
def Rot (c c':List Int):Prop:=∃ k,k<=c.length/\c'=c.drop k++c.take k
theorem Rot.refl (c:List Int):Rot c c:=⟨0,by simp,by simp⟩
/-! The core of a word: how many letters fall away at each end. -/
def side (l:List Int):Nat->Nat->Nat
 | 0,k=>k
 | f+1,k=>if 1<l.length-2*k/\opp (l.getD k 0) (l.getD (l.length-1-k) 0)=true then side l f (k+1) else k
def cut (w:List Int):List Int:=(w.drop (side w w.length 0)).take (w.length-2*side w w.length 0)
end Go.Words

namespace Go.Words
/-! Powers. -/
def pw (w:List Int):Nat->List Int
 | 0=>[]
 | n+1=>w++pw w n
theorem pw_add (w:List Int) (m n:Nat):pw w (m+n)=pw w m++pw w n:=by
 induction m with
 | zero=>simp [pw]
 | succ m ih=>rw [Nat.succ_add,pw,pw,ih,List.append_assoc]
theorem pw_length (w:List Int) (n:Nat):(pw w n).length=n*w.length:=by
 induction n with
 | zero=>simp [pw]
 | succ n ih=>rw [pw,List.length_append,ih,Nat.succ_mul];omega
theorem NZ.pw {w:List Int} (h:NZ w) (n:Nat):NZ (pw w n):=by
 induction n with
 | zero=>intro x hx;simp [Words.pw] at hx
 | succ n ih=>exact h.app ih
theorem Eqv.pw {u v:List Int} (h:Eqv u v) (n:Nat):Eqv (pw u n) (pw v n):=by
 induction n with
 | zero=>exact Eqv.refl _
 | succ n ih=>exact h.app ih
/-! Powers add up. -/
/-! Sums of exponents. -/
end Go.Words
