/- Reading words: what the reader reads, in plain terms. -/
import Derived.Test.YtejehoihhphpiaaDoorWord1
import Derived.Test.YtejehoihhphpiaaDoorWord0
import Derived.Test.YtejehoihhphpiaaDoorLoom4
namespace Go.Proofs.YtejehoihhphpiaaDoor
open Go.Loom Go.Words
set_option maxRecDepth 100000
/-! ### The plain reader -/
end Go.Proofs.YtejehoihhphpiaaDoor

namespace Go.Proofs.YtejehoihhphpiaaDoor
open Go.Loom Go.Words
set_option maxRecDepth 100000
/-! ### What is seen -/
def decL (x:Nat):List Int:=if x<10 then [48+(x:Int)] else [48+((x / 10:Nat):Int),48+((x % 10:Nat):Int)]
/-! ### Texts -/
def runLen (x:Int):List Int->Nat
 | []=>0
 | y::l=>if y=x then runLen x l+1 else 0
theorem runLen_le (x:Int):∀ l:List Int,runLen x l<=l.length
 | []=>Nat.le_refl _
 | y::l=>by
   have:=runLen_le x l
   unfold runLen
   split <;> simp <;> omega
def runsL:List Int->List (List Int)
 | []=>[]
 | x::l=>[x,((runLen x l+1:Nat):Int)]::runsL (l.drop (runLen x l))
 termination_by l=>l.length
 decreasing_by simp;omega
def pieceL (x:Int) (n:Nat):List Int:=(96+(x.natAbs:Int))::(if x<0 then 94::45::decL n else if 1<n then 94::decL n else [])
def pieceY (y:List Int):List Int:=pieceL (y.getD 0 0) (y.getD 1 0).toNat
def joinL:List (List Int)->List Int
 | []=>[]
 | [p]=>p
 | p::q::r=>p++42::joinL (q::r)
def textL (a:List Int):List Int:=if a=[] then [49] else joinL ((runsL a).map pieceY)
def GoodY (g:Int) (y:List Int):Prop:=∃ (x:Int) (n:Nat),y=[x,(n:Int)]/\x≠0/\(x.natAbs:Int)<=g/\1<=n/\n<100
def GoodW (g:Int) (a:List Int):Prop:=∀ x∈a,x≠0/\(x.natAbs:Int)<=g
theorem runs_good {g:Int}:∀ (n:Nat) (a:List Int),a.length<=n->n<100->GoodW g a->∀ y∈runsL a,GoodY g y
 | _,[],_,_,_,y,hy=>by rw [runsL] at hy;cases hy
 | 0,x::l,h,_,_,_,_=>by simp at h
 | n + 1, x :: l, h, hn, hg, y, hy => by
   have hl:=runLen_le x l
   simp only [List.length_cons] at h
   rw [runsL] at hy
   rcases List.mem_cons.1 hy with rfl | hy
   . obtain ⟨h1,h2⟩:=hg x (by simp)
     exact ⟨x,_,rfl,h1,h2,by omega,by omega⟩
   . exact runs_good n _ (by simp;omega) (by omega) (fun z hz=>hg z (by simp [List.mem_of_mem_drop hz])) y hy
theorem runs_ne {a:List Int} (h:a≠[]):runsL a≠[]:=by
 cases a with
 | nil=>exact absurd rfl h
 | cons x l=>rw [runsL];simp
theorem join_len:∀ ys:List (List Int),ys.length<=(joinL (ys.map pieceY)).length
 | []=>Nat.le_refl _
 | [y]=>by simp [joinL,pieceY,pieceL]
 | y::z::r=>by
   have:=join_len (z::r)
   simp only [List.map_cons,joinL,List.length_append,List.length_cons] at this ⊢
   omega
/-! ### Reading them -/
end Go.Proofs.YtejehoihhphpiaaDoor

namespace Go.Proofs.YtejehoihhphpiaaDoor
open Go.Loom Go.Words
set_option maxRecDepth 100000
theorem bytesI_length (s:ByteArray):(bytesI s).length=s.size:=by simp [bytesI]
theorem bAt_get (s:ByteArray) (i:Nat):bAt s i=(bytesI s).getD i 0:=by
 unfold bAt bytesI
 rw [List.getD_eq_getElem?_getD,List.getD_eq_getElem?_getD,List.getElem?_map]
 cases s.data.toList[i]? <;> rfl
theorem byte_get (s:ByteArray) (i:Nat):0<=(bytesI s).getD i 0/\(bytesI s).getD i 0<256:=by
 rw [<-bAt_get]
 unfold bAt
 have:=(s.data.toList.getD i 0).toNat_lt
 omega
/-! ### Numbers -/
end Go.Proofs.YtejehoihhphpiaaDoor
