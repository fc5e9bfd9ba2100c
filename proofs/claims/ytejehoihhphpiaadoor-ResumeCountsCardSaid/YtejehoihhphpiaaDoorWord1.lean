/- Words: equal lists, copies, picks, comparisons; the reduced form as the program makes it. -/
import Derived.Test.YtejehoihhphpiaaDoorPres1
import Derived.Test.YtejehoihhphpiaaDoorWord0
namespace Go.Proofs.YtejehoihhphpiaaDoor
open Go.Loom Go.Words
set_option maxRecDepth 100000
/-! ### Equal lists -/
/-! ### Letters that cancel -/
def R64 (x:Int):Prop:=-9223372036854775808<=x/\x<=9223372036854775807
/-! ### The reduced form -/
def All64 (w:List Int):Prop:=∀ x∈w,R64 x
theorem R64_zero:R64 0:=⟨by omega,by omega⟩
theorem All64.getD {w:List Int} (h:All64 w) (i:Nat):R64 (w.getD i 0):=by
 rw [List.getD_eq_getElem?_getD]
 cases e:w[i]? with
 | none=>exact R64_zero
 | some x=>exact h x (List.mem_of_getElem? e)
/-! ### Copies, picks, letters -/
end Go.Proofs.YtejehoihhphpiaaDoor

namespace Go.Proofs.YtejehoihhphpiaaDoor
open Go.Loom Go.Words
set_option maxRecDepth 100000
/-! ### cmp.Or -/
/-! ### Letters and words compared -/
def sz (x:Int):Int:=IntKind.u64.wrap (if x<0 then 0-(IntKind.u64.wrap x) else x)
theorem size_sem (x:Int):FnSem Tryd.prog 48 [nI x] [] (uI (sz x)) []:=by
 refine fnSem_at (live:=[]) gamOk_nil Tryd.func48 (by kernel_rfl) (keep:=0) rfl (by kernel_rfl) 100 ?_
 apply of_eq (q:=(decide (x<(0:Int))=true->packV [V.c (W.int .u64 (IntKind.u64.wrap ((0:Int)-IntKind.u64.wrap x)))]=uI (sz x)/\([]:List Ob)=[])/\(decide (x<(0:Int))=false->packV [V.c (W.int .u64 (IntKind.u64.wrap x))]=uI (sz x)/\([]:List Ob)=[])) (by kernel_rfl)
 try simp only [and_true,decide_eq_true_eq,decide_eq_false_iff_not,Int.not_lt]
 refine ⟨fun h=>?_,fun h=>?_⟩
 . rw [sz,if_pos h];rfl
 . rw [sz,if_neg (by omega)];rfl
def cSize:Con:=con1 (.int .i64) fun x=>(.t,uI (sz x),[])
theorem cSize_ok:ConOk Tryd.prog 48 cSize:=con1_ok (by kernel_rfl) fun x _=>size_sem x
theorem drop_nil {l:List Int} {i:Nat} (h:l.length<=i):l.drop i=[]:=List.drop_eq_nil_of_le h
end Go.Proofs.YtejehoihhphpiaaDoor

namespace Go.Proofs.YtejehoihhphpiaaDoor
open Go.Loom Go.Words
set_option maxRecDepth 100000
end Go.Proofs.YtejehoihhphpiaaDoor

namespace Go.Proofs.YtejehoihhphpiaaDoor
open Go.Loom Go.Words
set_option maxRecDepth 100000
theorem flat_le (xs:List (List Int)) (i:Nat):(xs.take i).flatten.length<=xs.flatten.length:=by
 conv=>rhs;rw [<-List.take_append_drop i xs]
 rw [List.flatten_append,List.length_append];omega
theorem flat_snoc {xs:List (List Int)} {i:Nat} (h:i<xs.length):(xs.take (i+1)).flatten=(xs.take i).flatten++xs.getD i []:=by
 rw [takeL_snoc h];simp
abbrev pcA:List Nat:=[0,1,0,1,1]
abbrev pcB:List Nat:=[0,1,0,1,1,1,1]
end Go.Proofs.YtejehoihhphpiaaDoor

namespace Go.Proofs.YtejehoihhphpiaaDoor
open Go.Loom Go.Words
set_option maxRecDepth 100000
theorem All64.app {u v:List Int} (h:All64 u) (g:All64 v):All64 (u++v):=fun x hx=>(List.mem_append.mp hx).elim (h x) (g x)
end Go.Proofs.YtejehoihhphpiaaDoor
