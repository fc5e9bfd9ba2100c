/- Words: copies, cyclically reduced words. -/
import Derived.Test.YtejehoihhphpiaaDoorWord1
import Derived.Test.YtejehoihhphpiaaDoorWord0
namespace Go.Proofs.YtejehoihhphpiaaDoor
open Go.Loom Go.Words
set_option maxRecDepth 100000
theorem clone_sem (w:List Int) (h:w.length<=1000000):FnSem Tryd.prog 39 [lsI w] [] (lsI w) []:=by
 refine fnSemF_at (live:=[]) (fzl:=[]) (fz:=[some dI]) gamOk_nil Tryd.func39 (by kernel_rfl) (keep:=0) rfl (by kernel_rfl) 100 ?_
 apply of_eq (q:=let q1:=(0:Nat);∀ (b:Bool),(b=!false->w=[])->(b=true->q1<=q1/\packV [V.c (W.rd (D.int .i64) (List.take q1 (List.drop q1 [])))]=lsI w/\([]:List Ob)=[])/\(b=false->(q1+q1<=q1/\(q1+w.length)*(8:Nat)<=(140737488355328:Nat))/\q1+(q1+w.length)<=(List.take q1 (List.drop q1 [])++w).length/\packV [V.c (W.rd (D.int .i64) (List.take (q1+w.length) (List.drop q1 (List.take q1 (List.drop q1 [])++w))))]=lsI w/\([]:List Ob)=[])) (by kernel_rfl)
 try simp only [true_and,and_true,Nat.zero_add,List.drop_zero,List.take_zero,Nat.le_refl]
 intro b hb
 refine ⟨fun g=>?_,fun g=>?_⟩
 . rw [hb g];rfl
 . refine ⟨by omega,by simp,?_⟩
   rw [show List.take w.length ([]++w)=w from List.take_length];rfl
def cClone:Con:=con1 dI fun w=>(.p (List.length (α:=Int) w<=1000000),lsI w,[])
theorem cClone_ok:ConOk Tryd.prog 39 cClone:=con1_ok (by kernel_rfl) fun w h=>clone_sem w h
end Go.Proofs.YtejehoihhphpiaaDoor

namespace Go.Proofs.YtejehoihhphpiaaDoor
open Go.Loom Go.Words
set_option maxRecDepth 100000
theorem wrapU64 {n:Int} (h1:0<=n) (h2:n<18446744073709551616):IntKind.u64.wrap n=n:=by
 simp only [IntKind.wrap,IntKind.bits,IntKind.signed];simp;omega
theorem msk32 {n:Int} (h1:0<=n) (h2:n<4294967296):((BitVec.ofInt 64 n &&& BitVec.ofInt 64 4294967295).toNat:Int)=n:=by
 obtain ⟨m,rfl⟩:∃ m:Nat,n=m:=⟨n.toNat,by omega⟩
 have e:(BitVec.ofInt 64 (m:Int) &&& BitVec.ofInt 64 4294967295).toNat=m &&& (2 ^ 32-1):=by
  rw [BitVec.toNat_and]
  simp only [BitVec.toNat_ofInt]
  congr 1
  omega
 rw [e,Nat.and_two_pow_sub_one_eq_mod]
 omega
theorem mul64_sem (x y:Int) (h:(0<=x/\x<1073741824)/\0<=y/\y<1073741824):FnSem Tryd.prog 65 [uI x,uI y] [] (.tup [.c (.int .u64 0),.c (.int .u64 (x*y))]) []:=by
 refine fnSem_at (live:=[]) gamOk_nil Tryd.func65 (by kernel_rfl) (keep:=0) rfl (by kernel_rfl) 100 ?_
 apply of_eq (q:=let q2:=((2:Int) ^ (32:Nat));let q1:=(IntKind.u64.wrap (IntKind.u64.wrap (x.fdiv q2*IntKind.u64.wrap (↑(BitVec.ofInt (64:Nat) y &&& BitVec.ofInt (64:Nat) (4294967295:Int)).toNat:Int))+(IntKind.u64.wrap (IntKind.u64.wrap (↑(BitVec.ofInt (64:Nat) x &&& BitVec.ofInt (64:Nat) (4294967295:Int)).toNat:Int)*IntKind.u64.wrap (↑(BitVec.ofInt (64:Nat) y &&& BitVec.ofInt (64:Nat) (4294967295:Int)).toNat:Int))).fdiv q2));(0:Int)<=(32:Int)/\(0:Int)<=(32:Int)/\(0:Int)<=(32:Int)/\(0:Int)<=(32:Int)/\(0:Int)<=(32:Int)/\packV [V.c (W.int .u64 (IntKind.u64.wrap (IntKind.u64.wrap (IntKind.u64.wrap (x.fdiv q2*y.fdiv q2)+q1.fdiv q2)+(IntKind.u64.wrap (IntKind.u64.wrap (↑(BitVec.ofInt (64:Nat) q1 &&& BitVec.ofInt (64:Nat) (4294967295:Int)).toNat:Int)+IntKind.u64.wrap (IntKind.u64.wrap (↑(BitVec.ofInt (64:Nat) x &&& BitVec.ofInt (64:Nat) (4294967295:Int)).toNat:Int)*y.fdiv q2))).fdiv q2))),V.c (W.int .u64 (IntKind.u64.wrap (x*y)))]=A.tup [V.c (W.int .u64 (0:Int)),V.c (W.int .u64 (x*y))]/\([]:List Ob)=[]) (by kernel_rfl)
 try simp only [and_true]
 obtain ⟨⟨h1,h2⟩,h3,h4⟩:=h
 have hp0:0<=x*y:=Int.mul_nonneg h1 h3
 have hp1:x*y<=1073741824*1073741824:=Int.mul_le_mul (by omega) (by omega) h3 (by omega)
 have dx:x.fdiv (2 ^ 32)=0:=by rw [Int.fdiv_eq_ediv_of_nonneg _ (by omega)];omega
 have dy:y.fdiv (2 ^ 32)=0:=by rw [Int.fdiv_eq_ediv_of_nonneg _ (by omega)];omega
 have w0:IntKind.u64.wrap 0=0:=wrapU64 (by omega) (by omega)
 have wx:IntKind.u64.wrap x=x:=wrapU64 (by omega) (by omega)
 have wy:IntKind.u64.wrap y=y:=wrapU64 (by omega) (by omega)
 have wp:IntKind.u64.wrap (x*y)=x*y:=wrapU64 hp0 (by omega)
 have dp:0<=(x*y).fdiv (2 ^ 32)/\(x*y).fdiv (2 ^ 32)<4294967296:=by rw [Int.fdiv_eq_ediv_of_nonneg _ (by omega)];omega
 have wd:IntKind.u64.wrap ((x*y).fdiv (2 ^ 32))=(x*y).fdiv (2 ^ 32):=wrapU64 dp.1 (by omega)
 have dd:((x*y).fdiv (2 ^ 32)).fdiv (2 ^ 32)=0:=by rw [Int.fdiv_eq_ediv_of_nonneg (a:=(x*y).fdiv (2 ^ 32)) (by omega)];omega
 simp only [msk32 (n:=x) h1 (by omega),msk32 (n:=y) h3 (by omega),dx,dy,wx,wy,wp,Int.zero_mul,Int.mul_zero,w0,Int.zero_add,Int.add_zero,wd,dd,msk32 dp.1 dp.2]
 refine ⟨by omega,by omega,by omega,by omega,by omega,rfl⟩
def cMul64:Con:=con2 (.int .u64) (.int .u64) fun x y=>(.p ((0<=(show Int from x)/\(show Int from x)<1073741824)/\0<=(show Int from y)/\(show Int from y)<1073741824),.tup [.c (.int .u64 0),.c (.int .u64 ((show Int from x)*(show Int from y)))],[])
theorem cMul64_ok:ConOk Tryd.prog 65 cMul64:=con2_ok (by kernel_rfl) fun x y h=>mul64_sem x y h
noncomputable def gBm:Gam:=[(65,cMul64)]
theorem gBm_ok:GamOk Tryd.prog gBm:=gamOk_cons cMul64_ok gamOk_nil
theorem bmul_sem (x y:Int) (h:(0<=x/\x<1073741824)/\0<=y/\y<1073741824):FnSem Tryd.prog 54 [uI x,uI y] [] (.tup [.c (.int .u64 0),.c (.int .u64 (x*y))]) []:=by
 refine fnSem_at (live:=[]) gBm_ok Tryd.func54 (by kernel_rfl) (keep:=0) rfl (by kernel_rfl) 100 ?_
 apply of_eq (q:=(((0:Int)<=x/\x<(1073741824:Int))/\(0:Int)<=y/\y<(1073741824:Int))/\packV [V.c (W.int .u64 (0:Int)),V.c (W.int .u64 (x*y))]=A.tup [V.c (W.int .u64 (0:Int)),V.c (W.int .u64 (x*y))]/\([]:List Ob)=[]) (by kernel_rfl)
 try simp only [and_true]
 exact ⟨h,rfl⟩
def cBm:Con:=con2 (.int .u64) (.int .u64) fun x y=>(.p ((0<=(show Int from x)/\(show Int from x)<1073741824)/\0<=(show Int from y)/\(show Int from y)<1073741824),.tup [.c (.int .u64 0),.c (.int .u64 ((show Int from x)*(show Int from y)))],[])
theorem cBm_ok:ConOk Tryd.prog 54 cBm:=con2_ok (by kernel_rfl) fun x y h=>bmul_sem x y h
noncomputable def gRep:Gam:=[(54,cBm)]
theorem gRep_ok:GamOk Tryd.prog gRep:=gamOk_cons cBm_ok gamOk_nil
theorem pw_take (x:List Int) {m k:Nat} (h:k<=m):(pw x m).take (k*x.length)=pw x k:=by
 obtain ⟨j,rfl⟩:∃ j,m=k+j:=⟨m-k,by omega⟩
 rw [pw_add,<-pw_length x k,List.take_left]
end Go.Proofs.YtejehoihhphpiaaDoor

namespace Go.Proofs.YtejehoihhphpiaaDoor
open Go.Loom Go.Words
set_option maxRecDepth 100000
theorem sz_abs {n:Int} (h:R64 n):sz n=n.natAbs:=by
 obtain ⟨h1,h2⟩:=h
 unfold sz
 split
 . have:IntKind.u64.wrap n=n+18446744073709551616:=by simp only [IntKind.wrap,IntKind.bits,IntKind.signed];simp;omega
   rw [this]
   have:IntKind.u64.wrap (0-(n+18446744073709551616))=-n:=by simp only [IntKind.wrap,IntKind.bits,IntKind.signed];simp;omega
   rw [this];omega
 . rw [wrapU64 (by omega) (by omega)];omega
/-! ### Checks -/
def badLw (g x:Int):Bool:=decide (x=0)||decide (g<x)||decide (x < -g)
def checkW (w:List Int) (g:Int):Int:=if g<1∨16<g then 2 else if 4000<w.length then 4 else if w.any (badLw g) then 2 else 0
noncomputable def sCheck:Site:=mkSite Tryd.prog [] Tryd.f46 0 [([0,1,0,1,1,1],[1,16,17,18])]
theorem check_loopw (w:List Int) (g:Int) (hg:1<=g/\g<=16) (hl:w.length<=4000):∀ (k i:Nat),k=w.length-i->i<=w.length->
 AtLoop sCheck (Says1 (nI (if (w.drop i).any (badLw g) then 2 else 0)) []) [0,1,0,1,1,1] (fr [(1,nI g),(16,lsI w),(17,nI w.length),(18,nI i)]) (.ofList [])
 | k, i, hk, hi => by
   refine atLoop_at gamOk_nil (by kernel_rfl) 100 ?_
   apply of_eq (q:=let q1:=decide (w.getD i (0:Int)=(0:Int));let q2:=decide (g<w.getD i (0:Int));let q3:=decide (w.getD i (0:Int)<IntKind.i64.wrap ((0:Int)-g));(decide ((i:Int)<(w.length:Int))=true->((0:Int)<=(i:Int)/\(i:Int)<(w.length:Int))/\i<w.length/\(q1=false->q1=false)/\(q1=false->q1=false)/\(q1=false->q1=false)/\((bif q1 then true else q2)=false->(bif q1 then true else q2)=false)/\((bif q1 then true else q2)=false->(bif q1 then true else q2)=false)/\((bif q1 then true else q2)=false->(bif q1 then true else q2)=false)/\((bif q1 then true else q2)=false->(bif q1 then true else q2)=false)/\((bif bif q1 then true else q2 then true else q3)=true->packV [V.c (W.int .i64 (2))]=nI (if (List.drop i w).any (badLw g)=true then (2:Int) else (0:Int))/\([]:List Ob)=[])/\((bif bif q1 then true else q2 then true else q3)=false->AtLoop sCheck (Says1 (nI (if (List.drop i w).any (badLw g)=true then (2:Int) else (0:Int))) []) [0,1,0,1,1,1] (fr [(1,nI g),(16,lsI w),(17,nI (w.length:Int)),(18,nI (IntKind.i64.wrap ((i:Int)+(1:Int))))]) (Sto.ofList [])))/\(decide ((i:Int)<(w.length:Int))=false->packV [V.c (W.int .i64 (0))]=nI (if (List.drop i w).any (badLw g)=true then (2:Int) else (0:Int))/\([]:List Ob)=[])) (by kernel_rfl)
   try simp only [imp_self,true_and,and_true,Bool.cond_true_left,Bool.or_eq_true,Bool.or_eq_false_iff,decide_eq_true_eq,decide_eq_false_iff_not,Int.not_lt]
   rw [wrap64 (n:=0-g) (by omega) (by omega),wrap64 (n:=(i:Int)+1) (by omega) (by omega)]
   refine ⟨fun h=>⟨by omega,by omega,fun h2=>?_,fun h2=>?_⟩,fun h=>?_⟩
   . rw [getD_lt (by omega),List.any_cons,show badLw g (w.getD i 0)=true by simp only [badLw,Bool.or_eq_true,decide_eq_true_eq];omega];rfl
   . have e:(w.drop i).any (badLw g)=(w.drop (i+1)).any (badLw g):=by
      rw [getD_lt (by omega),List.any_cons,show badLw g (w.getD i 0)=false by simp only [badLw,Bool.or_eq_false_iff,decide_eq_false_iff_not];omega];rfl
     rw [e]
     cases k with
     | zero=>omega
     | succ k=>exact check_loopw w g hg hl k (i+1) (by omega) (by omega)
   . rw [List.drop_eq_nil_of_le (by omega)];rfl
theorem check_semw (w:List Int) (g:Int) (hw:w.length<=1000000):FnSem Tryd.prog 46 [lsI w,nI g] [] (nI (checkW w g)) []:=by
 refine fnSem_at (live:=[([0,1,0,1,1,1],[1,16,17,18])]) gamOk_nil Tryd.func46 (by kernel_rfl) (keep:=0) rfl (by kernel_rfl) 100 ?_
 apply of_eq (q:=let q1:=decide (g<(1:Int));(q1=false->q1=false)/\(q1=false->q1=false)/\((bif q1 then true else decide ((16:Int)<g))=true->packV [V.c (W.int .i64 (2))]=nI (checkW w g)/\([]:List Ob)=[])/\((bif q1 then true else decide ((16:Int)<g))=false->(decide ((4000:Int)<(w.length:Int))=true->packV [V.c (W.int .i64 (4))]=nI (checkW w g)/\([]:List Ob)=[])/\(decide ((4000:Int)<(w.length:Int))=false->AtLoop (mkSite Tryd.prog [] Tryd.f46 (0:Nat) [([0,1,0,1,1,1],[1,16,17,18])]) (Says1 (nI (checkW w g)) []) [0,1,0,1,1,1] (fr [(1,nI g),(16,lsI w),(17,nI (w.length:Int)),(18,nI (0))]) (Sto.ofList [])))) (by kernel_rfl)
 try simp only [imp_self,true_and,and_true,Bool.cond_true_left,Bool.or_eq_true,Bool.or_eq_false_iff,decide_eq_true_eq,decide_eq_false_iff_not,Int.not_lt]
 refine ⟨fun h=>?_,fun h=>⟨fun h2=>?_,fun h2=>?_⟩⟩
 . rw [checkW,if_pos h];rfl
 . rw [checkW,if_neg (by omega),if_pos (by omega)];rfl
 . rw [checkW,if_neg (by omega),if_neg (by omega)]
   exact check_loopw w g h (by omega) w.length 0 (by omega) (by omega)
def cCheckw:Con:=con2 dI (.int .i64) fun w g=>(.p (List.length (α:=Int) w<=1000000),nI (checkW w g),[])
theorem cCheck_okw:ConOk Tryd.prog 46 cCheckw:=con2_ok (by kernel_rfl) fun w g h=>check_semw w g h
/-! ### Sums -/
end Go.Proofs.YtejehoihhphpiaaDoor
