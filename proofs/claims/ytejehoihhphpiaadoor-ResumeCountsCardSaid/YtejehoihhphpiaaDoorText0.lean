/- Numbers of at most two digits as text. -/
import Derived.Test.YtejehoihhphpiaaDoorWord1
import Derived.Test.YtejehoihhphpiaaDoorShelf1
import Derived.Test.YtejehoihhphpiaaDoorLoom4
namespace Go.Proofs.YtejehoihhphpiaaDoor
open Go.Loom
set_option maxRecDepth 100000
def decT (n:Nat):ByteArray:=if n<10 then ⟨#[UInt8.ofNat (48+n)]⟩ else ⟨#[UInt8.ofNat (48+n / 10),UInt8.ofNat (48+n % 10)]⟩
theorem small_sem (n:Nat) (h:n<100):FnSem Tryd.prog 68 [nI n] [] (.p (.c (.str (decT n)))) []:=by
 refine fnSem_at (live:=[]) gamOk_nil Tryd.func68 (by kernel_rfl) (keep:=0) rfl (by kernel_rfl) 100 ?_
 apply of_eq (q:=let q0:=IntKind.i64.wrap;let q1:=(48:UInt8);let q2:=(49:UInt8);let q3:=(50:UInt8);let q4:=(51:UInt8);let q5:=(52:UInt8);let q6:=(53:UInt8);let q7:=(54:UInt8);let q8:=(55:UInt8);let q9:=(56:UInt8);let q10:=(57:UInt8);let q11:=(q0 ((n:Int)*(2:Int))+(2:Int));(decide ((n:Int)<(10:Int))=true->((0:Int)<=(n:Int)/\(n:Int)<=q0 ((n:Int)+(1:Int))/\q0 ((n:Int)+(1:Int))<=(↑(36:Nat):Int))/\packV [V.c (W.str ((ByteArray.mk #[q1,q2,q3,q4,q5,q6,q7,q8,q9,q10,(97:UInt8),(98:UInt8),(99:UInt8),(100:UInt8),(101:UInt8),(102:UInt8),(103:UInt8),(104:UInt8),(105:UInt8),(106:UInt8),(107:UInt8),(108:UInt8),(109:UInt8),(110:UInt8),(111:UInt8),(112:UInt8),(113:UInt8),(114:UInt8),(115:UInt8),(116:UInt8),(117:UInt8),(118:UInt8),(119:UInt8),(120:UInt8),(121:UInt8),(122:UInt8)]).extract n (q0 ((n:Int)+(1:Int))).toNat))]=A.p (V.c (W.str (decT n)))/\([]:List Ob)=[])/\(decide ((n:Int)<(10:Int))=false->((0:Int)<=q0 ((n:Int)*(2:Int))/\q0 ((n:Int)*(2:Int))<=q0 q11/\q0 q11<=(↑(200:Nat):Int))/\packV [V.c (W.str ((ByteArray.mk (([q1,q1,q1,q2,q1,q3,q1,q4,q1,q5,q1,q6,q1,q7,q1,q8,q1,q9,q1,q10,q2,q1,q2,q2,q2,q3,q2,q4,q2,q5,q2,q6,q2,q7,q2,q8,q2,q9,q2,q10,q3,q1,q3,q2,q3,q3,q3,q4,q3,q5].append [q3,q6,q3,q7,q3,q8,q3,q9,q3,q10,q4,q1,q4,q2,q4,q3,q4,q4,q4,q5,q4,q6,q4,q7,q4,q8,q4,q9,q4,q10,q5,q1,q5,q2,q5,q3,q5,q4,q5,q5,q5,q6,q5,q7,q5,q8,q5,q9,q5,q10]).append ([q6,q1,q6,q2,q6,q3,q6,q4,q6,q5,q6,q6,q6,q7,q6,q8,q6,q9,q6,q10,q7,q1,q7,q2,q7,q3,q7,q4,q7,q5,q7,q6,q7,q7,q7,q8,q7,q9,q7,q10,q8,q1,q8,q2,q8,q3,q8,q4,q8,q5].append [q8,q6,q8,q7,q8,q8,q8,q9,q8,q10,q9,q1,q9,q2,q9,q3,q9,q4,q9,q5,q9,q6,q9,q7,q9,q8,q9,q9,q9,q10,q10,q1,q10,q2,q10,q3,q10,q4,q10,q5,q10,q6,q10,q7,q10,q8,q10,q9,q10,q10])).toArray).extract (q0 ((n:Int)*(2:Int))).toNat (q0 q11).toNat))]=A.p (V.c (W.str (decT n)))/\([]:List Ob)=[])) (by kernel_rfl)
 try simp only [and_true,decide_eq_true_eq,decide_eq_false_iff_not,Int.not_lt]
 rw [wrap64 (n:=(n:Int)+1) (by omega) (by omega),wrap64 (n:=(n:Int)*2) (by omega) (by omega),wrap64 (n:=(n:Int)*2+2) (by omega) (by omega),show ((n:Int)+1).toNat=n+1 by omega,show ((n:Int)*2).toNat=n*2 by omega,show ((n:Int)*2+2).toNat=n*2+2 by omega]
 refine ⟨fun hn=>⟨by omega,congrArg (fun s=>A.p (V.c (W.str s))) ?_⟩,fun hn=>⟨by omega,congrArg (fun s=>A.p (V.c (W.str s))) ?_⟩⟩
 . revert n
   decide +kernel
 . revert n
   decide +kernel
theorem small_semI (n:Int) (h:0<=n/\n<100):FnSem Tryd.prog 68 [nI n] [] (.p (.c (.str (decT n.toNat)))) []:=by
 have:=small_sem n.toNat (by omega)
 rwa [show ((n.toNat:Nat):Int)=n by omega] at this
def cSmall:Con:=con1 (.int .i64) fun n=>(.p (0<=(show Int from n)/\(show Int from n)<100),.p (.c (.str (decT (show Int from n).toNat))),[])
theorem cSmall_ok:ConOk Tryd.prog 68 cSmall:=con1_ok (by kernel_rfl) fun n h=>small_semI n h
noncomputable def gFi:Gam:=[(68,cSmall)]
theorem gFi_ok:GamOk Tryd.prog gFi:=gamOk_cons cSmall_ok gamOk_nil
theorem fi_sem (n:Int) (h:0<=n/\n<100):FnSem Tryd.prog 59 [nI n,nI 10] [] (.p (.c (.str (decT n.toNat)))) []:=by
 refine fnSem_at (live:=[]) gFi_ok Tryd.func59 (by kernel_rfl) (keep:=0) rfl (by kernel_rfl) 100 ?_
 apply of_eq (q:=let q1:=decide ((0:Int)<=n);(decide ((10:Int)=(10:Int))=true->(q1=true->q1=true)/\(q1=true->q1=true)/\((bif q1 then decide (n<(100:Int)) else false)=true->((0:Int)<=n/\n<(100:Int))/\packV [V.c (W.str (decT n.toNat))]=A.p (V.c (W.str (decT n.toNat)))/\([]:List Ob)=[])/\((bif q1 then decide (n<(100:Int)) else false)=false->(decide (n<(0:Int))=true->False)/\(decide (n<(0:Int))=false->False)))/\(decide ((10:Int)=(10:Int))=false->False)) (by kernel_rfl)
 try simp only [imp_self,true_and,and_true,Bool.cond_false_right,Bool.and_eq_true,Bool.and_eq_false_imp,decide_eq_true_eq,decide_eq_false_iff_not,Int.not_lt]
 exact ⟨fun _=>⟨fun _=>⟨h,rfl⟩,fun g=>by have:=g h.1;omega⟩,fun g=>absurd trivial g⟩
def cFi:Con:=con2 (.int .i64) (.int .i64) fun n b=>(.p ((show Int from b)=10/\0<=(show Int from n)/\(show Int from n)<100),.p (.c (.str (decT (show Int from n).toNat))),[])
theorem cFi_ok:ConOk Tryd.prog 59 cFi:=con2_ok (by kernel_rfl) fun n b h=>by
 obtain ⟨rfl,h2⟩:=h
 exact fi_sem n h2
noncomputable def gIt:Gam:=[(59,cFi)]
theorem gIt_ok:GamOk Tryd.prog gIt:=gamOk_cons cFi_ok gamOk_nil
theorem it1_sem (n:Int) (h:0<=n/\n<100):FnSem Tryd.prog 45 [nI n] [] (.p (.c (.str (decT n.toNat)))) []:=by
 refine fnSem_at (live:=[]) gIt_ok Tryd.func45 (by kernel_rfl) (keep:=0) rfl (by kernel_rfl) 100 ?_
 apply of_eq (q:=((10:Int)=(10:Int)/\(0:Int)<=n/\n<(100:Int))/\packV [V.c (W.str (decT n.toNat))]=A.p (V.c (W.str (decT n.toNat)))/\([]:List Ob)=[]) (by kernel_rfl)
 try simp only [true_and,and_true]
 exact ⟨h,rfl⟩
def cIt1:Con:=con1 (.int .i64) fun n=>(.p (0<=(show Int from n)/\(show Int from n)<100),.p (.c (.str (decT (show Int from n).toNat))),[])
theorem cIt1_ok:ConOk Tryd.prog 45 cIt1:=con1_ok (by kernel_rfl) fun n h=>it1_sem n h
noncomputable def gIt2:Gam:=[(45,cIt1)]
theorem gIt2_ok:GamOk Tryd.prog gIt2:=gamOk_cons cIt1_ok gamOk_nil
theorem itoa_sem (n:Int) (h:0<=n/\n<100):FnSem Tryd.prog 27 [nI n] [] (.p (.c (.str (decT n.toNat)))) []:=by
 refine fnSem_at (live:=[]) gIt2_ok Tryd.func27 (by kernel_rfl) (keep:=0) rfl (by kernel_rfl) 100 ?_
 apply of_eq (q:=((0:Int)<=n/\n<(100:Int))/\packV [V.c (W.str (decT n.toNat))]=A.p (V.c (W.str (decT n.toNat)))/\([]:List Ob)=[]) (by kernel_rfl)
 try simp only [and_true]
 exact ⟨h,rfl⟩
def cItoa:Con:=con1 (.int .i64) fun n=>(.p (0<=(show Int from n)/\(show Int from n)<100),.p (.c (.str (decT (show Int from n).toNat))),[])
theorem cItoa_ok:ConOk Tryd.prog 27 cItoa:=con1_ok (by kernel_rfl) fun n h=>itoa_sem n h
end Go.Proofs.YtejehoihhphpiaaDoor

namespace Go.Proofs.YtejehoihhphpiaaDoor
open Go.Loom Go.RowKit
set_option maxRecDepth 100000
abbrev dS:D:=.sl .str
abbrev lsS (l:List ByteArray):A:=.p (.c (.rd .str l))
abbrev stT (s:ByteArray):A:=.p (.c (.str s))
def joinT (xs:List ByteArray) (sep:ByteArray):ByteArray:=⟨(Lib.join (xs.map (·.data.toList)) sep.data.toList).toArray⟩
theorem fnSem_st {P:Program} {f:FuncId} {args:List A} {d:D} {y:d.ty} (h:∀ (base:Nat) (η:Eta) (Z:Zeta) (w:World) vs,St base η Z (.ofList []) w->LRel (ARel η Z) args vs->Calls P f vs.toArray w fun e w'=>∃ u,e=.returned u/\(∀ Z:Zeta,DRel Z d y u)/\Below w.heap.size w w'):FnSem P f args [] (dat d y) [] :=
 fnSem_belowT fun base η Z w vs R hvs _=>h base η Z w vs R hvs
theorem join_sem (xs : List ByteArray) (sep : ByteArray) (h : xs.length ≤ 100000 ∧ (joinT xs sep).size ≤ 1000000) : FnSem Tryd.prog 49 [lsS xs, stT sep] [] (stT (joinT xs sep)) [] :=
 fnSem_st (d := .str) (y := joinT xs sep) fun base η Z w vs R hvs => by
  match vs,hvs with
  | [v, s], ⟨⟨_, h1⟩, ⟨_, h2⟩, _⟩ =>
    have h2:s=.string sep:=h2
    subst h2
    obtain ⟨a,len,c,rfl,hl,hc,hx⟩:=WRel.rd h1
    subst hl
    by_cases h0:xs=[]
    . subst h0
      exact (Tryd.strings_Join_none a c sep w).mono fun e w' ⟨he,hw⟩=>⟨_,he,fun _=>rfl,hw▸Below.refl _ _⟩
    . rcases hx with hx | ⟨b,off,cells,rfl,hb,hd⟩
      . exact absurd hx h0
      . obtain ⟨ty,fz,hw⟩:=R.zs b cells hb
        refine (Tryd.strings_Join b off c xs sep w (fun j x hj=>?_) (heap_lt hw) (by omega) hc ?_).mono fun e w' ⟨he,hB⟩=>⟨_,he,fun _=>rfl,hB⟩
        . obtain ⟨u,e1,e2⟩:=hd j x hj
          have e2:u=.string x:=e2
          subst e2
          simp [World.cell?,hw,e1]
        . have:=h.2
          have e:(joinT xs sep).size=(Lib.join (xs.map (·.data.toList)) sep.data.toList).length:=by simp [joinT,ByteArray.size]
          omega
def cJoin:Con:=con2 dS .str fun xs sep=>(.p (List.length (α:=ByteArray) xs<=100000/\(joinT xs sep).size<=1000000),stT (joinT xs sep),[])
theorem cJoin_ok:ConOk Tryd.prog 49 cJoin:=con2_ok (by kernel_rfl) fun xs s h=>join_sem xs s h
end Go.Proofs.YtejehoihhphpiaaDoor
