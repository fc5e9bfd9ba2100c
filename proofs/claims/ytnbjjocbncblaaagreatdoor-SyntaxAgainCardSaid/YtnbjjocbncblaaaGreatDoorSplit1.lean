/- Tokens: what the program and the reference ask of bytes. -/
import Derived.Test.YtnbjjocbncblaaaGreatDoorProg
import Derived.Test.YtnbjjocbncblaaaGreatDoorLoom4
import Derived.Test.YtnbjjocbncblaaaGreatDoorShelf1
import Derived.Lib.AtoiAllCases
namespace Go.Proofs.YtnbjjocbncblaaaGreatDoor
open Go.aN
set_option maxRecDepth 100000
abbrev nI(n:Int):A:=.p (.c (.int .i64 n))
abbrev LY(n:Int):A:=.p (.c (.int .u8 n))
abbrev bB(b:Bool):A:=.p (.c (.bool b))
abbrev sS(s:ByteArray):A:=.p (.c (.str s))
abbrev pq(l:List ByteArray):A:=.p (.c (.rd .str l))
abbrev rB(f:Nat):A:=.p (.c (.func f []))
theorem wrap64{n:Int}(h1:-9223372036854775808<=n)(h2:n<=9223372036854775807):IntKind.i64.wrap n=n:=IntWalk.i64_in n ⟨h1,h2⟩
def gu(c:Int):Bool:=decide (97<=c)&&decide (c<=122)||decide (65<=c)&&decide (c<=90)
def cx(c:Int):Bool:=decide (48<=c)&&decide (c<=57)
def cB(c:Int):Bool:=gu c||cx c||decide (c=95)
def cJ(c:Int):Bool:=decide (32<=c)&&decide (c<=126)&&!decide (c=34)
def jl(c:Int):Bool:=!decide (c=10)
theorem RD(c:Int):br Tryz.prog 67 [LY c] [] (bB (gu c)) []:=by
 refine bn (aK:=[]) aD Tryz.func67 (by kernel_rfl) (aj:=0) rfl (by kernel_rfl) 100 ?_;apply of_eq (q:=let q2:=decide ((97:Int)<=c);let q3:=decide ((65:Int)<=c);let q1:=(bif q2 then decide (c<=122) else false)=false;(q2=true->q2=true)/\(q2=true->q2=true)/\(q1->q1)/\(q1->q1)/\(q1/\q3=true->q1/\q3=true)/\(q1->q1)/\(q1->q3=true->q1/\q3=true)/\(q1->q1)/\ax [vB (bif bif q2 then decide (c<=122) else false then true else bif q3 then decide (c<=90) else false)]=bB (gu c)/\([]:List Ob)=[]) (by kernel_rfl)
 try simp only[sL]
 first|rfl|exact⟨by omega,rfl⟩|exact ?a
def zD:cV:=kE (.int .u8) fun c=>(.t,bB (gu c),[])
theorem wX:bt Tryz.prog 67 zD:=fJ (by kernel_rfl) fun c _=>RD c
theorem UJ(c:Int):br Tryz.prog 72 [LY c] [] (bB (cx c)) []:=by
 refine bn (aK:=[]) aD Tryz.func72 (by kernel_rfl) (aj:=0) rfl (by kernel_rfl) 100 ?_;apply of_eq (q:=let q1:=decide ((48:Int)<=c);(q1=true->q1=true)/\(q1=true->q1=true)/\ax [vB (bif q1 then decide (c<=57) else false)]=bB (cx c)/\([]:List Ob)=[]) (by kernel_rfl)
 try simp only[sL]
 first|rfl|exact⟨by omega,rfl⟩|exact ?a
def CT:cV:=kE (.int .u8) fun c=>(.t,bB (cx c),[])
theorem zE:bt Tryz.prog 72 CT:=fJ (by kernel_rfl) fun c _=>UJ c
theorem X2(c:Int):br Tryz.prog 98 [LY c] [] (bB (jl c)) []:=by
 refine bn (aK:=[]) aD Tryz.func98 (by kernel_rfl) (aj:=0) rfl (by kernel_rfl) 100 ?_;apply of_eq (q:=ax [V.c (W.bool !decide (c=10))]=bB (jl c)/\([]:List Ob)=[]) (by kernel_rfl)
 try simp only[sL]
 first|rfl|exact⟨by omega,rfl⟩|exact ?a
def UK:cV:=kE (.int .u8) fun c=>(.t,bB (jl c),[])
theorem UL:bt Tryz.prog 98 UK:=fJ (by kernel_rfl) fun c _=>X2 c
theorem ins_sem(c:Int):br Tryz.prog 101 [LY c] [] (bB (cJ c)) []:=by
 refine bn (aK:=[]) aD Tryz.func101 (by kernel_rfl) (aj:=0) rfl (by kernel_rfl) 100 ?_;apply of_eq (q:=let q2:=decide ((32:Int)<=c);let q1:=(bif q2 then decide (c<=126) else false)=true;(q2=true->q2=true)/\(q2=true->q2=true)/\(q1->q1)/\(q1->q1)/\ax [vB (bif bif q2 then decide (c<=126) else false then !decide (c=34) else false)]=bB (cJ c)/\([]:List Ob)=[]) (by kernel_rfl)
 try simp only[sL]
 first|rfl|exact⟨by omega,rfl⟩|exact ?a
def c_ins:cV:=kE (.int .u8) fun c=>(.t,bB (cJ c),[])
theorem X3:bt Tryz.prog 101 c_ins:=fJ (by kernel_rfl) fun c _=>ins_sem c
noncomputable def gWr:bX:=[(67,zD),(72,CT)]
theorem UM:bh Tryz.prog gWr:=aq wX (aq zE aD)
theorem wrd_sem(c:Int):br Tryz.prog 99 [LY c] [] (bB (cB c)) []:=by
 refine bn (aK:=[]) UM Tryz.func99 (by kernel_rfl) (aj:=0) rfl (by kernel_rfl) 100 ?_;apply of_eq (q:=let q1:=(bif gu c then true else cx c)=false;(gu c=false->gu c=false)/\(gu c=false->gu c=false)/\(q1->q1)/\(q1->q1)/\ax [vB (bif bif gu c then true else cx c then true else decide (c=95))]=bB (cB c)/\([]:List Ob)=[]) (by kernel_rfl)
 try simp only[sL]
 first|rfl|exact⟨by omega,rfl⟩|exact ?a
def c_wrd:cV:=kE (.int .u8) fun c=>(.t,bB (cB c),[])
theorem X4:bt Tryz.prog 99 c_wrd:=fJ (by kernel_rfl) fun c _=>wrd_sem c
def aO(p:Int->Bool)(s:ByteArray)(i:Nat):Nat:=if h:i<s.size/\p (aY s i)=true then aO p s (i+1) else i
termination_by s.size-i
theorem gA{p:Int->Bool}{s:ByteArray}{i:Nat}(h:i<s.size/\p (aY s i)=true):aO p s i=aO p s (i+1):=by rw[aO,dif_pos h]
theorem kP{p:Int->Bool}{s:ByteArray}{i:Nat}(h:¬(i<s.size/\p (aY s i)=true)):aO p s i=i:=by rw[aO,dif_neg h]
theorem j6(p:Int->Bool)(s:ByteArray):∀(k i:Nat),k=s.size-i->i<=aO p s i/\(i<=s.size->aO p s i<=s.size)
 | k,i,hk=>by
   by_cases h:i<s.size/\p (aY s i)=true
   . rw[gA h];cases k with
     | zero=>omega
     | succ k =>
       have:=j6 p s k (i+1) (by omega);omega
   rw[kP h];omega
noncomputable def GY:bX:=[(98,UK)]
theorem Fv:bh Tryz.prog GY:=aq UL aD
noncomputable def OT:bg:=dK Tryz.prog GY Tryz.f70 0 [([0,0,1],[0,1,2])]
theorem x6(s:ByteArray)(hs:s.size<=1000000):∀(k i:Nat),k=s.size-i->i<=s.size->aJ OT (aW (nI (aO jl s i)) []) [0,0,1] (fr [(0,sS s),(1,nI i),(2,rB 98)]) (.ofList [])
 | k,i,hk,hi=>by
   refine ct Fv (by kernel_rfl) 100 ?_;apply of_eq (q:=let q2:=decide ((i:Int)<(s.size:Int));let q1:=q2=true;(q1->q1)/\(q1->q1)/\(q1->(0:Int)<=(i:Int)/\(i:Int)<(s.size:Int))/\(q1->q1)/\(q1->q1)/\(q1->q1)/\((bif q2 then jl (aY s i) else false)=true->aJ OT (aW (nI (↑(aO jl s i):Int)) []) [0,0,1] (fr [(0,aP (W.str s)),(1,nI (IntKind.i64.wrap ((i:Int)+1))),(2,aP (W.func 98 []))]) (af.ofList []))/\((bif q2 then jl (aY s i) else false)=false->ax [vI (i:Int)]=nI (↑(aO jl s i):Int)/\([]:List Ob)=[])) (by kernel_rfl)
   try simp only[sL]
   refine⟨fun h=>by omega,fun h=>?_,fun h=>?_⟩
   . have hi1:i<s.size:=by omega
     rw[wrap64 (by omega) (by omega),gA ⟨hi1,h.2⟩];cases k with
     | zero=>omega
     | succ k=>exact x6 s hs k (i+1) (by omega) (by omega)
   rw[kP (by rintro⟨h1,h2⟩;rw[h (by omega)] at h2;cases h2)];rfl
theorem UN(s:ByteArray)(i:Int)(h:s.size<=1000000/\0<=i/\i<=s.size):br Tryz.prog 70 [sS s,nI i,rB 98] [] (nI (aO jl s i.toNat)) []:=by
 obtain⟨hs,h0,h1⟩:=h;obtain⟨n,rfl⟩:∃ n:Nat,i=n:=⟨i.toNat,by omega⟩;rw[Int.toNat_natCast];refine bn (aK:=[([0,0,1],[0,1,2])]) Fv Tryz.func70 (by kernel_rfl) (aj:=0) rfl (by kernel_rfl) 100 ?_;apply of_eq (q:=aJ (dK Tryz.prog GY Tryz.f70 (0:Nat) [([0,0,1],[0,1,2])]) (aW (nI (↑(aO jl s n):Int)) []) [0,0,1] (fr [(0,aP (W.str s)),(1,nI (n:Int)),(2,aP (W.func 98 []))]) (af.ofList [])) (by kernel_rfl)
 try simp only[sL,Int.reduceEq,Int.reduceNe,Nat.reduceAdd]
 exact x6 s hs _ n rfl (by omega)
noncomputable def LZ:bX:=[(99,c_wrd)]
theorem Jp:bh Tryz.prog LZ:=aq X4 aD
noncomputable def UO:bg:=dK Tryz.prog LZ Tryz.f70 0 [([0,0,1],[0,1,2])]
theorem Ai(s:ByteArray)(hs:s.size<=1000000):∀(k i:Nat),k=s.size-i->i<=s.size->aJ UO (aW (nI (aO cB s i)) []) [0,0,1] (fr [(0,sS s),(1,nI i),(2,rB 99)]) (.ofList [])
 | k,i,hk,hi=>by
   refine ct Jp (by kernel_rfl) 100 ?_;apply of_eq (q:=let q2:=decide ((i:Int)<(s.size:Int));let q1:=q2=true;(q1->q1)/\(q1->q1)/\(q1->(0:Int)<=(i:Int)/\(i:Int)<(s.size:Int))/\(q1->q1)/\(q1->q1)/\(q1->q1)/\((bif q2 then cB (aY s i) else false)=true->aJ UO (aW (nI (↑(aO cB s i):Int)) []) [0,0,1] (fr [(0,aP (W.str s)),(1,nI (IntKind.i64.wrap ((i:Int)+1))),(2,aP (W.func 99 []))]) (af.ofList []))/\((bif q2 then cB (aY s i) else false)=false->ax [vI (i:Int)]=nI (↑(aO cB s i):Int)/\([]:List Ob)=[])) (by kernel_rfl)
   try simp only[sL]
   refine⟨fun h=>by omega,fun h=>?_,fun h=>?_⟩
   . have hi1:i<s.size:=by omega
     rw[wrap64 (by omega) (by omega),gA ⟨hi1,h.2⟩];cases k with
     | zero=>omega
     | succ k=>exact Ai s hs k (i+1) (by omega) (by omega)
   rw[kP (by rintro⟨h1,h2⟩;rw[h (by omega)] at h2;cases h2)];rfl
theorem X5(s:ByteArray)(i:Int)(h:s.size<=1000000/\0<=i/\i<=s.size):br Tryz.prog 70 [sS s,nI i,rB 99] [] (nI (aO cB s i.toNat)) []:=by
 obtain⟨hs,h0,h1⟩:=h;obtain⟨n,rfl⟩:∃ n:Nat,i=n:=⟨i.toNat,by omega⟩;rw[Int.toNat_natCast];refine bn (aK:=[([0,0,1],[0,1,2])]) Jp Tryz.func70 (by kernel_rfl) (aj:=0) rfl (by kernel_rfl) 100 ?_;apply of_eq (q:=aJ (dK Tryz.prog LZ Tryz.f70 (0:Nat) [([0,0,1],[0,1,2])]) (aW (nI (↑(aO cB s n):Int)) []) [0,0,1] (fr [(0,aP (W.str s)),(1,nI (n:Int)),(2,aP (W.func 99 []))]) (af.ofList [])) (by kernel_rfl)
 try simp only[sL,Int.reduceEq,Int.reduceNe,Nat.reduceAdd]
 exact Ai s hs _ n rfl (by omega)
noncomputable def Eo:bX:=[(72,CT)]
theorem DI:bh Tryz.prog Eo:=aq zE aD
noncomputable def L5:bg:=dK Tryz.prog Eo Tryz.f70 0 [([0,0,1],[0,1,2])]
theorem wg(s:ByteArray)(hs:s.size<=1000000):∀(k i:Nat),k=s.size-i->i<=s.size->aJ L5 (aW (nI (aO cx s i)) []) [0,0,1] (fr [(0,sS s),(1,nI i),(2,rB 72)]) (.ofList [])
 | k,i,hk,hi=>by
   refine ct DI (by kernel_rfl) 100 ?_;apply of_eq (q:=let q2:=decide ((i:Int)<(s.size:Int));let q1:=q2=true;(q1->q1)/\(q1->q1)/\(q1->(0:Int)<=(i:Int)/\(i:Int)<(s.size:Int))/\(q1->q1)/\(q1->q1)/\(q1->q1)/\((bif q2 then cx (aY s i) else false)=true->aJ L5 (aW (nI (↑(aO cx s i):Int)) []) [0,0,1] (fr [(0,aP (W.str s)),(1,nI (IntKind.i64.wrap ((i:Int)+1))),(2,aP (W.func 72 []))]) (af.ofList []))/\((bif q2 then cx (aY s i) else false)=false->ax [vI (i:Int)]=nI (↑(aO cx s i):Int)/\([]:List Ob)=[])) (by kernel_rfl)
   try simp only[sL]
   refine⟨fun h=>by omega,fun h=>?_,fun h=>?_⟩
   . have hi1:i<s.size:=by omega
     rw[wrap64 (by omega) (by omega),gA ⟨hi1,h.2⟩];cases k with
     | zero=>omega
     | succ k=>exact wg s hs k (i+1) (by omega) (by omega)
   rw[kP (by rintro⟨h1,h2⟩;rw[h (by omega)] at h2;cases h2)];rfl
theorem RE(s:ByteArray)(i:Int)(h:s.size<=1000000/\0<=i/\i<=s.size):br Tryz.prog 70 [sS s,nI i,rB 72] [] (nI (aO cx s i.toNat)) []:=by
 obtain⟨hs,h0,h1⟩:=h;obtain⟨n,rfl⟩:∃ n:Nat,i=n:=⟨i.toNat,by omega⟩;rw[Int.toNat_natCast];refine bn (aK:=[([0,0,1],[0,1,2])]) DI Tryz.func70 (by kernel_rfl) (aj:=0) rfl (by kernel_rfl) 100 ?_;apply of_eq (q:=aJ (dK Tryz.prog Eo Tryz.f70 (0:Nat) [([0,0,1],[0,1,2])]) (aW (nI (↑(aO cx s n):Int)) []) [0,0,1] (fr [(0,aP (W.str s)),(1,nI (n:Int)),(2,aP (W.func 72 []))]) (af.ofList [])) (by kernel_rfl)
 try simp only[sL,Int.reduceEq,Int.reduceNe,Nat.reduceAdd]
 exact wg s hs _ n rfl (by omega)
noncomputable def L6:bX:=[(101,c_ins)]
theorem Jq:bh Tryz.prog L6:=aq X3 aD
noncomputable def UQ:bg:=dK Tryz.prog L6 Tryz.f70 0 [([0,0,1],[0,1,2])]
theorem Aj(s:ByteArray)(hs:s.size<=1000000):∀(k i:Nat),k=s.size-i->i<=s.size->aJ UQ (aW (nI (aO cJ s i)) []) [0,0,1] (fr [(0,sS s),(1,nI i),(2,rB 101)]) (.ofList [])
 | k,i,hk,hi=>by
   refine ct Jq (by kernel_rfl) 100 ?_;apply of_eq (q:=let q2:=decide ((i:Int)<(s.size:Int));let q1:=q2=true;(q1->q1)/\(q1->q1)/\(q1->(0:Int)<=(i:Int)/\(i:Int)<(s.size:Int))/\(q1->q1)/\(q1->q1)/\(q1->q1)/\((bif q2 then cJ (aY s i) else false)=true->aJ UQ (aW (nI (↑(aO cJ s i):Int)) []) [0,0,1] (fr [(0,aP (W.str s)),(1,nI (IntKind.i64.wrap ((i:Int)+1))),(2,aP (W.func 101 []))]) (af.ofList []))/\((bif q2 then cJ (aY s i) else false)=false->ax [vI (i:Int)]=nI (↑(aO cJ s i):Int)/\([]:List Ob)=[])) (by kernel_rfl)
   try simp only[sL]
   refine⟨fun h=>by omega,fun h=>?_,fun h=>?_⟩
   . have hi1:i<s.size:=by omega
     rw[wrap64 (by omega) (by omega),gA ⟨hi1,h.2⟩];cases k with
     | zero=>omega
     | succ k=>exact Aj s hs k (i+1) (by omega) (by omega)
   rw[kP (by rintro⟨h1,h2⟩;rw[h (by omega)] at h2;cases h2)];rfl
theorem X6(s:ByteArray)(i:Int)(h:s.size<=1000000/\0<=i/\i<=s.size):br Tryz.prog 70 [sS s,nI i,rB 101] [] (nI (aO cJ s i.toNat)) []:=by
 obtain⟨hs,h0,h1⟩:=h;obtain⟨n,rfl⟩:∃ n:Nat,i=n:=⟨i.toNat,by omega⟩;rw[Int.toNat_natCast];refine bn (aK:=[([0,0,1],[0,1,2])]) Jq Tryz.func70 (by kernel_rfl) (aj:=0) rfl (by kernel_rfl) 100 ?_;apply of_eq (q:=aJ (dK Tryz.prog L6 Tryz.f70 (0:Nat) [([0,0,1],[0,1,2])]) (aW (nI (↑(aO cJ s n):Int)) []) [0,0,1] (fr [(0,aP (W.str s)),(1,nI (n:Int)),(2,aP (W.func 101 []))]) (af.ofList [])) (by kernel_rfl)
 try simp only[sL,Int.reduceEq,Int.reduceNe,Nat.reduceAdd]
 exact Aj s hs _ n rfl (by omega)
def RF:cV:={ cC:=[],f:=fun args ai=>match args,ai with
 | [x,y,.p (.c (.func f []))],[]=>match xY .str x,xY (.int .i64) y with
   | some s,some i =>
     bif Nat.beq f 98 then some (.p (ByteArray.size s<=1000000/\0<=(i:Int)/\(i:Int)<=ByteArray.size s),nI (aO jl s (Int.toNat i)),[]) else
     bif Nat.beq f 99 then some (.p (ByteArray.size s<=1000000/\0<=(i:Int)/\(i:Int)<=ByteArray.size s),nI (aO cB s (Int.toNat i)),[]) else
     bif Nat.beq f 72 then some (.p (ByteArray.size s<=1000000/\0<=(i:Int)/\(i:Int)<=ByteArray.size s),nI (aO cx s (Int.toNat i)),[]) else
     bif Nat.beq f 101 then some (.p (ByteArray.size s<=1000000/\0<=(i:Int)/\(i:Int)<=ByteArray.size s),nI (aO cJ s (Int.toNat i)),[]) else none
   | _,_=>none
 | _,_=>none }
theorem X7:bt Tryz.prog 70 RF:=by
 refine⟨by kernel_rfl,fun args ai c r aV e hc=>?_⟩;simp only[RF] at e;split at e;rename_i x y f;split at e
 . rename_i s i hx hy
   have key:∀(g:Nat)(p:Int->Bool),(∀(s:ByteArray)(i:Int),(s.size<=1000000/\0<=i/\i<=s.size)->br Tryz.prog 70 [sS s,nI i,rB g] [] (nI (aO p s i.toNat)) [])->f=g->
    some ((Cd.p (ByteArray.size s<=1000000/\0<=(i:Int)/\(i:Int)<=ByteArray.size s)),nI (aO p s (Int.toNat i)),([]:List Ob))=some (c,r,aV)->br Tryz.prog 70 [x,y,rB f] [] r aV:=by
    rintro g p hg rfl e;cases e;exact br.args (hg s i hc) fun η Z vs hv=>match vs,hv with | [_,_,_],⟨a,b,d⟩=>⟨lQ hx a,lQ hy b,d⟩
   cases h1:Nat.beq f 98 with
   | true=>rw[h1] at e;exact key _ _ UN (Nat.eq_of_beq_eq_true h1) e
   | false =>
   rw[h1] at e;cases h2:Nat.beq f 99 with
   | true=>rw[h2] at e;exact key _ _ X5 (Nat.eq_of_beq_eq_true h2) e
   | false =>
   rw[h2] at e;cases h3:Nat.beq f 72 with
   | true=>rw[h3] at e;exact key _ _ RE (Nat.eq_of_beq_eq_true h3) e
   | false =>
   rw[h3] at e;cases h4:Nat.beq f 101 with
   | true=>rw[h4] at e;exact key _ _ X6 (Nat.eq_of_beq_eq_true h4) e
   | false=>rw[h4] at e;cases e
 cases e;cases e
abbrev dS:D:=.sl .str
def rC:List ByteArray:=[⟨#[97,110,100]⟩,⟨#[100,101,102]⟩,⟨#[101,108,115,101]⟩,⟨#[102,97,108,115,101]⟩,⟨#[102,111,114]⟩,⟨#[105,102]⟩,⟨#[105,110]⟩,⟨#[110,111,116]⟩,⟨#[111,114]⟩,⟨#[112,114,105,110,116]⟩,⟨#[114,101,116,117,114,110]⟩,⟨#[116,114,117,101]⟩,⟨#[119,104,105,108,101]⟩]
def fw:List ByteArray:=[⟨#[40]⟩,⟨#[41]⟩,⟨#[91]⟩,⟨#[93]⟩,⟨#[123]⟩,⟨#[125]⟩,⟨#[44]⟩,⟨#[59]⟩,⟨#[61]⟩,⟨#[61,61]⟩,⟨#[33,61]⟩,⟨#[60]⟩,⟨#[60,61]⟩,⟨#[62]⟩,⟨#[62,61]⟩,⟨#[43]⟩,⟨#[45]⟩,⟨#[42]⟩,⟨#[47]⟩,⟨#[37]⟩,⟨#[94]⟩]
theorem res_sem:br Tryz.prog 69 [] [] (pq rC) []:=by
 refine jW (aK:=[]) (eZ:=[]) (fz:=[some (.sl .str)]) aD Tryz.func69 (by kernel_rfl) 0 (by kernel_rfl) 100 ?_;apply of_eq (q:=let q1:=(101:UInt8);(0:Nat)+13<=13/\ax [V.c (W.rd D.str (List.take (13:Nat) (List.drop (0:Nat) [ByteArray.mk #[(97:UInt8),(110:UInt8),(100:UInt8)],ByteArray.mk #[(100:UInt8),q1,(102:UInt8)],ByteArray.mk #[q1,(108:UInt8),(115:UInt8),q1],ByteArray.mk #[(102:UInt8),(97:UInt8),(108:UInt8),(115:UInt8),q1],ByteArray.mk #[(102:UInt8),(111:UInt8),(114:UInt8)],ByteArray.mk #[(105:UInt8),(102:UInt8)],ByteArray.mk #[(105:UInt8),(110:UInt8)],ByteArray.mk #[(110:UInt8),(111:UInt8),(116:UInt8)],ByteArray.mk #[(111:UInt8),(114:UInt8)],ByteArray.mk #[(112:UInt8),(114:UInt8),(105:UInt8),(110:UInt8),(116:UInt8)],ByteArray.mk #[(114:UInt8),q1,(116:UInt8),(117:UInt8),(114:UInt8),(110:UInt8)],ByteArray.mk #[(116:UInt8),(114:UInt8),(117:UInt8),q1],ByteArray.mk #[(119:UInt8),(104:UInt8),(105:UInt8),(108:UInt8),q1]])))]=pq rC/\([]:List Ob)=[]) (by kernel_rfl)
 try simp only[sL]
 rfl
def RG:cV:=GS (.t,pq rC,[])
theorem L7:bt Tryz.prog 69 RG:=CM (by kernel_rfl) fun _=>res_sem
theorem sig_sem:br Tryz.prog 102 [] [] (pq fw) []:=by
 refine jW (aK:=[]) (eZ:=[]) (fz:=[some (.sl .str)]) aD Tryz.func102 (by kernel_rfl) 0 (by kernel_rfl) 100 ?_;apply of_eq (q:=(0:Nat)+21<=21/\ax [V.c (W.rd D.str (List.take (21:Nat) (List.drop (0:Nat) [ByteArray.mk #[(40:UInt8)],ByteArray.mk #[(41:UInt8)],ByteArray.mk #[(91:UInt8)],ByteArray.mk #[(93:UInt8)],ByteArray.mk #[(123:UInt8)],ByteArray.mk #[(125:UInt8)],ByteArray.mk #[(44:UInt8)],ByteArray.mk #[(59:UInt8)],ByteArray.mk #[(61:UInt8)],ByteArray.mk #[(61:UInt8),(61:UInt8)],ByteArray.mk #[(33:UInt8),(61:UInt8)],ByteArray.mk #[(60:UInt8)],ByteArray.mk #[(60:UInt8),(61:UInt8)],ByteArray.mk #[(62:UInt8)],ByteArray.mk #[(62:UInt8),(61:UInt8)],ByteArray.mk #[(43:UInt8)],ByteArray.mk #[(45:UInt8)],ByteArray.mk #[(42:UInt8)],ByteArray.mk #[(47:UInt8)],ByteArray.mk #[(37:UInt8)],ByteArray.mk #[(94:UInt8)]])))]=pq fw/\([]:List Ob)=[]) (by kernel_rfl)
 try simp only[sL]
 rfl
def c_sig:cV:=GS (.t,pq fw,[])
theorem X8:bt Tryz.prog 102 c_sig:=CM (by kernel_rfl) fun _=>sig_sem
def eF(l:List ByteArray)(t:ByteArray):Bool:=l.any fun x=>decide (x=t)
def uZ:List ByteArray->ByteArray->Int->Int
 | [],_,_=>-1
 | x::l,t,i=>if x=t then i else uZ l t (i+1)
theorem X9(l:List ByteArray)(t:ByteArray):∀ i:Int,0<=i->decide (0<=uZ l t i)=eF l t:=by
 induction l with
 | nil=>intro i _;rfl
 | cons x l ih =>
   intro i h;unfold uZ eF;by_cases hx:x=t;rw[if_pos hx,List.any_cons,decide_eq_true hx,Bool.true_or,decide_eq_true h];rw[if_neg hx,List.any_cons,decide_eq_false hx,Bool.false_or];exact ih (i+1) (by omega)
noncomputable def sIdx:bg:=dK Tryz.prog [] Tryz.f91 0 [([0,1,0,1],[0,1,7,8])]
theorem L8(l:List ByteArray)(t:ByteArray)(hl:l.length<=1000000):∀(k i:Nat),k=l.length-i->i<=l.length->aJ sIdx (aW (nI (uZ (l.drop i) t i)) []) [0,1,0,1] (fr [(0,pq l),(1,sS t),(7,nI l.length),(8,nI i)]) (.ofList [])
 | k,i,hk,hi=>by
   refine ct aD (by kernel_rfl) 100 ?_;apply of_eq (q:=let q1:=(uZ (List.drop i l) t (i:Int));(decide ((i:Int)<(l.length:Int))=true->((0:Int)<=(i:Int)/\(i:Int)<(l.length:Int))/\i<l.length/\(decide (t=l.getD i (ByteArray.mk #[]))=true->ax [vI (i:Int)]=nI q1/\([]:List Ob)=[])/\(decide (t=l.getD i (ByteArray.mk #[]))=false->aJ sIdx (aW (nI q1) []) [0,1,0,1] (fr [(0,aP (W.rd D.str l)),(1,aP (W.str t)),(7,nI (l.length:Int)),(8,nI (IntKind.i64.wrap ((i:Int)+1)))]) (af.ofList [])))/\(decide ((i:Int)<(l.length:Int))=false->ax [vI (-1)]=nI q1/\([]:List Ob)=[])) (by kernel_rfl)
   try simp only[sL]
   refine⟨fun h=>⟨by omega,by omega,fun h1=>?_,fun h1=>?_⟩,fun h=>?_⟩;rw[List.drop_eq_getElem_cons (by omega),uZ,if_pos (by rw[h1,List.getD_eq_getElem?_getD,List.getElem?_eq_getElem (by omega)];rfl)];rfl
   . rw[wrap64 (by omega) (by omega),List.drop_eq_getElem_cons (by omega),uZ,if_neg (by rintro rfl;exact h1 (by rw[List.getD_eq_getElem?_getD,List.getElem?_eq_getElem (by omega)];rfl))];cases k with
     | zero=>omega
     | succ k=>exact L8 l t hl k (i+1) (by omega) (by omega)
   rw[List.drop_eq_nil_of_le (by omega)];rfl
theorem idx_sem(l:List ByteArray)(t:ByteArray)(hl:l.length<=1000000):br Tryz.prog 91 [pq l,sS t] [] (nI (uZ l t 0)) []:=by
 refine bn (aK:=[([0,1,0,1],[0,1,7,8])]) aD Tryz.func91 (by kernel_rfl) (aj:=0) rfl (by kernel_rfl) 100 ?_;apply of_eq (q:=aJ (dK Tryz.prog [] Tryz.f91 (0:Nat) [([0,1,0,1],[0,1,7,8])]) (aW (nI (uZ l t (0:Int))) []) [0,1,0,1] (fr [(0,aP (W.rd D.str l)),(1,aP (W.str t)),(7,nI (l.length:Int)),(8,nI (0))]) (af.ofList [])) (by kernel_rfl)
 try simp only[sL,Int.reduceEq,Int.reduceNe,Nat.reduceAdd]
 have:=L8 l t hl _ 0 rfl (by omega);rw[List.drop_zero] at this;exact this
def c_idx:cV:=zy dS .str fun l t=>(.p (List.length (α:=ByteArray) l<=1000000),nI (uZ l t 0),[])
theorem Ya:bt Tryz.prog 91 c_idx:=r9 (by kernel_rfl) fun l t h=>idx_sem l t h
noncomputable def gCt:bX:=[(91,c_idx)]
theorem gCt_ok:bh Tryz.prog gCt:=aq Ya aD
theorem Yb(l:List ByteArray)(t:ByteArray)(hl:l.length<=1000000):br Tryz.prog 68 [pq l,sS t] [] (bB (eF l t)) []:=by
 refine bn (aK:=[]) gCt_ok Tryz.func68 (by kernel_rfl) (aj:=0) rfl (by kernel_rfl) 100 ?_;apply of_eq (q:=l.length<=1000000/\ax [vB (decide ((0:Int)<=uZ l t (0:Int)))]=bB (eF l t)/\([]:List Ob)=[]) (by kernel_rfl)
 try simp only[sL]
 rw[<-X9 l t 0 (by omega)];exact⟨hl,rfl⟩
def Fw:cV:=zy dS .str fun l t=>(.p (List.length (α:=ByteArray) l<=1000000),bB (eF l t),[])
theorem BR:bt Tryz.prog 68 Fw:=r9 (by kernel_rfl) fun l t h=>Yb l t h
def lD(s t:ByteArray):Bool:=decide (t.size<=s.size)&&decide (s.extract 0 t.size=t)
theorem UR(s t:ByteArray):br Tryz.prog 122 [sS s,sS t] [] (bB (lD s t)) []:=by
 refine bn (aK:=[]) aD Tryz.func122 (by kernel_rfl) (aj:=0) rfl (by kernel_rfl) 100 ?_;apply of_eq (q:=let q1:=decide ((t.size:Int)<=(s.size:Int))=true;(q1->q1)/\(q1->q1)/\(q1->q1)/\(q1->(0:Int)<=0/\(0:Int)<=(t.size:Int)/\(t.size:Int)<=(s.size:Int))/\(q1->q1)/\(q1->q1)/\(q1->q1)/\ax [vB (bif decide ((t.size:Int)<=(s.size:Int)) then decide (s.extract (0:Nat) t.size=t) else false)]=bB (lD s t)/\([]:List Ob)=[]) (by kernel_rfl)
 try simp only[sL]
 refine⟨fun h=>by omega,?_⟩;unfold lD;rw[show decide ((t.size:Int)<=s.size)=decide (t.size<=s.size) from by rw[decide_eq_decide];omega];rfl
def OU:cV:=zy .str .str fun s t=>(.t,bB (lD s t),[])
theorem RH:bt Tryz.prog 122 OU:=r9 (by kernel_rfl) fun s t _=>UR s t
noncomputable def gPf:bX:=[(122,OU)]
theorem gPf_ok:bh Tryz.prog gPf:=aq RH aD
theorem Yc(s t:ByteArray):br Tryz.prog 103 [sS s,sS t] [] (bB (lD s t)) []:=by
 refine bn (aK:=[]) gPf_ok Tryz.func103 (by kernel_rfl) (aj:=0) rfl (by kernel_rfl) 100 ?_;apply of_eq (q:=ax [vB (lD s t)]=bB (lD s t)/\([]:List Ob)=[]) (by kernel_rfl)
 try simp only[sL]
 rfl
def UU:cV:=zy .str .str fun s t=>(.t,bB (lD s t),[])
theorem UW:bt Tryz.prog 103 UU:=r9 (by kernel_rfl) fun s t _=>Yc s t
structure Tok where
 kind:Int
 text:ByteArray
 n:Int
 at_:Int
deriving DecidableEq
def Tok.pV(t:Tok):List PV:=[.int t.kind,.str t.text,.int t.n,.int t.at_]
def aE(l:List Tok):List PV:=l.flatMap Tok.pV
theorem qD(l:List Tok):(aE l).length=l.length*4:=by
 induction l with
 | nil=>rfl
 | cons t l ih=>rw[aE,List.flatMap_cons,List.length_append];show 4+(aE l).length=_;rw[ih,List.length_cons];omega
theorem RI(l:List Tok):∀ i,(aE l).drop (i*4)=aE (l.drop i):=by
 induction l with
 | nil=>intro i;simp[aE]
 | cons t l ih =>
   intro i;cases i with
   | zero=>simp
   | succ i =>
     rw[show (i+1)*4=4+i*4 by omega,<-List.drop_drop];exact ih i
theorem wh{l:List Tok}{i:Nat}(h:i<l.length)(j:Nat)(hj:j<4):(aE l).getD (i*4+j) (.bool false)=(l[i].pV).getD j (.bool false):=by
 have e:(aE l).getD (i*4+j) (.bool false)=((aE l).drop (i*4)).getD j (.bool false):=by
  rw[List.getD_eq_getElem?_getD,List.getD_eq_getElem?_getD,List.getElem?_drop]
 rw[e,RI,List.drop_eq_getElem_cons h,aE,List.flatMap_cons,List.getD_eq_getElem?_getD,List.getElem?_append_left (by exact hj),<-List.getD_eq_getElem?_getD]
abbrev eS:ByteArray:=⟨#[]⟩
abbrev obT(k:Int)(x:ByteArray)(n a:Int):Ob:=⟨100,[.c (.int .i64 k),.c (.str x),.c (.int .i64 n),.c (.int .i64 a)]⟩
abbrev oC(e a:Int):Ob:=⟨26,[.c (.int .i64 e),.c (.int .i64 a)]⟩
structure OV where
 t:Tok
 e:Int
 er:Int
 ea:Int
def nr(s:ByteArray)(a e:Nat):OV :=
 if eF rC (s.extract a e)=true then ⟨⟨2,s.extract a e,0,a⟩,e,0,0⟩ else
 if 20<(s.extract a e).size then ⟨⟨1,s.extract a e,0,a⟩,e,4,a⟩ else ⟨⟨1,s.extract a e,0,a⟩,e,0,0⟩
def kU(s:ByteArray)(e i:Nat)(n:Int):Int×Bool :=
 if h:i<e then(if 1000000000000000<n*10+(aY s i-48) then(n*10+(aY s i-48),true) else kU s e (i+1) (n*10+(aY s i-48))) else(n,false)
termination_by e-i
def qh(s:ByteArray)(a e:Nat):OV :=
 if aY s a=48/\a+1<e then ⟨⟨3,eS,0,a⟩,e,11,a⟩ else
 if(kU s e a 0).2=true then ⟨⟨3,eS,(kU s e a 0).1,a⟩,e,2,a⟩ else ⟨⟨3,eS,(kU s e a 0).1,a⟩,e,0,0⟩
def qi(s:ByteArray)(a e:Nat):OV :=
 if e=s.size∨aY s e≠34 then ⟨⟨0,eS,0,a⟩,e,11,e⟩ else
 if 200<(s.extract (a+1) e).size then ⟨⟨4,s.extract (a+1) e,0,a⟩,e,4,a⟩ else ⟨⟨4,s.extract (a+1) e,0,a⟩,(e+1:Nat),0,0⟩
def oD(s:ByteArray)(a:Nat):Nat->OV
 | 0=>⟨⟨5,eS,0,a⟩,(a+1:Nat),11,a⟩
 | n+1=>if a+(n+1)<=s.size/\eF fw (s.extract a (a+(n+1)))=true then ⟨⟨5,s.extract a (a+(n+1)),0,a⟩,(a+(n+1):Nat),0,0⟩ else oD s a n
def bU(s:ByteArray)(a:Nat):OV :=
 if gu (aY s a)=true then nr s a (aO cB s (a+1)) else
 if cx (aY s a)=true then qh s a (aO cx s (a+1)) else
 if aY s a=34 then qi s a (aO cJ s (a+1)) else oD s a 2
theorem qj{s:ByteArray}{a e:Nat}(h:a<=e)(he:e<=s.size):(s.extract a e).size=e-a:=by
 rw[ByteArray.size_extract];omega
def bF(s:ByteArray):Nat->Nat->List Tok×(Int×Int)
 | 0,_=>([],0,0)
 | k+1,i=>if i<s.size then(
  if aY s i=32∨aY s i=10 then bF s k (i+1) else
  if aY s i=35 then bF s k (aO jl s i) else
  if(bU s i).er≠0 then([],(bU s i).er,(bU s i).ea) else((bU s i).t::(bF s k (bU s i).e.toNat).1,(bF s k (bU s i).e.toNat).2)) else([],0,0)
abbrev DJ(l:List Tok):Ob:=⟨100,[.a 0 .pv (aE l)]⟩
abbrev fV(e a:Int):V:=.agg [.int .i64 e,.int .i64 a]
abbrev Fx(k n:Nat):V:=.c (.sl k 0 n 4)
theorem UX{acc:List Tok}{t:Tok}:aE acc++[PV.int t.kind,PV.str t.text,PV.int t.n,PV.int t.at_]=aE (acc++[t]):=by
 unfold aE;rw[List.flatMap_append];simp[Tok.pV]
theorem L9{s:ByteArray}{a:Nat}:∀{n:Nat},(oD s a n).er=0->∃ e:Nat,(oD s a n).e=e/\a<e/\e<=s.size
 | 0,h=>by cases h
 | n + 1, h => by
   rw[oD] at h ⊢;split at h;rename_i h1;rw[if_pos h1];exact⟨_,rfl,by omega,h1.1⟩;rename_i h1;rw[if_neg h1];exact L9 h
theorem Yd{s:ByteArray}{a:Nat}(ha:a<s.size)(h:(bU s a).er=0):∃ e:Nat,(bU s a).e=e/\a<e/\e<=s.size:=by
 have g1:=j6 cB s _ (a+1) rfl;have g2:=j6 cx s _ (a+1) rfl;have g3:=j6 cJ s _ (a+1) rfl;unfold bU at h ⊢;split at h;rename_i h1;rw[if_pos h1];refine⟨aO cB s (a+1),?_,by omega,g1.2 (by omega)⟩;unfold nr;split;rfl;split<;>rfl;rename_i h1;rw[if_neg h1];split at h;rename_i h2;rw[if_pos h2];refine⟨aO cx s (a+1),?_,by omega,g2.2 (by omega)⟩;unfold qh;split;rfl;split<;>rfl;rename_i h2;rw[if_neg h2];split at h;rename_i h3;rw[if_pos h3];unfold qi at h ⊢;split at h;cases h;rename_i h4;rw[if_neg h4];have:aO cJ s (a+1)≠s.size:=fun e=>h4 (.inl e);have:=g3.2 (by omega);refine⟨aO cJ s (a+1)+1,?_,by omega,by omega⟩;split at h;cases h;rename_i h5;rw[if_neg h5];rename_i h3;rw[if_neg h3];exact L9 h
def dZ(s:ByteArray):List Tok×(Int×Int):=if 20000<s.size then([],4,20000) else bF s s.size 0
end Go.Proofs.YtnbjjocbncblaaaGreatDoor
namespace Go.Proofs.YtnbjjocbncblaaaGreatDoor
open Go.aN Go.RowKit
set_option maxRecDepth 100000
def kH:List UInt8->Nat->Nat
 | [],n=>n
 | c::l,n=>kH l (n*10+(c.toNat-48))
def zF(l:List UInt8):Prop:=∀ c∈l,48<=c.toNat/\c.toNat<=57
theorem GZ:∀(l:List UInt8)(n:Nat),n<=kH l n
 | [],n=>Nat.le_refl _
 | c::l,n=>by
   have:=GZ l (n*10+(c.toNat-48));simp only[kH];omega
theorem Jr:∀(l:List UInt8)(n:Nat),zF l->n<18446744073709551616->Lib.parseUint10 n l=if kH l n<18446744073709551616 then .ok (kH l n) else .range
 | [],n,_,h=>by
   rw[show kH [] n=n from rfl,if_pos h];rfl
 | c :: l, n, hd, h => by
   have hc:=hd c (by simp);have hg:=GZ l (n*10+(c.toNat-48));rw[show kH (c::l) n=kH l (n*10+(c.toNat-48)) from rfl];simp only[Lib.parseUint10];rw[if_pos hc];split;rw[if_neg (by omega)];split;rw[if_neg (by omega)];exact Jr l _ (fun x hx=>hd x (by simp[hx])) (by omega)
theorem Ye{l:List UInt8}(hd:zF l)(h0:l≠[]):Lib.atoiAll l=if kH l 0<9223372036854775808 then .ok (kH l 0:Int) else .range:=by
 cases l with
 | nil=>exact absurd rfl h0
 | cons c r =>
   have hc:=hd c (by simp);rw[Lib.atoiAll_plain c r (by omega) (by omega)];unfold Lib.parseMag;rw[if_neg (by simp),Jr _ _ hd (by omega)];split;simp only[Lib.signless];split;rw[if_neg (by omega)];rw[if_pos (by omega)];simp only[Lib.signless];rw[if_neg (by omega)]
theorem sat_dec{l:List UInt8}(hd:zF l)(h0:l≠[]):Lib.atoiSat l=9223372036854775807:=by
 cases l with
 | nil=>exact absurd rfl h0
 | cons c r=>exact Lib.atoiSat_other c r (by have:=hd c (by simp);omega)
def u6(s:ByteArray):Int:=if kH s.data.toList 0<9223372036854775808 then(kH s.data.toList 0:Int) else 9223372036854775807
def qE(s:ByteArray):Bool:=decide (9223372036854775808<=kH s.data.toList 0)
theorem Ma{P:Program}{f:FuncId}{args:List A}{r:A}(h:∀(base:Nat) (η:Eta) (Z:ar) (w:World) vs,St base η Z (.ofList []) w->aI (cE η Z) args vs->gj P Z->Calls P f vs.toArray w fun e w'=>∃ u,e=.returned u/\cE η Z r u/\Below w.heap.size w w'):br P f args [] r []:=by
 intro base η Z w vs R hvs hK;refine(callsIn_wide.2 (h base η Z w vs R hvs hK)).mono ?_;rintro e w' ⟨u,rfl,hu,hB⟩;have hstep:Step η Z (.ofList []) w η Z (.ofList []) w':=⟨hB.os,hB.tape,hB.output,hB.size,fun b hb _=>hB.block b hb,fun b h=>.inl h,ar.le.refl _,fun b c h=>.inl h,rfl⟩;refine⟨u,η,Z,rfl,⟨fun _ _ _ h=>h,⟨fun n o p h=>by rw[af.bH] at h;simp at h,fun n o h=>by rw[af.bH] at h;simp at h,fun n o h=>by rw[af.bH] at h;simp at h,fun n n' o o' p p' b h=>by rw[af.bH] at h;simp at h,fun b c hb=>?_,R.fresh,Nat.le_trans R.iR hB.size,fun n o p h=>by rw[af.bH] at h;simp at h⟩,hstep⟩,hu⟩;obtain⟨ty,fz,e⟩:=R.zs b c hb;exact⟨ty,fz,(hB.block b (cM e)).trans e⟩
theorem Yf(s:ByteArray)(hd:zF s.data.toList)(hs:1<=s.size/\s.size<=1000000):br Tryz.prog 100 [sS s] [] (.bG [.c (.int .i64 (u6 s)),.c (.Ay (qE s))]) []:=by
 refine Ma fun base η Z w vs R hvs hK=>?_;obtain⟨v,rfl,hv⟩:∃ v,vs=[v]/\v=.string s:=by
  match vs,hvs with
  | [v],⟨⟨_,h⟩,_⟩=>exact⟨v,rfl,h⟩
 subst hv;have h0:s.data.toList≠[]:=by
  intro e;have h1:s.size=s.data.toList.length:=by simp
  rw[e,List.length_nil] at h1;omega
 have ha:=Ye hd h0;by_cases hlt:kH s.data.toList 0<9223372036854775808;rw[if_pos hlt] at ha;refine(Tryz.strconv_Atoi_ok s (by omega) _ ha w).mono ?_;rintro e w' ⟨rfl,hw⟩;refine⟨_,rfl,⟨[.int .i64 (kH s.data.toList 0),.nilIface],rfl,⟨by simp,?_⟩,⟨by simp,?_⟩,trivial⟩,?_⟩;unfold u6;rw[if_pos hlt];rfl;have e:qE s=false:=decide_eq_false (by omega);rw[e];simp[au,aF];rcases hw with rfl|⟨t,rfl⟩;exact Below.refl _ _;exact Lib.bytesWorld_below _ _ _;rw[if_neg hlt] at ha;obtain⟨c,t,u,hz,hc⟩:=hK.2 3 (by kernel_rfl);obtain⟨ty,fz,hw⟩:=R.zs _ _ hz;refine(Tryz.strconv_Atoi_range s (by omega) ha (.iface t u) w (by simp[World.cell?,hw,hc]) (.inr ⟨t,u,rfl⟩)).mono ?_;rintro e w' ⟨N,rfl,_,_,hB⟩;refine⟨_,rfl,⟨[.int .i64 (Lib.atoiSat s.data.toList),_],rfl,⟨by simp,?_⟩,⟨by simp,?_⟩,trivial⟩,hB⟩;unfold u6;rw[if_neg hlt,sat_dec hd h0];rfl;have e:qE s=true:=decide_eq_true (by omega);rw[e];simp[au,aF]
def UY:cV:=kE .str fun s=>(.p (zF (ByteArray.data s).toList/\1<=ByteArray.size s/\ByteArray.size s<=1000000),.bG [.c (.int .i64 (u6 s)),.c (.Ay (qE s))],[])
theorem UZ:bt Tryz.prog 100 UY:=fJ (by kernel_rfl) fun s h=>Yf s h.1 h.2
end Go.Proofs.YtnbjjocbncblaaaGreatDoor
namespace Go.Proofs.YtnbjjocbncblaaaGreatDoor
open Go.aN
set_option maxRecDepth 100000
def yT(t:Tok):List PV:=.int t.at_::t.pV
def aU(e a:Int):Value:=.iface 96 (.agg #[.int .i64 e,.int .i64 a])
noncomputable def gSc:bX:=[(67,zD),(72,CT),(70,RF),(69,RG),(102,c_sig),(68,Fw),(100,UY),(103,UU)]
theorem Fy:bh Tryz.prog gSc:=aq wX (aq zE (aq X7 (aq L7 (aq X8 (aq BR (aq UZ (aq UW aD)))))))
def Mb:List (List Nat×List Nat):=[([0,1],[0,1,3]),([0,1,0,1,1,1,1,1,1,1,1,1,1,0,0,1,1,1,0,1,0,0,1],[0,1,3,6,21,22,23])]
noncomputable def oF(b:Bool)(v:Value):bg:=CO Tryz.prog gSc [] Tryz.f97 Mb b v
abbrev G4(s:ByteArray):Ob:=⟨9,[.c (.str s)]⟩
abbrev OW(l:Nat)(i:Int):List (Nat×A):=[(0,.p (.c (.yield l))),(1,.p (.c (.ptr 0 0))),(3,nI i)]
abbrev U0(l:Nat)(s:ByteArray)(ys:List (List PV)):af:=.di (some ⟨l,.sl .pv,ys,true⟩) [G4 s]
def scP:List Nat:=[0,1,0,1,1,1,1,1,1,1,1,1,1,0,0,1,1,1,0,1,0,0,1]
def l5(r:ByteArray):List ByteArray->ByteArray->ByteArray
 | [],x=>x
 | g::l,x=>l5 r l (if lD r g=true/\x.size<g.size then g else x)
theorem Mc:∀ g∈fw,g.size<=2:=by decide
theorem Md{s:ByteArray}{k i:Nat}(hlt:i<s.size)(h1:¬(aY s i=32∨aY s i=10))(h2:¬aY s i=35){t:Tok}{e:Nat}(ht:bU s i=⟨t,(e:Int),0,0⟩):bF s (k+1) i=(t::(bF s k e).1,(bF s k e).2):=by
 rw[bF,if_pos hlt,if_neg h1,if_neg h2,ht,if_neg (by simp)];rfl
theorem G5{s:ByteArray}{k i:Nat}(hlt:i<s.size)(h1:¬(aY s i=32∨aY s i=10))(h2:¬aY s i=35){t:Tok}{e er ea:Int}(ht:bU s i=⟨t,e,er,ea⟩)(h:er≠0):bF s (k+1) i=([],er,ea):=by
 rw[bF,if_pos hlt,if_neg h1,if_neg h2,ht,if_pos h]
section
variable {s:ByteArray} {l:Nat} {b:Bool} {v:Value} {k i:Nat}
theorem x7{er ea:Int}(hA:bF s (k+1) i=([],er,ea))(her:er≠0)(hb:b=decide ((bF s (k+1) i).2.1≠0))(hv:v=aU (bF s (k+1) i).2.1 (bF s (k+1) i).2.2):(b=true/\aU er ea=v)/\List.map yT (bF s (k+1) i).1=[]:=by
 rw[hA] at hb hv ⊢;exact⟨⟨by rw[hb];exact decide_eq_true her,hv.symm⟩,rfl⟩
theorem Fz(IH:∀ j,i<j->j<=s.size->b=decide ((bF s k j).2.1≠0)->v=aU (bF s k j).2.1 (bF s k j).2.2->aJ (oF b v) (fun _ _=>b=false) [0,1] (fr (OW l j)) (U0 l s ((bF s k j).1.map yT)))
 {t:Tok} {e:Nat} (hB:bF s (k+1) i=(t::(bF s k e).1,(bF s k e).2)) (he:i<e/\e<=s.size) (hb:b=decide ((bF s (k+1) i).2.1≠0)) (hv:v=aU (bF s (k+1) i).2.1 (bF s (k+1) i).2.2) {y:List PV} (hy:yT t=y) :
 (¬List.map yT (bF s (k+1) i).1=[]/\(List.map yT (bF s (k+1) i).1).head? = some y)/\aJ (oF b v) (fun _ _=>b=false) [0,1] (fr (OW l e)) (U0 l s (List.map yT (bF s (k+1) i).1).tail):=by
 rw[hB] at hb hv ⊢;exact⟨⟨by simp,by simp[hy]⟩,IH e he.1 he.2 hb hv⟩
theorem G6(hs:s.size<=20000)(hlt:i<s.size)(H:∀ x:ByteArray,l5 (s.extract i s.size) fw eS=x->(x.size=0->((b=true/\aU 11 i=v)/\List.map yT (bF s (k+1) i).1=[]))/\(0<x.size->(¬List.map yT (bF s (k+1) i).1=[]/\(List.map yT (bF s (k+1) i).1).head? = some [PV.int i,PV.int 5,PV.str x,PV.int 0,PV.int i])/\aJ (oF b v) (fun _ _=>b=false) [0,1] (fr (OW l (i+x.size:Nat))) (U0 l s (List.map yT (bF s (k+1) i).1).tail)))  :
 ∀(m j:Nat)(kd:Int)(x:ByteArray),m=21-j->j<=21->l5 (s.extract i s.size) (fw.drop j) x=l5 (s.extract i s.size) fw eS->(x.size=0->x=eS)->(0<x.size->kd=5)->x.size<=2->
 aJ (oF b v) (fun _ _=>b=false) scP (fr (OW l i++[(6,.p (.c (.ptr 1 0))),(21,pq fw),(22,nI 21),(23,nI j)])) (.di (some ⟨l,.sl .pv,List.map yT (bF s (k+1) i).1,true⟩) [G4 s,obT kd x 0 i])
 | m, j, kd, x, hm, hj, hx, h0, h5, hsz => by
   refine ct Fy (by kernel_rfl) 300 ?_;apply of_eq (q:=let q2:=(fr [(0,aP (W.yield l)),(1,aR 0 0),(3,nI (i:Int)),(6,aR 1 0),(21,aP (W.rd D.str fw)),(22,nI (21)),(23,nI (IntKind.i64.wrap ((j:Int)+1)))]);let q3:=(fw.getD j (ByteArray.mk #[]));let q4:=(List.map yT (bF s (k+1) i).fst);let q5:=[0,1,0,1,1,1,1,1,1,1,1,1,1,0,0,1,1,1,0,1,0,0,1];let q1:=lD (s.extract i s.size) q3=true;(decide ((j:Int)<21)=true->((0:Int)<=(j:Int)/\(j:Int)<(↑(21:Nat):Int))/\j<21/\((0:Int)<=(i:Int)/\(i:Int)<=(s.size:Int)/\(s.size:Int)<=(s.size:Int))/\(q1->q1)/\(q1->q1)/\(q1->q1)/\(q1->q1)/\(q1->q1)/\(q1->q1)/\((bif lD (s.extract i s.size) q3 then decide ((x.size:Int)<(↑q3.size:Int)) else false)=true->aJ (oF b v) (fun x x_1=>b=false) q5 q2 (af.di (some (Gh.mk l D.pv.sl q4 true)) [Ob.mk 9 [Fd.c (W.str s)],Ob.mk 100 [fI (5),Fd.c (W.str q3),fI (0),fI (i:Int)]]))/\((bif lD (s.extract i s.size) q3 then decide ((x.size:Int)<(↑q3.size:Int)) else false)=false->aJ (oF b v) (fun x x_1=>b=false) q5 q2 (af.di (some (Gh.mk l D.pv.sl q4 true)) [Ob.mk 9 [Fd.c (W.str s)],Ob.mk 100 [fI kd,Fd.c (W.str x),fI (0),fI (i:Int)]])))/\(decide ((j:Int)<21)=false->(decide (x=ByteArray.mk #[])=true->(b=true/\Value.iface (96:Nat) (Value.agg #[Value.int .i64 (11:Int),Value.int .i64 (i:Int)])=v)/\List.map yT (bF s (k+1) i).fst=[])/\(decide (x=ByteArray.mk #[])=false->(l=l/\List.map yT (bF s (k+1) i).fst≠[]/\q4.head? = some [PV.int (i:Int),PV.int kd,PV.str x,PV.int (0:Int),PV.int (i:Int)])/\aJ (oF b v) (fun x x_1=>b=false) [0,1] (fr [(0,aP (W.yield l)),(1,aR 0 0),(3,nI (IntKind.i64.wrap ((i:Int)+(x.size:Int))))]) (af.di (some (Gh.mk l D.pv.sl q4.tail true)) [Ob.mk 9 [Fd.c (W.str s)]])))) (by kernel_rfl)
   try simp only[sL]
   have bE:fw.length=21:=rfl;have vU:j<21->(fw.getD j eS).size<=2:=fun h=>by
    rw[List.getD_eq_getElem?_getD,List.getElem?_eq_getElem (by omega)];exact Mc _ (List.getElem_mem (by omega))
   have hg:j<21->l5 (s.extract i s.size) (fw.drop j) x=l5 (s.extract i s.size) (fw.drop (j+1)) (if lD (s.extract i s.size) (fw.getD j eS)=true/\x.size<(fw.getD j eS).size then fw.getD j eS else x):=fun h=>by
    rw[List.drop_eq_getElem_cons (by omega),List.getD_eq_getElem?_getD,List.getElem?_eq_getElem (by omega)];rfl
   refine⟨fun h=>⟨by omega,by omega,by omega,fun h1=>?_,fun h1=>?_⟩,fun h=>?_⟩
   . rw[wrap64 (by omega) (by omega)];have U1:=hg (by omega);rw[if_pos ⟨h1.1,Int.ofNat_lt.1 h1.2⟩] at U1;cases m with
     | zero=>omega
     | succ m=>exact G6 hs hlt H m (j+1) 5 _ (by omega) (by omega) (U1▸hx) (fun e=>absurd (Int.ofNat_lt.1 h1.2) (by have e:(fw.getD j eS).size=0:=e;show ¬x.size<(fw.getD j eS).size;omega)) (fun _=>rfl) (vU (by omega))
   . rw[wrap64 (by omega) (by omega)];have U1:=hg (by omega);rw[if_neg (by rintro⟨h2,h3⟩;exact absurd h3 (Nat.not_lt.2 (Int.ofNat_le.1 (h1 h2))))] at U1;cases m with
     | zero=>omega
     | succ m=>exact G6 hs hlt H m (j+1) kd x (by omega) (by omega) (U1▸hx) h0 h5 hsz
   have I4:l5 (s.extract i s.size) fw eS=x:=by rw[<-hx,List.drop_eq_nil_of_le (by omega)];rfl
   refine⟨fun h1=>(H x I4).1 (by rw[h1];rfl),fun h1=>?_⟩;have hpos:0<x.size:=by
    rcases Nat.eq_zero_or_pos x.size with h2|h2;exact absurd (h0 h2) h1;exact h2
   rw[h5 hpos,wrap64 (by omega) (by omega),show ((i:Int)+x.size)=((i+x.size:Nat):Int) from by omega];exact(H x I4).2 hpos
end
theorem BS(R:ByteArray):∀(l:List ByteArray)(x:ByteArray),(l5 R l x=x∨(l5 R l x∈l/\lD R (l5 R l x)=true))/\x.size<=(l5 R l x).size/\∀ g∈l,lD R g=true->g.size<=(l5 R l x).size
 | [],x=>⟨.inl rfl,Nat.le_refl _,by simp⟩
 | g :: l, x => by
   have ih:=BS R l (if lD R g=true/\x.size<g.size then g else x);simp only[l5];split at ih;rename_i h;rw[if_pos h];refine⟨.inr ?_,by omega,fun y hy hp=>?_⟩;rcases ih.1 with h1|h1;rw[h1];exact⟨by simp,h.1⟩;exact⟨by simp[h1.1],h1.2⟩;rcases List.mem_cons.1 hy with rfl|hy;exact ih.2.1;exact ih.2.2 y hy hp;rename_i h;rw[if_neg h];refine⟨?_,ih.2.1,fun y hy hp=>?_⟩;rcases ih.1 with h1|h1;exact .inl h1;exact .inr ⟨by simp[h1.1],h1.2⟩;rcases List.mem_cons.1 hy with rfl|hy;have:¬x.size<y.size:=fun h2=>h ⟨hp,h2⟩;have:=ih.2.1;omega;exact ih.2.2 y hy hp
theorem zG{l:List ByteArray}{t:ByteArray}:eF l t=true↔t∈l:=by
 unfold eF;rw[List.any_eq_true];exact⟨fun⟨x,h1,h2⟩=>by have:=of_decide_eq_true h2;subst this;exact h1,fun h=>⟨t,h,decide_eq_true rfl⟩⟩
theorem zH{s:ByteArray}{i:Nat}(hi:i<=s.size){g:ByteArray}:lD (s.extract i s.size) g=true↔i+g.size<=s.size/\s.extract i (i+g.size)=g:=by
 unfold lD;rw[Bool.and_eq_true,decide_eq_true_eq,decide_eq_true_eq,qj hi (Nat.le_refl _)];constructor;rintro⟨h1,h2⟩;have h1':i+g.size<=s.size:=by omega
 refine⟨h1',?_⟩;rw[ByteArray.extract_extract] at h2;rw[show min (i+g.size) s.size=i+g.size by omega,Nat.add_zero] at h2;exact h2;rintro⟨h1,h2⟩;refine⟨by omega,?_⟩;rw[ByteArray.extract_extract,show min (i+g.size) s.size=i+g.size by omega,Nat.add_zero];exact h2
theorem Yg{s:ByteArray}{i:Nat}(hi:i<s.size):oD s i 2=if(l5 (s.extract i s.size) fw eS).size=0 then ⟨⟨5,eS,0,i⟩,(i+1:Nat),11,i⟩ else ⟨⟨5,l5 (s.extract i s.size) fw eS,0,i⟩,(i+(l5 (s.extract i s.size) fw eS).size:Nat),0,0⟩:=by
 obtain⟨h1,h2,h3⟩:=BS (s.extract i s.size) fw eS;generalize l5 (s.extract i s.size) fw eS=r at h1 h2 h3;have hr:r.size≠0->r∈fw/\i+r.size<=s.size/\s.extract i (i+r.size)=r/\r.size<=2:=fun h=>by
  rcases h1 with h1|h1;rw[h1] at h;exact absurd rfl h;exact⟨h1.1,((zH (by omega)).1 h1.2).1,((zH (by omega)).1 h1.2).2,Mc _ h1.1⟩
 have key:∀ n,0<n->(i+n<=s.size/\eF fw (s.extract i (i+n))=true)->n<=r.size:=fun n hn h=>by
  have hsz:=qj (s:=s) (a:=i) (e:=i+n) (by omega) h.1;have:=h3 _ (zG.1 h.2) ((zH (by omega)).2 (by rw[hsz,show i+n-i=n by omega];exact⟨h.1,rfl⟩));omega
 rw[oD];split;rename_i h;have h4:=key 2 (by omega) h;obtain⟨a1,a2,a3,a4⟩:=hr (by omega);have:r.size=2:=by omega
 rw[if_neg (by omega),<-a3,this];rw[qj (by omega) (by omega),show i+2-i=2 by omega];rename_i h;rw[oD];split;rename_i h';have h4:=key 1 (by omega) h';obtain⟨a1,a2,a3,a4⟩:=hr (by omega);have:r.size≠2:=fun e=>h (by rw[show (1+1:Nat)=r.size by omega];exact⟨a2,zG.2 (by rw[a3];exact a1)⟩);have:r.size=1:=by omega
 rw[if_neg (by omega),<-a3,this];rw[qj (by omega) (by omega),show i+1-i=1 by omega];rename_i h';rw[oD,if_pos];rcases Nat.eq_zero_or_pos r.size with h4|h4;exact h4;obtain⟨a1,a2,a3,a4⟩:=hr (by omega);have:r.size=1∨r.size=2:=by omega
 rcases this with e|e;exact absurd (by rw[show (0+1:Nat)=r.size by omega];exact⟨a2,zG.2 (by rw[a3];exact a1)⟩) h';exact absurd (by rw[show (1+1:Nat)=r.size by omega];exact⟨a2,zG.2 (by rw[a3];exact a1)⟩) h
theorem Ep(s:ByteArray)(i e:Nat):(s.extract i e).data.toList=(s.data.toList.drop i).take (e-i):=by
 rw[ByteArray.data_extract,Array.toList_extract]
theorem ext_cons{s:ByteArray}{i e:Nat}(h:i<e)(he:e<=s.size):∃ c,(s.extract i e).data.toList=c::(s.extract (i+1) e).data.toList/\aY s i=(c.toNat:Int):=by
 have hl : i < s.data.toList.length := by have : s.size = s.data.toList.length := by simp
                                          omega
 refine⟨s.data.toList[i],?_,?_⟩;rw[Ep,Ep,List.drop_eq_getElem_cons hl,show e-i=(e-(i+1))+1 by omega,List.take_succ_cons];unfold aY;rw[List.getD_eq_getElem?_getD,List.getElem?_eq_getElem hl];rfl
theorem RJ{c:Int}(h:cx c=true):48<=c/\c<=57:=by
 unfold cx at h;simpa only[Bool.and_eq_true,decide_eq_true_eq] using h
theorem G7{s : ByteArray}{e : Nat}(he : e ≤ s.size) : ∀(k i n : Nat), k = e - i → i ≤ e → (∀ j, i ≤ j → j < e → cx (aY s j) = true) → n ≤ 1000000000000000 →
 zF (s.extract i e).data.toList/\(1000000000000000<kH (s.extract i e).data.toList n->(kU s e i n).2=true)/\(kH (s.extract i e).data.toList n<=1000000000000000->kU s e i n=((kH (s.extract i e).data.toList n:Int),false))
 | k, i, n, hk, hi, hd, hn => by
   by_cases h:i<e
   . obtain⟨c,h1,h2⟩:=ext_cons h he;have hc:=RJ (hd i (Nat.le_refl _) h);have hg:=GZ (s.extract (i+1) e).data.toList (n*10+(c.toNat-48));have hcast:((n:Int)*10+(aY s i-48))=((n*10+(c.toNat-48):Nat):Int):=by omega
     rw[h1,kU,dif_pos h,hcast];cases k with
     | zero=>omega
     | succ k =>
       by_cases hb:n*10+(c.toNat-48)<=1000000000000000;obtain⟨i1,i2,i3⟩:=G7 he k (i+1) (n*10+(c.toNat-48)) (by omega) (by omega) (fun j h3 h4=>hd j (by omega) h4) hb;refine⟨fun x hx=>?_,fun h3=>?_,fun h3=>?_⟩;rcases List.mem_cons.1 hx with rfl|hx;omega;exact i1 x hx;rw[if_neg (by omega)];exact i2 h3;rw[if_neg (by omega)];exact i3 h3;have hdl:zF (s.extract (i+1) e).data.toList:=(G7 he k (i+1) 0 (by omega) (by omega) (fun j h3 h4=>hd j (by omega) h4) (by omega)).1;refine⟨fun x hx=>?_,fun _=>?_,fun h3=>?_⟩;rcases List.mem_cons.1 hx with rfl|hx;omega;exact hdl x hx;rw[if_pos (by omega)];have h3:kH (s.extract (i+1) e).data.toList (n*10+(c.toNat-48))<=1000000000000000:=h3;omega
   have e0:(s.extract i e).data.toList=[]:=by rw[Ep,show e-i=0 by omega,List.take_zero]
   rw[e0,kU,dif_neg h];exact⟨(by intro x hx;cases hx),fun h3=>by have h3:1000000000000000<n:=h3;omega,fun _=>rfl⟩
end Go.Proofs.YtnbjjocbncblaaaGreatDoor
