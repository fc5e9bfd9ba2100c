/- Tokens: what the program and the reference ask of bytes. -/
import Derived.Test.YtelpmhfdbdihfaaGreatDoorProg
import Derived.Test.YtelpmhfdbdihfaaGreatDoorLoom4
import Derived.Test.YtelpmhfdbdihfaaGreatDoorShelf1
import Derived.Lib.AtoiAllCases
namespace Go.Proofs.YtelpmhfdbdihfaaGreatDoor
open Go.aT
set_option maxRecDepth 100000
abbrev nI (n:Int):A:=.p (.c (.int .i64 n))
abbrev Ik (n:Int):A:=.p (.c (.int .u8 n))
abbrev bB (b:Bool):A:=.p (.c (.bool b))
abbrev sS (s:ByteArray):A:=.p (.c (.str s))
abbrev lC (l:List ByteArray):A:=.p (.c (.rd .str l))
abbrev oB (f:Nat):A:=.p (.c (.func f []))
theorem wrap64 {n:Int} (h1:-9223372036854775808<=n) (h2:n<=9223372036854775807):IntKind.i64.wrap n=n:=IntWalk.i64_in n ⟨h1,h2⟩
def gU (c:Int):Bool:=decide (97<=c)&&decide (c<=122)||decide (65<=c)&&decide (c<=90)
def cT (c:Int):Bool:=decide (48<=c)&&decide (c<=57)
def dB (c:Int):Bool:=gU c||cT c||decide (c=95)
def cJ (c:Int):Bool:=decide (32<=c)&&decide (c<=126)&&!decide (c=34)
def gN (c:Int):Bool:=!decide (c=10)
theorem NE (c:Int):bq Tryz.prog 38 [Ik c] [] (bB (gU c)) []:=by
 refine bh (aJ:=[]) aF Tryz.func38 (by kernel_rfl) (ak:=0) rfl (by kernel_rfl) 100 ?_
 apply of_eq (q:=let q2:=decide ((97:Int)<=c);let q3:=decide ((65:Int)<=c);let q1:=(bif q2 then decide (c<=122) else false)=false;(q2=true->q2=true)/\(q2=true->q2=true)/\(q1->q1)/\(q1->q1)/\(q1/\q3=true->q1/\q3=true)/\(q1->q1)/\(q1->q3=true->q1/\q3=true)/\(q1->q1)/\ax [vB (bif bif q2 then decide (c<=122) else false then true else bif q3 then decide (c<=90) else false)]=bB (gU c)/\([]:List Ob)=[]) (by kernel_rfl)
 try simp only [sL]
 first | rfl | exact ⟨by omega,rfl⟩ | exact ?a
def vY:cQ:=jh (.int .u8) fun c=>(.t,bB (gU c),[])
theorem tI:bF Tryz.prog 38 vY:=eU (by kernel_rfl) fun c _=>NE c
theorem Ql (c:Int):bq Tryz.prog 40 [Ik c] [] (bB (cT c)) []:=by
 refine bh (aJ:=[]) aF Tryz.func40 (by kernel_rfl) (ak:=0) rfl (by kernel_rfl) 100 ?_
 apply of_eq (q:=let q1:=decide ((48:Int)<=c);(q1=true->q1=true)/\(q1=true->q1=true)/\ax [vB (bif q1 then decide (c<=57) else false)]=bB (cT c)/\([]:List Ob)=[]) (by kernel_rfl)
 try simp only [sL]
 first | rfl | exact ⟨by omega,rfl⟩ | exact ?a
def zR:cQ:=jh (.int .u8) fun c=>(.t,bB (cT c),[])
theorem vZ:bF Tryz.prog 40 zR:=eU (by kernel_rfl) fun c _=>Ql c
theorem Ud (c:Int):bq Tryz.prog 37 [Ik c] [] (bB (gN c)) []:=by
 refine bh (aJ:=[]) aF Tryz.func37 (by kernel_rfl) (ak:=0) rfl (by kernel_rfl) 100 ?_
 apply of_eq (q:=ax [V.c (W.bool !decide (c=10))]=bB (gN c)/\([]:List Ob)=[]) (by kernel_rfl)
 try simp only [sL]
 first | rfl | exact ⟨by omega,rfl⟩ | exact ?a
def Qm:cQ:=jh (.int .u8) fun c=>(.t,bB (gN c),[])
theorem Qn:bF Tryz.prog 37 Qm:=eU (by kernel_rfl) fun c _=>Ud c
theorem XE (c:Int):bq Tryz.prog 44 [Ik c] [] (bB (cJ c)) []:=by
 refine bh (aJ:=[]) aF Tryz.func44 (by kernel_rfl) (ak:=0) rfl (by kernel_rfl) 100 ?_
 apply of_eq (q:=let q2:=decide ((32:Int)<=c);let q1:=(bif q2 then decide (c<=126) else false)=true;(q2=true->q2=true)/\(q2=true->q2=true)/\(q1->q1)/\(q1->q1)/\ax [vB (bif bif q2 then decide (c<=126) else false then !decide (c=34) else false)]=bB (cJ c)/\([]:List Ob)=[]) (by kernel_rfl)
 try simp only [sL]
 first | rfl | exact ⟨by omega,rfl⟩ | exact ?a
def Wy:cQ:=jh (.int .u8) fun c=>(.t,bB (cJ c),[])
theorem Ue:bF Tryz.prog 44 Wy:=eU (by kernel_rfl) fun c _=>XE c
noncomputable def gWr:bY:=[(38,vY),(40,zR)]
theorem Qo:aZ Tryz.prog gWr:=ar tI (ar vZ aF)
theorem XF (c:Int):bq Tryz.prog 39 [Ik c] [] (bB (dB c)) []:=by
 refine bh (aJ:=[]) Qo Tryz.func39 (by kernel_rfl) (ak:=0) rfl (by kernel_rfl) 100 ?_
 apply of_eq (q:=let q1:=(bif gU c then true else cT c)=false;(gU c=false->gU c=false)/\(gU c=false->gU c=false)/\(q1->q1)/\(q1->q1)/\ax [vB (bif bif gU c then true else cT c then true else decide (c=95))]=bB (dB c)/\([]:List Ob)=[]) (by kernel_rfl)
 try simp only [sL]
 first | rfl | exact ⟨by omega,rfl⟩ | exact ?a
def Wz:cQ:=jh (.int .u8) fun c=>(.t,bB (dB c),[])
theorem Uf:bF Tryz.prog 39 Wz:=eU (by kernel_rfl) fun c _=>XF c
def aQ (p:Int->Bool) (s:ByteArray) (i:Nat):Nat:=if h:i<s.size/\p (bn s i)=true then aQ p s (i+1) else i
termination_by s.size-i
theorem gA {p:Int->Bool} {s:ByteArray} {i:Nat} (h:i<s.size/\p (bn s i)=true):aQ p s i=aQ p s (i+1):=by rw [aQ,dif_pos h]
theorem jY {p:Int->Bool} {s:ByteArray} {i:Nat} (h:¬ (i<s.size/\p (bn s i)=true)):aQ p s i=i:=by rw [aQ,dif_neg h]
theorem jB (p:Int->Bool) (s:ByteArray):∀ (k i:Nat),k=s.size-i->i<=aQ p s i/\(i<=s.size->aQ p s i<=s.size)
 | k,i,hk=>by
   by_cases h:i<s.size/\p (bn s i)=true
   . rw [gA h]
     cases k with
     | zero=>omega
     | succ k =>
       have:=jB p s k (i+1) (by omega)
       omega
   . rw [jY h];omega
noncomputable def DV:bY:=[(37,Qm)]
theorem CU:aZ Tryz.prog DV:=ar Qn aF
noncomputable def K3:aX:=cX Tryz.prog DV Tryz.f36 0 [([0,0,1],[0,1,2])]
theorem uH (s:ByteArray) (hs:s.size<=1000000):∀ (k i:Nat),k=s.size-i->i<=s.size->aG K3 (aV (nI (aQ gN s i)) []) [0,0,1] (fr [(0,sS s),(1,nI i),(2,oB 37)]) (.ofList [])
 | k,i,hk,hi=>by
   refine bZ CU (by kernel_rfl) 100 ?_
   apply of_eq (q:=let q2:=decide ((i:Int)<(s.size:Int));let q1:=q2=true;(q1->q1)/\(q1->q1)/\(q1->(0:Int)<=(i:Int)/\(i:Int)<(s.size:Int))/\(q1->q1)/\(q1->q1)/\(q1->q1)/\((bif q2 then gN (bn s i) else false)=true->aG K3 (aV (nI (↑(aQ gN s i):Int)) []) [0,0,1] (fr [(0,aP (W.str s)),(1,nI (IntKind.i64.wrap ((i:Int)+1))),(2,aP (W.func 37 []))]) (af.ofList []))/\((bif q2 then gN (bn s i) else false)=false->ax [vI (i:Int)]=nI (↑(aQ gN s i):Int)/\([]:List Ob)=[])) (by kernel_rfl)
   try simp only [sL]
   refine ⟨fun h=>by omega,fun h=>?_,fun h=>?_⟩
   . have hi1:i<s.size:=by omega
     rw [wrap64 (by omega) (by omega),gA ⟨hi1,h.2⟩]
     cases k with
     | zero=>omega
     | succ k=>exact uH s hs k (i+1) (by omega) (by omega)
   . rw [jY (by rintro ⟨h1,h2⟩;rw [h (by omega)] at h2;cases h2)];rfl
theorem Qp (s:ByteArray) (i:Int) (h:s.size<=1000000/\0<=i/\i<=s.size):bq Tryz.prog 36 [sS s,nI i,oB 37] [] (nI (aQ gN s i.toNat)) []:=by
 obtain ⟨hs,h0,h1⟩:=h
 obtain ⟨n,rfl⟩:∃ n:Nat,i=n:=⟨i.toNat,by omega⟩
 rw [Int.toNat_natCast]
 refine bh (aJ:=[([0,0,1],[0,1,2])]) CU Tryz.func36 (by kernel_rfl) (ak:=0) rfl (by kernel_rfl) 100 ?_
 apply of_eq (q:=aG (cX Tryz.prog DV Tryz.f36 (0:Nat) [([0,0,1],[0,1,2])]) (aV (nI (↑(aQ gN s n):Int)) []) [0,0,1] (fr [(0,aP (W.str s)),(1,nI (n:Int)),(2,aP (W.func 37 []))]) (af.ofList [])) (by kernel_rfl)
 try simp only [sL,Int.reduceEq,Int.reduceNe,Nat.reduceAdd]
 exact uH s hs _ n rfl (by omega)
noncomputable def Il:bY:=[(39,Wz)]
theorem E9:aZ Tryz.prog Il:=ar Uf aF
noncomputable def Qq:aX:=cX Tryz.prog Il Tryz.f36 0 [([0,0,1],[0,1,2])]
theorem wM (s:ByteArray) (hs:s.size<=1000000):∀ (k i:Nat),k=s.size-i->i<=s.size->aG Qq (aV (nI (aQ dB s i)) []) [0,0,1] (fr [(0,sS s),(1,nI i),(2,oB 39)]) (.ofList [])
 | k,i,hk,hi=>by
   refine bZ E9 (by kernel_rfl) 100 ?_
   apply of_eq (q:=let q2:=decide ((i:Int)<(s.size:Int));let q1:=q2=true;(q1->q1)/\(q1->q1)/\(q1->(0:Int)<=(i:Int)/\(i:Int)<(s.size:Int))/\(q1->q1)/\(q1->q1)/\(q1->q1)/\((bif q2 then dB (bn s i) else false)=true->aG Qq (aV (nI (↑(aQ dB s i):Int)) []) [0,0,1] (fr [(0,aP (W.str s)),(1,nI (IntKind.i64.wrap ((i:Int)+1))),(2,aP (W.func 39 []))]) (af.ofList []))/\((bif q2 then dB (bn s i) else false)=false->ax [vI (i:Int)]=nI (↑(aQ dB s i):Int)/\([]:List Ob)=[])) (by kernel_rfl)
   try simp only [sL]
   refine ⟨fun h=>by omega,fun h=>?_,fun h=>?_⟩
   . have hi1:i<s.size:=by omega
     rw [wrap64 (by omega) (by omega),gA ⟨hi1,h.2⟩]
     cases k with
     | zero=>omega
     | succ k=>exact wM s hs k (i+1) (by omega) (by omega)
   . rw [jY (by rintro ⟨h1,h2⟩;rw [h (by omega)] at h2;cases h2)];rfl
theorem Ug (s:ByteArray) (i:Int) (h:s.size<=1000000/\0<=i/\i<=s.size):bq Tryz.prog 36 [sS s,nI i,oB 39] [] (nI (aQ dB s i.toNat)) []:=by
 obtain ⟨hs,h0,h1⟩:=h
 obtain ⟨n,rfl⟩:∃ n:Nat,i=n:=⟨i.toNat,by omega⟩
 rw [Int.toNat_natCast]
 refine bh (aJ:=[([0,0,1],[0,1,2])]) E9 Tryz.func36 (by kernel_rfl) (ak:=0) rfl (by kernel_rfl) 100 ?_
 apply of_eq (q:=aG (cX Tryz.prog Il Tryz.f36 (0:Nat) [([0,0,1],[0,1,2])]) (aV (nI (↑(aQ dB s n):Int)) []) [0,0,1] (fr [(0,aP (W.str s)),(1,nI (n:Int)),(2,aP (W.func 39 []))]) (af.ofList [])) (by kernel_rfl)
 try simp only [sL,Int.reduceEq,Int.reduceNe,Nat.reduceAdd]
 exact wM s hs _ n rfl (by omega)
noncomputable def BG:bY:=[(40,zR)]
theorem AV:aZ Tryz.prog BG:=ar vZ aF
noncomputable def Im:aX:=cX Tryz.prog BG Tryz.f36 0 [([0,0,1],[0,1,2])]
theorem sU (s:ByteArray) (hs:s.size<=1000000):∀ (k i:Nat),k=s.size-i->i<=s.size->aG Im (aV (nI (aQ cT s i)) []) [0,0,1] (fr [(0,sS s),(1,nI i),(2,oB 40)]) (.ofList [])
 | k,i,hk,hi=>by
   refine bZ AV (by kernel_rfl) 100 ?_
   apply of_eq (q:=let q2:=decide ((i:Int)<(s.size:Int));let q1:=q2=true;(q1->q1)/\(q1->q1)/\(q1->(0:Int)<=(i:Int)/\(i:Int)<(s.size:Int))/\(q1->q1)/\(q1->q1)/\(q1->q1)/\((bif q2 then cT (bn s i) else false)=true->aG Im (aV (nI (↑(aQ cT s i):Int)) []) [0,0,1] (fr [(0,aP (W.str s)),(1,nI (IntKind.i64.wrap ((i:Int)+1))),(2,aP (W.func 40 []))]) (af.ofList []))/\((bif q2 then cT (bn s i) else false)=false->ax [vI (i:Int)]=nI (↑(aQ cT s i):Int)/\([]:List Ob)=[])) (by kernel_rfl)
   try simp only [sL]
   refine ⟨fun h=>by omega,fun h=>?_,fun h=>?_⟩
   . have hi1:i<s.size:=by omega
     rw [wrap64 (by omega) (by omega),gA ⟨hi1,h.2⟩]
     cases k with
     | zero=>omega
     | succ k=>exact sU s hs k (i+1) (by omega) (by omega)
   . rw [jY (by rintro ⟨h1,h2⟩;rw [h (by omega)] at h2;cases h2)];rfl
theorem NG (s:ByteArray) (i:Int) (h:s.size<=1000000/\0<=i/\i<=s.size):bq Tryz.prog 36 [sS s,nI i,oB 40] [] (nI (aQ cT s i.toNat)) []:=by
 obtain ⟨hs,h0,h1⟩:=h
 obtain ⟨n,rfl⟩:∃ n:Nat,i=n:=⟨i.toNat,by omega⟩
 rw [Int.toNat_natCast]
 refine bh (aJ:=[([0,0,1],[0,1,2])]) AV Tryz.func36 (by kernel_rfl) (ak:=0) rfl (by kernel_rfl) 100 ?_
 apply of_eq (q:=aG (cX Tryz.prog BG Tryz.f36 (0:Nat) [([0,0,1],[0,1,2])]) (aV (nI (↑(aQ cT s n):Int)) []) [0,0,1] (fr [(0,aP (W.str s)),(1,nI (n:Int)),(2,aP (W.func 40 []))]) (af.ofList [])) (by kernel_rfl)
 try simp only [sL,Int.reduceEq,Int.reduceNe,Nat.reduceAdd]
 exact sU s hs _ n rfl (by omega)
noncomputable def Io:bY:=[(44,Wy)]
theorem Fa:aZ Tryz.prog Io:=ar Ue aF
noncomputable def Qr:aX:=cX Tryz.prog Io Tryz.f36 0 [([0,0,1],[0,1,2])]
theorem wN (s:ByteArray) (hs:s.size<=1000000):∀ (k i:Nat),k=s.size-i->i<=s.size->aG Qr (aV (nI (aQ cJ s i)) []) [0,0,1] (fr [(0,sS s),(1,nI i),(2,oB 44)]) (.ofList [])
 | k,i,hk,hi=>by
   refine bZ Fa (by kernel_rfl) 100 ?_
   apply of_eq (q:=let q2:=decide ((i:Int)<(s.size:Int));let q1:=q2=true;(q1->q1)/\(q1->q1)/\(q1->(0:Int)<=(i:Int)/\(i:Int)<(s.size:Int))/\(q1->q1)/\(q1->q1)/\(q1->q1)/\((bif q2 then cJ (bn s i) else false)=true->aG Qr (aV (nI (↑(aQ cJ s i):Int)) []) [0,0,1] (fr [(0,aP (W.str s)),(1,nI (IntKind.i64.wrap ((i:Int)+1))),(2,aP (W.func 44 []))]) (af.ofList []))/\((bif q2 then cJ (bn s i) else false)=false->ax [vI (i:Int)]=nI (↑(aQ cJ s i):Int)/\([]:List Ob)=[])) (by kernel_rfl)
   try simp only [sL]
   refine ⟨fun h=>by omega,fun h=>?_,fun h=>?_⟩
   . have hi1:i<s.size:=by omega
     rw [wrap64 (by omega) (by omega),gA ⟨hi1,h.2⟩]
     cases k with
     | zero=>omega
     | succ k=>exact wN s hs k (i+1) (by omega) (by omega)
   . rw [jY (by rintro ⟨h1,h2⟩;rw [h (by omega)] at h2;cases h2)];rfl
theorem Uh (s:ByteArray) (i:Int) (h:s.size<=1000000/\0<=i/\i<=s.size):bq Tryz.prog 36 [sS s,nI i,oB 44] [] (nI (aQ cJ s i.toNat)) []:=by
 obtain ⟨hs,h0,h1⟩:=h
 obtain ⟨n,rfl⟩:∃ n:Nat,i=n:=⟨i.toNat,by omega⟩
 rw [Int.toNat_natCast]
 refine bh (aJ:=[([0,0,1],[0,1,2])]) Fa Tryz.func36 (by kernel_rfl) (ak:=0) rfl (by kernel_rfl) 100 ?_
 apply of_eq (q:=aG (cX Tryz.prog Io Tryz.f36 (0:Nat) [([0,0,1],[0,1,2])]) (aV (nI (↑(aQ cJ s n):Int)) []) [0,0,1] (fr [(0,aP (W.str s)),(1,nI (n:Int)),(2,aP (W.func 44 []))]) (af.ofList [])) (by kernel_rfl)
 try simp only [sL,Int.reduceEq,Int.reduceNe,Nat.reduceAdd]
 exact wN s hs _ n rfl (by omega)
def NH:cQ:={ cw:=[],f:=fun args ai=>match args,ai with
 | [x,y,.p (.c (.func f []))],[]=>match rJ .str x,rJ (.int .i64) y with
   | some s,some i =>
     bif Nat.beq f 37 then some (.p (ByteArray.size s<=1000000/\0<=(i:Int)/\(i:Int)<=ByteArray.size s),nI (aQ gN s (Int.toNat i)),[]) else
     bif Nat.beq f 39 then some (.p (ByteArray.size s<=1000000/\0<=(i:Int)/\(i:Int)<=ByteArray.size s),nI (aQ dB s (Int.toNat i)),[]) else
     bif Nat.beq f 40 then some (.p (ByteArray.size s<=1000000/\0<=(i:Int)/\(i:Int)<=ByteArray.size s),nI (aQ cT s (Int.toNat i)),[]) else
     bif Nat.beq f 44 then some (.p (ByteArray.size s<=1000000/\0<=(i:Int)/\(i:Int)<=ByteArray.size s),nI (aQ cJ s (Int.toNat i)),[]) else none
   | _,_=>none
 | _,_=>none }
theorem Ui:bF Tryz.prog 36 NH:=by
 refine ⟨by kernel_rfl,fun args ai c r aU e hc=>?_⟩
 simp only [NH] at e
 split at e
 . rename_i x y f
   split at e
   . rename_i s i hx hy
     have key:∀ (g:Nat) (p:Int->Bool),(∀ (s:ByteArray) (i:Int),(s.size<=1000000/\0<=i/\i<=s.size)->bq Tryz.prog 36 [sS s,nI i,oB g] [] (nI (aQ p s i.toNat)) [])->f=g->
      some ((Cd.p (ByteArray.size s<=1000000/\0<=(i:Int)/\(i:Int)<=ByteArray.size s)),nI (aQ p s (Int.toNat i)),([]:List Ob))=some (c,r,aU)->bq Tryz.prog 36 [x,y,oB f] [] r aU:=by
      rintro g p hg rfl e
      cases e
      exact bq.args (hg s i hc) fun η Z vs hv=>match vs,hv with | [_,_,_],⟨a,b,d⟩=>⟨jb hx a,jb hy b,d⟩
     cases h1:Nat.beq f 37 with
     | true=>rw [h1] at e;exact key _ _ Qp (Nat.eq_of_beq_eq_true h1) e
     | false =>
     rw [h1] at e
     cases h2:Nat.beq f 39 with
     | true=>rw [h2] at e;exact key _ _ Ug (Nat.eq_of_beq_eq_true h2) e
     | false =>
     rw [h2] at e
     cases h3:Nat.beq f 40 with
     | true=>rw [h3] at e;exact key _ _ NG (Nat.eq_of_beq_eq_true h3) e
     | false =>
     rw [h3] at e
     cases h4:Nat.beq f 44 with
     | true=>rw [h4] at e;exact key _ _ Uh (Nat.eq_of_beq_eq_true h4) e
     | false=>rw [h4] at e;cases e
   . cases e
 . cases e
abbrev dS:D:=.sl .str
def pG:List ByteArray:=[⟨#[97,110,100]⟩,⟨#[100,101,102]⟩,⟨#[101,108,115,101]⟩,⟨#[102,97,108,115,101]⟩,⟨#[102,111,114]⟩,⟨#[105,102]⟩,⟨#[105,110]⟩,⟨#[110,111,116]⟩,⟨#[111,114]⟩,⟨#[112,114,105,110,116]⟩,⟨#[114,101,116,117,114,110]⟩,⟨#[116,114,117,101]⟩,⟨#[119,104,105,108,101]⟩]
def eW:List ByteArray:=[⟨#[40]⟩,⟨#[41]⟩,⟨#[91]⟩,⟨#[93]⟩,⟨#[123]⟩,⟨#[125]⟩,⟨#[44]⟩,⟨#[59]⟩,⟨#[61]⟩,⟨#[61,61]⟩,⟨#[33,61]⟩,⟨#[60]⟩,⟨#[60,61]⟩,⟨#[62]⟩,⟨#[62,61]⟩,⟨#[43]⟩,⟨#[45]⟩,⟨#[42]⟩,⟨#[47]⟩,⟨#[37]⟩,⟨#[94]⟩]
theorem XG:bq Tryz.prog 42 [] [] (lC pG) []:=by
 refine kM (aJ:=[]) (eN:=[]) (fz:=[some (.sl .str)]) aF Tryz.func42 (by kernel_rfl) 0 (by kernel_rfl) 100 ?_
 apply of_eq (q:=let q1:=(101:UInt8);(0:Nat)+13<=13/\ax [V.c (W.rd D.str (List.take (13:Nat) (List.drop (0:Nat) [ByteArray.mk #[(97:UInt8),(110:UInt8),(100:UInt8)],ByteArray.mk #[(100:UInt8),q1,(102:UInt8)],ByteArray.mk #[q1,(108:UInt8),(115:UInt8),q1],ByteArray.mk #[(102:UInt8),(97:UInt8),(108:UInt8),(115:UInt8),q1],ByteArray.mk #[(102:UInt8),(111:UInt8),(114:UInt8)],ByteArray.mk #[(105:UInt8),(102:UInt8)],ByteArray.mk #[(105:UInt8),(110:UInt8)],ByteArray.mk #[(110:UInt8),(111:UInt8),(116:UInt8)],ByteArray.mk #[(111:UInt8),(114:UInt8)],ByteArray.mk #[(112:UInt8),(114:UInt8),(105:UInt8),(110:UInt8),(116:UInt8)],ByteArray.mk #[(114:UInt8),q1,(116:UInt8),(117:UInt8),(114:UInt8),(110:UInt8)],ByteArray.mk #[(116:UInt8),(114:UInt8),(117:UInt8),q1],ByteArray.mk #[(119:UInt8),(104:UInt8),(105:UInt8),(108:UInt8),q1]])))]=lC pG/\([]:List Ob)=[]) (by kernel_rfl)
 try simp only [sL]
 rfl
def NI:cQ:=DQ (.t,lC pG,[])
theorem Ip:bF Tryz.prog 42 NI:=zJ (by kernel_rfl) fun _=>XG
theorem XH:bq Tryz.prog 45 [] [] (lC eW) []:=by
 refine kM (aJ:=[]) (eN:=[]) (fz:=[some (.sl .str)]) aF Tryz.func45 (by kernel_rfl) 0 (by kernel_rfl) 100 ?_
 apply of_eq (q:=(0:Nat)+21<=21/\ax [V.c (W.rd D.str (List.take (21:Nat) (List.drop (0:Nat) [ByteArray.mk #[(40:UInt8)],ByteArray.mk #[(41:UInt8)],ByteArray.mk #[(91:UInt8)],ByteArray.mk #[(93:UInt8)],ByteArray.mk #[(123:UInt8)],ByteArray.mk #[(125:UInt8)],ByteArray.mk #[(44:UInt8)],ByteArray.mk #[(59:UInt8)],ByteArray.mk #[(61:UInt8)],ByteArray.mk #[(61:UInt8),(61:UInt8)],ByteArray.mk #[(33:UInt8),(61:UInt8)],ByteArray.mk #[(60:UInt8)],ByteArray.mk #[(60:UInt8),(61:UInt8)],ByteArray.mk #[(62:UInt8)],ByteArray.mk #[(62:UInt8),(61:UInt8)],ByteArray.mk #[(43:UInt8)],ByteArray.mk #[(45:UInt8)],ByteArray.mk #[(42:UInt8)],ByteArray.mk #[(47:UInt8)],ByteArray.mk #[(37:UInt8)],ByteArray.mk #[(94:UInt8)]])))]=lC eW/\([]:List Ob)=[]) (by kernel_rfl)
 try simp only [sL]
 rfl
def WA:cQ:=DQ (.t,lC eW,[])
theorem Uj:bF Tryz.prog 45 WA:=zJ (by kernel_rfl) fun _=>XH
def fB (l:List ByteArray) (t:ByteArray):Bool:=l.any fun x=>decide (x=t)
def rM:List ByteArray->ByteArray->Int->Int
 | [],_,_=>-1
 | x::l,t,i=>if x=t then i else rM l t (i+1)
theorem Uk (l:List ByteArray) (t:ByteArray):∀ i:Int,0<=i->decide (0<=rM l t i)=fB l t:=by
 induction l with
 | nil=>intro i _;rfl
 | cons x l ih =>
   intro i h
   unfold rM fB
   by_cases hx:x=t
   . rw [if_pos hx,List.any_cons,decide_eq_true hx,Bool.true_or,decide_eq_true h]
   . rw [if_neg hx,List.any_cons,decide_eq_false hx,Bool.false_or]
     exact ih (i+1) (by omega)
noncomputable def sIdx:aX:=cX Tryz.prog [] Tryz.f69 0 [([0,1,0,1],[0,1,7,8])]
theorem Iq (l:List ByteArray) (t:ByteArray) (hl:l.length<=1000000):∀ (k i:Nat),k=l.length-i->i<=l.length->aG sIdx (aV (nI (rM (l.drop i) t i)) []) [0,1,0,1] (fr [(0,lC l),(1,sS t),(7,nI l.length),(8,nI i)]) (.ofList [])
 | k,i,hk,hi=>by
   refine bZ aF (by kernel_rfl) 100 ?_
   apply of_eq (q:=let q1:=(rM (List.drop i l) t (i:Int));(decide ((i:Int)<(l.length:Int))=true->((0:Int)<=(i:Int)/\(i:Int)<(l.length:Int))/\i<l.length/\(decide (t=l.getD i (ByteArray.mk #[]))=true->ax [vI (i:Int)]=nI q1/\([]:List Ob)=[])/\(decide (t=l.getD i (ByteArray.mk #[]))=false->aG sIdx (aV (nI q1) []) [0,1,0,1] (fr [(0,aP (W.rd D.str l)),(1,aP (W.str t)),(7,nI (l.length:Int)),(8,nI (IntKind.i64.wrap ((i:Int)+1)))]) (af.ofList [])))/\(decide ((i:Int)<(l.length:Int))=false->ax [vI (-1)]=nI q1/\([]:List Ob)=[])) (by kernel_rfl)
   try simp only [sL]
   refine ⟨fun h=>⟨by omega,by omega,fun h1=>?_,fun h1=>?_⟩,fun h=>?_⟩
   . rw [List.drop_eq_getElem_cons (by omega),rM,if_pos (by rw [h1,List.getD_eq_getElem?_getD,List.getElem?_eq_getElem (by omega)];rfl)];rfl
   . rw [wrap64 (by omega) (by omega),List.drop_eq_getElem_cons (by omega),rM,if_neg (by rintro rfl;exact h1 (by rw [List.getD_eq_getElem?_getD,List.getElem?_eq_getElem (by omega)];rfl))]
     cases k with
     | zero=>omega
     | succ k=>exact Iq l t hl k (i+1) (by omega) (by omega)
   . rw [List.drop_eq_nil_of_le (by omega)];rfl
theorem XI (l:List ByteArray) (t:ByteArray) (hl:l.length<=1000000):bq Tryz.prog 69 [lC l,sS t] [] (nI (rM l t 0)) []:=by
 refine bh (aJ:=[([0,1,0,1],[0,1,7,8])]) aF Tryz.func69 (by kernel_rfl) (ak:=0) rfl (by kernel_rfl) 100 ?_
 apply of_eq (q:=aG (cX Tryz.prog [] Tryz.f69 (0:Nat) [([0,1,0,1],[0,1,7,8])]) (aV (nI (rM l t (0:Int))) []) [0,1,0,1] (fr [(0,aP (W.rd D.str l)),(1,aP (W.str t)),(7,nI (l.length:Int)),(8,nI (0))]) (af.ofList [])) (by kernel_rfl)
 try simp only [sL,Int.reduceEq,Int.reduceNe,Nat.reduceAdd]
 have:=Iq l t hl _ 0 rfl (by omega)
 rw [List.drop_zero] at this
 exact this
def WB:cQ:=vU dS .str fun l t=>(.p (List.length (α:=ByteArray) l<=1000000),nI (rM l t 0),[])
theorem Ul:bF Tryz.prog 69 WB:=pz (by kernel_rfl) fun l t h=>XI l t h
noncomputable def gCt:bY:=[(69,WB)]
theorem gCt_ok:aZ Tryz.prog gCt:=ar Ul aF
theorem Um (l:List ByteArray) (t:ByteArray) (hl:l.length<=1000000):bq Tryz.prog 41 [lC l,sS t] [] (bB (fB l t)) []:=by
 refine bh (aJ:=[]) gCt_ok Tryz.func41 (by kernel_rfl) (ak:=0) rfl (by kernel_rfl) 100 ?_
 apply of_eq (q:=l.length<=1000000/\ax [vB (decide ((0:Int)<=rM l t (0:Int)))]=bB (fB l t)/\([]:List Ob)=[]) (by kernel_rfl)
 try simp only [sL]
 rw [<-Uk l t 0 (by omega)]
 exact ⟨hl,rfl⟩
def CV:cQ:=vU dS .str fun l t=>(.p (List.length (α:=ByteArray) l<=1000000),bB (fB l t),[])
theorem yM:bF Tryz.prog 41 CV:=pz (by kernel_rfl) fun l t h=>Um l t h
def jM (s t:ByteArray):Bool:=decide (t.size<=s.size)&&decide (s.extract 0 t.size=t)
theorem Qs (s t:ByteArray):bq Tryz.prog 72 [sS s,sS t] [] (bB (jM s t)) []:=by
 refine bh (aJ:=[]) aF Tryz.func72 (by kernel_rfl) (ak:=0) rfl (by kernel_rfl) 100 ?_
 apply of_eq (q:=let q1:=decide ((t.size:Int)<=(s.size:Int))=true;(q1->q1)/\(q1->q1)/\(q1->q1)/\(q1->(0:Int)<=0/\(0:Int)<=(t.size:Int)/\(t.size:Int)<=(s.size:Int))/\(q1->q1)/\(q1->q1)/\(q1->q1)/\ax [vB (bif decide ((t.size:Int)<=(s.size:Int)) then decide (s.extract (0:Nat) t.size=t) else false)]=bB (jM s t)/\([]:List Ob)=[]) (by kernel_rfl)
 try simp only [sL]
 refine ⟨fun h=>by omega,?_⟩
 unfold jM
 rw [show decide ((t.size:Int)<=s.size)=decide (t.size<=s.size) from by rw [decide_eq_decide];omega]
 rfl
def K4:cQ:=vU .str .str fun s t=>(.t,bB (jM s t),[])
theorem NJ:bF Tryz.prog 72 K4:=pz (by kernel_rfl) fun s t _=>Qs s t
noncomputable def gPf:bY:=[(72,K4)]
theorem gPf_ok:aZ Tryz.prog gPf:=ar NJ aF
theorem Un (s t:ByteArray):bq Tryz.prog 46 [sS s,sS t] [] (bB (jM s t)) []:=by
 refine bh (aJ:=[]) gPf_ok Tryz.func46 (by kernel_rfl) (ak:=0) rfl (by kernel_rfl) 100 ?_
 apply of_eq (q:=ax [vB (jM s t)]=bB (jM s t)/\([]:List Ob)=[]) (by kernel_rfl)
 try simp only [sL]
 rfl
def Qt:cQ:=vU .str .str fun s t=>(.t,bB (jM s t),[])
theorem Qu:bF Tryz.prog 46 Qt:=pz (by kernel_rfl) fun s t _=>Un s t
structure Tok where
 kind:Int
 text:ByteArray
 n:Int
 at_:Int
deriving DecidableEq
def Tok.mU (t:Tok):List PV:=[.int t.kind,.str t.text,.int t.n,.int t.at_]
def aA (l:List Tok):List PV:=l.flatMap Tok.mU
theorem j8 (l:List Tok):(aA l).length=l.length*4:=by
 induction l with
 | nil=>rfl
 | cons t l ih=>rw [aA,List.flatMap_cons,List.length_append];show 4+(aA l).length=_;rw [ih,List.length_cons];omega
theorem NK (l:List Tok):∀ i,(aA l).drop (i*4)=aA (l.drop i):=by
 induction l with
 | nil=>intro i;simp [aA]
 | cons t l ih =>
   intro i
   cases i with
   | zero=>simp
   | succ i =>
     rw [show (i+1)*4=4+i*4 by omega,<-List.drop_drop]
     exact ih i
theorem iW {l:List Tok} {i:Nat} (h:i<l.length) (j:Nat) (hj:j<4):(aA l).getD (i*4+j) (.bool false)=(l[i].mU).getD j (.bool false):=by
 have e:(aA l).getD (i*4+j) (.bool false)=((aA l).drop (i*4)).getD j (.bool false):=by
  rw [List.getD_eq_getElem?_getD,List.getD_eq_getElem?_getD,List.getElem?_drop]
 rw [e,NK,List.drop_eq_getElem_cons h,aA,List.flatMap_cons,List.getD_eq_getElem?_getD,List.getElem?_append_left (by exact hj),<-List.getD_eq_getElem?_getD]
abbrev eS:ByteArray:=⟨#[]⟩
abbrev obT (k:Int) (x:ByteArray) (n a:Int):Ob:=⟨30,[.c (.int .i64 k),.c (.str x),.c (.int .i64 n),.c (.int .i64 a)]⟩
abbrev l7 (e a:Int):Ob:=⟨25,[.c (.int .i64 e),.c (.int .i64 a)]⟩
structure K5 where
 t:Tok
 e:Int
 er:Int
 ea:Int
def j9 (s:ByteArray) (a e:Nat):K5 :=
 if fB pG (s.extract a e)=true then ⟨⟨2,s.extract a e,0,a⟩,e,0,0⟩ else
 if 20<(s.extract a e).size then ⟨⟨1,s.extract a e,0,a⟩,e,4,a⟩ else ⟨⟨1,s.extract a e,0,a⟩,e,0,0⟩
def mO (s:ByteArray) (e i:Nat) (n:Int):Int×Bool :=
 if h:i<e then (if 1000000000000000<n*10+(bn s i-48) then (n*10+(bn s i-48),true) else mO s e (i+1) (n*10+(bn s i-48))) else (n,false)
termination_by e-i
def l8 (s:ByteArray) (a e:Nat):K5 :=
 if bn s a=48/\a+1<e then ⟨⟨3,eS,0,a⟩,e,11,a⟩ else
 if (mO s e a 0).2=true then ⟨⟨3,eS,(mO s e a 0).1,a⟩,e,2,a⟩ else ⟨⟨3,eS,(mO s e a 0).1,a⟩,e,0,0⟩
def nA (s:ByteArray) (a e:Nat):K5 :=
 if e=s.size∨bn s e≠34 then ⟨⟨0,eS,0,a⟩,e,11,e⟩ else
 if 200<(s.extract (a+1) e).size then ⟨⟨4,s.extract (a+1) e,0,a⟩,e,4,a⟩ else ⟨⟨4,s.extract (a+1) e,0,a⟩,(e+1:Nat),0,0⟩
def l9 (s:ByteArray) (a:Nat):Nat->K5
 | 0=>⟨⟨5,eS,0,a⟩,(a+1:Nat),11,a⟩
 | n+1=>if a+(n+1)<=s.size/\fB eW (s.extract a (a+(n+1)))=true then ⟨⟨5,s.extract a (a+(n+1)),0,a⟩,(a+(n+1):Nat),0,0⟩ else l9 s a n
def bS (s:ByteArray) (a:Nat):K5 :=
 if gU (bn s a)=true then j9 s a (aQ dB s (a+1)) else
 if cT (bn s a)=true then l8 s a (aQ cT s (a+1)) else
 if bn s a=34 then nA s a (aQ cJ s (a+1)) else l9 s a 2
theorem nB {s:ByteArray} {a e:Nat} (h:a<=e) (he:e<=s.size):(s.extract a e).size=e-a:=by
 rw [ByteArray.size_extract];omega
def bL (s:ByteArray):Nat->Nat->List Tok×(Int×Int)
 | 0,_=>([],0,0)
 | k+1,i=>if i<s.size then (
  if bn s i=32∨bn s i=10 then bL s k (i+1) else
  if bn s i=35 then bL s k (aQ gN s i) else
  if (bS s i).er≠0 then ([],(bS s i).er,(bS s i).ea) else ((bS s i).t::(bL s k (bS s i).e.toNat).1,(bL s k (bS s i).e.toNat).2)) else ([],0,0)
abbrev AW (l:List Tok):Ob:=⟨30,[.a 0 .pv (aA l)]⟩
abbrev fV (e a:Int):V:=.agg [.int .i64 e,.int .i64 a]
abbrev CW (k n:Nat):V:=.c (.sl k 0 n 4)
theorem Qw {acc:List Tok} {t:Tok}:aA acc++[PV.int t.kind,PV.str t.text,PV.int t.n,PV.int t.at_]=aA (acc++[t]):=by
 unfold aA;rw [List.flatMap_append];simp [Tok.mU]
theorem Ir {s:ByteArray} {a:Nat}:∀ {n:Nat},(l9 s a n).er=0->∃ e:Nat,(l9 s a n).e=e/\a<e/\e<=s.size
 | 0,h=>by cases h
 | n + 1, h => by
   rw [l9] at h ⊢
   split at h
   . rename_i h1
     rw [if_pos h1]
     exact ⟨_,rfl,by omega,h1.1⟩
   . rename_i h1
     rw [if_neg h1]
     exact Ir h
theorem Uo {s:ByteArray} {a:Nat} (ha:a<s.size) (h:(bS s a).er=0):∃ e:Nat,(bS s a).e=e/\a<e/\e<=s.size:=by
 have g1:=jB dB s _ (a+1) rfl
 have g2:=jB cT s _ (a+1) rfl
 have g3:=jB cJ s _ (a+1) rfl
 unfold bS at h ⊢
 split at h
 . rename_i h1
   rw [if_pos h1]
   refine ⟨aQ dB s (a+1),?_,by omega,g1.2 (by omega)⟩
   unfold j9;split
   . rfl
   . split <;> rfl
 . rename_i h1
   rw [if_neg h1]
   split at h
   . rename_i h2
     rw [if_pos h2]
     refine ⟨aQ cT s (a+1),?_,by omega,g2.2 (by omega)⟩
     unfold l8;split
     . rfl
     . split <;> rfl
   . rename_i h2
     rw [if_neg h2]
     split at h
     . rename_i h3
       rw [if_pos h3]
       unfold nA at h ⊢
       split at h
       . cases h
       . rename_i h4
         rw [if_neg h4]
         have:aQ cJ s (a+1)≠s.size:=fun e=>h4 (.inl e)
         have:=g3.2 (by omega)
         refine ⟨aQ cJ s (a+1)+1,?_,by omega,by omega⟩
         split at h
         . cases h
         . rename_i h5;rw [if_neg h5]
     . rename_i h3
       rw [if_neg h3]
       exact Ir h
def cg (s:ByteArray):List Tok×(Int×Int):=if 20000<s.size then ([],4,20000) else bL s s.size 0
end Go.Proofs.YtelpmhfdbdihfaaGreatDoor
namespace Go.Proofs.YtelpmhfdbdihfaaGreatDoor
open Go.aT Go.RowKit
set_option maxRecDepth 100000
def ju:List UInt8->Nat->Nat
 | [],n=>n
 | c::l,n=>ju l (n*10+(c.toNat-48))
def v7 (l:List UInt8):Prop:=∀ c∈l,48<=c.toNat/\c.toNat<=57
theorem DW:∀ (l:List UInt8) (n:Nat),n<=ju l n
 | [],n=>Nat.le_refl _
 | c::l,n=>by
   have:=DW l (n*10+(c.toNat-48))
   simp only [ju];omega
theorem Fb:∀ (l:List UInt8) (n:Nat),v7 l->n<18446744073709551616->Lib.parseUint10 n l=if ju l n<18446744073709551616 then .ok (ju l n) else .range
 | [],n,_,h=>by
   rw [show ju [] n=n from rfl,if_pos h];rfl
 | c :: l, n, hd, h => by
   have hc:=hd c (by simp)
   have hg:=DW l (n*10+(c.toNat-48))
   rw [show ju (c::l) n=ju l (n*10+(c.toNat-48)) from rfl]
   simp only [Lib.parseUint10]
   rw [if_pos hc]
   split
   . rw [if_neg (by omega)]
   . split
     . rw [if_neg (by omega)]
     . exact Fb l _ (fun x hx=>hd x (by simp [hx])) (by omega)
theorem Uq {l:List UInt8} (hd:v7 l) (h0:l≠[]):Lib.atoiAll l=if ju l 0<9223372036854775808 then .ok (ju l 0:Int) else .range:=by
 cases l with
 | nil=>exact absurd rfl h0
 | cons c r =>
   have hc:=hd c (by simp)
   rw [Lib.atoiAll_plain c r (by omega) (by omega)]
   unfold Lib.parseMag
   rw [if_neg (by simp),Fb _ _ hd (by omega)]
   split
   . simp only [Lib.signless]
     split
     . rw [if_neg (by omega)]
     . rw [if_pos (by omega)]
   . simp only [Lib.signless]
     rw [if_neg (by omega)]
theorem XJ {l:List UInt8} (hd:v7 l) (h0:l≠[]):Lib.atoiSat l=9223372036854775807:=by
 cases l with
 | nil=>exact absurd rfl h0
 | cons c r=>exact Lib.atoiSat_other c r (by have:=hd c (by simp);omega)
def rN (s:ByteArray):Int:=if ju s.data.toList 0<9223372036854775808 then (ju s.data.toList 0:Int) else 9223372036854775807
def nP (s:ByteArray):Bool:=decide (9223372036854775808<=ju s.data.toList 0)
theorem Iu {P:Program} {f:FuncId} {args:List A} {r:A} (h:∀ (base:Nat) (η:Eta) (Z:aq) (w:World) vs,St base η Z (.ofList []) w->aH (cr η Z) args vs->fJ P Z->Calls P f vs.toArray w fun e w'=>∃ u,e=.returned u/\cr η Z r u/\Below w.heap.size w w'):bq P f args [] r []:=by
 intro base η Z w vs R hvs hK
 refine (callsIn_wide.2 (h base η Z w vs R hvs hK)).mono ?_
 rintro e w' ⟨u,rfl,hu,hB⟩
 have hstep:Step η Z (.ofList []) w η Z (.ofList []) w':=⟨hB.os,hB.tape,hB.output,hB.size,fun b hb _=>hB.block b hb,fun b h=>.inl h,aq.le.refl _,fun b c h=>.inl h,rfl⟩
 refine ⟨u,η,Z,rfl,⟨fun _ _ _ h=>h,⟨fun n o p h=>by rw [af.bH] at h;simp at h,fun n o h=>by rw [af.bH] at h;simp at h,fun n o h=>by rw [af.bH] at h;simp at h,fun n n' o o' p p' b h=>by rw [af.bH] at h;simp at h,fun b c hb=>?_,R.fresh,Nat.le_trans R.gS hB.size,fun n o p h=>by rw [af.bH] at h;simp at h⟩,hstep⟩,hu⟩
 obtain ⟨ty,fz,e⟩:=R.zs b c hb
 exact ⟨ty,fz,(hB.block b (cM e)).trans e⟩
theorem Ur (s:ByteArray) (hd:v7 s.data.toList) (hs:1<=s.size/\s.size<=1000000):bq Tryz.prog 43 [sS s] [] (.bG [.c (.int .i64 (rN s)),.c (.w9 (nP s))]) []:=by
 refine Iu fun base η Z w vs R hvs hK=>?_
 obtain ⟨v,rfl,hv⟩:∃ v,vs=[v]/\v=.string s:=by
  match vs,hvs with
  | [v],⟨⟨_,h⟩,_⟩=>exact ⟨v,rfl,h⟩
 subst hv
 have h0:s.data.toList≠[]:=by
  intro e
  have h1:s.size=s.data.toList.length:=by simp
  rw [e,List.length_nil] at h1;omega
 have ha:=Uq hd h0
 by_cases hlt:ju s.data.toList 0<9223372036854775808
 . rw [if_pos hlt] at ha
   refine (Tryz.strconv_Atoi_ok s (by omega) _ ha w).mono ?_
   rintro e w' ⟨rfl,hw⟩
   refine ⟨_,rfl,⟨[.int .i64 (ju s.data.toList 0),.nilIface],rfl,⟨by simp,?_⟩,⟨by simp,?_⟩,trivial⟩,?_⟩
   . unfold rN;rw [if_pos hlt];rfl
   . have e:nP s=false:=decide_eq_false (by omega)
     rw [e];simp [au,aD]
   . rcases hw with rfl | ⟨t,rfl⟩
     . exact Below.refl _ _
     . exact Lib.bytesWorld_below _ _ _
 . rw [if_neg hlt] at ha
   obtain ⟨c,t,u,hz,hc⟩:=hK.2 2 (by kernel_rfl)
   obtain ⟨ty,fz,hw⟩:=R.zs _ _ hz
   refine (Tryz.strconv_Atoi_range s (by omega) ha (.iface t u) w (by simp [World.cell?,hw,hc]) (.inr ⟨t,u,rfl⟩)).mono ?_
   rintro e w' ⟨N,rfl,_,_,hB⟩
   refine ⟨_,rfl,⟨[.int .i64 (Lib.atoiSat s.data.toList),_],rfl,⟨by simp,?_⟩,⟨by simp,?_⟩,trivial⟩,hB⟩
   . unfold rN;rw [if_neg hlt,XJ hd h0];rfl
   . have e:nP s=true:=decide_eq_true (by omega)
     rw [e];simp [au,aD]
def Qx:cQ:=jh .str fun s=>(.p (v7 (ByteArray.data s).toList/\1<=ByteArray.size s/\ByteArray.size s<=1000000),.bG [.c (.int .i64 (rN s)),.c (.w9 (nP s))],[])
theorem Qy:bF Tryz.prog 43 Qx:=eU (by kernel_rfl) fun s h=>Ur s h.1 h.2
end Go.Proofs.YtelpmhfdbdihfaaGreatDoor
namespace Go.Proofs.YtelpmhfdbdihfaaGreatDoor
open Go.aT
set_option maxRecDepth 100000
def yT (t:Tok):List PV:=.int t.at_::t.mU
def aN (e a:Int):Value:=.iface 78 (.agg #[.int .i64 e,.int .i64 a])
noncomputable def gSc:bY:=[(38,vY),(40,zR),(36,NH),(42,NI),(45,WA),(41,CV),(43,Qx),(46,Qt)]
theorem CX:aZ Tryz.prog gSc:=ar tI (ar vZ (ar Ui (ar Ip (ar Uj (ar yM (ar Qy (ar Qu aF)))))))
def Iv:List (List Nat×List Nat):=[([0,1],[0,1,3]),([0,1,0,1,1,1,1,1,1,1,1,1,1,0,0,1,1,1,0,1,0,0,1],[0,1,3,6,21,22,23])]
noncomputable def mg (b:Bool) (v:Value):aX:=zL Tryz.prog gSc [] Tryz.f35 Iv b v
abbrev DX (s:ByteArray):Ob:=⟨9,[.c (.str s)]⟩
abbrev K6 (l:Nat) (i:Int):List (Nat×A):=[(0,.p (.c (.yield l))),(1,.p (.c (.ptr 0 0))),(3,nI i)]
abbrev Qz (l:Nat) (s:ByteArray) (ys:List (List PV)):af:=.cP (some ⟨l,.sl .pv,ys,true⟩) [DX s]
def scP:List Nat:=[0,1,0,1,1,1,1,1,1,1,1,1,1,0,0,1,1,1,0,1,0,0,1]
def ke (r:ByteArray):List ByteArray->ByteArray->ByteArray
 | [],x=>x
 | g::l,x=>ke r l (if jM r g=true/\x.size<g.size then g else x)
theorem Iw:∀ g∈eW,g.size<=2:=by decide
theorem Iy {s:ByteArray} {k i:Nat} (hlt:i<s.size) (h1:¬ (bn s i=32∨bn s i=10)) (h2:¬ bn s i=35) {t:Tok} {e:Nat} (ht:bS s i=⟨t,(e:Int),0,0⟩):bL s (k+1) i=(t::(bL s k e).1,(bL s k e).2):=by
 rw [bL,if_pos hlt,if_neg h1,if_neg h2,ht,if_neg (by simp)]
 rfl
theorem DY {s:ByteArray} {k i:Nat} (hlt:i<s.size) (h1:¬ (bn s i=32∨bn s i=10)) (h2:¬ bn s i=35) {t:Tok} {e er ea:Int} (ht:bS s i=⟨t,e,er,ea⟩) (h:er≠0):bL s (k+1) i=([],er,ea):=by
 rw [bL,if_pos hlt,if_neg h1,if_neg h2,ht,if_pos h]
section
variable {s:ByteArray} {l:Nat} {b:Bool} {v:Value} {k i:Nat}
theorem uI {er ea:Int} (hA:bL s (k+1) i=([],er,ea)) (her:er≠0) (hb:b=decide ((bL s (k+1) i).2.1≠0)) (hv:v=aN (bL s (k+1) i).2.1 (bL s (k+1) i).2.2):(b=true/\aN er ea=v)/\List.map yT (bL s (k+1) i).1=[]:=by
 rw [hA] at hb hv ⊢
 exact ⟨⟨by rw [hb];exact decide_eq_true her,hv.symm⟩,rfl⟩
theorem CY (IH:∀ j,i<j->j<=s.size->b=decide ((bL s k j).2.1≠0)->v=aN (bL s k j).2.1 (bL s k j).2.2->aG (mg b v) (fun _ _=>b=false) [0,1] (fr (K6 l j)) (Qz l s ((bL s k j).1.map yT)))
 {t:Tok} {e:Nat} (hB:bL s (k+1) i=(t::(bL s k e).1,(bL s k e).2)) (he:i<e/\e<=s.size) (hb:b=decide ((bL s (k+1) i).2.1≠0)) (hv:v=aN (bL s (k+1) i).2.1 (bL s (k+1) i).2.2) {y:List PV} (hy:yT t=y) :
 (¬ List.map yT (bL s (k+1) i).1=[]/\(List.map yT (bL s (k+1) i).1).head? = some y)/\aG (mg b v) (fun _ _=>b=false) [0,1] (fr (K6 l e)) (Qz l s (List.map yT (bL s (k+1) i).1).tail):=by
 rw [hB] at hb hv ⊢
 exact ⟨⟨by simp,by simp [hy]⟩,IH e he.1 he.2 hb hv⟩
theorem DZ (hs:s.size<=20000) (hlt:i<s.size) (H:∀ x:ByteArray,ke (s.extract i s.size) eW eS=x->(x.size=0->((b=true/\aN 11 i=v)/\List.map yT (bL s (k+1) i).1=[]))/\(0<x.size->(¬ List.map yT (bL s (k+1) i).1=[]/\(List.map yT (bL s (k+1) i).1).head? = some [PV.int i,PV.int 5,PV.str x,PV.int 0,PV.int i])/\aG (mg b v) (fun _ _=>b=false) [0,1] (fr (K6 l (i+x.size:Nat))) (Qz l s (List.map yT (bL s (k+1) i).1).tail)))  :
 ∀ (m j:Nat) (kd:Int) (x:ByteArray),m=21-j->j<=21->ke (s.extract i s.size) (eW.drop j) x=ke (s.extract i s.size) eW eS->(x.size=0->x=eS)->(0<x.size->kd=5)->x.size<=2->
 aG (mg b v) (fun _ _=>b=false) scP (fr (K6 l i++[(6,.p (.c (.ptr 1 0))),(21,lC eW),(22,nI 21),(23,nI j)])) (.cP (some ⟨l,.sl .pv,List.map yT (bL s (k+1) i).1,true⟩) [DX s,obT kd x 0 i])
 | m, j, kd, x, hm, hj, hx, h0, h5, hsz => by
   refine bZ CX (by kernel_rfl) 300 ?_
   apply of_eq (q:=let q2:=(fr [(0,aP (W.yield l)),(1,aR 0 0),(3,nI (i:Int)),(6,aR 1 0),(21,aP (W.rd D.str eW)),(22,nI (21)),(23,nI (IntKind.i64.wrap ((j:Int)+1)))]);let q3:=(eW.getD j (ByteArray.mk #[]));let q4:=(List.map yT (bL s (k+1) i).fst);let q5:=[0,1,0,1,1,1,1,1,1,1,1,1,1,0,0,1,1,1,0,1,0,0,1];let q1:=jM (s.extract i s.size) q3=true;(decide ((j:Int)<21)=true->((0:Int)<=(j:Int)/\(j:Int)<(↑(21:Nat):Int))/\j<21/\((0:Int)<=(i:Int)/\(i:Int)<=(s.size:Int)/\(s.size:Int)<=(s.size:Int))/\(q1->q1)/\(q1->q1)/\(q1->q1)/\(q1->q1)/\(q1->q1)/\(q1->q1)/\((bif jM (s.extract i s.size) q3 then decide ((x.size:Int)<(↑q3.size:Int)) else false)=true->aG (mg b v) (fun x x_1=>b=false) q5 q2 (af.cP (some (Gh.mk l D.pv.sl q4 true)) [Ob.mk 9 [Fd.c (W.str s)],Ob.mk 30 [fI (5),Fd.c (W.str q3),fI (0),fI (i:Int)]]))/\((bif jM (s.extract i s.size) q3 then decide ((x.size:Int)<(↑q3.size:Int)) else false)=false->aG (mg b v) (fun x x_1=>b=false) q5 q2 (af.cP (some (Gh.mk l D.pv.sl q4 true)) [Ob.mk 9 [Fd.c (W.str s)],Ob.mk 30 [fI kd,Fd.c (W.str x),fI (0),fI (i:Int)]])))/\(decide ((j:Int)<21)=false->(decide (x=ByteArray.mk #[])=true->(b=true/\Value.iface (78:Nat) (Value.agg #[Value.int .i64 (11:Int),Value.int .i64 (i:Int)])=v)/\List.map yT (bL s (k+1) i).fst=[])/\(decide (x=ByteArray.mk #[])=false->(l=l/\List.map yT (bL s (k+1) i).fst≠[]/\q4.head? = some [PV.int (i:Int),PV.int kd,PV.str x,PV.int (0:Int),PV.int (i:Int)])/\aG (mg b v) (fun x x_1=>b=false) [0,1] (fr [(0,aP (W.yield l)),(1,aR 0 0),(3,nI (IntKind.i64.wrap ((i:Int)+(x.size:Int))))]) (af.cP (some (Gh.mk l D.pv.sl q4.tail true)) [Ob.mk 9 [Fd.c (W.str s)]])))) (by kernel_rfl)
   try simp only [sL]
   have bO:eW.length=21:=rfl
   have sG:j<21->(eW.getD j eS).size<=2:=fun h=>by
    rw [List.getD_eq_getElem?_getD,List.getElem?_eq_getElem (by omega)]
    exact Iw _ (List.getElem_mem (by omega))
   have hg:j<21->ke (s.extract i s.size) (eW.drop j) x=ke (s.extract i s.size) (eW.drop (j+1)) (if jM (s.extract i s.size) (eW.getD j eS)=true/\x.size<(eW.getD j eS).size then eW.getD j eS else x):=fun h=>by
    rw [List.drop_eq_getElem_cons (by omega),List.getD_eq_getElem?_getD,List.getElem?_eq_getElem (by omega)]
    rfl
   refine ⟨fun h=>⟨by omega,by omega,by omega,fun h1=>?_,fun h1=>?_⟩,fun h=>?_⟩
   . rw [wrap64 (by omega) (by omega)]
     have QA:=hg (by omega)
     rw [if_pos ⟨h1.1,Int.ofNat_lt.1 h1.2⟩] at QA
     cases m with
     | zero=>omega
     | succ m=>exact DZ hs hlt H m (j+1) 5 _ (by omega) (by omega) (QA▸hx) (fun e=>absurd (Int.ofNat_lt.1 h1.2) (by have e:(eW.getD j eS).size=0:=e;show ¬ x.size<(eW.getD j eS).size;omega)) (fun _=>rfl) (sG (by omega))
   . rw [wrap64 (by omega) (by omega)]
     have QA:=hg (by omega)
     rw [if_neg (by rintro ⟨h2,h3⟩;exact absurd h3 (Nat.not_lt.2 (Int.ofNat_le.1 (h1 h2))))] at QA
     cases m with
     | zero=>omega
     | succ m=>exact DZ hs hlt H m (j+1) kd x (by omega) (by omega) (QA▸hx) h0 h5 hsz
   . have EO:ke (s.extract i s.size) eW eS=x:=by rw [<-hx,List.drop_eq_nil_of_le (by omega)];rfl
     refine ⟨fun h1=>(H x EO).1 (by rw [h1];rfl),fun h1=>?_⟩
     have hpos:0<x.size:=by
      rcases Nat.eq_zero_or_pos x.size with h2 | h2
      . exact absurd (h0 h2) h1
      . exact h2
     rw [h5 hpos,wrap64 (by omega) (by omega),show ((i:Int)+x.size)=((i+x.size:Nat):Int) from by omega]
     exact (H x EO).2 hpos
end
theorem yN (R:ByteArray):∀ (l:List ByteArray) (x:ByteArray),(ke R l x=x∨(ke R l x∈l/\jM R (ke R l x)=true))/\x.size<=(ke R l x).size/\∀ g∈l,jM R g=true->g.size<=(ke R l x).size
 | [],x=>⟨.inl rfl,Nat.le_refl _,by simp⟩
 | g :: l, x => by
   have ih:=yN R l (if jM R g=true/\x.size<g.size then g else x)
   simp only [ke]
   split at ih
   . rename_i h
     rw [if_pos h]
     refine ⟨.inr ?_,by omega,fun y hy hp=>?_⟩
     . rcases ih.1 with h1 | h1
       . rw [h1];exact ⟨by simp,h.1⟩
       . exact ⟨by simp [h1.1],h1.2⟩
     . rcases List.mem_cons.1 hy with rfl | hy
       . exact ih.2.1
       . exact ih.2.2 y hy hp
   . rename_i h
     rw [if_neg h]
     refine ⟨?_,ih.2.1,fun y hy hp=>?_⟩
     . rcases ih.1 with h1 | h1
       . exact .inl h1
       . exact .inr ⟨by simp [h1.1],h1.2⟩
     . rcases List.mem_cons.1 hy with rfl | hy
       . have:¬ x.size<y.size:=fun h2=>h ⟨hp,h2⟩
         have:=ih.2.1;omega
       . exact ih.2.2 y hy hp
theorem v8 {l:List ByteArray} {t:ByteArray}:fB l t=true↔t∈l:=by
 unfold fB
 rw [List.any_eq_true]
 exact ⟨fun ⟨x,h1,h2⟩=>by have:=of_decide_eq_true h2;subst this;exact h1,fun h=>⟨t,h,decide_eq_true rfl⟩⟩
theorem wg {s:ByteArray} {i:Nat} (hi:i<=s.size) {g:ByteArray}:jM (s.extract i s.size) g=true↔i+g.size<=s.size/\s.extract i (i+g.size)=g:=by
 unfold jM
 rw [Bool.and_eq_true,decide_eq_true_eq,decide_eq_true_eq,nB hi (Nat.le_refl _)]
 constructor
 . rintro ⟨h1,h2⟩
   have h1':i+g.size<=s.size:=by omega
   refine ⟨h1',?_⟩
   rw [ByteArray.extract_extract] at h2
   rw [show min (i+g.size) s.size=i+g.size by omega,Nat.add_zero] at h2
   exact h2
 . rintro ⟨h1,h2⟩
   refine ⟨by omega,?_⟩
   rw [ByteArray.extract_extract,show min (i+g.size) s.size=i+g.size by omega,Nat.add_zero]
   exact h2
theorem Us {s:ByteArray} {i:Nat} (hi:i<s.size):l9 s i 2=if (ke (s.extract i s.size) eW eS).size=0 then ⟨⟨5,eS,0,i⟩,(i+1:Nat),11,i⟩ else ⟨⟨5,ke (s.extract i s.size) eW eS,0,i⟩,(i+(ke (s.extract i s.size) eW eS).size:Nat),0,0⟩:=by
 obtain ⟨h1,h2,h3⟩:=yN (s.extract i s.size) eW eS
 generalize ke (s.extract i s.size) eW eS=r at h1 h2 h3
 have hr:r.size≠0->r∈eW/\i+r.size<=s.size/\s.extract i (i+r.size)=r/\r.size<=2:=fun h=>by
  rcases h1 with h1 | h1
  . rw [h1] at h;exact absurd rfl h
  . exact ⟨h1.1,((wg (by omega)).1 h1.2).1,((wg (by omega)).1 h1.2).2,Iw _ h1.1⟩
 have key:∀ n,0<n->(i+n<=s.size/\fB eW (s.extract i (i+n))=true)->n<=r.size:=fun n hn h=>by
  have hsz:=nB (s:=s) (a:=i) (e:=i+n) (by omega) h.1
  have:=h3 _ (v8.1 h.2) ((wg (by omega)).2 (by rw [hsz,show i+n-i=n by omega];exact ⟨h.1,rfl⟩))
  omega
 rw [l9]
 split
 . rename_i h
   have h4:=key 2 (by omega) h
   obtain ⟨a1,a2,a3,a4⟩:=hr (by omega)
   have:r.size=2:=by omega
   rw [if_neg (by omega),<-a3,this]
   rw [nB (by omega) (by omega),show i+2-i=2 by omega]
 . rename_i h
   rw [l9]
   split
   . rename_i h'
     have h4:=key 1 (by omega) h'
     obtain ⟨a1,a2,a3,a4⟩:=hr (by omega)
     have:r.size≠2:=fun e=>h (by rw [show (1+1:Nat)=r.size by omega];exact ⟨a2,v8.2 (by rw [a3];exact a1)⟩)
     have:r.size=1:=by omega
     rw [if_neg (by omega),<-a3,this]
     rw [nB (by omega) (by omega),show i+1-i=1 by omega]
   . rename_i h'
     rw [l9,if_pos]
     rcases Nat.eq_zero_or_pos r.size with h4 | h4
     . exact h4
     . obtain ⟨a1,a2,a3,a4⟩:=hr (by omega)
       have:r.size=1∨r.size=2:=by omega
       rcases this with e | e
       . exact absurd (by rw [show (0+1:Nat)=r.size by omega];exact ⟨a2,v8.2 (by rw [a3];exact a1)⟩) h'
       . exact absurd (by rw [show (1+1:Nat)=r.size by omega];exact ⟨a2,v8.2 (by rw [a3];exact a1)⟩) h
theorem BH (s:ByteArray) (i e:Nat):(s.extract i e).data.toList=(s.data.toList.drop i).take (e-i):=by
 rw [ByteArray.data_extract,Array.toList_extract]
theorem ext_cons {s:ByteArray} {i e:Nat} (h:i<e) (he:e<=s.size):∃ c,(s.extract i e).data.toList=c::(s.extract (i+1) e).data.toList/\bn s i=(c.toNat:Int):=by
 have hl : i < s.data.toList.length := by have : s.size = s.data.toList.length := by simp
                                          omega
 refine ⟨s.data.toList[i],?_,?_⟩
 . rw [BH,BH,List.drop_eq_getElem_cons hl,show e-i=(e-(i+1))+1 by omega,List.take_succ_cons]
 . unfold bn
   rw [List.getD_eq_getElem?_getD,List.getElem?_eq_getElem hl];rfl
theorem NM {c:Int} (h:cT c=true):48<=c/\c<=57:=by
 unfold cT at h
 simpa only [Bool.and_eq_true,decide_eq_true_eq] using h
theorem D1 {s : ByteArray} {e : Nat} (he : e ≤ s.size) : ∀ (k i n : Nat), k = e - i → i ≤ e → (∀ j, i ≤ j → j < e → cT (bn s j) = true) → n ≤ 1000000000000000 →
 v7 (s.extract i e).data.toList/\(1000000000000000<ju (s.extract i e).data.toList n->(mO s e i n).2=true)/\(ju (s.extract i e).data.toList n<=1000000000000000->mO s e i n=((ju (s.extract i e).data.toList n:Int),false))
 | k, i, n, hk, hi, hd, hn => by
   by_cases h:i<e
   . obtain ⟨c,h1,h2⟩:=ext_cons h he
     have hc:=NM (hd i (Nat.le_refl _) h)
     have hg:=DW (s.extract (i+1) e).data.toList (n*10+(c.toNat-48))
     have hcast:((n:Int)*10+(bn s i-48))=((n*10+(c.toNat-48):Nat):Int):=by omega
     rw [h1,mO,dif_pos h,hcast]
     cases k with
     | zero=>omega
     | succ k =>
       by_cases hb:n*10+(c.toNat-48)<=1000000000000000
       . obtain ⟨i1,i2,i3⟩:=D1 he k (i+1) (n*10+(c.toNat-48)) (by omega) (by omega) (fun j h3 h4=>hd j (by omega) h4) hb
         refine ⟨fun x hx=>?_,fun h3=>?_,fun h3=>?_⟩
         . rcases List.mem_cons.1 hx with rfl | hx
           . omega
           . exact i1 x hx
         . rw [if_neg (by omega)];exact i2 h3
         . rw [if_neg (by omega)];exact i3 h3
       . have AJ:v7 (s.extract (i+1) e).data.toList:=(D1 he k (i+1) 0 (by omega) (by omega) (fun j h3 h4=>hd j (by omega) h4) (by omega)).1
         refine ⟨fun x hx=>?_,fun _=>?_,fun h3=>?_⟩
         . rcases List.mem_cons.1 hx with rfl | hx
           . omega
           . exact AJ x hx
         . rw [if_pos (by omega)]
         . have h3:ju (s.extract (i+1) e).data.toList (n*10+(c.toNat-48))<=1000000000000000:=h3
           omega
   . have e0:(s.extract i e).data.toList=[]:=by rw [BH,show e-i=0 by omega,List.take_zero]
     rw [e0,mO,dif_neg h]
     exact ⟨(by intro x hx;cases hx),fun h3=>by have h3:1000000000000000<n:=h3;omega,fun _=>rfl⟩
end Go.Proofs.YtelpmhfdbdihfaaGreatDoor
