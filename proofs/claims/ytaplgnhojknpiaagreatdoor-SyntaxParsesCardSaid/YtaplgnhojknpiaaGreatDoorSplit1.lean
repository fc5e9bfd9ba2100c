/- Tokens: what the program and the reference ask of bytes. -/
import Derived.Test.YtaplgnhojknpiaaGreatDoorProg
import Derived.Test.YtaplgnhojknpiaaGreatDoorLoom4
import Derived.Test.YtaplgnhojknpiaaGreatDoorShelf1
import Derived.Lib.AtoiAllCases
namespace Go.Proofs.YtaplgnhojknpiaaGreatDoor
open Go.aU
set_option maxRecDepth 100000
abbrev nI(n:Int):A:=.p (.c (.int .i64 n))
abbrev Ay(n:Int):A:=.p (.c (.int .u8 n))
abbrev bB(b:Bool):A:=.p (.c (.bool b))
abbrev sS(s:ByteArray):A:=.p (.c (.str s))
abbrev jA(l:List ByteArray):A:=.p (.c (.rd .str l))
abbrev p9(f:Nat):A:=.p (.c (.func f []))
theorem wrap64{n:Int}(h1:-9223372036854775808<=n)(h2:n<=9223372036854775807):IntKind.i64.wrap n=n:=IntWalk.i64_in n ⟨h1,h2⟩
def fK(c:Int):Bool:=decide (97<=c)&&decide (c<=122)||decide (65<=c)&&decide (c<=90)
def di(c:Int):Bool:=decide (48<=c)&&decide (c<=57)
def eN(c:Int):Bool:=fK c||di c||decide (c=95)
def eF(c:Int):Bool:=decide (32<=c)&&decide (c<=126)&&!decide (c=34)
def iV(c:Int):Bool:=!decide (c=10)
theorem Rc(c:Int):bp Tryz.prog 108 [Ay c] [] (bB (fK c)) []:=by
 refine bh (aK:=[]) aE Tryz.func108 (by kernel_rfl) (au:=0) rfl (by kernel_rfl) 100 ?_;apply of_eq (q:=let q2:=decide ((97:Int)<=c);let q3:=decide ((65:Int)<=c);let q1:=(bif q2 then decide (c<=122) else false)=false;(q2=true->q2=true)/\(q2=true->q2=true)/\(q1->q1)/\(q1->q1)/\(q1/\q3=true->q1/\q3=true)/\(q1->q1)/\(q1->q3=true->q1/\q3=true)/\(q1->q1)/\aq [vB (bif bif q2 then decide (c<=122) else false then true else bif q3 then decide (c<=90) else false)]=bB (fK c)/\([]:List Ob)=[]) (by kernel_rfl)
 try simp only[sL]
 first|rfl|exact⟨by omega,rfl⟩|exact ?a
def xZ:cO:=iU (.int .u8) fun c=>(.t,bB (fK c),[])
theorem vJ:bq Tryz.prog 108 xZ:=eB (by kernel_rfl) fun c _=>Rc c
theorem Uk(c:Int):bp Tryz.prog 111 [Ay c] [] (bB (di c)) []:=by
 refine bh (aK:=[]) aE Tryz.func111 (by kernel_rfl) (au:=0) rfl (by kernel_rfl) 100 ?_;apply of_eq (q:=let q1:=decide ((48:Int)<=c);(q1=true->q1=true)/\(q1=true->q1=true)/\aq [vB (bif q1 then decide (c<=57) else false)]=bB (di c)/\([]:List Ob)=[]) (by kernel_rfl)
 try simp only[sL]
 first|rfl|exact⟨by omega,rfl⟩|exact ?a
def BK:cO:=iU (.int .u8) fun c=>(.t,bB (di c),[])
theorem x5:bq Tryz.prog 111 BK:=eB (by kernel_rfl) fun c _=>Uk c
theorem XF(c:Int):bp Tryz.prog 123 [Ay c] [] (bB (iV c)) []:=by
 refine bh (aK:=[]) aE Tryz.func123 (by kernel_rfl) (au:=0) rfl (by kernel_rfl) 100 ?_;apply of_eq (q:=aq [V.c (W.bool !decide (c=10))]=bB (iV c)/\([]:List Ob)=[]) (by kernel_rfl)
 try simp only[sL]
 first|rfl|exact⟨by omega,rfl⟩|exact ?a
def Ul:cO:=iU (.int .u8) fun c=>(.t,bB (iV c),[])
theorem Um:bq Tryz.prog 123 Ul:=eB (by kernel_rfl) fun c _=>XF c
theorem ins_sem(c:Int):bp Tryz.prog 126 [Ay c] [] (bB (eF c)) []:=by
 refine bh (aK:=[]) aE Tryz.func126 (by kernel_rfl) (au:=0) rfl (by kernel_rfl) 100 ?_;apply of_eq (q:=let q2:=decide ((32:Int)<=c);let q1:=(bif q2 then decide (c<=126) else false)=true;(q2=true->q2=true)/\(q2=true->q2=true)/\(q1->q1)/\(q1->q1)/\aq [vB (bif bif q2 then decide (c<=126) else false then !decide (c=34) else false)]=bB (eF c)/\([]:List Ob)=[]) (by kernel_rfl)
 try simp only[sL]
 first|rfl|exact⟨by omega,rfl⟩|exact ?a
def c_ins:cO:=iU (.int .u8) fun c=>(.t,bB (eF c),[])
theorem XG:bq Tryz.prog 126 c_ins:=eB (by kernel_rfl) fun c _=>ins_sem c
noncomputable def gWr:bX:=[(108,xZ),(111,BK)]
theorem Un:bg Tryz.prog gWr:=ai vJ (ai x5 aE)
theorem wrd_sem(c:Int):bp Tryz.prog 124 [Ay c] [] (bB (eN c)) []:=by
 refine bh (aK:=[]) Un Tryz.func124 (by kernel_rfl) (au:=0) rfl (by kernel_rfl) 100 ?_;apply of_eq (q:=let q1:=(bif fK c then true else di c)=false;(fK c=false->fK c=false)/\(fK c=false->fK c=false)/\(q1->q1)/\(q1->q1)/\aq [vB (bif bif fK c then true else di c then true else decide (c=95))]=bB (eN c)/\([]:List Ob)=[]) (by kernel_rfl)
 try simp only[sL]
 first|rfl|exact⟨by omega,rfl⟩|exact ?a
def c_wrd:cO:=iU (.int .u8) fun c=>(.t,bB (eN c),[])
theorem XH:bq Tryz.prog 124 c_wrd:=eB (by kernel_rfl) fun c _=>wrd_sem c
theorem Nw(c:Int):bp Tryz.prog 79 [Ay c] [] (bB (fK c)) []:=by
 refine bh (aK:=[]) aE Tryz.func79 (by kernel_rfl) (au:=0) rfl (by kernel_rfl) 100 ?_;apply of_eq (q:=let q2:=decide ((97:Int)<=c);let q3:=decide ((65:Int)<=c);let q1:=(bif q2 then decide (c<=122) else false)=false;(q2=true->q2=true)/\(q2=true->q2=true)/\(q1->q1)/\(q1->q1)/\(q1/\q3=true->q1/\q3=true)/\(q1->q1)/\(q1->q3=true->q1/\q3=true)/\(q1->q1)/\aq [vB (bif bif q2 then decide (c<=122) else false then true else bif q3 then decide (c<=90) else false)]=bB (fK c)/\([]:List Ob)=[]) (by kernel_rfl)
 try simp only[sL]
 first|rfl|exact⟨by omega,rfl⟩|exact ?a
def HL:cO:=iU (.int .u8) fun c=>(.t,bB (fK c),[])
theorem KX:bq Tryz.prog 79 HL:=eB (by kernel_rfl) fun c _=>Nw c
theorem Rd(c:Int):bp Tryz.prog 80 [Ay c] [] (bB (di c)) []:=by
 refine bh (aK:=[]) aE Tryz.func80 (by kernel_rfl) (au:=0) rfl (by kernel_rfl) 100 ?_;apply of_eq (q:=let q1:=decide ((48:Int)<=c);(q1=true->q1=true)/\(q1=true->q1=true)/\aq [vB (bif q1 then decide (c<=57) else false)]=bB (di c)/\([]:List Ob)=[]) (by kernel_rfl)
 try simp only[sL]
 first|rfl|exact⟨by omega,rfl⟩|exact ?a
def KY:cO:=iU (.int .u8) fun c=>(.t,bB (di c),[])
theorem Nx:bq Tryz.prog 80 KY:=eB (by kernel_rfl) fun c _=>Rd c
theorem XI(c:Int):bp Tryz.prog 82 [Ay c] [] (bB (eF c)) []:=by
 refine bh (aK:=[]) aE Tryz.func82 (by kernel_rfl) (au:=0) rfl (by kernel_rfl) 100 ?_;apply of_eq (q:=let q2:=decide ((32:Int)<=c);let q1:=(bif q2 then decide (c<=126) else false)=true;(q2=true->q2=true)/\(q2=true->q2=true)/\(q1->q1)/\(q1->q1)/\aq [vB (bif bif q2 then decide (c<=126) else false then !decide (c=34) else false)]=bB (eF c)/\([]:List Ob)=[]) (by kernel_rfl)
 try simp only[sL]
 first|rfl|exact⟨by omega,rfl⟩|exact ?a
def Uo:cO:=iU (.int .u8) fun c=>(.t,bB (eF c),[])
theorem Uq:bq Tryz.prog 82 Uo:=eB (by kernel_rfl) fun c _=>XI c
def bn(p:Int->Bool)(s:ByteArray)(i:Nat):Nat:=if h:i<s.size/\p (bV s i)=true then bn p s (i+1) else i
termination_by s.size-i
theorem iy{p:Int->Bool}{s:ByteArray}{i:Nat}(h:i<s.size/\p (bV s i)=true):bn p s i=bn p s (i+1):=by rw[bn,dif_pos h]
theorem kM{p:Int->Bool}{s:ByteArray}{i:Nat}(h:¬(i<s.size/\p (bV s i)=true)):bn p s i=i:=by rw[bn,dif_neg h]
theorem nQ(p:Int->Bool)(s:ByteArray):∀(k i:Nat),k=s.size-i->i<=bn p s i/\(i<=s.size->bn p s i<=s.size)
 | k,i,hk=>by
   by_cases h:i<s.size/\p (bV s i)=true
   . rw[iy h];cases k with
     | zero=>omega
     | succ k =>
       have:=nQ p s k (i+1) (by omega);omega
   rw[kM h];omega
noncomputable def FW:bX:=[(123,Ul)]
theorem EH:bg Tryz.prog FW:=ai Um aE
noncomputable def Oi:aZ:=cT Tryz.prog FW Tryz.f102 0 [([0,0,1],[0,1,2])]
theorem wJ(s:ByteArray)(hs:s.size<=1000000):∀(k i:Nat),k=s.size-i->i<=s.size->ax Oi (aG (nI (bn iV s i)) []) [0,0,1] (fr [(0,sS s),(1,nI i),(2,p9 123)]) (.ofList [])
 | k,i,hk,hi=>by
   refine bD EH (by kernel_rfl) 100 ?_;apply of_eq (q:=let q2:=decide ((i:Int)<(s.size:Int));let q1:=q2=true;(q1->q1)/\(q1->q1)/\(q1->(0:Int)<=(i:Int)/\(i:Int)<(s.size:Int))/\(q1->q1)/\(q1->q1)/\(q1->q1)/\((bif q2 then iV (bV s i) else false)=true->ax Oi (aG (nI (↑(bn iV s i):Int)) []) [0,0,1] (fr [(0,aP (W.str s)),(1,nI (IntKind.i64.wrap ((i:Int)+1))),(2,aP (W.func 123 []))]) (af.ofList []))/\((bif q2 then iV (bV s i) else false)=false->aq [vI (i:Int)]=nI (↑(bn iV s i):Int)/\([]:List Ob)=[])) (by kernel_rfl)
   try simp only[sL]
   refine⟨fun h=>by omega,fun h=>?_,fun h=>?_⟩
   . have hi1:i<s.size:=by omega
     rw[wrap64 (by omega) (by omega),iy ⟨hi1,h.2⟩];cases k with
     | zero=>omega
     | succ k=>exact wJ s hs k (i+1) (by omega) (by omega)
   rw[kM (by rintro⟨h1,h2⟩;rw[h (by omega)] at h2;cases h2)];rfl
theorem Ur(s:ByteArray)(i:Int)(h:s.size<=1000000/\0<=i/\i<=s.size):bp Tryz.prog 102 [sS s,nI i,p9 123] [] (nI (bn iV s i.toNat)) []:=by
 obtain⟨hs,h0,h1⟩:=h;obtain⟨n,rfl⟩:∃ n:Nat,i=n:=⟨i.toNat,by omega⟩;rw[Int.toNat_natCast];refine bh (aK:=[([0,0,1],[0,1,2])]) EH Tryz.func102 (by kernel_rfl) (au:=0) rfl (by kernel_rfl) 100 ?_;apply of_eq (q:=ax (cT Tryz.prog FW Tryz.f102 (0:Nat) [([0,0,1],[0,1,2])]) (aG (nI (↑(bn iV s n):Int)) []) [0,0,1] (fr [(0,aP (W.str s)),(1,nI (n:Int)),(2,aP (W.func 123 []))]) (af.ofList [])) (by kernel_rfl)
 try simp only[sL,Int.reduceEq,Int.reduceNe,Nat.reduceAdd]
 exact wJ s hs _ n rfl (by omega)
noncomputable def KZ:bX:=[(124,c_wrd)]
theorem HO:bg Tryz.prog KZ:=ai XH aE
noncomputable def Us:aZ:=cT Tryz.prog KZ Tryz.f102 0 [([0,0,1],[0,1,2])]
theorem yK(s:ByteArray)(hs:s.size<=1000000):∀(k i:Nat),k=s.size-i->i<=s.size->ax Us (aG (nI (bn eN s i)) []) [0,0,1] (fr [(0,sS s),(1,nI i),(2,p9 124)]) (.ofList [])
 | k,i,hk,hi=>by
   refine bD HO (by kernel_rfl) 100 ?_;apply of_eq (q:=let q2:=decide ((i:Int)<(s.size:Int));let q1:=q2=true;(q1->q1)/\(q1->q1)/\(q1->(0:Int)<=(i:Int)/\(i:Int)<(s.size:Int))/\(q1->q1)/\(q1->q1)/\(q1->q1)/\((bif q2 then eN (bV s i) else false)=true->ax Us (aG (nI (↑(bn eN s i):Int)) []) [0,0,1] (fr [(0,aP (W.str s)),(1,nI (IntKind.i64.wrap ((i:Int)+1))),(2,aP (W.func 124 []))]) (af.ofList []))/\((bif q2 then eN (bV s i) else false)=false->aq [vI (i:Int)]=nI (↑(bn eN s i):Int)/\([]:List Ob)=[])) (by kernel_rfl)
   try simp only[sL]
   refine⟨fun h=>by omega,fun h=>?_,fun h=>?_⟩
   . have hi1:i<s.size:=by omega
     rw[wrap64 (by omega) (by omega),iy ⟨hi1,h.2⟩];cases k with
     | zero=>omega
     | succ k=>exact yK s hs k (i+1) (by omega) (by omega)
   rw[kM (by rintro⟨h1,h2⟩;rw[h (by omega)] at h2;cases h2)];rfl
theorem XJ(s:ByteArray)(i:Int)(h:s.size<=1000000/\0<=i/\i<=s.size):bp Tryz.prog 102 [sS s,nI i,p9 124] [] (nI (bn eN s i.toNat)) []:=by
 obtain⟨hs,h0,h1⟩:=h;obtain⟨n,rfl⟩:∃ n:Nat,i=n:=⟨i.toNat,by omega⟩;rw[Int.toNat_natCast];refine bh (aK:=[([0,0,1],[0,1,2])]) HO Tryz.func102 (by kernel_rfl) (au:=0) rfl (by kernel_rfl) 100 ?_;apply of_eq (q:=ax (cT Tryz.prog KZ Tryz.f102 (0:Nat) [([0,0,1],[0,1,2])]) (aG (nI (↑(bn eN s n):Int)) []) [0,0,1] (fr [(0,aP (W.str s)),(1,nI (n:Int)),(2,aP (W.func 124 []))]) (af.ofList [])) (by kernel_rfl)
 try simp only[sL,Int.reduceEq,Int.reduceNe,Nat.reduceAdd]
 exact yK s hs _ n rfl (by omega)
noncomputable def Ds:bX:=[(111,BK)]
theorem CK:bg Tryz.prog Ds:=ai x5 aE
noncomputable def K0:aZ:=cT Tryz.prog Ds Tryz.f102 0 [([0,0,1],[0,1,2])]
theorem uN(s:ByteArray)(hs:s.size<=1000000):∀(k i:Nat),k=s.size-i->i<=s.size->ax K0 (aG (nI (bn di s i)) []) [0,0,1] (fr [(0,sS s),(1,nI i),(2,p9 111)]) (.ofList [])
 | k,i,hk,hi=>by
   refine bD CK (by kernel_rfl) 100 ?_;apply of_eq (q:=let q2:=decide ((i:Int)<(s.size:Int));let q1:=q2=true;(q1->q1)/\(q1->q1)/\(q1->(0:Int)<=(i:Int)/\(i:Int)<(s.size:Int))/\(q1->q1)/\(q1->q1)/\(q1->q1)/\((bif q2 then di (bV s i) else false)=true->ax K0 (aG (nI (↑(bn di s i):Int)) []) [0,0,1] (fr [(0,aP (W.str s)),(1,nI (IntKind.i64.wrap ((i:Int)+1))),(2,aP (W.func 111 []))]) (af.ofList []))/\((bif q2 then di (bV s i) else false)=false->aq [vI (i:Int)]=nI (↑(bn di s i):Int)/\([]:List Ob)=[])) (by kernel_rfl)
   try simp only[sL]
   refine⟨fun h=>by omega,fun h=>?_,fun h=>?_⟩
   . have hi1:i<s.size:=by omega
     rw[wrap64 (by omega) (by omega),iy ⟨hi1,h.2⟩];cases k with
     | zero=>omega
     | succ k=>exact uN s hs k (i+1) (by omega) (by omega)
   rw[kM (by rintro⟨h1,h2⟩;rw[h (by omega)] at h2;cases h2)];rfl
theorem Rf(s:ByteArray)(i:Int)(h:s.size<=1000000/\0<=i/\i<=s.size):bp Tryz.prog 102 [sS s,nI i,p9 111] [] (nI (bn di s i.toNat)) []:=by
 obtain⟨hs,h0,h1⟩:=h;obtain⟨n,rfl⟩:∃ n:Nat,i=n:=⟨i.toNat,by omega⟩;rw[Int.toNat_natCast];refine bh (aK:=[([0,0,1],[0,1,2])]) CK Tryz.func102 (by kernel_rfl) (au:=0) rfl (by kernel_rfl) 100 ?_;apply of_eq (q:=ax (cT Tryz.prog Ds Tryz.f102 (0:Nat) [([0,0,1],[0,1,2])]) (aG (nI (↑(bn di s n):Int)) []) [0,0,1] (fr [(0,aP (W.str s)),(1,nI (n:Int)),(2,aP (W.func 111 []))]) (af.ofList [])) (by kernel_rfl)
 try simp only[sL,Int.reduceEq,Int.reduceNe,Nat.reduceAdd]
 exact uN s hs _ n rfl (by omega)
noncomputable def K1:bX:=[(126,c_ins)]
theorem HU:bg Tryz.prog K1:=ai XG aE
noncomputable def Ut:aZ:=cT Tryz.prog K1 Tryz.f102 0 [([0,0,1],[0,1,2])]
theorem yL(s:ByteArray)(hs:s.size<=1000000):∀(k i:Nat),k=s.size-i->i<=s.size->ax Ut (aG (nI (bn eF s i)) []) [0,0,1] (fr [(0,sS s),(1,nI i),(2,p9 126)]) (.ofList [])
 | k,i,hk,hi=>by
   refine bD HU (by kernel_rfl) 100 ?_;apply of_eq (q:=let q2:=decide ((i:Int)<(s.size:Int));let q1:=q2=true;(q1->q1)/\(q1->q1)/\(q1->(0:Int)<=(i:Int)/\(i:Int)<(s.size:Int))/\(q1->q1)/\(q1->q1)/\(q1->q1)/\((bif q2 then eF (bV s i) else false)=true->ax Ut (aG (nI (↑(bn eF s i):Int)) []) [0,0,1] (fr [(0,aP (W.str s)),(1,nI (IntKind.i64.wrap ((i:Int)+1))),(2,aP (W.func 126 []))]) (af.ofList []))/\((bif q2 then eF (bV s i) else false)=false->aq [vI (i:Int)]=nI (↑(bn eF s i):Int)/\([]:List Ob)=[])) (by kernel_rfl)
   try simp only[sL]
   refine⟨fun h=>by omega,fun h=>?_,fun h=>?_⟩
   . have hi1:i<s.size:=by omega
     rw[wrap64 (by omega) (by omega),iy ⟨hi1,h.2⟩];cases k with
     | zero=>omega
     | succ k=>exact yL s hs k (i+1) (by omega) (by omega)
   rw[kM (by rintro⟨h1,h2⟩;rw[h (by omega)] at h2;cases h2)];rfl
theorem XK(s:ByteArray)(i:Int)(h:s.size<=1000000/\0<=i/\i<=s.size):bp Tryz.prog 102 [sS s,nI i,p9 126] [] (nI (bn eF s i.toNat)) []:=by
 obtain⟨hs,h0,h1⟩:=h;obtain⟨n,rfl⟩:∃ n:Nat,i=n:=⟨i.toNat,by omega⟩;rw[Int.toNat_natCast];refine bh (aK:=[([0,0,1],[0,1,2])]) HU Tryz.func102 (by kernel_rfl) (au:=0) rfl (by kernel_rfl) 100 ?_;apply of_eq (q:=ax (cT Tryz.prog K1 Tryz.f102 (0:Nat) [([0,0,1],[0,1,2])]) (aG (nI (↑(bn eF s n):Int)) []) [0,0,1] (fr [(0,aP (W.str s)),(1,nI (n:Int)),(2,aP (W.func 126 []))]) (af.ofList [])) (by kernel_rfl)
 try simp only[sL,Int.reduceEq,Int.reduceNe,Nat.reduceAdd]
 exact yL s hs _ n rfl (by omega)
def Rg:cO:={ cE:=[],f:=fun args ak=>match args,ak with
 | [x,y,.p (.c (.func f []))],[]=>match wE .str x,wE (.int .i64) y with
   | some s,some i =>
     bif Nat.beq f 123 then some (.p (ByteArray.size s<=1000000/\0<=(i:Int)/\(i:Int)<=ByteArray.size s),nI (bn iV s (Int.toNat i)),[]) else
     bif Nat.beq f 124 then some (.p (ByteArray.size s<=1000000/\0<=(i:Int)/\(i:Int)<=ByteArray.size s),nI (bn eN s (Int.toNat i)),[]) else
     bif Nat.beq f 111 then some (.p (ByteArray.size s<=1000000/\0<=(i:Int)/\(i:Int)<=ByteArray.size s),nI (bn di s (Int.toNat i)),[]) else
     bif Nat.beq f 126 then some (.p (ByteArray.size s<=1000000/\0<=(i:Int)/\(i:Int)<=ByteArray.size s),nI (bn eF s (Int.toNat i)),[]) else none
   | _,_=>none
 | _,_=>none }
theorem XL:bq Tryz.prog 102 Rg:=by
 refine⟨by kernel_rfl,fun args ak c r aX e hc=>?_⟩;simp only[Rg] at e;split at e;rename_i x y f;split at e
 . rename_i s i hx hy
   have key:∀(g:Nat)(p:Int->Bool),(∀(s:ByteArray)(i:Int),(s.size<=1000000/\0<=i/\i<=s.size)->bp Tryz.prog 102 [sS s,nI i,p9 g] [] (nI (bn p s i.toNat)) [])->f=g->
    some ((Cd.p (ByteArray.size s<=1000000/\0<=(i:Int)/\(i:Int)<=ByteArray.size s)),nI (bn p s (Int.toNat i)),([]:List Ob))=some (c,r,aX)->bp Tryz.prog 102 [x,y,p9 f] [] r aX:=by
    rintro g p hg rfl e;cases e;exact bp.args (hg s i hc) fun η Z vs hv=>match vs,hv with | [_,_,_],⟨a,b,d⟩=>⟨kL hx a,kL hy b,d⟩
   cases h1:Nat.beq f 123 with
   | true=>rw[h1] at e;exact key _ _ Ur (Nat.eq_of_beq_eq_true h1) e
   | false =>
   rw[h1] at e;cases h2:Nat.beq f 124 with
   | true=>rw[h2] at e;exact key _ _ XJ (Nat.eq_of_beq_eq_true h2) e
   | false =>
   rw[h2] at e;cases h3:Nat.beq f 111 with
   | true=>rw[h3] at e;exact key _ _ Rf (Nat.eq_of_beq_eq_true h3) e
   | false =>
   rw[h3] at e;cases h4:Nat.beq f 126 with
   | true=>rw[h4] at e;exact key _ _ XK (Nat.eq_of_beq_eq_true h4) e
   | false=>rw[h4] at e;cases e
 cases e;cases e
abbrev dS:D:=.sl .str
def nk:List ByteArray:=[⟨#[97,110,100]⟩,⟨#[100,101,102]⟩,⟨#[101,108,115,101]⟩,⟨#[102,97,108,115,101]⟩,⟨#[102,111,114]⟩,⟨#[105,102]⟩,⟨#[105,110]⟩,⟨#[110,111,116]⟩,⟨#[111,114]⟩,⟨#[112,114,105,110,116]⟩,⟨#[114,101,116,117,114,110]⟩,⟨#[116,114,117,101]⟩,⟨#[119,104,105,108,101]⟩]
def gL:List ByteArray:=[⟨#[40]⟩,⟨#[41]⟩,⟨#[91]⟩,⟨#[93]⟩,⟨#[123]⟩,⟨#[125]⟩,⟨#[44]⟩,⟨#[59]⟩,⟨#[61]⟩,⟨#[61,61]⟩,⟨#[33,61]⟩,⟨#[60]⟩,⟨#[60,61]⟩,⟨#[62]⟩,⟨#[62,61]⟩,⟨#[43]⟩,⟨#[45]⟩,⟨#[42]⟩,⟨#[47]⟩,⟨#[37]⟩,⟨#[94]⟩]
theorem res_sem:bp Tryz.prog 109 [] [] (jA nk) []:=by
 refine ew (aK:=[]) (eu:=[]) (fz:=[some (.sl .str)]) aE Tryz.func109 (by kernel_rfl) 0 (by kernel_rfl) 100 ?_;apply of_eq (q:=let q1:=(101:UInt8);(0:Nat)+13<=13/\aq [V.c (W.rd D.str (List.take (13:Nat) (List.drop (0:Nat) [ByteArray.mk #[(97:UInt8),(110:UInt8),(100:UInt8)],ByteArray.mk #[(100:UInt8),q1,(102:UInt8)],ByteArray.mk #[q1,(108:UInt8),(115:UInt8),q1],ByteArray.mk #[(102:UInt8),(97:UInt8),(108:UInt8),(115:UInt8),q1],ByteArray.mk #[(102:UInt8),(111:UInt8),(114:UInt8)],ByteArray.mk #[(105:UInt8),(102:UInt8)],ByteArray.mk #[(105:UInt8),(110:UInt8)],ByteArray.mk #[(110:UInt8),(111:UInt8),(116:UInt8)],ByteArray.mk #[(111:UInt8),(114:UInt8)],ByteArray.mk #[(112:UInt8),(114:UInt8),(105:UInt8),(110:UInt8),(116:UInt8)],ByteArray.mk #[(114:UInt8),q1,(116:UInt8),(117:UInt8),(114:UInt8),(110:UInt8)],ByteArray.mk #[(116:UInt8),(114:UInt8),(117:UInt8),q1],ByteArray.mk #[(119:UInt8),(104:UInt8),(105:UInt8),(108:UInt8),q1]])))]=jA nk/\([]:List Ob)=[]) (by kernel_rfl)
 try simp only[sL]
 rfl
def Rh:cO:=Al (.t,jA nk,[])
theorem K2:bq Tryz.prog 109 Rh:=sZ (by kernel_rfl) fun _=>res_sem
theorem sig_sem:bp Tryz.prog 127 [] [] (jA gL) []:=by
 refine ew (aK:=[]) (eu:=[]) (fz:=[some (.sl .str)]) aE Tryz.func127 (by kernel_rfl) 0 (by kernel_rfl) 100 ?_;apply of_eq (q:=(0:Nat)+21<=21/\aq [V.c (W.rd D.str (List.take (21:Nat) (List.drop (0:Nat) [ByteArray.mk #[(40:UInt8)],ByteArray.mk #[(41:UInt8)],ByteArray.mk #[(91:UInt8)],ByteArray.mk #[(93:UInt8)],ByteArray.mk #[(123:UInt8)],ByteArray.mk #[(125:UInt8)],ByteArray.mk #[(44:UInt8)],ByteArray.mk #[(59:UInt8)],ByteArray.mk #[(61:UInt8)],ByteArray.mk #[(61:UInt8),(61:UInt8)],ByteArray.mk #[(33:UInt8),(61:UInt8)],ByteArray.mk #[(60:UInt8)],ByteArray.mk #[(60:UInt8),(61:UInt8)],ByteArray.mk #[(62:UInt8)],ByteArray.mk #[(62:UInt8),(61:UInt8)],ByteArray.mk #[(43:UInt8)],ByteArray.mk #[(45:UInt8)],ByteArray.mk #[(42:UInt8)],ByteArray.mk #[(47:UInt8)],ByteArray.mk #[(37:UInt8)],ByteArray.mk #[(94:UInt8)]])))]=jA gL/\([]:List Ob)=[]) (by kernel_rfl)
 try simp only[sL]
 rfl
def c_sig:cO:=Al (.t,jA gL,[])
theorem XM:bq Tryz.prog 127 c_sig:=sZ (by kernel_rfl) fun _=>sig_sem
theorem XO:bp Tryz.prog 81 [] [] (jA nk) []:=by
 refine ew (aK:=[]) (eu:=[]) (fz:=[some (.sl .str)]) aE Tryz.func81 (by kernel_rfl) 0 (by kernel_rfl) 100 ?_;apply of_eq (q:=let q1:=(101:UInt8);(0:Nat)+13<=13/\aq [V.c (W.rd D.str (List.take (13:Nat) (List.drop (0:Nat) [ByteArray.mk #[(97:UInt8),(110:UInt8),(100:UInt8)],ByteArray.mk #[(100:UInt8),q1,(102:UInt8)],ByteArray.mk #[q1,(108:UInt8),(115:UInt8),q1],ByteArray.mk #[(102:UInt8),(97:UInt8),(108:UInt8),(115:UInt8),q1],ByteArray.mk #[(102:UInt8),(111:UInt8),(114:UInt8)],ByteArray.mk #[(105:UInt8),(102:UInt8)],ByteArray.mk #[(105:UInt8),(110:UInt8)],ByteArray.mk #[(110:UInt8),(111:UInt8),(116:UInt8)],ByteArray.mk #[(111:UInt8),(114:UInt8)],ByteArray.mk #[(112:UInt8),(114:UInt8),(105:UInt8),(110:UInt8),(116:UInt8)],ByteArray.mk #[(114:UInt8),q1,(116:UInt8),(117:UInt8),(114:UInt8),(110:UInt8)],ByteArray.mk #[(116:UInt8),(114:UInt8),(117:UInt8),q1],ByteArray.mk #[(119:UInt8),(104:UInt8),(105:UInt8),(108:UInt8),q1]])))]=jA nk/\([]:List Ob)=[]) (by kernel_rfl)
 try simp only[sL]
 rfl
def Uu:cO:=Al (.t,jA nk,[])
theorem Uv:bq Tryz.prog 81 Uu:=sZ (by kernel_rfl) fun _=>XO
theorem XP:bp Tryz.prog 83 [] [] (jA gL) []:=by
 refine ew (aK:=[]) (eu:=[]) (fz:=[some (.sl .str)]) aE Tryz.func83 (by kernel_rfl) 0 (by kernel_rfl) 100 ?_;apply of_eq (q:=(0:Nat)+21<=21/\aq [V.c (W.rd D.str (List.take (21:Nat) (List.drop (0:Nat) [ByteArray.mk #[(40:UInt8)],ByteArray.mk #[(41:UInt8)],ByteArray.mk #[(91:UInt8)],ByteArray.mk #[(93:UInt8)],ByteArray.mk #[(123:UInt8)],ByteArray.mk #[(125:UInt8)],ByteArray.mk #[(44:UInt8)],ByteArray.mk #[(59:UInt8)],ByteArray.mk #[(61:UInt8)],ByteArray.mk #[(61:UInt8),(61:UInt8)],ByteArray.mk #[(33:UInt8),(61:UInt8)],ByteArray.mk #[(60:UInt8)],ByteArray.mk #[(60:UInt8),(61:UInt8)],ByteArray.mk #[(62:UInt8)],ByteArray.mk #[(62:UInt8),(61:UInt8)],ByteArray.mk #[(43:UInt8)],ByteArray.mk #[(45:UInt8)],ByteArray.mk #[(42:UInt8)],ByteArray.mk #[(47:UInt8)],ByteArray.mk #[(37:UInt8)],ByteArray.mk #[(94:UInt8)]])))]=jA gL/\([]:List Ob)=[]) (by kernel_rfl)
 try simp only[sL]
 rfl
def Uw:cO:=Al (.t,jA gL,[])
theorem Ux:bq Tryz.prog 83 Uw:=sZ (by kernel_rfl) fun _=>XP
def dm(l:List ByteArray)(t:ByteArray):Bool:=l.any fun x=>decide (x=t)
theorem HV{l:List ByteArray}{t:ByteArray}{i:Nat}(h:i<l.length):dm (l.drop i) t=(decide (l.getD i ⟨#[]⟩=t)||dm (l.drop (i+1)) t):=by
 rw[List.drop_eq_getElem_cons h,List.getD_eq_getElem?_getD,List.getElem?_eq_getElem h];rfl
noncomputable def sHas:aZ:=cT Tryz.prog [] Tryz.f50 0 [([0,1,0,1],[0,1,5])]
theorem K3(l:List ByteArray)(t:ByteArray)(hl:l.length<=1000000):∀(k i:Nat),k=l.length-i->i<=l.length->ax sHas (aG (bB (dm (l.drop i) t)) []) [0,1,0,1] (fr [(0,jA l),(1,sS t),(5,nI i)]) (.ofList [])
 | k,i,hk,hi=>by
   refine bD aE (by kernel_rfl) 100 ?_;apply of_eq (q:=(decide ((i:Int)<(l.length:Int))=true->((0:Int)<=(i:Int)/\(i:Int)<(l.length:Int))/\i<l.length/\(decide (l.getD i (ByteArray.mk #[])=t)=true->aq [vB true]=bB (dm (List.drop i l) t)/\([]:List Ob)=[])/\(decide (l.getD i (ByteArray.mk #[])=t)=false->ax sHas (aG (bB (dm (List.drop i l) t)) []) [0,1,0,1] (fr [(0,aP (W.rd D.str l)),(1,aP (W.str t)),(5,nI (IntKind.i64.wrap ((i:Int)+1)))]) (af.ofList [])))/\(decide ((i:Int)<(l.length:Int))=false->aq [vB false]=bB (dm (List.drop i l) t)/\([]:List Ob)=[])) (by kernel_rfl)
   try simp only[sL]
   refine⟨fun h=>⟨by omega,by omega,fun h1=>?_,fun h1=>?_⟩,fun h=>?_⟩;rw[HV (by omega),h1,decide_eq_true rfl];rfl
   . rw[wrap64 (by omega) (by omega),HV (by omega),decide_eq_false h1,Bool.false_or];cases k with
     | zero=>omega
     | succ k=>exact K3 l t hl k (i+1) (by omega) (by omega)
   rw[List.drop_eq_nil_of_le (by omega)];rfl
theorem has_sem(l:List ByteArray)(t:ByteArray)(hl:l.length<=1000000):bp Tryz.prog 50 [jA l,sS t] [] (bB (dm l t)) []:=by
 refine bh (aK:=[([0,1,0,1],[0,1,5])]) aE Tryz.func50 (by kernel_rfl) (au:=0) rfl (by kernel_rfl) 100 ?_;apply of_eq (q:=ax (cT Tryz.prog [] Tryz.f50 (0:Nat) [([0,1,0,1],[0,1,5])]) (aG (bB (dm l t)) []) [0,1,0,1] (fr [(0,aP (W.rd D.str l)),(1,aP (W.str t)),(5,nI (0))]) (af.ofList [])) (by kernel_rfl)
 try simp only[sL,Int.reduceEq,Int.reduceNe,Nat.reduceAdd]
 have:=K3 l t hl _ 0 rfl (by omega);rw[List.drop_zero] at this;exact this
def Ri:cO:=vH dS .str fun l t=>(.p (List.length (α:=ByteArray) l<=1000000),bB (dm l t),[])
theorem K4:bq Tryz.prog 50 Ri:=o9 (by kernel_rfl) fun l t h=>has_sem l t h
def tK:List ByteArray->ByteArray->Int->Int
 | [],_,_=>-1
 | x::l,t,i=>if x=t then i else tK l t (i+1)
theorem XQ(l:List ByteArray)(t:ByteArray):∀ i:Int,0<=i->decide (0<=tK l t i)=dm l t:=by
 induction l with
 | nil=>intro i _;rfl
 | cons x l ih =>
   intro i h;unfold tK dm;by_cases hx:x=t;rw[if_pos hx,List.any_cons,decide_eq_true hx,Bool.true_or,decide_eq_true h];rw[if_neg hx,List.any_cons,decide_eq_false hx,Bool.false_or];exact ih (i+1) (by omega)
noncomputable def sIdx:aZ:=cT Tryz.prog [] Tryz.f133 0 [([0,1,0,1],[0,1,7,8])]
theorem K5(l:List ByteArray)(t:ByteArray)(hl:l.length<=1000000):∀(k i:Nat),k=l.length-i->i<=l.length->ax sIdx (aG (nI (tK (l.drop i) t i)) []) [0,1,0,1] (fr [(0,jA l),(1,sS t),(7,nI l.length),(8,nI i)]) (.ofList [])
 | k,i,hk,hi=>by
   refine bD aE (by kernel_rfl) 100 ?_;apply of_eq (q:=let q1:=(tK (List.drop i l) t (i:Int));(decide ((i:Int)<(l.length:Int))=true->((0:Int)<=(i:Int)/\(i:Int)<(l.length:Int))/\i<l.length/\(decide (t=l.getD i (ByteArray.mk #[]))=true->aq [vI (i:Int)]=nI q1/\([]:List Ob)=[])/\(decide (t=l.getD i (ByteArray.mk #[]))=false->ax sIdx (aG (nI q1) []) [0,1,0,1] (fr [(0,aP (W.rd D.str l)),(1,aP (W.str t)),(7,nI (l.length:Int)),(8,nI (IntKind.i64.wrap ((i:Int)+1)))]) (af.ofList [])))/\(decide ((i:Int)<(l.length:Int))=false->aq [vI (-1)]=nI q1/\([]:List Ob)=[])) (by kernel_rfl)
   try simp only[sL]
   refine⟨fun h=>⟨by omega,by omega,fun h1=>?_,fun h1=>?_⟩,fun h=>?_⟩;rw[List.drop_eq_getElem_cons (by omega),tK,if_pos (by rw[h1,List.getD_eq_getElem?_getD,List.getElem?_eq_getElem (by omega)];rfl)];rfl
   . rw[wrap64 (by omega) (by omega),List.drop_eq_getElem_cons (by omega),tK,if_neg (by rintro rfl;exact h1 (by rw[List.getD_eq_getElem?_getD,List.getElem?_eq_getElem (by omega)];rfl))];cases k with
     | zero=>omega
     | succ k=>exact K5 l t hl k (i+1) (by omega) (by omega)
   rw[List.drop_eq_nil_of_le (by omega)];rfl
theorem idx_sem(l:List ByteArray)(t:ByteArray)(hl:l.length<=1000000):bp Tryz.prog 133 [jA l,sS t] [] (nI (tK l t 0)) []:=by
 refine bh (aK:=[([0,1,0,1],[0,1,7,8])]) aE Tryz.func133 (by kernel_rfl) (au:=0) rfl (by kernel_rfl) 100 ?_;apply of_eq (q:=ax (cT Tryz.prog [] Tryz.f133 (0:Nat) [([0,1,0,1],[0,1,7,8])]) (aG (nI (tK l t (0:Int))) []) [0,1,0,1] (fr [(0,aP (W.rd D.str l)),(1,aP (W.str t)),(7,nI (l.length:Int)),(8,nI (0))]) (af.ofList [])) (by kernel_rfl)
 try simp only[sL,Int.reduceEq,Int.reduceNe,Nat.reduceAdd]
 have:=K5 l t hl _ 0 rfl (by omega);rw[List.drop_zero] at this;exact this
def c_idx:cO:=vH dS .str fun l t=>(.p (List.length (α:=ByteArray) l<=1000000),nI (tK l t 0),[])
theorem XS:bq Tryz.prog 133 c_idx:=o9 (by kernel_rfl) fun l t h=>idx_sem l t h
noncomputable def gCt:bX:=[(133,c_idx)]
theorem gCt_ok:bg Tryz.prog gCt:=ai XS aE
theorem XT(l:List ByteArray)(t:ByteArray)(hl:l.length<=1000000):bp Tryz.prog 106 [jA l,sS t] [] (bB (dm l t)) []:=by
 refine bh (aK:=[]) gCt_ok Tryz.func106 (by kernel_rfl) (au:=0) rfl (by kernel_rfl) 100 ?_;apply of_eq (q:=l.length<=1000000/\aq [vB (decide ((0:Int)<=tK l t (0:Int)))]=bB (dm l t)/\([]:List Ob)=[]) (by kernel_rfl)
 try simp only[sL]
 rw[<-XQ l t 0 (by omega)];exact⟨hl,rfl⟩
def EI:cO:=vH dS .str fun l t=>(.p (List.length (α:=ByteArray) l<=1000000),bB (dm l t),[])
theorem Az:bq Tryz.prog 106 EI:=o9 (by kernel_rfl) fun l t h=>XT l t h
def ku(s t:ByteArray):Bool:=decide (t.size<=s.size)&&decide (s.extract 0 t.size=t)
theorem Uy(s t:ByteArray):bp Tryz.prog 141 [sS s,sS t] [] (bB (ku s t)) []:=by
 refine bh (aK:=[]) aE Tryz.func141 (by kernel_rfl) (au:=0) rfl (by kernel_rfl) 100 ?_;apply of_eq (q:=let q1:=decide ((t.size:Int)<=(s.size:Int))=true;(q1->q1)/\(q1->q1)/\(q1->q1)/\(q1->(0:Int)<=0/\(0:Int)<=(t.size:Int)/\(t.size:Int)<=(s.size:Int))/\(q1->q1)/\(q1->q1)/\(q1->q1)/\aq [vB (bif decide ((t.size:Int)<=(s.size:Int)) then decide (s.extract (0:Nat) t.size=t) else false)]=bB (ku s t)/\([]:List Ob)=[]) (by kernel_rfl)
 try simp only[sL]
 refine⟨fun h=>by omega,?_⟩;unfold ku;rw[show decide ((t.size:Int)<=s.size)=decide (t.size<=s.size) from by rw[decide_eq_decide];omega];rfl
def Oj:cO:=vH .str .str fun s t=>(.t,bB (ku s t),[])
theorem Rj:bq Tryz.prog 141 Oj:=o9 (by kernel_rfl) fun s t _=>Uy s t
noncomputable def gPf:bX:=[(141,Oj)]
theorem gPf_ok:bg Tryz.prog gPf:=ai Rj aE
theorem XU(s t:ByteArray):bp Tryz.prog 128 [sS s,sS t] [] (bB (ku s t)) []:=by
 refine bh (aK:=[]) gPf_ok Tryz.func128 (by kernel_rfl) (au:=0) rfl (by kernel_rfl) 100 ?_;apply of_eq (q:=aq [vB (ku s t)]=bB (ku s t)/\([]:List Ob)=[]) (by kernel_rfl)
 try simp only[sL]
 rfl
def Uz:cO:=vH .str .str fun s t=>(.t,bB (ku s t),[])
theorem UA:bq Tryz.prog 128 Uz:=o9 (by kernel_rfl) fun s t _=>XU s t
structure Tok where
 kind:Int
 text:ByteArray
 n:Int
 at_:Int
deriving DecidableEq
def Tok.oB(t:Tok):List PV:=[.int t.kind,.str t.text,.int t.n,.int t.at_]
def ar(l:List Tok):List PV:=l.flatMap Tok.oB
theorem jZ(l:List Tok):(ar l).length=l.length*4:=by
 induction l with
 | nil=>rfl
 | cons t l ih=>rw[ar,List.flatMap_cons,List.length_append];show 4+(ar l).length=_;rw[ih,List.length_cons];omega
theorem Rk(l:List Tok):∀ i,(ar l).drop (i*4)=ar (l.drop i):=by
 induction l with
 | nil=>intro i;simp[ar]
 | cons t l ih =>
   intro i;cases i with
   | zero=>simp
   | succ i =>
     rw[show (i+1)*4=4+i*4 by omega,<-List.drop_drop];exact ih i
theorem uO{l:List Tok}{i:Nat}(h:i<l.length)(j:Nat)(hj:j<4):(ar l).getD (i*4+j) (.bool false)=(l[i].oB).getD j (.bool false):=by
 have e:(ar l).getD (i*4+j) (.bool false)=((ar l).drop (i*4)).getD j (.bool false):=by
  rw[List.getD_eq_getElem?_getD,List.getD_eq_getElem?_getD,List.getElem?_drop]
 rw[e,Rk,List.drop_eq_getElem_cons h,ar,List.flatMap_cons,List.getD_eq_getElem?_getD,List.getElem?_append_left (by exact hj),<-List.getD_eq_getElem?_getD]
noncomputable def Ol:bX:=[(79,HL),(80,KY),(82,Uo),(50,Ri),(81,Uu),(83,Uw)]
theorem wK:bg Tryz.prog Ol:=ai KX (ai Nx (ai Uq (ai K4 (ai Uv (ai Ux aE)))))
def s5:List (List Nat×List Nat):=[([0,0,0,1,0,1,1],[0,1,4,6,7,8]),([0,0,0,1,0,1,1,1],[0,1,4,6,7,8,9]),([0,1,0,1,1,1,0,1,0,1,1,1],[0,1,4,6,7,8,10]),([0,0,0,1,0,1,1,1,1],[0,1,4,6,7,8]),([0,1,0,1,1,1,1,1,1],[0,1,4,6,7,8,11])]
noncomputable def AA:aZ:=cT Tryz.prog Ol Tryz.f47 0 s5
abbrev eS:ByteArray:=⟨#[]⟩
abbrev AB(k:Int)(x:ByteArray)(n a:Int):Ob:=⟨78,[.c (.int .i64 k),.c (.str x),.c (.int .i64 n),.c (.int .i64 a)]⟩
abbrev jq(e a:Int):Ob:=⟨27,[.c (.int .i64 e),.c (.int .i64 a)]⟩
abbrev tkV(k:Int)(x:ByteArray)(n a e er ea:Int):A:=.bC [.agg [.int .i64 k,.str x,.int .i64 n,.int .i64 a],.c (.int .i64 e),.agg [.int .i64 er,.int .i64 ea]]
structure K6 where
 t:Tok
 e:Int
 er:Int
 ea:Int
abbrev K6.v(r:K6):A:=tkV r.t.kind r.t.text r.t.n r.t.at_ r.e r.er r.ea
def qb(s:ByteArray)(a e:Nat):K6 :=
 if dm nk (s.extract a e)=true then ⟨⟨2,s.extract a e,0,a⟩,e,0,0⟩ else
 if 20<(s.extract a e).size then ⟨⟨1,s.extract a e,0,a⟩,e,4,a⟩ else ⟨⟨1,s.extract a e,0,a⟩,e,0,0⟩
def mM(s:ByteArray)(e i:Nat)(n:Int):Int×Bool :=
 if h:i<e then(if 1000000000000000<n*10+(bV s i-48) then(n*10+(bV s i-48),true) else mM s e (i+1) (n*10+(bV s i-48))) else(n,false)
termination_by e-i
def lY(s:ByteArray)(a e:Nat):K6 :=
 if bV s a=48/\a+1<e then ⟨⟨3,eS,0,a⟩,e,11,a⟩ else
 if(mM s e a 0).2=true then ⟨⟨3,eS,(mM s e a 0).1,a⟩,e,2,a⟩ else ⟨⟨3,eS,(mM s e a 0).1,a⟩,e,0,0⟩
def si(s:ByteArray)(a e:Nat):K6 :=
 if e=s.size∨bV s e≠34 then ⟨⟨0,eS,0,a⟩,e,11,e⟩ else
 if 200<(s.extract (a+1) e).size then ⟨⟨4,s.extract (a+1) e,0,a⟩,e,4,a⟩ else ⟨⟨4,s.extract (a+1) e,0,a⟩,(e+1:Nat),0,0⟩
def lE(s:ByteArray)(a:Nat):Nat->K6
 | 0=>⟨⟨5,eS,0,a⟩,(a+1:Nat),11,a⟩
 | n+1=>if a+(n+1)<=s.size/\dm gL (s.extract a (a+(n+1)))=true then ⟨⟨5,s.extract a (a+(n+1)),0,a⟩,(a+(n+1):Nat),0,0⟩ else lE s a n
def dB(s:ByteArray)(a:Nat):K6 :=
 if fK (bV s a)=true then qb s a (bn eN s (a+1)) else
 if di (bV s a)=true then lY s a (bn di s (a+1)) else
 if bV s a=34 then si s a (bn eF s (a+1)) else lE s a 2
abbrev K7(s:ByteArray)(a e:Int):List (Nat×A):=[(0,sS s),(1,nI a),(4,.p (.c (.ptr 0 0))),(6,.p (.c (.ptr 1 0))),(7,.p (.c (.ptr 2 0))),(8,nI e)]
theorem wrap8{n:Int}(h1:0<=n)(h2:n<=255):IntKind.u8.wrap n=n:=IntWalk.u8_in n ⟨h1,h2⟩
theorem oQ{s:ByteArray}{a e:Nat}(h:a<=e)(he:e<=s.size):(s.extract a e).size=e-a:=by
 rw[ByteArray.size_extract];omega
theorem tk1(s:ByteArray)(hs:s.size<=1000000)(a:Nat):∀(k i:Nat),k=s.size-i->a<i->i<=s.size->ax AA (aG (qb s a (bn eN s i)).v []) [0,0,0,1,0,1,1] (fr (K7 s a i)) (.ofList [AB 0 eS 0 0,jq 0 0,AB 0 eS 0 a])
 | k,i,hk,ha,hi=>by
   refine bD wK (by kernel_rfl) 100 ?_;apply of_eq (q:=let q4:=(s.extract a i);let q5:=(i:Int);let q6:=(bV s i);let q7:=(qb s a (bn eN s i));let q8:=(s.size:Int);let q1:=decide (q5<q8)=true;let q2:=(bif fK q6 then true else di q6)=false;let q3:=(R1.pure (Cd.t.and Cd.t) (aP (W.str q4))).v=(R1.pure (Cd.t.and Cd.t) (aP (W.str q4))).v;(q1->q1)/\(q1->q1)/\(q1->(0:Int)<=q5/\q5<q8)/\(q1->q1)/\(q1->q1)/\(q1/\fK q6=false->q1/\fK q6=false)/\(q1/\fK q6=false->q1/\fK q6=false)/\(q1/\fK q6=false->(0:Int)<=q5/\q5<q8)/\(q1/\fK q6=false->q1/\fK q6=false)/\(q1->q1)/\(q1->fK q6=false->q1/\fK q6=false)/\(q1->q1)/\(q1/\q2->q1/\q2)/\(q1/\q2->q1/\q2)/\(q1/\q2->(0:Int)<=q5/\q5<q8)/\(q1/\q2->q1/\q2)/\(q1->q1)/\(q1->q2->q1/\q2)/\(q1->q1)/\((bif decide (q5<q8) then bif bif fK q6 then true else di q6 then true else decide (bV s i=95) else false)=true->ax AA (aG q7.v []) [0,0,0,1,0,1,1] (fr [(0,aP (W.str s)),(1,nI (a:Int)),(4,aR 0 0),(6,aR 1 0),(7,aR 2 0),(8,nI (IntKind.i64.wrap (q5+1)))]) (af.ofList [Ob.mk 78 [fI (0),Fd.c (W.str eS),fI (0),fI (0)],Ob.mk 27 [fI (0),fI (0)],Ob.mk 78 [fI (0),Fd.c (W.str eS),fI (0),fI (a:Int)]]))/\((bif decide (q5<q8) then bif bif fK q6 then true else di q6 then true else decide (bV s i=95) else false)=false->((0:Int)<=(a:Int)/\(a:Int)<=q5/\q5<=q8)/\(13:Nat)<=1000000/\q3/\q3/\(dm nk q4=true->aq [V.agg [wI (2),W.str q4,wI (0),wI (a:Int)],vI q5,V.agg [wI (0),wI (0)]]=q7.v/\([]:List Ob)=[])/\(dm nk q4=false->(decide ((20:Int)<(↑q4.size:Int))=true->aq [V.agg [wI (1),W.str q4,wI (0),wI (a:Int)],vI q5,V.agg [wI (4),wI (a:Int)]]=q7.v/\([]:List Ob)=[])/\(decide ((20:Int)<(↑q4.size:Int))=false->aq [V.agg [wI (1),W.str q4,wI (0),wI (a:Int)],vI q5,V.agg [wI (0),wI (0)]]=q7.v/\([]:List Ob)=[])))) (by kernel_rfl)
   try simp only[sL]
   have key:eN (bV s i)=true↔(fK (bV s i)=true∨di (bV s i)=true)∨bV s i=95:=by
    unfold eN;simp only[Bool.or_eq_true,decide_eq_true_eq]
   refine⟨fun h=>by omega,fun h=>by omega,fun h1 h2=>⟨h1,h2⟩,fun h=>by omega,fun h1 h2=>⟨h1,h2.1,h2.2⟩,fun h=>?_,fun h=>⟨by omega,by omega,fun h1=>?_,fun h1=>⟨fun h2=>?_,fun h2=>?_⟩⟩⟩
   . rw[wrap64 (by omega) (by omega),iy ⟨by omega,key.2 h.2⟩];cases k with
     | zero=>omega
     | succ k=>exact tk1 s hs a k (i+1) (by omega) (by omega) (by omega)
   all_goals
    have e:bn eN s i=i:=kM (by
     rintro⟨h3,h4⟩;have h5:=h (by omega);rcases key.1 h4 with (h6|h6)|h6;rw[h5.1.1] at h6;cases h6;rw[h5.1.2] at h6;cases h6;exact h5.2 h6)
    rw[e];unfold qb
   rw[if_pos h1];rfl;rw[if_neg (by rw[h1];simp),if_pos (by omega)];rfl;rw[if_neg (by rw[h1];simp),if_neg (by omega)];rfl
theorem tk3(s:ByteArray)(hs:s.size<=1000000)(a e:Nat)(hd:∀ j,a<=j->j<e->di (bV s j)=true)(hc:¬(bV s a=48/\a+1<e)):∀(k i:Nat)(n:Int),k=e-i->a<=i->i<=e->e<=s.size->0<=n/\n<=1000000000000000->mM s e i n=mM s e a 0->ax AA (aG (lY s a e).v []) [0,1,0,1,1,1,0,1,0,1,1,1] (fr (K7 s a e++[(10,nI i)])) (.ofList [AB 0 eS 0 0,jq 0 0,AB 3 eS n a])
 | k,i,n,hk,ha,hi,he,hn,hN=>by
   refine bD wK (by kernel_rfl) 100 ?_;apply of_eq (q:=let q0:=IntKind.i64.wrap;let q1:=(q0 (n*10)+q0 (IntKind.u8.wrap (bV s i-48)));let q2:=(R1.pure (Cd.t.and Cd.t) (nI n));let q3:=decide ((1000000000000000:Int)<q0 q1);(decide ((i:Int)<(e:Int))=true->((0:Int)<=(i:Int)/\(i:Int)<(s.size:Int))/\q2.v=q2.v/\q2.v=q2.v/\(q3=true->aq [V.agg [wI (3),W.str eS,wI (q0 q1),wI (a:Int)],vI (e:Int),V.agg [wI (2),wI (a:Int)]]=(lY s a e).v/\([]:List Ob)=[])/\(q3=false->ax AA (aG (lY s a e).v []) [0,1,0,1,1,1,0,1,0,1,1,1] (fr [(0,aP (W.str s)),(1,nI (a:Int)),(4,aR 0 0),(6,aR 1 0),(7,aR 2 0),(8,nI (e:Int)),(10,nI (q0 ((i:Int)+1)))]) (af.ofList [Ob.mk 78 [fI (0),Fd.c (W.str eS),fI (0),fI (0)],Ob.mk 27 [fI (0),fI (0)],Ob.mk 78 [fI (3),Fd.c (W.str eS),fI (q0 q1),fI (a:Int)]])))/\(decide ((i:Int)<(e:Int))=false->aq [V.agg [wI (3),W.str eS,wI n,wI (a:Int)],vI (e:Int),V.agg [wI (0),wI (0)]]=(lY s a e).v/\([]:List Ob)=[])) (by kernel_rfl)
   try simp only[sL]
   have hdg:i<e->48<=bV s i/\bV s i<=57:=fun h=>by
    have:=hd i ha h;unfold di at this;simpa only[Bool.and_eq_true,decide_eq_true_eq] using this
   have hw:i<e->IntKind.i64.wrap (IntKind.i64.wrap (n*10)+IntKind.i64.wrap (IntKind.u8.wrap (bV s i-48)))=n*10+(bV s i-48):=fun h=>by
    have:=hdg h;rw[wrap8 (by omega) (by omega),wrap64 (n:=n*10) (by omega) (by omega),wrap64 (n:=bV s i-48) (by omega) (by omega),wrap64 (by omega) (by omega)]
   refine⟨fun h=>⟨by omega,fun h1=>?_,fun h1=>?_⟩,fun h=>?_⟩;rw[hw (by omega)] at h1 ⊢;have e1:mM s e a 0=(n*10+(bV s i-48),true):=by rw[<-hN,mM,dif_pos (by omega),if_pos h1]
   unfold lY;rw[if_neg hc,e1,if_pos rfl];rfl
   . rw[hw (by omega)] at h1 ⊢;have:=hdg (by omega);rw[wrap64 (by omega) (by omega)];cases k with
     | zero=>omega
     | succ k=>exact tk3 s hs a e hd hc k (i+1) _ (by omega) (by omega) (by omega) he (by omega) (by rw[<-hN,mM.eq_1 s e i n,dif_pos (by omega),if_neg (by omega)])
   have e1:mM s e a 0=(n,false):=by rw[<-hN,mM,dif_neg (by omega)]
   unfold lY;rw[if_neg hc,e1,if_neg (by simp)];rfl
theorem tk2(s:ByteArray)(hs:s.size<=1000000)(a:Nat):∀(k i:Nat),k=s.size-i->a<i->i<=s.size->(∀ j,a<=j->j<i->di (bV s j)=true)->ax AA (aG (lY s a (bn di s i)).v []) [0,0,0,1,0,1,1,1] (fr (K7 s a i++[(9,Ay (bV s a))])) (.ofList [AB 0 eS 0 0,jq 0 0,AB 0 eS 0 a])
 | k, i, hk, ha, hi, hd => by
   refine bD wK (by kernel_rfl) 100 ?_;apply of_eq (q:=let q1:=decide ((i:Int)<(s.size:Int));let q2:=decide (bV s a=48)=true;let q3:=decide (IntKind.i64.wrap ((a:Int)+1)<(i:Int));(q1=true->q1=true)/\(q1=true->q1=true)/\(q1=true->(0:Int)<=(i:Int)/\(i:Int)<(s.size:Int))/\(q1=true->q1=true)/\(q1=true->q1=true)/\((bif q1 then di (bV s i) else false)=true->ax AA (aG (lY s a (bn di s i)).v []) [0,0,0,1,0,1,1,1] (fr [(0,aP (W.str s)),(1,nI (a:Int)),(4,aR 0 0),(6,aR 1 0),(7,aR 2 0),(8,nI (IntKind.i64.wrap ((i:Int)+1))),(9,aP (W.int .u8 (bV s a)))]) (af.ofList [Ob.mk 78 [fI (0),Fd.c (W.str eS),fI (0),fI (0)],Ob.mk 27 [fI (0),fI (0)],Ob.mk 78 [fI (0),Fd.c (W.str eS),fI (0),fI (a:Int)]]))/\((bif q1 then di (bV s i) else false)=false->(q2->q2)/\(q2->q2)/\(q2->q2)/\(q2->q2)/\((bif decide (bV s a=48) then q3 else false)=true->aq [V.agg [wI (3),W.str eS,wI (0),wI (a:Int)],vI (i:Int),V.agg [wI (11),wI (a:Int)]]=(lY s a (bn di s i)).v/\([]:List Ob)=[])/\((bif decide (bV s a=48) then q3 else false)=false->ax AA (aG (lY s a (bn di s i)).v []) [0,1,0,1,1,1,0,1,0,1,1,1] (fr [(0,aP (W.str s)),(1,nI (a:Int)),(4,aR 0 0),(6,aR 1 0),(7,aR 2 0),(8,nI (i:Int)),(10,nI (a:Int))]) (af.ofList [Ob.mk 78 [fI (0),Fd.c (W.str eS),fI (0),fI (0)],Ob.mk 27 [fI (0),fI (0)],Ob.mk 78 [fI (3),Fd.c (W.str eS),fI (0),fI (a:Int)]])))) (by kernel_rfl)
   try simp only[sL]
   refine⟨fun h=>by omega,fun h=>?_,fun h=>⟨fun h1=>?_,fun h1=>?_⟩⟩
   . rw[wrap64 (by omega) (by omega),iy ⟨by omega,h.2⟩];cases k with
     | zero=>omega
     | succ k=>exact tk2 s hs a k (i+1) (by omega) (by omega) (by omega) (fun j h1 h2=>by
      by_cases hj:j=i;subst hj;exact h.2;exact hd j h1 (by omega))
   all_goals
    have e:bn di s i=i:=kM (by rintro⟨h3,h4⟩;rw[h (by omega)] at h4;cases h4);rw[e];rw[wrap64 (n:=(a:Int)+1) (by omega) (by omega)] at h1
   unfold lY;rw[if_pos (by omega)];rfl;exact tk3 s hs a i hd (by omega) _ a 0 rfl (Nat.le_refl _) (by omega) hi (by omega) rfl
theorem tk4(s:ByteArray)(hs:s.size<=1000000)(a:Nat):∀(k i:Nat),k=s.size-i->a<i->i<=s.size->ax AA (aG (si s a (bn eF s i)).v []) [0,0,0,1,0,1,1,1,1] (fr (K7 s a i)) (.ofList [AB 0 eS 0 0,jq 0 0,AB 0 eS 0 a])
 | k,i,hk,ha,hi=>by
   refine bD wK (by kernel_rfl) 100 ?_;apply of_eq (q:=let q0:=IntKind.i64.wrap;let q3:=(s.extract (q0 ((a:Int)+1)).toNat i);let q4:=(i:Int);let q5:=(si s a (bn eF s i));let q6:=(s.size:Int);let q1:=decide (q4=q6)=false;let q2:=decide (q4<q6);(q2=true->q2=true)/\(q2=true->q2=true)/\(q2=true->(0:Int)<=q4/\q4<q6)/\(q2=true->q2=true)/\(q2=true->q2=true)/\((bif q2 then eF (bV s i) else false)=true->ax AA (aG q5.v []) [0,0,0,1,0,1,1,1,1] (fr [(0,aP (W.str s)),(1,nI (a:Int)),(4,aR 0 0),(6,aR 1 0),(7,aR 2 0),(8,nI (q0 (q4+1)))]) (af.ofList [Ob.mk 78 [fI (0),Fd.c (W.str eS),fI (0),fI (0)],Ob.mk 27 [fI (0),fI (0)],Ob.mk 78 [fI (0),Fd.c (W.str eS),fI (0),fI (a:Int)]]))/\((bif q2 then eF (bV s i) else false)=false->(q1->q1)/\(q1->q1)/\(q1->(0:Int)<=q4/\q4<q6)/\(q1->q1)/\(q1->q1)/\((bif decide (q4=q6) then true else !decide (bV s i=34))=true->aq [V.agg [wI (0),W.str eS,wI (0),wI (a:Int)],vI q4,V.agg [wI (11),wI q4]]=q5.v/\([]:List Ob)=[])/\((bif decide (q4=q6) then true else !decide (bV s i=34))=false->((0:Int)<=q0 ((a:Int)+1)/\q0 ((a:Int)+1)<=q4/\q4<=q6)/\(decide ((200:Int)<(↑q3.size:Int))=true->aq [V.agg [wI (4),W.str q3,wI (0),wI (a:Int)],vI q4,V.agg [wI (4),wI (a:Int)]]=q5.v/\([]:List Ob)=[])/\(decide ((200:Int)<(↑q3.size:Int))=false->aq [V.agg [wI (4),W.str q3,wI (0),wI (a:Int)],vI (q0 (q4+1)),V.agg [wI (0),wI (0)]]=q5.v/\([]:List Ob)=[])))) (by kernel_rfl)
   try simp only[sL]
   have e1:((a:Int)+1).toNat=a+1:=by omega
   refine⟨fun h=>by omega,fun h=>?_,fun h=>⟨fun h1=>by omega,fun h1=>?_,fun h1=>?_⟩⟩
   . rw[wrap64 (by omega) (by omega),iy ⟨by omega,h.2⟩];cases k with
     | zero=>omega
     | succ k=>exact tk4 s hs a k (i+1) (by omega) (by omega) (by omega)
   all_goals
    have e:bn eF s i=i:=kM (by rintro⟨h3,h4⟩;rw[h (by omega)] at h4;cases h4);rw[e]
   unfold si;rw[if_pos (by rcases h1 with h1|h1;exact .inl (by omega);exact .inr h1)];rfl;rw[wrap64 (n:=(a:Int)+1) (by omega) (by omega),wrap64 (n:=(i:Int)+1) (by omega) (by omega),e1];unfold si;rw[if_neg (by rintro (h2|h2);omega;exact h2 h1.2)];refine⟨by omega,fun h2=>?_,fun h2=>?_⟩;rw[if_pos (by omega)];rfl;rw[if_neg (by omega)];rfl
theorem tk5(s:ByteArray)(hs:s.size<=1000000)(a:Nat)(ha:a<s.size):∀(n:Nat),n<=2->ax AA (aG (lE s a n).v []) [0,1,0,1,1,1,1,1,1] (fr (K7 s a (a+1:Nat)++[(11,nI n)])) (.ofList [AB 0 eS 0 0,jq 0 0,AB 5 eS 0 a])
 | n,hn=>by
   refine bD wK (by kernel_rfl) 100 ?_;apply of_eq (q:=let q0:=IntKind.i64.wrap;let q2:=((a:Int)+(n:Int));let q4:=(s.extract a (q0 q2).toNat);let q5:=(a:Int)<=q0 q2/\q0 q2<=(s.size:Int);let q1:=decide (q0 q2<=(s.size:Int));let q3:=q1=true;(decide ((0:Int)<(n:Int))=true->(q3->q3)/\(q3->q3)/\(q3->q3)/\(q3->q3)/\(q3->q3)/\(q3->(0:Int)<=(a:Int)/\q5)/\(q3->q3)/\(q3->q3)/\(q3->(21:Nat)<=1000000)/\(q3->q3)/\((bif q1 then dm gL q4 else false)=true->((0:Int)<=(a:Int)/\q5)/\aq [V.agg [wI (5),W.str q4,wI (0),wI (a:Int)],vI (q0 q2),V.agg [wI (0),wI (0)]]=(lE s a n).v/\([]:List Ob)=[])/\((bif q1 then dm gL q4 else false)=false->ax AA (aG (lE s a n).v []) [0,1,0,1,1,1,1,1,1] (fr [(0,aP (W.str s)),(1,nI (a:Int)),(4,aR 0 0),(6,aR 1 0),(7,aR 2 0),(8,nI (↑(a+1):Int)),(11,nI (q0 ((n:Int)-1)))]) (af.ofList [Ob.mk 78 [fI (0),Fd.c (W.str eS),fI (0),fI (0)],Ob.mk 27 [fI (0),fI (0)],Ob.mk 78 [fI (5),Fd.c (W.str eS),fI (0),fI (a:Int)]])))/\(decide ((0:Int)<(n:Int))=false->aq [V.agg [wI (5),W.str eS,wI (0),wI (a:Int)],vI (↑(a+1):Int),V.agg [wI (11),wI (a:Int)]]=(lE s a n).v/\([]:List Ob)=[])) (by kernel_rfl)
   try simp only[sL]
   have e1:((a:Int)+n).toNat=a+n:=by omega
   rw[wrap64 (n:=(a:Int)+n) (by omega) (by omega),e1];cases n with
   | zero=>exact⟨fun h=>by omega,fun _=>rfl⟩
   | succ n =>
     have e2:((a:Int)+((n+1:Nat):Int))=((a+(n+1):Nat):Int):=by omega
     refine⟨fun _=>⟨fun h=>by omega,fun _=>by omega,fun h=>⟨by omega,?_⟩,fun h=>?_⟩,fun h=>by omega⟩;rw[lE,if_pos ⟨by omega,h.2⟩,e2];rfl;rw[wrap64 (by omega) (by omega),lE,if_neg (by rintro⟨h1,h2⟩;rw[h (by omega)] at h2;cases h2),show (((n+1:Nat):Int)-1)=(n:Int) by omega];exact tk5 s hs a ha n (by omega)
theorem tok_sem(s:ByteArray)(a:Nat)(h:s.size<=1000000/\a<s.size):bp Tryz.prog 47 [sS s,nI a] [] (dB s a).v []:=by
 obtain⟨hs,ha⟩:=h;refine bh (aK:=s5) wK Tryz.func47 (by kernel_rfl) (au:=0) rfl (by kernel_rfl) 100 ?_;apply of_eq (q:=let q3:=Fd.c (W.str (ByteArray.mk #[]));let q4:=(8,nI (IntKind.i64.wrap ((a:Int)+1)));let q1:=(af.ofList [Ob.mk 78 [fI (0),q3,fI (0),fI (0)],Ob.mk 27 [fI (0),fI (0)],Ob.mk 78 [fI (0),q3,fI (0),fI (a:Int)]]);let q2:=(fr [(0,aP (W.str s)),(1,nI (a:Int)),(4,aR 0 0),(6,aR 1 0),(7,aR 2 0),q4]);((0:Int)<=(a:Int)/\(a:Int)<(s.size:Int))/\(fK (bV s a)=true->ax (cT Tryz.prog Ol Tryz.f47 (0:Nat) s5) (aG (dB s a).v []) [0,0,0,1,0,1,1] q2 q1)/\(fK (bV s a)=false->(di (bV s a)=true->ax (cT Tryz.prog Ol Tryz.f47 (0:Nat) s5) (aG (dB s a).v []) [0,0,0,1,0,1,1,1] (fr [(0,aP (W.str s)),(1,nI (a:Int)),(4,aR 0 0),(6,aR 1 0),(7,aR 2 0),q4,(9,aP (W.int .u8 (bV s a)))]) q1)/\(di (bV s a)=false->(decide (bV s a=34)=true->ax (cT Tryz.prog Ol Tryz.f47 (0:Nat) s5) (aG (dB s a).v []) [0,0,0,1,0,1,1,1,1] q2 q1)/\(decide (bV s a=34)=false->ax (cT Tryz.prog Ol Tryz.f47 (0:Nat) s5) (aG (dB s a).v []) [0,1,0,1,1,1,1,1,1] (fr [(0,aP (W.str s)),(1,nI (a:Int)),(4,aR 0 0),(6,aR 1 0),(7,aR 2 0),q4,(11,nI (2))]) (af.ofList [Ob.mk 78 [fI (0),q3,fI (0),fI (0)],Ob.mk 27 [fI (0),fI (0)],Ob.mk 78 [fI (5),q3,fI (0),fI (a:Int)]]))))) (by kernel_rfl)
 try simp only[sL]
 rw[wrap64 (n:=(a:Int)+1) (by omega) (by omega)];refine⟨by omega,fun h1=>?_,fun h1=>⟨fun h2=>?_,fun h2=>⟨fun h3=>?_,fun h3=>?_⟩⟩⟩;have e:dB s a=qb s a (bn eN s (a+1)):=by unfold dB;rw[if_pos h1]
 rw[e];exact tk1 s hs a _ (a+1) rfl (by omega) (by omega);have e:dB s a=lY s a (bn di s (a+1)):=by unfold dB;rw[if_neg (by rw[h1];simp),if_pos h2]
 rw[e];exact tk2 s hs a _ (a+1) rfl (by omega) (by omega) (fun j h3 h4=>by rw[show j=a by omega];exact h2);have e:dB s a=si s a (bn eF s (a+1)):=by unfold dB;rw[if_neg (by rw[h1];simp),if_neg (by rw[h2];simp),if_pos h3]
 rw[e];exact tk4 s hs a _ (a+1) rfl (by omega) (by omega);have e:dB s a=lE s a 2:=by unfold dB;rw[if_neg (by rw[h1];simp),if_neg (by rw[h2];simp),if_neg h3]
 rw[e];exact tk5 s hs a ha 2 (by omega)
theorem XV(s:ByteArray)(a:Int)(h:s.size<=1000000/\0<=a/\a<s.size):bp Tryz.prog 47 [sS s,nI a] [] (dB s a.toNat).v []:=by
 obtain⟨h1,h2,h3⟩:=h;obtain⟨n,rfl⟩:∃ n:Nat,a=(n:Int):=⟨Int.toNat a,by omega⟩;exact tok_sem s n ⟨h1,by omega⟩
def c_tok:cO:=vH .str (.int .i64) fun s a=>(.p (ByteArray.size s<=1000000/\0<=(a:Int)/\(a:Int)<ByteArray.size s),(dB s (Int.toNat a)).v,[])
theorem XW:bq Tryz.prog 47 c_tok:=o9 (by kernel_rfl) fun s a h=>XV s a h
def bE(s:ByteArray):Nat->Nat->List Tok×(Int×Int)
 | 0,_=>([],0,0)
 | k+1,i=>if i<s.size then(
  if bV s i=32∨bV s i=10 then bE s k (i+1) else
  if bV s i=35 then bE s k (bn iV s i) else
  if(dB s i).er≠0 then([],(dB s i).er,(dB s i).ea) else((dB s i).t::(bE s k (dB s i).e.toNat).1,(bE s k (dB s i).e.toNat).2)) else([],0,0)
abbrev wM(l:List Tok):Ob:=⟨78,[.a 0 .pv (ar l)]⟩
abbrev fV(e a:Int):V:=.agg [.int .i64 e,.int .i64 a]
abbrev CM(k n:Nat):V:=.c (.sl k 0 n 4)
theorem HY{acc:List Tok}{t:Tok}:ar acc++[PV.int t.kind,PV.str t.text,PV.int t.n,PV.int t.at_]=ar (acc++[t]):=by
 unfold ar;rw[List.flatMap_append];simp[Tok.oB]
theorem K8{s:ByteArray}{a:Nat}:∀{n:Nat},(lE s a n).er=0->∃ e:Nat,(lE s a n).e=e/\a<e/\e<=s.size
 | 0,h=>by cases h
 | n + 1, h => by
   rw[lE] at h ⊢;split at h;rename_i h1;rw[if_pos h1];exact⟨_,rfl,by omega,h1.1⟩;rename_i h1;rw[if_neg h1];exact K8 h
theorem XY{s:ByteArray}{a:Nat}(ha:a<s.size)(h:(dB s a).er=0):∃ e:Nat,(dB s a).e=e/\a<e/\e<=s.size:=by
 have g1:=nQ eN s _ (a+1) rfl;have g2:=nQ di s _ (a+1) rfl;have g3:=nQ eF s _ (a+1) rfl;unfold dB at h ⊢;split at h;rename_i h1;rw[if_pos h1];refine⟨bn eN s (a+1),?_,by omega,g1.2 (by omega)⟩;unfold qb;split;rfl;split<;>rfl;rename_i h1;rw[if_neg h1];split at h;rename_i h2;rw[if_pos h2];refine⟨bn di s (a+1),?_,by omega,g2.2 (by omega)⟩;unfold lY;split;rfl;split<;>rfl;rename_i h2;rw[if_neg h2];split at h;rename_i h3;rw[if_pos h3];unfold si at h ⊢;split at h;cases h;rename_i h4;rw[if_neg h4];have:bn eF s (a+1)≠s.size:=fun e=>h4 (.inl e);have:=g3.2 (by omega);refine⟨bn eF s (a+1)+1,?_,by omega,by omega⟩;split at h;cases h;rename_i h5;rw[if_neg h5];rename_i h3;rw[if_neg h3];exact K8 h
noncomputable def gRs:bX:=[(47,c_tok)]
theorem K9:bg Tryz.prog gRs:=ai XW aE
def La:List (List Nat×List Nat):=[([0,1,0,1,1,1],[0,3,4,5]),([0,0,0,1,0,1,0,1,0,0,1,0,1,1,1],[0,3,4,5])]
def cU(s:ByteArray):List Tok×(Int×Int):=if 20000<s.size then([],4,20000) else bE s s.size 0
end Go.Proofs.YtaplgnhojknpiaaGreatDoor
namespace Go.Proofs.YtaplgnhojknpiaaGreatDoor
open Go.aU Go.RowKit
set_option maxRecDepth 100000
def jU:List UInt8->Nat->Nat
 | [],n=>n
 | c::l,n=>jU l (n*10+(c.toNat-48))
def x6(l:List UInt8):Prop:=∀ c∈l,48<=c.toNat/\c.toNat<=57
theorem FX:∀(l:List UInt8)(n:Nat),n<=jU l n
 | [],n=>Nat.le_refl _
 | c::l,n=>by
   have:=FX l (n*10+(c.toNat-48));simp only[jU];omega
theorem HZ:∀(l:List UInt8)(n:Nat),x6 l->n<18446744073709551616->Lib.parseUint10 n l=if jU l n<18446744073709551616 then .ok (jU l n) else .range
 | [],n,_,h=>by
   rw[show jU [] n=n from rfl,if_pos h];rfl
 | c :: l, n, hd, h => by
   have hc:=hd c (by simp);have hg:=FX l (n*10+(c.toNat-48));rw[show jU (c::l) n=jU l (n*10+(c.toNat-48)) from rfl];simp only[Lib.parseUint10];rw[if_pos hc];split;rw[if_neg (by omega)];split;rw[if_neg (by omega)];exact HZ l _ (fun x hx=>hd x (by simp[hx])) (by omega)
theorem XZ{l:List UInt8}(hd:x6 l)(h0:l≠[]):Lib.atoiAll l=if jU l 0<9223372036854775808 then .ok (jU l 0:Int) else .range:=by
 cases l with
 | nil=>exact absurd rfl h0
 | cons c r =>
   have hc:=hd c (by simp);rw[Lib.atoiAll_plain c r (by omega) (by omega)];unfold Lib.parseMag;rw[if_neg (by simp),HZ _ _ hd (by omega)];split;simp only[Lib.signless];split;rw[if_neg (by omega)];rw[if_pos (by omega)];simp only[Lib.signless];rw[if_neg (by omega)]
theorem sat_dec{l:List UInt8}(hd:x6 l)(h0:l≠[]):Lib.atoiSat l=9223372036854775807:=by
 cases l with
 | nil=>exact absurd rfl h0
 | cons c r=>exact Lib.atoiSat_other c r (by have:=hd c (by simp);omega)
def tL(s:ByteArray):Int:=if jU s.data.toList 0<9223372036854775808 then(jU s.data.toList 0:Int) else 9223372036854775807
def pq(s:ByteArray):Bool:=decide (9223372036854775808<=jU s.data.toList 0)
theorem Lb{P:Program}{f:FuncId}{args:List A}{r:A}(h:∀(base:Nat) (η:Eta) (Z:av) (w:World) vs,St base η Z (.ofList []) w->aO (cH η Z) args vs->gq P Z->Calls P f vs.toArray w fun e w'=>∃ u,e=.returned u/\cH η Z r u/\Below w.heap.size w w'):bp P f args [] r []:=by
 intro base η Z w vs R hvs hK;refine(callsIn_wide.2 (h base η Z w vs R hvs hK)).mono ?_;rintro e w' ⟨u,rfl,hu,hB⟩;have hstep:Step η Z (.ofList []) w η Z (.ofList []) w':=⟨hB.os,hB.tape,hB.output,hB.size,fun b hb _=>hB.block b hb,fun b h=>.inl h,av.le.refl _,fun b c h=>.inl h,rfl⟩;refine⟨u,η,Z,rfl,⟨fun _ _ _ h=>h,⟨fun n o p h=>by rw[af.bO] at h;simp at h,fun n o h=>by rw[af.bO] at h;simp at h,fun n o h=>by rw[af.bO] at h;simp at h,fun n n' o o' p p' b h=>by rw[af.bO] at h;simp at h,fun b c hb=>?_,R.fresh,Nat.le_trans R.iF hB.size,fun n o p h=>by rw[af.bO] at h;simp at h⟩,hstep⟩,hu⟩;obtain⟨ty,fz,e⟩:=R.zs b c hb;exact⟨ty,fz,(hB.block b (dF e)).trans e⟩
theorem X0(s:ByteArray)(hd:x6 s.data.toList)(hs:1<=s.size/\s.size<=1000000):bp Tryz.prog 125 [sS s] [] (.bC [.c (.int .i64 (tL s)),.c (.y8 (pq s))]) []:=by
 refine Lb fun base η Z w vs R hvs hK=>?_;obtain⟨v,rfl,hv⟩:∃ v,vs=[v]/\v=.string s:=by
  match vs,hvs with
  | [v],⟨⟨_,h⟩,_⟩=>exact⟨v,rfl,h⟩
 subst hv;have h0:s.data.toList≠[]:=by
  intro e;have h1:s.size=s.data.toList.length:=by simp
  rw[e,List.length_nil] at h1;omega
 have ha:=XZ hd h0;by_cases hlt:jU s.data.toList 0<9223372036854775808;rw[if_pos hlt] at ha;refine(Tryz.strconv_Atoi_ok s (by omega) _ ha w).mono ?_;rintro e w' ⟨rfl,hw⟩;refine⟨_,rfl,⟨[.int .i64 (jU s.data.toList 0),.nilIface],rfl,⟨by simp,?_⟩,⟨by simp,?_⟩,trivial⟩,?_⟩;unfold tL;rw[if_pos hlt];rfl;have e:pq s=false:=decide_eq_false (by omega);rw[e];simp[ay,aL];rcases hw with rfl|⟨t,rfl⟩;exact Below.refl _ _;exact Lib.bytesWorld_below _ _ _;rw[if_neg hlt] at ha;obtain⟨c,t,u,hz,hc⟩:=hK.2 3 (by kernel_rfl);obtain⟨ty,fz,hw⟩:=R.zs _ _ hz;refine(Tryz.strconv_Atoi_range s (by omega) ha (.iface t u) w (by simp[World.cell?,hw,hc]) (.inr ⟨t,u,rfl⟩)).mono ?_;rintro e w' ⟨N,rfl,_,_,hB⟩;refine⟨_,rfl,⟨[.int .i64 (Lib.atoiSat s.data.toList),_],rfl,⟨by simp,?_⟩,⟨by simp,?_⟩,trivial⟩,hB⟩;unfold tL;rw[if_neg hlt,sat_dec hd h0];rfl;have e:pq s=true:=decide_eq_true (by omega);rw[e];simp[ay,aL]
def UB:cO:=iU .str fun s=>(.p (x6 (ByteArray.data s).toList/\1<=ByteArray.size s/\ByteArray.size s<=1000000),.bC [.c (.int .i64 (tL s)),.c (.y8 (pq s))],[])
theorem UC:bq Tryz.prog 125 UB:=eB (by kernel_rfl) fun s h=>X0 s h.1 h.2
end Go.Proofs.YtaplgnhojknpiaaGreatDoor
namespace Go.Proofs.YtaplgnhojknpiaaGreatDoor
open Go.aU
set_option maxRecDepth 100000
def yT(t:Tok):List PV:=.int t.at_::t.oB
def aV(e a:Int):Value:=.iface 106 (.agg #[.int .i64 e,.int .i64 a])
noncomputable def gSc:bX:=[(108,xZ),(111,BK),(102,Rg),(109,Rh),(127,c_sig),(106,EI),(125,UB),(128,Uz)]
theorem EJ:bg Tryz.prog gSc:=ai vJ (ai x5 (ai XL (ai K2 (ai XM (ai Az (ai UC (ai UA aE)))))))
def Lc:List (List Nat×List Nat):=[([0,1],[0,1,3]),([0,1,0,1,1,1,1,1,1,1,1,1,1,0,0,1,1,1,0,1,0,0,1],[0,1,3,6,21,22,23])]
noncomputable def nr(b:Bool)(v:Value):aZ:=BD Tryz.prog gSc [] Tryz.f122 Lc b v
abbrev FY(s:ByteArray):Ob:=⟨9,[.c (.str s)]⟩
abbrev Om(l:Nat)(i:Int):List (Nat×A):=[(0,.p (.c (.yield l))),(1,.p (.c (.ptr 0 0))),(3,nI i)]
abbrev UD(l:Nat)(s:ByteArray)(ys:List (List PV)):af:=.dJ (some ⟨l,.sl .pv,ys,true⟩) [FY s]
def scP:List Nat:=[0,1,0,1,1,1,1,1,1,1,1,1,1,0,0,1,1,1,0,1,0,0,1]
def kV(r:ByteArray):List ByteArray->ByteArray->ByteArray
 | [],x=>x
 | g::l,x=>kV r l (if ku r g=true/\x.size<g.size then g else x)
theorem Ld:∀ g∈gL,g.size<=2:=by decide
theorem Le{s:ByteArray}{k i:Nat}(hlt:i<s.size)(h1:¬(bV s i=32∨bV s i=10))(h2:¬bV s i=35){t:Tok}{e:Nat}(ht:dB s i=⟨t,(e:Int),0,0⟩):bE s (k+1) i=(t::(bE s k e).1,(bE s k e).2):=by
 rw[bE,if_pos hlt,if_neg h1,if_neg h2,ht,if_neg (by simp)];rfl
theorem FZ{s:ByteArray}{k i:Nat}(hlt:i<s.size)(h1:¬(bV s i=32∨bV s i=10))(h2:¬bV s i=35){t:Tok}{e er ea:Int}(ht:dB s i=⟨t,e,er,ea⟩)(h:er≠0):bE s (k+1) i=([],er,ea):=by
 rw[bE,if_pos hlt,if_neg h1,if_neg h2,ht,if_pos h]
section
variable {s:ByteArray} {l:Nat} {b:Bool} {v:Value} {k i:Nat}
theorem wN{er ea:Int}(hA:bE s (k+1) i=([],er,ea))(her:er≠0)(hb:b=decide ((bE s (k+1) i).2.1≠0))(hv:v=aV (bE s (k+1) i).2.1 (bE s (k+1) i).2.2):(b=true/\aV er ea=v)/\List.map yT (bE s (k+1) i).1=[]:=by
 rw[hA] at hb hv ⊢;exact⟨⟨by rw[hb];exact decide_eq_true her,hv.symm⟩,rfl⟩
theorem EK(IH:∀ j,i<j->j<=s.size->b=decide ((bE s k j).2.1≠0)->v=aV (bE s k j).2.1 (bE s k j).2.2->ax (nr b v) (fun _ _=>b=false) [0,1] (fr (Om l j)) (UD l s ((bE s k j).1.map yT)))
 {t:Tok} {e:Nat} (hB:bE s (k+1) i=(t::(bE s k e).1,(bE s k e).2)) (he:i<e/\e<=s.size) (hb:b=decide ((bE s (k+1) i).2.1≠0)) (hv:v=aV (bE s (k+1) i).2.1 (bE s (k+1) i).2.2) {y:List PV} (hy:yT t=y) :
 (¬List.map yT (bE s (k+1) i).1=[]/\(List.map yT (bE s (k+1) i).1).head? = some y)/\ax (nr b v) (fun _ _=>b=false) [0,1] (fr (Om l e)) (UD l s (List.map yT (bE s (k+1) i).1).tail):=by
 rw[hB] at hb hv ⊢;exact⟨⟨by simp,by simp[hy]⟩,IH e he.1 he.2 hb hv⟩
theorem F4(hs:s.size<=20000)(hlt:i<s.size)(H:∀ x:ByteArray,kV (s.extract i s.size) gL eS=x->(x.size=0->((b=true/\aV 11 i=v)/\List.map yT (bE s (k+1) i).1=[]))/\(0<x.size->(¬List.map yT (bE s (k+1) i).1=[]/\(List.map yT (bE s (k+1) i).1).head? = some [PV.int i,PV.int 5,PV.str x,PV.int 0,PV.int i])/\ax (nr b v) (fun _ _=>b=false) [0,1] (fr (Om l (i+x.size:Nat))) (UD l s (List.map yT (bE s (k+1) i).1).tail)))  :
 ∀(m j:Nat)(kd:Int)(x:ByteArray),m=21-j->j<=21->kV (s.extract i s.size) (gL.drop j) x=kV (s.extract i s.size) gL eS->(x.size=0->x=eS)->(0<x.size->kd=5)->x.size<=2->
 ax (nr b v) (fun _ _=>b=false) scP (fr (Om l i++[(6,.p (.c (.ptr 1 0))),(21,jA gL),(22,nI 21),(23,nI j)])) (.dJ (some ⟨l,.sl .pv,List.map yT (bE s (k+1) i).1,true⟩) [FY s,AB kd x 0 i])
 | m, j, kd, x, hm, hj, hx, h0, h5, hsz => by
   refine bD EJ (by kernel_rfl) 300 ?_;apply of_eq (q:=let q2:=(fr [(0,aP (W.yield l)),(1,aR 0 0),(3,nI (i:Int)),(6,aR 1 0),(21,aP (W.rd D.str gL)),(22,nI (21)),(23,nI (IntKind.i64.wrap ((j:Int)+1)))]);let q3:=(gL.getD j (ByteArray.mk #[]));let q4:=(List.map yT (bE s (k+1) i).fst);let q5:=[0,1,0,1,1,1,1,1,1,1,1,1,1,0,0,1,1,1,0,1,0,0,1];let q1:=ku (s.extract i s.size) q3=true;(decide ((j:Int)<21)=true->((0:Int)<=(j:Int)/\(j:Int)<(↑(21:Nat):Int))/\j<21/\((0:Int)<=(i:Int)/\(i:Int)<=(s.size:Int)/\(s.size:Int)<=(s.size:Int))/\(q1->q1)/\(q1->q1)/\(q1->q1)/\(q1->q1)/\(q1->q1)/\(q1->q1)/\((bif ku (s.extract i s.size) q3 then decide ((x.size:Int)<(↑q3.size:Int)) else false)=true->ax (nr b v) (fun x x_1=>b=false) q5 q2 (af.dJ (some (Gh.mk l D.pv.sl q4 true)) [Ob.mk 9 [Fd.c (W.str s)],Ob.mk 78 [fI (5),Fd.c (W.str q3),fI (0),fI (i:Int)]]))/\((bif ku (s.extract i s.size) q3 then decide ((x.size:Int)<(↑q3.size:Int)) else false)=false->ax (nr b v) (fun x x_1=>b=false) q5 q2 (af.dJ (some (Gh.mk l D.pv.sl q4 true)) [Ob.mk 9 [Fd.c (W.str s)],Ob.mk 78 [fI kd,Fd.c (W.str x),fI (0),fI (i:Int)]])))/\(decide ((j:Int)<21)=false->(decide (x=ByteArray.mk #[])=true->(b=true/\Value.iface (106:Nat) (Value.agg #[Value.int .i64 (11:Int),Value.int .i64 (i:Int)])=v)/\List.map yT (bE s (k+1) i).fst=[])/\(decide (x=ByteArray.mk #[])=false->(l=l/\List.map yT (bE s (k+1) i).fst≠[]/\q4.head? = some [PV.int (i:Int),PV.int kd,PV.str x,PV.int (0:Int),PV.int (i:Int)])/\ax (nr b v) (fun x x_1=>b=false) [0,1] (fr [(0,aP (W.yield l)),(1,aR 0 0),(3,nI (IntKind.i64.wrap ((i:Int)+(x.size:Int))))]) (af.dJ (some (Gh.mk l D.pv.sl q4.tail true)) [Ob.mk 9 [Fd.c (W.str s)]])))) (by kernel_rfl)
   try simp only[sL]
   have bS:gL.length=21:=rfl;have uE:j<21->(gL.getD j eS).size<=2:=fun h=>by
    rw[List.getD_eq_getElem?_getD,List.getElem?_eq_getElem (by omega)];exact Ld _ (List.getElem_mem (by omega))
   have hg:j<21->kV (s.extract i s.size) (gL.drop j) x=kV (s.extract i s.size) (gL.drop (j+1)) (if ku (s.extract i s.size) (gL.getD j eS)=true/\x.size<(gL.getD j eS).size then gL.getD j eS else x):=fun h=>by
    rw[List.drop_eq_getElem_cons (by omega),List.getD_eq_getElem?_getD,List.getElem?_eq_getElem (by omega)];rfl
   refine⟨fun h=>⟨by omega,by omega,by omega,fun h1=>?_,fun h1=>?_⟩,fun h=>?_⟩
   . rw[wrap64 (by omega) (by omega)];have UE:=hg (by omega);rw[if_pos ⟨h1.1,Int.ofNat_lt.1 h1.2⟩] at UE;cases m with
     | zero=>omega
     | succ m=>exact F4 hs hlt H m (j+1) 5 _ (by omega) (by omega) (UE▸hx) (fun e=>absurd (Int.ofNat_lt.1 h1.2) (by have e:(gL.getD j eS).size=0:=e;show ¬x.size<(gL.getD j eS).size;omega)) (fun _=>rfl) (uE (by omega))
   . rw[wrap64 (by omega) (by omega)];have UE:=hg (by omega);rw[if_neg (by rintro⟨h2,h3⟩;exact absurd h3 (Nat.not_lt.2 (Int.ofNat_le.1 (h1 h2))))] at UE;cases m with
     | zero=>omega
     | succ m=>exact F4 hs hlt H m (j+1) kd x (by omega) (by omega) (UE▸hx) h0 h5 hsz
   have Hf:kV (s.extract i s.size) gL eS=x:=by rw[<-hx,List.drop_eq_nil_of_le (by omega)];rfl
   refine⟨fun h1=>(H x Hf).1 (by rw[h1];rfl),fun h1=>?_⟩;have hpos:0<x.size:=by
    rcases Nat.eq_zero_or_pos x.size with h2|h2;exact absurd (h0 h2) h1;exact h2
   rw[h5 hpos,wrap64 (by omega) (by omega),show ((i:Int)+x.size)=((i+x.size:Nat):Int) from by omega];exact(H x Hf).2 hpos
end
theorem AE(R:ByteArray):∀(l:List ByteArray)(x:ByteArray),(kV R l x=x∨(kV R l x∈l/\ku R (kV R l x)=true))/\x.size<=(kV R l x).size/\∀ g∈l,ku R g=true->g.size<=(kV R l x).size
 | [],x=>⟨.inl rfl,Nat.le_refl _,by simp⟩
 | g :: l, x => by
   have ih:=AE R l (if ku R g=true/\x.size<g.size then g else x);simp only[kV];split at ih;rename_i h;rw[if_pos h];refine⟨.inr ?_,by omega,fun y hy hp=>?_⟩;rcases ih.1 with h1|h1;rw[h1];exact⟨by simp,h.1⟩;exact⟨by simp[h1.1],h1.2⟩;rcases List.mem_cons.1 hy with rfl|hy;exact ih.2.1;exact ih.2.2 y hy hp;rename_i h;rw[if_neg h];refine⟨?_,ih.2.1,fun y hy hp=>?_⟩;rcases ih.1 with h1|h1;exact .inl h1;exact .inr ⟨by simp[h1.1],h1.2⟩;rcases List.mem_cons.1 hy with rfl|hy;have:¬x.size<y.size:=fun h2=>h ⟨hp,h2⟩;have:=ih.2.1;omega;exact ih.2.2 y hy hp
theorem yc{l:List ByteArray}{t:ByteArray}:dm l t=true↔t∈l:=by
 unfold dm;rw[List.any_eq_true];exact⟨fun⟨x,h1,h2⟩=>by have:=of_decide_eq_true h2;subst this;exact h1,fun h=>⟨t,h,decide_eq_true rfl⟩⟩
theorem yd{s:ByteArray}{i:Nat}(hi:i<=s.size){g:ByteArray}:ku (s.extract i s.size) g=true↔i+g.size<=s.size/\s.extract i (i+g.size)=g:=by
 unfold ku;rw[Bool.and_eq_true,decide_eq_true_eq,decide_eq_true_eq,oQ hi (Nat.le_refl _)];constructor;rintro⟨h1,h2⟩;have h1':i+g.size<=s.size:=by omega
 refine⟨h1',?_⟩;rw[ByteArray.extract_extract] at h2;rw[show min (i+g.size) s.size=i+g.size by omega,Nat.add_zero] at h2;exact h2;rintro⟨h1,h2⟩;refine⟨by omega,?_⟩;rw[ByteArray.extract_extract,show min (i+g.size) s.size=i+g.size by omega,Nat.add_zero];exact h2
theorem X1{s:ByteArray}{i:Nat}(hi:i<s.size):lE s i 2=if(kV (s.extract i s.size) gL eS).size=0 then ⟨⟨5,eS,0,i⟩,(i+1:Nat),11,i⟩ else ⟨⟨5,kV (s.extract i s.size) gL eS,0,i⟩,(i+(kV (s.extract i s.size) gL eS).size:Nat),0,0⟩:=by
 obtain⟨h1,h2,h3⟩:=AE (s.extract i s.size) gL eS;generalize kV (s.extract i s.size) gL eS=r at h1 h2 h3;have hr:r.size≠0->r∈gL/\i+r.size<=s.size/\s.extract i (i+r.size)=r/\r.size<=2:=fun h=>by
  rcases h1 with h1|h1;rw[h1] at h;exact absurd rfl h;exact⟨h1.1,((yd (by omega)).1 h1.2).1,((yd (by omega)).1 h1.2).2,Ld _ h1.1⟩
 have key:∀ n,0<n->(i+n<=s.size/\dm gL (s.extract i (i+n))=true)->n<=r.size:=fun n hn h=>by
  have hsz:=oQ (s:=s) (a:=i) (e:=i+n) (by omega) h.1;have:=h3 _ (yc.1 h.2) ((yd (by omega)).2 (by rw[hsz,show i+n-i=n by omega];exact⟨h.1,rfl⟩));omega
 rw[lE];split;rename_i h;have h4:=key 2 (by omega) h;obtain⟨a1,a2,a3,a4⟩:=hr (by omega);have:r.size=2:=by omega
 rw[if_neg (by omega),<-a3,this];rw[oQ (by omega) (by omega),show i+2-i=2 by omega];rename_i h;rw[lE];split;rename_i h';have h4:=key 1 (by omega) h';obtain⟨a1,a2,a3,a4⟩:=hr (by omega);have:r.size≠2:=fun e=>h (by rw[show (1+1:Nat)=r.size by omega];exact⟨a2,yc.2 (by rw[a3];exact a1)⟩);have:r.size=1:=by omega
 rw[if_neg (by omega),<-a3,this];rw[oQ (by omega) (by omega),show i+1-i=1 by omega];rename_i h';rw[lE,if_pos];rcases Nat.eq_zero_or_pos r.size with h4|h4;exact h4;obtain⟨a1,a2,a3,a4⟩:=hr (by omega);have:r.size=1∨r.size=2:=by omega
 rcases this with e|e;exact absurd (by rw[show (0+1:Nat)=r.size by omega];exact⟨a2,yc.2 (by rw[a3];exact a1)⟩) h';exact absurd (by rw[show (1+1:Nat)=r.size by omega];exact⟨a2,yc.2 (by rw[a3];exact a1)⟩) h
theorem Dt(s:ByteArray)(i e:Nat):(s.extract i e).data.toList=(s.data.toList.drop i).take (e-i):=by
 rw[ByteArray.data_extract,Array.toList_extract]
theorem ext_cons{s:ByteArray}{i e:Nat}(h:i<e)(he:e<=s.size):∃ c,(s.extract i e).data.toList=c::(s.extract (i+1) e).data.toList/\bV s i=(c.toNat:Int):=by
 have hl : i < s.data.toList.length := by have : s.size = s.data.toList.length := by simp
                                          omega
 refine⟨s.data.toList[i],?_,?_⟩;rw[Dt,Dt,List.drop_eq_getElem_cons hl,show e-i=(e-(i+1))+1 by omega,List.take_succ_cons];unfold bV;rw[List.getD_eq_getElem?_getD,List.getElem?_eq_getElem hl];rfl
theorem Rl{c:Int}(h:di c=true):48<=c/\c<=57:=by
 unfold di at h;simpa only[Bool.and_eq_true,decide_eq_true_eq] using h
theorem F5{s : ByteArray}{e : Nat}(he : e ≤ s.size) : ∀(k i n : Nat), k = e - i → i ≤ e → (∀ j, i ≤ j → j < e → di (bV s j) = true) → n ≤ 1000000000000000 →
 x6 (s.extract i e).data.toList/\(1000000000000000<jU (s.extract i e).data.toList n->(mM s e i n).2=true)/\(jU (s.extract i e).data.toList n<=1000000000000000->mM s e i n=((jU (s.extract i e).data.toList n:Int),false))
 | k, i, n, hk, hi, hd, hn => by
   by_cases h:i<e
   . obtain⟨c,h1,h2⟩:=ext_cons h he;have hc:=Rl (hd i (Nat.le_refl _) h);have hg:=FX (s.extract (i+1) e).data.toList (n*10+(c.toNat-48));have hcast:((n:Int)*10+(bV s i-48))=((n*10+(c.toNat-48):Nat):Int):=by omega
     rw[h1,mM,dif_pos h,hcast];cases k with
     | zero=>omega
     | succ k =>
       by_cases hb:n*10+(c.toNat-48)<=1000000000000000;obtain⟨i1,i2,i3⟩:=F5 he k (i+1) (n*10+(c.toNat-48)) (by omega) (by omega) (fun j h3 h4=>hd j (by omega) h4) hb;refine⟨fun x hx=>?_,fun h3=>?_,fun h3=>?_⟩;rcases List.mem_cons.1 hx with rfl|hx;omega;exact i1 x hx;rw[if_neg (by omega)];exact i2 h3;rw[if_neg (by omega)];exact i3 h3;have CB:x6 (s.extract (i+1) e).data.toList:=(F5 he k (i+1) 0 (by omega) (by omega) (fun j h3 h4=>hd j (by omega) h4) (by omega)).1;refine⟨fun x hx=>?_,fun _=>?_,fun h3=>?_⟩;rcases List.mem_cons.1 hx with rfl|hx;omega;exact CB x hx;rw[if_pos (by omega)];have h3:jU (s.extract (i+1) e).data.toList (n*10+(c.toNat-48))<=1000000000000000:=h3;omega
   have e0:(s.extract i e).data.toList=[]:=by rw[Dt,show e-i=0 by omega,List.take_zero]
   rw[e0,mM,dif_neg h];exact⟨(by intro x hx;cases hx),fun h3=>by have h3:1000000000000000<n:=h3;omega,fun _=>rfl⟩
end Go.Proofs.YtaplgnhojknpiaaGreatDoor
