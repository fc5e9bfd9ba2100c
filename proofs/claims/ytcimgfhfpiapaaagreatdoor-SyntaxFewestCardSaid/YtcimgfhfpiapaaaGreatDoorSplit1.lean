/- Tokens: what the program and the reference ask of bytes. -/
import Derived.Test.YtcimgfhfpiapaaaGreatDoorProg
import Derived.Test.YtcimgfhfpiapaaaGreatDoorLoom4
import Derived.Test.YtcimgfhfpiapaaaGreatDoorShelf1
import Derived.Lib.AtoiAllCases
namespace Go.Proofs.YtcimgfhfpiapaaaGreatDoor
open Go.aU
set_option maxRecDepth 100000
abbrev nI(n:Int):A:=.p (.c (.int .i64 n))
abbrev Kq(n:Int):A:=.p (.c (.int .u8 n))
abbrev bB(b:Bool):A:=.p (.c (.bool b))
abbrev sS(s:ByteArray):A:=.p (.c (.str s))
abbrev nY(l:List ByteArray):A:=.p (.c (.rd .str l))
abbrev pL(f:Nat):A:=.p (.c (.func f []))
theorem wrap64{n:Int}(h1:-9223372036854775808<=n)(h2:n<=9223372036854775807):IntKind.i64.wrap n=n:=IntWalk.i64_in n ⟨h1,h2⟩
def fu(c:Int):Bool:=decide (97<=c)&&decide (c<=122)||decide (65<=c)&&decide (c<=90)
def ck(c:Int):Bool:=decide (48<=c)&&decide (c<=57)
def cu(c:Int):Bool:=fu c||ck c||decide (c=95)
def cD(c:Int):Bool:=decide (32<=c)&&decide (c<=126)&&!decide (c=34)
def fw(c:Int):Bool:=!decide (c=10)
theorem P7(c:Int):bt Tryz.prog 63 [Kq c] [] (bB (fu c)) []:=by
 refine bq (aQ:=[]) aK Tryz.func63 (by kernel_rfl) (ak:=0) rfl (by kernel_rfl) 100 ?_;apply of_eq (q:=let q2:=decide ((97:Int)<=c);let q3:=decide ((65:Int)<=c);let q1:=(bif q2 then decide (c<=122) else false)=false;(q2=true->q2=true)/\(q2=true->q2=true)/\(q1->q1)/\(q1->q1)/\(q1/\q3=true->q1/\q3=true)/\(q1->q1)/\(q1->q3=true->q1/\q3=true)/\(q1->q1)/\ax [vB (bif bif q2 then decide (c<=122) else false then true else bif q3 then decide (c<=90) else false)]=bB (fu c)/\([]:List Ob)=[]) (by kernel_rfl)
 try simp only[sL]
 first|rfl|exact⟨by omega,rfl⟩|exact ?a
def x7:cT:=jk (.int .u8) fun c=>(.t,bB (fu c),[])
theorem vf:bE Tryz.prog 63 x7:=eZ (by kernel_rfl) fun c _=>P7 c
theorem SK(c:Int):bt Tryz.prog 67 [Kq c] [] (bB (ck c)) []:=by
 refine bq (aQ:=[]) aK Tryz.func67 (by kernel_rfl) (ak:=0) rfl (by kernel_rfl) 100 ?_;apply of_eq (q:=let q1:=decide ((48:Int)<=c);(q1=true->q1=true)/\(q1=true->q1=true)/\ax [vB (bif q1 then decide (c<=57) else false)]=bB (ck c)/\([]:List Ob)=[]) (by kernel_rfl)
 try simp only[sL]
 first|rfl|exact⟨by omega,rfl⟩|exact ?a
def Bu:cT:=jk (.int .u8) fun c=>(.t,bB (ck c),[])
theorem x9:bE Tryz.prog 67 Bu:=eZ (by kernel_rfl) fun c _=>SK c
theorem Wn(c:Int):bt Tryz.prog 90 [Kq c] [] (bB (fw c)) []:=by
 refine bq (aQ:=[]) aK Tryz.func90 (by kernel_rfl) (ak:=0) rfl (by kernel_rfl) 100 ?_;apply of_eq (q:=ax [V.c (W.bool !decide (c=10))]=bB (fw c)/\([]:List Ob)=[]) (by kernel_rfl)
 try simp only[sL]
 first|rfl|exact⟨by omega,rfl⟩|exact ?a
def SL:cT:=jk (.int .u8) fun c=>(.t,bB (fw c),[])
theorem SN:bE Tryz.prog 90 SL:=eZ (by kernel_rfl) fun c _=>Wn c
theorem aaj(c:Int):bt Tryz.prog 93 [Kq c] [] (bB (cD c)) []:=by
 refine bq (aQ:=[]) aK Tryz.func93 (by kernel_rfl) (ak:=0) rfl (by kernel_rfl) 100 ?_;apply of_eq (q:=let q2:=decide ((32:Int)<=c);let q1:=(bif q2 then decide (c<=126) else false)=true;(q2=true->q2=true)/\(q2=true->q2=true)/\(q1->q1)/\(q1->q1)/\ax [vB (bif bif q2 then decide (c<=126) else false then !decide (c=34) else false)]=bB (cD c)/\([]:List Ob)=[]) (by kernel_rfl)
 try simp only[sL]
 first|rfl|exact⟨by omega,rfl⟩|exact ?a
def YL:cT:=jk (.int .u8) fun c=>(.t,bB (cD c),[])
theorem Wo:bE Tryz.prog 93 YL:=eZ (by kernel_rfl) fun c _=>aaj c
noncomputable def gWr:cg:=[(63,x7),(67,Bu)]
theorem SQ:bp Tryz.prog gWr:=aq vf (aq x9 aK)
theorem aak(c:Int):bt Tryz.prog 91 [Kq c] [] (bB (cu c)) []:=by
 refine bq (aQ:=[]) SQ Tryz.func91 (by kernel_rfl) (ak:=0) rfl (by kernel_rfl) 100 ?_;apply of_eq (q:=let q1:=(bif fu c then true else ck c)=false;(fu c=false->fu c=false)/\(fu c=false->fu c=false)/\(q1->q1)/\(q1->q1)/\ax [vB (bif bif fu c then true else ck c then true else decide (c=95))]=bB (cu c)/\([]:List Ob)=[]) (by kernel_rfl)
 try simp only[sL]
 first|rfl|exact⟨by omega,rfl⟩|exact ?a
def YM:cT:=jk (.int .u8) fun c=>(.t,bB (cu c),[])
theorem Wp:bE Tryz.prog 91 YM:=eZ (by kernel_rfl) fun c _=>aak c
def aN(p:Int->Bool)(s:ByteArray)(i:Nat):Nat:=if h:i<s.size/\p (aT s i)=true then aN p s (i+1) else i
termination_by s.size-i
theorem fD{p:Int->Bool}{s:ByteArray}{i:Nat}(h:i<s.size/\p (aT s i)=true):aN p s i=aN p s (i+1):=by rw[aN,dif_pos h]
theorem js{p:Int->Bool}{s:ByteArray}{i:Nat}(h:¬(i<s.size/\p (aT s i)=true)):aN p s i=i:=by rw[aN,dif_neg h]
theorem ig(p:Int->Bool)(s:ByteArray):∀(k i:Nat),k=s.size-i->i<=aN p s i/\(i<=s.size->aN p s i<=s.size)
 | k,i,hk=>by
   by_cases h:i<s.size/\p (aT s i)=true
   . rw[fD h];cases k with
     | zero=>omega
     | succ k =>
       have:=ig p s k (i+1) (by omega);omega
   rw[js h];omega
noncomputable def FB:cg:=[(90,SL)]
theorem Es:bp Tryz.prog FB:=aq SN aK
noncomputable def M8:bh:=dD Tryz.prog FB Tryz.f38 0 [([0,0,1],[0,1,2])]
theorem wo(s:ByteArray)(hs:s.size<=1000000):∀(k i:Nat),k=s.size-i->i<=s.size->aF M8 (aX (nI (aN fw s i)) []) [0,0,1] (fr [(0,sS s),(1,nI i),(2,pL 90)]) (.ofList [])
 | k,i,hk,hi=>by
   refine cj Es (by kernel_rfl) 100 ?_;apply of_eq (q:=let q2:=decide ((i:Int)<(s.size:Int));let q1:=q2=true;(q1->q1)/\(q1->q1)/\(q1->(0:Int)<=(i:Int)/\(i:Int)<(s.size:Int))/\(q1->q1)/\(q1->q1)/\(q1->q1)/\((bif q2 then fw (aT s i) else false)=true->aF M8 (aX (nI (↑(aN fw s i):Int)) []) [0,0,1] (fr [(0,aP (W.str s)),(1,nI (IntKind.i64.wrap ((i:Int)+1))),(2,aP (W.func 90 []))]) (af.ofList []))/\((bif q2 then fw (aT s i) else false)=false->ax [vI (i:Int)]=nI (↑(aN fw s i):Int)/\([]:List Ob)=[])) (by kernel_rfl)
   try simp only[sL]
   refine⟨fun h=>by omega,fun h=>?_,fun h=>?_⟩
   . have hi1:i<s.size:=by omega
     rw[wrap64 (by omega) (by omega),fD ⟨hi1,h.2⟩];cases k with
     | zero=>omega
     | succ k=>exact wo s hs k (i+1) (by omega) (by omega)
   rw[js (by rintro⟨h1,h2⟩;rw[h (by omega)] at h2;cases h2)];rfl
theorem SR(s:ByteArray)(i:Int)(h:s.size<=1000000/\0<=i/\i<=s.size):bt Tryz.prog 38 [sS s,nI i,pL 90] [] (nI (aN fw s i.toNat)) []:=by
 obtain⟨hs,h0,h1⟩:=h;obtain⟨n,rfl⟩:∃ n:Nat,i=n:=⟨i.toNat,by omega⟩;rw[Int.toNat_natCast];refine bq (aQ:=[([0,0,1],[0,1,2])]) Es Tryz.func38 (by kernel_rfl) (ak:=0) rfl (by kernel_rfl) 100 ?_;apply of_eq (q:=aF (dD Tryz.prog FB Tryz.f38 (0:Nat) [([0,0,1],[0,1,2])]) (aX (nI (↑(aN fw s n):Int)) []) [0,0,1] (fr [(0,aP (W.str s)),(1,nI (n:Int)),(2,aP (W.func 90 []))]) (af.ofList [])) (by kernel_rfl)
 try simp only[sL,Int.reduceEq,Int.reduceNe,Nat.reduceAdd]
 exact wo s hs _ n rfl (by omega)
noncomputable def Kr:cg:=[(91,YM)]
theorem Hf:bp Tryz.prog Kr:=aq Wp aK
noncomputable def SS:bh:=dD Tryz.prog Kr Tryz.f38 0 [([0,0,1],[0,1,2])]
theorem yJ(s:ByteArray)(hs:s.size<=1000000):∀(k i:Nat),k=s.size-i->i<=s.size->aF SS (aX (nI (aN cu s i)) []) [0,0,1] (fr [(0,sS s),(1,nI i),(2,pL 91)]) (.ofList [])
 | k,i,hk,hi=>by
   refine cj Hf (by kernel_rfl) 100 ?_;apply of_eq (q:=let q2:=decide ((i:Int)<(s.size:Int));let q1:=q2=true;(q1->q1)/\(q1->q1)/\(q1->(0:Int)<=(i:Int)/\(i:Int)<(s.size:Int))/\(q1->q1)/\(q1->q1)/\(q1->q1)/\((bif q2 then cu (aT s i) else false)=true->aF SS (aX (nI (↑(aN cu s i):Int)) []) [0,0,1] (fr [(0,aP (W.str s)),(1,nI (IntKind.i64.wrap ((i:Int)+1))),(2,aP (W.func 91 []))]) (af.ofList []))/\((bif q2 then cu (aT s i) else false)=false->ax [vI (i:Int)]=nI (↑(aN cu s i):Int)/\([]:List Ob)=[])) (by kernel_rfl)
   try simp only[sL]
   refine⟨fun h=>by omega,fun h=>?_,fun h=>?_⟩
   . have hi1:i<s.size:=by omega
     rw[wrap64 (by omega) (by omega),fD ⟨hi1,h.2⟩];cases k with
     | zero=>omega
     | succ k=>exact yJ s hs k (i+1) (by omega) (by omega)
   rw[js (by rintro⟨h1,h2⟩;rw[h (by omega)] at h2;cases h2)];rfl
theorem Wq(s:ByteArray)(i:Int)(h:s.size<=1000000/\0<=i/\i<=s.size):bt Tryz.prog 38 [sS s,nI i,pL 91] [] (nI (aN cu s i.toNat)) []:=by
 obtain⟨hs,h0,h1⟩:=h;obtain⟨n,rfl⟩:∃ n:Nat,i=n:=⟨i.toNat,by omega⟩;rw[Int.toNat_natCast];refine bq (aQ:=[([0,0,1],[0,1,2])]) Hf Tryz.func38 (by kernel_rfl) (ak:=0) rfl (by kernel_rfl) 100 ?_;apply of_eq (q:=aF (dD Tryz.prog Kr Tryz.f38 (0:Nat) [([0,0,1],[0,1,2])]) (aX (nI (↑(aN cu s n):Int)) []) [0,0,1] (fr [(0,aP (W.str s)),(1,nI (n:Int)),(2,aP (W.func 91 []))]) (af.ofList [])) (by kernel_rfl)
 try simp only[sL,Int.reduceEq,Int.reduceNe,Nat.reduceAdd]
 exact yJ s hs _ n rfl (by omega)
noncomputable def Dm:cg:=[(67,Bu)]
theorem Cy:bp Tryz.prog Dm:=aq x9 aK
noncomputable def Ks:bh:=dD Tryz.prog Dm Tryz.f38 0 [([0,0,1],[0,1,2])]
theorem uD(s:ByteArray)(hs:s.size<=1000000):∀(k i:Nat),k=s.size-i->i<=s.size->aF Ks (aX (nI (aN ck s i)) []) [0,0,1] (fr [(0,sS s),(1,nI i),(2,pL 67)]) (.ofList [])
 | k,i,hk,hi=>by
   refine cj Cy (by kernel_rfl) 100 ?_;apply of_eq (q:=let q2:=decide ((i:Int)<(s.size:Int));let q1:=q2=true;(q1->q1)/\(q1->q1)/\(q1->(0:Int)<=(i:Int)/\(i:Int)<(s.size:Int))/\(q1->q1)/\(q1->q1)/\(q1->q1)/\((bif q2 then ck (aT s i) else false)=true->aF Ks (aX (nI (↑(aN ck s i):Int)) []) [0,0,1] (fr [(0,aP (W.str s)),(1,nI (IntKind.i64.wrap ((i:Int)+1))),(2,aP (W.func 67 []))]) (af.ofList []))/\((bif q2 then ck (aT s i) else false)=false->ax [vI (i:Int)]=nI (↑(aN ck s i):Int)/\([]:List Ob)=[])) (by kernel_rfl)
   try simp only[sL]
   refine⟨fun h=>by omega,fun h=>?_,fun h=>?_⟩
   . have hi1:i<s.size:=by omega
     rw[wrap64 (by omega) (by omega),fD ⟨hi1,h.2⟩];cases k with
     | zero=>omega
     | succ k=>exact uD s hs k (i+1) (by omega) (by omega)
   rw[js (by rintro⟨h1,h2⟩;rw[h (by omega)] at h2;cases h2)];rfl
theorem P8(s:ByteArray)(i:Int)(h:s.size<=1000000/\0<=i/\i<=s.size):bt Tryz.prog 38 [sS s,nI i,pL 67] [] (nI (aN ck s i.toNat)) []:=by
 obtain⟨hs,h0,h1⟩:=h;obtain⟨n,rfl⟩:∃ n:Nat,i=n:=⟨i.toNat,by omega⟩;rw[Int.toNat_natCast];refine bq (aQ:=[([0,0,1],[0,1,2])]) Cy Tryz.func38 (by kernel_rfl) (ak:=0) rfl (by kernel_rfl) 100 ?_;apply of_eq (q:=aF (dD Tryz.prog Dm Tryz.f38 (0:Nat) [([0,0,1],[0,1,2])]) (aX (nI (↑(aN ck s n):Int)) []) [0,0,1] (fr [(0,aP (W.str s)),(1,nI (n:Int)),(2,aP (W.func 67 []))]) (af.ofList [])) (by kernel_rfl)
 try simp only[sL,Int.reduceEq,Int.reduceNe,Nat.reduceAdd]
 exact uD s hs _ n rfl (by omega)
noncomputable def Kt:cg:=[(93,YL)]
theorem Hg:bp Tryz.prog Kt:=aq Wo aK
noncomputable def SV:bh:=dD Tryz.prog Kt Tryz.f38 0 [([0,0,1],[0,1,2])]
theorem yK(s:ByteArray)(hs:s.size<=1000000):∀(k i:Nat),k=s.size-i->i<=s.size->aF SV (aX (nI (aN cD s i)) []) [0,0,1] (fr [(0,sS s),(1,nI i),(2,pL 93)]) (.ofList [])
 | k,i,hk,hi=>by
   refine cj Hg (by kernel_rfl) 100 ?_;apply of_eq (q:=let q2:=decide ((i:Int)<(s.size:Int));let q1:=q2=true;(q1->q1)/\(q1->q1)/\(q1->(0:Int)<=(i:Int)/\(i:Int)<(s.size:Int))/\(q1->q1)/\(q1->q1)/\(q1->q1)/\((bif q2 then cD (aT s i) else false)=true->aF SV (aX (nI (↑(aN cD s i):Int)) []) [0,0,1] (fr [(0,aP (W.str s)),(1,nI (IntKind.i64.wrap ((i:Int)+1))),(2,aP (W.func 93 []))]) (af.ofList []))/\((bif q2 then cD (aT s i) else false)=false->ax [vI (i:Int)]=nI (↑(aN cD s i):Int)/\([]:List Ob)=[])) (by kernel_rfl)
   try simp only[sL]
   refine⟨fun h=>by omega,fun h=>?_,fun h=>?_⟩
   . have hi1:i<s.size:=by omega
     rw[wrap64 (by omega) (by omega),fD ⟨hi1,h.2⟩];cases k with
     | zero=>omega
     | succ k=>exact yK s hs k (i+1) (by omega) (by omega)
   rw[js (by rintro⟨h1,h2⟩;rw[h (by omega)] at h2;cases h2)];rfl
theorem Wr(s:ByteArray)(i:Int)(h:s.size<=1000000/\0<=i/\i<=s.size):bt Tryz.prog 38 [sS s,nI i,pL 93] [] (nI (aN cD s i.toNat)) []:=by
 obtain⟨hs,h0,h1⟩:=h;obtain⟨n,rfl⟩:∃ n:Nat,i=n:=⟨i.toNat,by omega⟩;rw[Int.toNat_natCast];refine bq (aQ:=[([0,0,1],[0,1,2])]) Hg Tryz.func38 (by kernel_rfl) (ak:=0) rfl (by kernel_rfl) 100 ?_;apply of_eq (q:=aF (dD Tryz.prog Kt Tryz.f38 (0:Nat) [([0,0,1],[0,1,2])]) (aX (nI (↑(aN cD s n):Int)) []) [0,0,1] (fr [(0,aP (W.str s)),(1,nI (n:Int)),(2,aP (W.func 93 []))]) (af.ofList [])) (by kernel_rfl)
 try simp only[sL,Int.reduceEq,Int.reduceNe,Nat.reduceAdd]
 exact yK s hs _ n rfl (by omega)
def P9:cT:={ cB:=[],f:=fun args aj=>match args,aj with
 | [x,y,.p (.c (.func f []))],[]=>match wh .str x,wh (.int .i64) y with
   | some s,some i =>
     bif Nat.beq f 90 then some (.p (ByteArray.size s<=1000000/\0<=(i:Int)/\(i:Int)<=ByteArray.size s),nI (aN fw s (Int.toNat i)),[]) else
     bif Nat.beq f 91 then some (.p (ByteArray.size s<=1000000/\0<=(i:Int)/\(i:Int)<=ByteArray.size s),nI (aN cu s (Int.toNat i)),[]) else
     bif Nat.beq f 67 then some (.p (ByteArray.size s<=1000000/\0<=(i:Int)/\(i:Int)<=ByteArray.size s),nI (aN ck s (Int.toNat i)),[]) else
     bif Nat.beq f 93 then some (.p (ByteArray.size s<=1000000/\0<=(i:Int)/\(i:Int)<=ByteArray.size s),nI (aN cD s (Int.toNat i)),[]) else none
   | _,_=>none
 | _,_=>none }
theorem Ws:bE Tryz.prog 38 P9:=by
 refine⟨by kernel_rfl,fun args aj c r aY e hc=>?_⟩;simp only[P9] at e;split at e;rename_i x y f;split at e
 . rename_i s i hx hy
   have key:∀(g:Nat)(p:Int->Bool),(∀(s:ByteArray)(i:Int),(s.size<=1000000/\0<=i/\i<=s.size)->bt Tryz.prog 38 [sS s,nI i,pL g] [] (nI (aN p s i.toNat)) [])->f=g->
    some ((Cd.p (ByteArray.size s<=1000000/\0<=(i:Int)/\(i:Int)<=ByteArray.size s)),nI (aN p s (Int.toNat i)),([]:List Ob))=some (c,r,aY)->bt Tryz.prog 38 [x,y,pL f] [] r aY:=by
    rintro g p hg rfl e;cases e;exact bt.args (hg s i hc) fun η Z vs hv=>match vs,hv with | [_,_,_],⟨a,b,d⟩=>⟨kA hx a,kA hy b,d⟩
   cases h1:Nat.beq f 90 with
   | true=>rw[h1] at e;exact key _ _ SR (Nat.eq_of_beq_eq_true h1) e
   | false =>
   rw[h1] at e;cases h2:Nat.beq f 91 with
   | true=>rw[h2] at e;exact key _ _ Wq (Nat.eq_of_beq_eq_true h2) e
   | false =>
   rw[h2] at e;cases h3:Nat.beq f 67 with
   | true=>rw[h3] at e;exact key _ _ P8 (Nat.eq_of_beq_eq_true h3) e
   | false =>
   rw[h3] at e;cases h4:Nat.beq f 93 with
   | true=>rw[h4] at e;exact key _ _ Wr (Nat.eq_of_beq_eq_true h4) e
   | false=>rw[h4] at e;cases e
 cases e;cases e
abbrev dS:D:=.sl .str
def pN:List ByteArray:=[⟨#[97,110,100]⟩,⟨#[100,101,102]⟩,⟨#[101,108,115,101]⟩,⟨#[102,97,108,115,101]⟩,⟨#[102,111,114]⟩,⟨#[105,102]⟩,⟨#[105,110]⟩,⟨#[110,111,116]⟩,⟨#[111,114]⟩,⟨#[112,114,105,110,116]⟩,⟨#[114,101,116,117,114,110]⟩,⟨#[116,114,117,101]⟩,⟨#[119,104,105,108,101]⟩]
def ep:List ByteArray:=[⟨#[40]⟩,⟨#[41]⟩,⟨#[91]⟩,⟨#[93]⟩,⟨#[123]⟩,⟨#[125]⟩,⟨#[44]⟩,⟨#[59]⟩,⟨#[61]⟩,⟨#[61,61]⟩,⟨#[33,61]⟩,⟨#[60]⟩,⟨#[60,61]⟩,⟨#[62]⟩,⟨#[62,61]⟩,⟨#[43]⟩,⟨#[45]⟩,⟨#[42]⟩,⟨#[47]⟩,⟨#[37]⟩,⟨#[94]⟩]
theorem aal:bt Tryz.prog 65 [] [] (nY pN) []:=by
 refine lF (aQ:=[]) (eV:=[]) (fz:=[some (.sl .str)]) aK Tryz.func65 (by kernel_rfl) 0 (by kernel_rfl) 100 ?_;apply of_eq (q:=let q1:=(101:UInt8);(0:Nat)+13<=13/\ax [V.c (W.rd D.str (List.take (13:Nat) (List.drop (0:Nat) [ByteArray.mk #[(97:UInt8),(110:UInt8),(100:UInt8)],ByteArray.mk #[(100:UInt8),q1,(102:UInt8)],ByteArray.mk #[q1,(108:UInt8),(115:UInt8),q1],ByteArray.mk #[(102:UInt8),(97:UInt8),(108:UInt8),(115:UInt8),q1],ByteArray.mk #[(102:UInt8),(111:UInt8),(114:UInt8)],ByteArray.mk #[(105:UInt8),(102:UInt8)],ByteArray.mk #[(105:UInt8),(110:UInt8)],ByteArray.mk #[(110:UInt8),(111:UInt8),(116:UInt8)],ByteArray.mk #[(111:UInt8),(114:UInt8)],ByteArray.mk #[(112:UInt8),(114:UInt8),(105:UInt8),(110:UInt8),(116:UInt8)],ByteArray.mk #[(114:UInt8),q1,(116:UInt8),(117:UInt8),(114:UInt8),(110:UInt8)],ByteArray.mk #[(116:UInt8),(114:UInt8),(117:UInt8),q1],ByteArray.mk #[(119:UInt8),(104:UInt8),(105:UInt8),(108:UInt8),q1]])))]=nY pN/\([]:List Ob)=[]) (by kernel_rfl)
 try simp only[sL]
 rfl
def Qa:cT:=Fw (.t,nY pN,[])
theorem Ku:bE Tryz.prog 65 Qa:=Bm (by kernel_rfl) fun _=>aal
theorem aam:bt Tryz.prog 94 [] [] (nY ep) []:=by
 refine lF (aQ:=[]) (eV:=[]) (fz:=[some (.sl .str)]) aK Tryz.func94 (by kernel_rfl) 0 (by kernel_rfl) 100 ?_;apply of_eq (q:=(0:Nat)+21<=21/\ax [V.c (W.rd D.str (List.take (21:Nat) (List.drop (0:Nat) [ByteArray.mk #[(40:UInt8)],ByteArray.mk #[(41:UInt8)],ByteArray.mk #[(91:UInt8)],ByteArray.mk #[(93:UInt8)],ByteArray.mk #[(123:UInt8)],ByteArray.mk #[(125:UInt8)],ByteArray.mk #[(44:UInt8)],ByteArray.mk #[(59:UInt8)],ByteArray.mk #[(61:UInt8)],ByteArray.mk #[(61:UInt8),(61:UInt8)],ByteArray.mk #[(33:UInt8),(61:UInt8)],ByteArray.mk #[(60:UInt8)],ByteArray.mk #[(60:UInt8),(61:UInt8)],ByteArray.mk #[(62:UInt8)],ByteArray.mk #[(62:UInt8),(61:UInt8)],ByteArray.mk #[(43:UInt8)],ByteArray.mk #[(45:UInt8)],ByteArray.mk #[(42:UInt8)],ByteArray.mk #[(47:UInt8)],ByteArray.mk #[(37:UInt8)],ByteArray.mk #[(94:UInt8)]])))]=nY ep/\([]:List Ob)=[]) (by kernel_rfl)
 try simp only[sL]
 rfl
def YN:cT:=Fw (.t,nY ep,[])
theorem Wt:bE Tryz.prog 94 YN:=Bm (by kernel_rfl) fun _=>aam
def eB(l:List ByteArray)(t:ByteArray):Bool:=l.any fun x=>decide (x=t)
def tB:List ByteArray->ByteArray->Int->Int
 | [],_,_=>-1
 | x::l,t,i=>if x=t then i else tB l t (i+1)
theorem Wu(l:List ByteArray)(t:ByteArray):∀ i:Int,0<=i->decide (0<=tB l t i)=eB l t:=by
 induction l with
 | nil=>intro i _;rfl
 | cons x l ih =>
   intro i h;unfold tB eB;by_cases hx:x=t;rw[if_pos hx,List.any_cons,decide_eq_true hx,Bool.true_or,decide_eq_true h];rw[if_neg hx,List.any_cons,decide_eq_false hx,Bool.false_or];exact ih (i+1) (by omega)
noncomputable def sIdx:bh:=dD Tryz.prog [] Tryz.f87 0 [([0,1,0,1],[0,1,7,8])]
theorem Kv(l:List ByteArray)(t:ByteArray)(hl:l.length<=1000000):∀(k i:Nat),k=l.length-i->i<=l.length->aF sIdx (aX (nI (tB (l.drop i) t i)) []) [0,1,0,1] (fr [(0,nY l),(1,sS t),(7,nI l.length),(8,nI i)]) (.ofList [])
 | k,i,hk,hi=>by
   refine cj aK (by kernel_rfl) 100 ?_;apply of_eq (q:=let q1:=(tB (List.drop i l) t (i:Int));(decide ((i:Int)<(l.length:Int))=true->((0:Int)<=(i:Int)/\(i:Int)<(l.length:Int))/\i<l.length/\(decide (t=l.getD i (ByteArray.mk #[]))=true->ax [vI (i:Int)]=nI q1/\([]:List Ob)=[])/\(decide (t=l.getD i (ByteArray.mk #[]))=false->aF sIdx (aX (nI q1) []) [0,1,0,1] (fr [(0,aP (W.rd D.str l)),(1,aP (W.str t)),(7,nI (l.length:Int)),(8,nI (IntKind.i64.wrap ((i:Int)+1)))]) (af.ofList [])))/\(decide ((i:Int)<(l.length:Int))=false->ax [vI (-1)]=nI q1/\([]:List Ob)=[])) (by kernel_rfl)
   try simp only[sL]
   refine⟨fun h=>⟨by omega,by omega,fun h1=>?_,fun h1=>?_⟩,fun h=>?_⟩;rw[List.drop_eq_getElem_cons (by omega),tB,if_pos (by rw[h1,List.getD_eq_getElem?_getD,List.getElem?_eq_getElem (by omega)];rfl)];rfl
   . rw[wrap64 (by omega) (by omega),List.drop_eq_getElem_cons (by omega),tB,if_neg (by rintro rfl;exact h1 (by rw[List.getD_eq_getElem?_getD,List.getElem?_eq_getElem (by omega)];rfl))];cases k with
     | zero=>omega
     | succ k=>exact Kv l t hl k (i+1) (by omega) (by omega)
   rw[List.drop_eq_nil_of_le (by omega)];rfl
theorem aan(l:List ByteArray)(t:ByteArray)(hl:l.length<=1000000):bt Tryz.prog 87 [nY l,sS t] [] (nI (tB l t 0)) []:=by
 refine bq (aQ:=[([0,1,0,1],[0,1,7,8])]) aK Tryz.func87 (by kernel_rfl) (ak:=0) rfl (by kernel_rfl) 100 ?_;apply of_eq (q:=aF (dD Tryz.prog [] Tryz.f87 (0:Nat) [([0,1,0,1],[0,1,7,8])]) (aX (nI (tB l t (0:Int))) []) [0,1,0,1] (fr [(0,aP (W.rd D.str l)),(1,aP (W.str t)),(7,nI (l.length:Int)),(8,nI (0))]) (af.ofList [])) (by kernel_rfl)
 try simp only[sL,Int.reduceEq,Int.reduceNe,Nat.reduceAdd]
 have:=Kv l t hl _ 0 rfl (by omega);rw[List.drop_zero] at this;exact this
def YO:cT:=xY dS .str fun l t=>(.p (List.length (α:=ByteArray) l<=1000000),nI (tB l t 0),[])
theorem Wv:bE Tryz.prog 87 YO:=qx (by kernel_rfl) fun l t h=>aan l t h
noncomputable def gCt:cg:=[(87,YO)]
theorem gCt_ok:bp Tryz.prog gCt:=aq Wv aK
theorem Ww(l:List ByteArray)(t:ByteArray)(hl:l.length<=1000000):bt Tryz.prog 64 [nY l,sS t] [] (bB (eB l t)) []:=by
 refine bq (aQ:=[]) gCt_ok Tryz.func64 (by kernel_rfl) (ak:=0) rfl (by kernel_rfl) 100 ?_;apply of_eq (q:=l.length<=1000000/\ax [vB (decide ((0:Int)<=tB l t (0:Int)))]=bB (eB l t)/\([]:List Ob)=[]) (by kernel_rfl)
 try simp only[sL]
 rw[<-Wu l t 0 (by omega)];exact⟨hl,rfl⟩
def Et:cT:=xY dS .str fun l t=>(.p (List.length (α:=ByteArray) l<=1000000),bB (eB l t),[])
theorem Av:bE Tryz.prog 64 Et:=qx (by kernel_rfl) fun l t h=>Ww l t h
def j8(s t:ByteArray):Bool:=decide (t.size<=s.size)&&decide (s.extract 0 t.size=t)
theorem SW(s t:ByteArray):bt Tryz.prog 110 [sS s,sS t] [] (bB (j8 s t)) []:=by
 refine bq (aQ:=[]) aK Tryz.func110 (by kernel_rfl) (ak:=0) rfl (by kernel_rfl) 100 ?_;apply of_eq (q:=let q1:=decide ((t.size:Int)<=(s.size:Int))=true;(q1->q1)/\(q1->q1)/\(q1->q1)/\(q1->(0:Int)<=0/\(0:Int)<=(t.size:Int)/\(t.size:Int)<=(s.size:Int))/\(q1->q1)/\(q1->q1)/\(q1->q1)/\ax [vB (bif decide ((t.size:Int)<=(s.size:Int)) then decide (s.extract (0:Nat) t.size=t) else false)]=bB (j8 s t)/\([]:List Ob)=[]) (by kernel_rfl)
 try simp only[sL]
 refine⟨fun h=>by omega,?_⟩;unfold j8;rw[show decide ((t.size:Int)<=s.size)=decide (t.size<=s.size) from by rw[decide_eq_decide];omega];rfl
def M9:cT:=xY .str .str fun s t=>(.t,bB (j8 s t),[])
theorem Qb:bE Tryz.prog 110 M9:=qx (by kernel_rfl) fun s t _=>SW s t
noncomputable def gPf:cg:=[(110,M9)]
theorem gPf_ok:bp Tryz.prog gPf:=aq Qb aK
theorem Wx(s t:ByteArray):bt Tryz.prog 95 [sS s,sS t] [] (bB (j8 s t)) []:=by
 refine bq (aQ:=[]) gPf_ok Tryz.func95 (by kernel_rfl) (ak:=0) rfl (by kernel_rfl) 100 ?_;apply of_eq (q:=ax [vB (j8 s t)]=bB (j8 s t)/\([]:List Ob)=[]) (by kernel_rfl)
 try simp only[sL]
 rfl
def SX:cT:=xY .str .str fun s t=>(.t,bB (j8 s t),[])
theorem SY:bE Tryz.prog 95 SX:=qx (by kernel_rfl) fun s t _=>Wx s t
structure Tok where
 kind:Int
 text:ByteArray
 n:Int
 at_:Int
deriving DecidableEq
def Tok.nZ(t:Tok):List PV:=[.int t.kind,.str t.text,.int t.n,.int t.at_]
def aB(l:List Tok):List PV:=l.flatMap Tok.nZ
abbrev vg(l:List Tok):A:=.p (.c (.rs 4 (aB l)))
theorem lH(l:List Tok):(aB l).length=l.length*4:=by
 induction l with
 | nil=>rfl
 | cons t l ih=>rw[aB,List.flatMap_cons,List.length_append];show 4+(aB l).length=_;rw[ih,List.length_cons];omega
theorem Qc(l:List Tok):∀ i,(aB l).drop (i*4)=aB (l.drop i):=by
 induction l with
 | nil=>intro i;simp[aB]
 | cons t l ih =>
   intro i;cases i with
   | zero=>simp
   | succ i =>
     rw[show (i+1)*4=4+i*4 by omega,<-List.drop_drop];exact ih i
theorem mU{l:List Tok}{i:Nat}(h:i<l.length)(j:Nat)(hj:j<4):(aB l).getD (i*4+j) (.bool false)=(l[i].nZ).getD j (.bool false):=by
 have e:(aB l).getD (i*4+j) (.bool false)=((aB l).drop (i*4)).getD j (.bool false):=by
  rw[List.getD_eq_getElem?_getD,List.getD_eq_getElem?_getD,List.getElem?_drop]
 rw[e,Qc,List.drop_eq_getElem_cons h,aB,List.flatMap_cons,List.getD_eq_getElem?_getD,List.getElem?_append_left (by exact hj),<-List.getD_eq_getElem?_getD]
abbrev eS:ByteArray:=⟨#[]⟩
abbrev obT(k:Int)(x:ByteArray)(n a:Int):Ob:=⟨62,[.c (.int .i64 k),.c (.str x),.c (.int .i64 n),.c (.int .i64 a)]⟩
abbrev mV(e a:Int):Ob:=⟨28,[.c (.int .i64 e),.c (.int .i64 a)]⟩
structure Na where
 t:Tok
 e:Int
 er:Int
 ea:Int
def j9(s:ByteArray)(a e:Nat):Na :=
 if eB pN (s.extract a e)=true then ⟨⟨2,s.extract a e,0,a⟩,e,0,0⟩ else
 if 20<(s.extract a e).size then ⟨⟨1,s.extract a e,0,a⟩,e,4,a⟩ else ⟨⟨1,s.extract a e,0,a⟩,e,0,0⟩
def jY(s:ByteArray)(e i:Nat)(n:Int):Int×Bool :=
 if h:i<e then(if 1000000000000000<n*10+(aT s i-48) then(n*10+(aT s i-48),true) else jY s e (i+1) (n*10+(aT s i-48))) else(n,false)
termination_by e-i
def mE(s:ByteArray)(a e:Nat):Na :=
 if aT s a=48/\a+1<e then ⟨⟨3,eS,0,a⟩,e,11,a⟩ else
 if(jY s e a 0).2=true then ⟨⟨3,eS,(jY s e a 0).1,a⟩,e,2,a⟩ else ⟨⟨3,eS,(jY s e a 0).1,a⟩,e,0,0⟩
def mF(s:ByteArray)(a e:Nat):Na :=
 if e=s.size∨aT s e≠34 then ⟨⟨0,eS,0,a⟩,e,11,e⟩ else
 if 200<(s.extract (a+1) e).size then ⟨⟨4,s.extract (a+1) e,0,a⟩,e,4,a⟩ else ⟨⟨4,s.extract (a+1) e,0,a⟩,(e+1:Nat),0,0⟩
def mW(s:ByteArray)(a:Nat):Nat->Na
 | 0=>⟨⟨5,eS,0,a⟩,(a+1:Nat),11,a⟩
 | n+1=>if a+(n+1)<=s.size/\eB ep (s.extract a (a+(n+1)))=true then ⟨⟨5,s.extract a (a+(n+1)),0,a⟩,(a+(n+1):Nat),0,0⟩ else mW s a n
def bN(s:ByteArray)(a:Nat):Na :=
 if fu (aT s a)=true then j9 s a (aN cu s (a+1)) else
 if ck (aT s a)=true then mE s a (aN ck s (a+1)) else
 if aT s a=34 then mF s a (aN cD s (a+1)) else mW s a 2
theorem oD{s:ByteArray}{a e:Nat}(h:a<=e)(he:e<=s.size):(s.extract a e).size=e-a:=by
 rw[ByteArray.size_extract];omega
def bK(s:ByteArray):Nat->Nat->List Tok×(Int×Int)
 | 0,_=>([],0,0)
 | k+1,i=>if i<s.size then(
  if aT s i=32∨aT s i=10 then bK s k (i+1) else
  if aT s i=35 then bK s k (aN fw s i) else
  if(bN s i).er≠0 then([],(bN s i).er,(bN s i).ea) else((bN s i).t::(bK s k (bN s i).e.toNat).1,(bK s k (bN s i).e.toNat).2)) else([],0,0)
abbrev Cz(l:List Tok):Ob:=⟨62,[.a 0 .pv (aB l)]⟩
abbrev fV(e a:Int):V:=.agg [.int .i64 e,.int .i64 a]
abbrev Eu(k n:Nat):V:=.c (.sl k 0 n 4)
theorem SZ{acc:List Tok}{t:Tok}:aB acc++[PV.int t.kind,PV.str t.text,PV.int t.n,PV.int t.at_]=aB (acc++[t]):=by
 unfold aB;rw[List.flatMap_append];simp[Tok.nZ]
theorem Kw{s:ByteArray}{a:Nat}:∀{n:Nat},(mW s a n).er=0->∃ e:Nat,(mW s a n).e=e/\a<e/\e<=s.size
 | 0,h=>by cases h
 | n + 1, h => by
   rw[mW] at h ⊢;split at h;rename_i h1;rw[if_pos h1];exact⟨_,rfl,by omega,h1.1⟩;rename_i h1;rw[if_neg h1];exact Kw h
theorem Wy{s:ByteArray}{a:Nat}(ha:a<s.size)(h:(bN s a).er=0):∃ e:Nat,(bN s a).e=e/\a<e/\e<=s.size:=by
 have g1:=ig cu s _ (a+1) rfl;have g2:=ig ck s _ (a+1) rfl;have g3:=ig cD s _ (a+1) rfl;unfold bN at h ⊢;split at h;rename_i h1;rw[if_pos h1];refine⟨aN cu s (a+1),?_,by omega,g1.2 (by omega)⟩;unfold j9;split;rfl;split<;>rfl;rename_i h1;rw[if_neg h1];split at h;rename_i h2;rw[if_pos h2];refine⟨aN ck s (a+1),?_,by omega,g2.2 (by omega)⟩;unfold mE;split;rfl;split<;>rfl;rename_i h2;rw[if_neg h2];split at h;rename_i h3;rw[if_pos h3];unfold mF at h ⊢;split at h;cases h;rename_i h4;rw[if_neg h4];have:aN cD s (a+1)≠s.size:=fun e=>h4 (.inl e);have:=g3.2 (by omega);refine⟨aN cD s (a+1)+1,?_,by omega,by omega⟩;split at h;cases h;rename_i h5;rw[if_neg h5];rename_i h3;rw[if_neg h3];exact Kw h
def cQ(s:ByteArray):List Tok×(Int×Int):=if 20000<s.size then([],4,20000) else bK s s.size 0
end Go.Proofs.YtcimgfhfpiapaaaGreatDoor
namespace Go.Proofs.YtcimgfhfpiapaaaGreatDoor
open Go.aU Go.RowKit
set_option maxRecDepth 100000
def jI:List UInt8->Nat->Nat
 | [],n=>n
 | c::l,n=>jI l (n*10+(c.toNat-48))
def yc(l:List UInt8):Prop:=∀ c∈l,48<=c.toNat/\c.toNat<=57
theorem FC:∀(l:List UInt8)(n:Nat),n<=jI l n
 | [],n=>Nat.le_refl _
 | c::l,n=>by
   have:=FC l (n*10+(c.toNat-48));simp only[jI];omega
theorem Hj:∀(l:List UInt8)(n:Nat),yc l->n<18446744073709551616->Lib.parseUint10 n l=if jI l n<18446744073709551616 then .ok (jI l n) else .range
 | [],n,_,h=>by
   rw[show jI [] n=n from rfl,if_pos h];rfl
 | c :: l, n, hd, h => by
   have hc:=hd c (by simp);have hg:=FC l (n*10+(c.toNat-48));rw[show jI (c::l) n=jI l (n*10+(c.toNat-48)) from rfl];simp only[Lib.parseUint10];rw[if_pos hc];split;rw[if_neg (by omega)];split;rw[if_neg (by omega)];exact Hj l _ (fun x hx=>hd x (by simp[hx])) (by omega)
theorem Wz{l:List UInt8}(hd:yc l)(h0:l≠[]):Lib.atoiAll l=if jI l 0<9223372036854775808 then .ok (jI l 0:Int) else .range:=by
 cases l with
 | nil=>exact absurd rfl h0
 | cons c r =>
   have hc:=hd c (by simp);rw[Lib.atoiAll_plain c r (by omega) (by omega)];unfold Lib.parseMag;rw[if_neg (by simp),Hj _ _ hd (by omega)];split;simp only[Lib.signless];split;rw[if_neg (by omega)];rw[if_pos (by omega)];simp only[Lib.signless];rw[if_neg (by omega)]
theorem aao{l:List UInt8}(hd:yc l)(h0:l≠[]):Lib.atoiSat l=9223372036854775807:=by
 cases l with
 | nil=>exact absurd rfl h0
 | cons c r=>exact Lib.atoiSat_other c r (by have:=hd c (by simp);omega)
def tC(s:ByteArray):Int:=if jI s.data.toList 0<9223372036854775808 then(jI s.data.toList 0:Int) else 9223372036854775807
def oT(s:ByteArray):Bool:=decide (9223372036854775808<=jI s.data.toList 0)
theorem Kx{P:Program}{f:FuncId}{args:List A}{r:A}(h:∀(base:Nat) (η:Eta) (Z:ar) (w:World) vs,St base η Z (.ofList []) w->aL (cw η Z) args vs->fW P Z->Calls P f vs.toArray w fun e w'=>∃ u,e=.returned u/\cw η Z r u/\Below w.heap.size w w'):bt P f args [] r []:=by
 intro base η Z w vs R hvs hK;refine(callsIn_wide.2 (h base η Z w vs R hvs hK)).mono ?_;rintro e w' ⟨u,rfl,hu,hB⟩;have hstep:Step η Z (.ofList []) w η Z (.ofList []) w':=⟨hB.os,hB.tape,hB.output,hB.size,fun b hb _=>hB.block b hb,fun b h=>.inl h,ar.le.refl _,fun b c h=>.inl h,rfl⟩;refine⟨u,η,Z,rfl,⟨fun _ _ _ h=>h,⟨fun n o p h=>by rw[af.bG] at h;simp at h,fun n o h=>by rw[af.bG] at h;simp at h,fun n o h=>by rw[af.bG] at h;simp at h,fun n n' o o' p p' b h=>by rw[af.bG] at h;simp at h,fun b c hb=>?_,R.fresh,Nat.le_trans R.iq hB.size,fun n o p h=>by rw[af.bG] at h;simp at h⟩,hstep⟩,hu⟩;obtain⟨ty,fz,e⟩:=R.zs b c hb;exact⟨ty,fz,(hB.block b (cS e)).trans e⟩
theorem WA(s:ByteArray)(hd:yc s.data.toList)(hs:1<=s.size/\s.size<=1000000):bt Tryz.prog 92 [sS s] [] (.bF [.c (.int .i64 (tC s)),.c (.y7 (oT s))]) []:=by
 refine Kx fun base η Z w vs R hvs hK=>?_;obtain⟨v,rfl,hv⟩:∃ v,vs=[v]/\v=.string s:=by
  match vs,hvs with
  | [v],⟨⟨_,h⟩,_⟩=>exact⟨v,rfl,h⟩
 subst hv;have h0:s.data.toList≠[]:=by
  intro e;have h1:s.size=s.data.toList.length:=by simp
  rw[e,List.length_nil] at h1;omega
 have ha:=Wz hd h0;by_cases hlt:jI s.data.toList 0<9223372036854775808;rw[if_pos hlt] at ha;refine(Tryz.strconv_Atoi_ok s (by omega) _ ha w).mono ?_;rintro e w' ⟨rfl,hw⟩;refine⟨_,rfl,⟨[.int .i64 (jI s.data.toList 0),.nilIface],rfl,⟨by simp,?_⟩,⟨by simp,?_⟩,trivial⟩,?_⟩;unfold tC;rw[if_pos hlt];rfl;have e:oT s=false:=decide_eq_false (by omega);rw[e];simp[au,aH];rcases hw with rfl|⟨t,rfl⟩;exact Below.refl _ _;exact Lib.bytesWorld_below _ _ _;rw[if_neg hlt] at ha;obtain⟨c,t,u,hz,hc⟩:=hK.2 3 (by kernel_rfl);obtain⟨ty,fz,hw⟩:=R.zs _ _ hz;refine(Tryz.strconv_Atoi_range s (by omega) ha (.iface t u) w (by simp[World.cell?,hw,hc]) (.inr ⟨t,u,rfl⟩)).mono ?_;rintro e w' ⟨N,rfl,_,_,hB⟩;refine⟨_,rfl,⟨[.int .i64 (Lib.atoiSat s.data.toList),_],rfl,⟨by simp,?_⟩,⟨by simp,?_⟩,trivial⟩,hB⟩;unfold tC;rw[if_neg hlt,aao hd h0];rfl;have e:oT s=true:=decide_eq_true (by omega);rw[e];simp[au,aH]
def S5:cT:=jk .str fun s=>(.p (yc (ByteArray.data s).toList/\1<=ByteArray.size s/\ByteArray.size s<=1000000),.bF [.c (.int .i64 (tC s)),.c (.y7 (oT s))],[])
theorem S6:bE Tryz.prog 92 S5:=eZ (by kernel_rfl) fun s h=>WA s h.1 h.2
end Go.Proofs.YtcimgfhfpiapaaaGreatDoor
namespace Go.Proofs.YtcimgfhfpiapaaaGreatDoor
open Go.aU
set_option maxRecDepth 100000
def yT(t:Tok):List PV:=.int t.at_::t.nZ
def aV(e a:Int):Value:=.iface 107 (.agg #[.int .i64 e,.int .i64 a])
noncomputable def gSc:cg:=[(63,x7),(67,Bu),(38,P9),(65,Qa),(94,YN),(64,Et),(92,S5),(95,SX)]
theorem Ew:bp Tryz.prog gSc:=aq vf (aq x9 (aq Ws (aq Ku (aq Wt (aq Av (aq S6 (aq SY aK)))))))
def Ky:List (List Nat×List Nat):=[([0,1],[0,1,3]),([0,1,0,1,1,1,1,1,1,1,1,1,1,0,0,1,1,1,0,1,0,0,1],[0,1,3,6,21,22,23])]
noncomputable def mX(b:Bool)(v:Value):bh:=Bo Tryz.prog gSc [] Tryz.f89 Ky b v
abbrev FD(s:ByteArray):Ob:=⟨9,[.c (.str s)]⟩
abbrev Nb(l:Nat)(i:Int):List (Nat×A):=[(0,.p (.c (.yield l))),(1,.p (.c (.ptr 0 0))),(3,nI i)]
abbrev S7(l:Nat)(s:ByteArray)(ys:List (List PV)):af:=.cW (some ⟨l,.sl .pv,ys,true⟩) [FD s]
def scP:List Nat:=[0,1,0,1,1,1,1,1,1,1,1,1,1,0,0,1,1,1,0,1,0,0,1]
def kJ(r:ByteArray):List ByteArray->ByteArray->ByteArray
 | [],x=>x
 | g::l,x=>kJ r l (if j8 r g=true/\x.size<g.size then g else x)
theorem Kz:∀ g∈ep,g.size<=2:=by decide
theorem KA{s:ByteArray}{k i:Nat}(hlt:i<s.size)(h1:¬(aT s i=32∨aT s i=10))(h2:¬aT s i=35){t:Tok}{e:Nat}(ht:bN s i=⟨t,(e:Int),0,0⟩):bK s (k+1) i=(t::(bK s k e).1,(bK s k e).2):=by
 rw[bK,if_pos hlt,if_neg h1,if_neg h2,ht,if_neg (by simp)];rfl
theorem FE{s:ByteArray}{k i:Nat}(hlt:i<s.size)(h1:¬(aT s i=32∨aT s i=10))(h2:¬aT s i=35){t:Tok}{e er ea:Int}(ht:bN s i=⟨t,e,er,ea⟩)(h:er≠0):bK s (k+1) i=([],er,ea):=by
 rw[bK,if_pos hlt,if_neg h1,if_neg h2,ht,if_pos h]
section
variable {s:ByteArray} {l:Nat} {b:Bool} {v:Value} {k i:Nat}
theorem wq{er ea:Int}(hA:bK s (k+1) i=([],er,ea))(her:er≠0)(hb:b=decide ((bK s (k+1) i).2.1≠0))(hv:v=aV (bK s (k+1) i).2.1 (bK s (k+1) i).2.2):(b=true/\aV er ea=v)/\List.map yT (bK s (k+1) i).1=[]:=by
 rw[hA] at hb hv ⊢;exact⟨⟨by rw[hb];exact decide_eq_true her,hv.symm⟩,rfl⟩
theorem Ey(IH:∀ j,i<j->j<=s.size->b=decide ((bK s k j).2.1≠0)->v=aV (bK s k j).2.1 (bK s k j).2.2->aF (mX b v) (fun _ _=>b=false) [0,1] (fr (Nb l j)) (S7 l s ((bK s k j).1.map yT)))
 {t:Tok} {e:Nat} (hB:bK s (k+1) i=(t::(bK s k e).1,(bK s k e).2)) (he:i<e/\e<=s.size) (hb:b=decide ((bK s (k+1) i).2.1≠0)) (hv:v=aV (bK s (k+1) i).2.1 (bK s (k+1) i).2.2) {y:List PV} (hy:yT t=y) :
 (¬List.map yT (bK s (k+1) i).1=[]/\(List.map yT (bK s (k+1) i).1).head? = some y)/\aF (mX b v) (fun _ _=>b=false) [0,1] (fr (Nb l e)) (S7 l s (List.map yT (bK s (k+1) i).1).tail):=by
 rw[hB] at hb hv ⊢;exact⟨⟨by simp,by simp[hy]⟩,IH e he.1 he.2 hb hv⟩
theorem FG(hs:s.size<=20000)(hlt:i<s.size)(H:∀ x:ByteArray,kJ (s.extract i s.size) ep eS=x->(x.size=0->((b=true/\aV 11 i=v)/\List.map yT (bK s (k+1) i).1=[]))/\(0<x.size->(¬List.map yT (bK s (k+1) i).1=[]/\(List.map yT (bK s (k+1) i).1).head? = some [PV.int i,PV.int 5,PV.str x,PV.int 0,PV.int i])/\aF (mX b v) (fun _ _=>b=false) [0,1] (fr (Nb l (i+x.size:Nat))) (S7 l s (List.map yT (bK s (k+1) i).1).tail)))  :
 ∀(m j:Nat)(kd:Int)(x:ByteArray),m=21-j->j<=21->kJ (s.extract i s.size) (ep.drop j) x=kJ (s.extract i s.size) ep eS->(x.size=0->x=eS)->(0<x.size->kd=5)->x.size<=2->
 aF (mX b v) (fun _ _=>b=false) scP (fr (Nb l i++[(6,.p (.c (.ptr 1 0))),(21,nY ep),(22,nI 21),(23,nI j)])) (.cW (some ⟨l,.sl .pv,List.map yT (bK s (k+1) i).1,true⟩) [FD s,obT kd x 0 i])
 | m, j, kd, x, hm, hj, hx, h0, h5, hsz => by
   refine cj Ew (by kernel_rfl) 300 ?_;apply of_eq (q:=let q2:=(fr [(0,aP (W.yield l)),(1,aR 0 0),(3,nI (i:Int)),(6,aR 1 0),(21,aP (W.rd D.str ep)),(22,nI (21)),(23,nI (IntKind.i64.wrap ((j:Int)+1)))]);let q3:=(ep.getD j (ByteArray.mk #[]));let q4:=(List.map yT (bK s (k+1) i).fst);let q5:=[0,1,0,1,1,1,1,1,1,1,1,1,1,0,0,1,1,1,0,1,0,0,1];let q1:=j8 (s.extract i s.size) q3=true;(decide ((j:Int)<21)=true->((0:Int)<=(j:Int)/\(j:Int)<(↑(21:Nat):Int))/\j<21/\((0:Int)<=(i:Int)/\(i:Int)<=(s.size:Int)/\(s.size:Int)<=(s.size:Int))/\(q1->q1)/\(q1->q1)/\(q1->q1)/\(q1->q1)/\(q1->q1)/\(q1->q1)/\((bif j8 (s.extract i s.size) q3 then decide ((x.size:Int)<(↑q3.size:Int)) else false)=true->aF (mX b v) (fun x x_1=>b=false) q5 q2 (af.cW (some (Gh.mk l D.pv.sl q4 true)) [Ob.mk 9 [Fd.c (W.str s)],Ob.mk 62 [fI (5),Fd.c (W.str q3),fI (0),fI (i:Int)]]))/\((bif j8 (s.extract i s.size) q3 then decide ((x.size:Int)<(↑q3.size:Int)) else false)=false->aF (mX b v) (fun x x_1=>b=false) q5 q2 (af.cW (some (Gh.mk l D.pv.sl q4 true)) [Ob.mk 9 [Fd.c (W.str s)],Ob.mk 62 [fI kd,Fd.c (W.str x),fI (0),fI (i:Int)]])))/\(decide ((j:Int)<21)=false->(decide (x=ByteArray.mk #[])=true->(b=true/\Value.iface (107:Nat) (Value.agg #[Value.int .i64 (11:Int),Value.int .i64 (i:Int)])=v)/\List.map yT (bK s (k+1) i).fst=[])/\(decide (x=ByteArray.mk #[])=false->(l=l/\List.map yT (bK s (k+1) i).fst≠[]/\q4.head? = some [PV.int (i:Int),PV.int kd,PV.str x,PV.int (0:Int),PV.int (i:Int)])/\aF (mX b v) (fun x x_1=>b=false) [0,1] (fr [(0,aP (W.yield l)),(1,aR 0 0),(3,nI (IntKind.i64.wrap ((i:Int)+(x.size:Int))))]) (af.cW (some (Gh.mk l D.pv.sl q4.tail true)) [Ob.mk 9 [Fd.c (W.str s)]])))) (by kernel_rfl)
   try simp only[sL]
   have bO:ep.length=21:=rfl;have uj:j<21->(ep.getD j eS).size<=2:=fun h=>by
    rw[List.getD_eq_getElem?_getD,List.getElem?_eq_getElem (by omega)];exact Kz _ (List.getElem_mem (by omega))
   have hg:j<21->kJ (s.extract i s.size) (ep.drop j) x=kJ (s.extract i s.size) (ep.drop (j+1)) (if j8 (s.extract i s.size) (ep.getD j eS)=true/\x.size<(ep.getD j eS).size then ep.getD j eS else x):=fun h=>by
    rw[List.drop_eq_getElem_cons (by omega),List.getD_eq_getElem?_getD,List.getElem?_eq_getElem (by omega)];rfl
   refine⟨fun h=>⟨by omega,by omega,by omega,fun h1=>?_,fun h1=>?_⟩,fun h=>?_⟩
   . rw[wrap64 (by omega) (by omega)];have S8:=hg (by omega);rw[if_pos ⟨h1.1,Int.ofNat_lt.1 h1.2⟩] at S8;cases m with
     | zero=>omega
     | succ m=>exact FG hs hlt H m (j+1) 5 _ (by omega) (by omega) (S8▸hx) (fun e=>absurd (Int.ofNat_lt.1 h1.2) (by have e:(ep.getD j eS).size=0:=e;show ¬x.size<(ep.getD j eS).size;omega)) (fun _=>rfl) (uj (by omega))
   . rw[wrap64 (by omega) (by omega)];have S8:=hg (by omega);rw[if_neg (by rintro⟨h2,h3⟩;exact absurd h3 (Nat.not_lt.2 (Int.ofNat_le.1 (h1 h2))))] at S8;cases m with
     | zero=>omega
     | succ m=>exact FG hs hlt H m (j+1) kd x (by omega) (by omega) (S8▸hx) h0 h5 hsz
   have GK:kJ (s.extract i s.size) ep eS=x:=by rw[<-hx,List.drop_eq_nil_of_le (by omega)];rfl
   refine⟨fun h1=>(H x GK).1 (by rw[h1];rfl),fun h1=>?_⟩;have hpos:0<x.size:=by
    rcases Nat.eq_zero_or_pos x.size with h2|h2;exact absurd (h0 h2) h1;exact h2
   rw[h5 hpos,wrap64 (by omega) (by omega),show ((i:Int)+x.size)=((i+x.size:Nat):Int) from by omega];exact(H x GK).2 hpos
end
theorem Aw(R:ByteArray):∀(l:List ByteArray)(x:ByteArray),(kJ R l x=x∨(kJ R l x∈l/\j8 R (kJ R l x)=true))/\x.size<=(kJ R l x).size/\∀ g∈l,j8 R g=true->g.size<=(kJ R l x).size
 | [],x=>⟨.inl rfl,Nat.le_refl _,by simp⟩
 | g :: l, x => by
   have ih:=Aw R l (if j8 R g=true/\x.size<g.size then g else x);simp only[kJ];split at ih;rename_i h;rw[if_pos h];refine⟨.inr ?_,by omega,fun y hy hp=>?_⟩;rcases ih.1 with h1|h1;rw[h1];exact⟨by simp,h.1⟩;exact⟨by simp[h1.1],h1.2⟩;rcases List.mem_cons.1 hy with rfl|hy;exact ih.2.1;exact ih.2.2 y hy hp;rename_i h;rw[if_neg h];refine⟨?_,ih.2.1,fun y hy hp=>?_⟩;rcases ih.1 with h1|h1;exact .inl h1;exact .inr ⟨by simp[h1.1],h1.2⟩;rcases List.mem_cons.1 hy with rfl|hy;have:¬x.size<y.size:=fun h2=>h ⟨hp,h2⟩;have:=ih.2.1;omega;exact ih.2.2 y hy hp
theorem yd{l:List ByteArray}{t:ByteArray}:eB l t=true↔t∈l:=by
 unfold eB;rw[List.any_eq_true];exact⟨fun⟨x,h1,h2⟩=>by have:=of_decide_eq_true h2;subst this;exact h1,fun h=>⟨t,h,decide_eq_true rfl⟩⟩
theorem ye{s:ByteArray}{i:Nat}(hi:i<=s.size){g:ByteArray}:j8 (s.extract i s.size) g=true↔i+g.size<=s.size/\s.extract i (i+g.size)=g:=by
 unfold j8;rw[Bool.and_eq_true,decide_eq_true_eq,decide_eq_true_eq,oD hi (Nat.le_refl _)];constructor;rintro⟨h1,h2⟩;have h1':i+g.size<=s.size:=by omega
 refine⟨h1',?_⟩;rw[ByteArray.extract_extract] at h2;rw[show min (i+g.size) s.size=i+g.size by omega,Nat.add_zero] at h2;exact h2;rintro⟨h1,h2⟩;refine⟨by omega,?_⟩;rw[ByteArray.extract_extract,show min (i+g.size) s.size=i+g.size by omega,Nat.add_zero];exact h2
theorem WB{s:ByteArray}{i:Nat}(hi:i<s.size):mW s i 2=if(kJ (s.extract i s.size) ep eS).size=0 then ⟨⟨5,eS,0,i⟩,(i+1:Nat),11,i⟩ else ⟨⟨5,kJ (s.extract i s.size) ep eS,0,i⟩,(i+(kJ (s.extract i s.size) ep eS).size:Nat),0,0⟩:=by
 obtain⟨h1,h2,h3⟩:=Aw (s.extract i s.size) ep eS;generalize kJ (s.extract i s.size) ep eS=r at h1 h2 h3;have hr:r.size≠0->r∈ep/\i+r.size<=s.size/\s.extract i (i+r.size)=r/\r.size<=2:=fun h=>by
  rcases h1 with h1|h1;rw[h1] at h;exact absurd rfl h;exact⟨h1.1,((ye (by omega)).1 h1.2).1,((ye (by omega)).1 h1.2).2,Kz _ h1.1⟩
 have key:∀ n,0<n->(i+n<=s.size/\eB ep (s.extract i (i+n))=true)->n<=r.size:=fun n hn h=>by
  have hsz:=oD (s:=s) (a:=i) (e:=i+n) (by omega) h.1;have:=h3 _ (yd.1 h.2) ((ye (by omega)).2 (by rw[hsz,show i+n-i=n by omega];exact⟨h.1,rfl⟩));omega
 rw[mW];split;rename_i h;have h4:=key 2 (by omega) h;obtain⟨a1,a2,a3,a4⟩:=hr (by omega);have:r.size=2:=by omega
 rw[if_neg (by omega),<-a3,this];rw[oD (by omega) (by omega),show i+2-i=2 by omega];rename_i h;rw[mW];split;rename_i h';have h4:=key 1 (by omega) h';obtain⟨a1,a2,a3,a4⟩:=hr (by omega);have:r.size≠2:=fun e=>h (by rw[show (1+1:Nat)=r.size by omega];exact⟨a2,yd.2 (by rw[a3];exact a1)⟩);have:r.size=1:=by omega
 rw[if_neg (by omega),<-a3,this];rw[oD (by omega) (by omega),show i+1-i=1 by omega];rename_i h';rw[mW,if_pos];rcases Nat.eq_zero_or_pos r.size with h4|h4;exact h4;obtain⟨a1,a2,a3,a4⟩:=hr (by omega);have:r.size=1∨r.size=2:=by omega
 rcases this with e|e;exact absurd (by rw[show (0+1:Nat)=r.size by omega];exact⟨a2,yd.2 (by rw[a3];exact a1)⟩) h';exact absurd (by rw[show (1+1:Nat)=r.size by omega];exact⟨a2,yd.2 (by rw[a3];exact a1)⟩) h
theorem Dn(s:ByteArray)(i e:Nat):(s.extract i e).data.toList=(s.data.toList.drop i).take (e-i):=by
 rw[ByteArray.data_extract,Array.toList_extract]
theorem ext_cons{s:ByteArray}{i e:Nat}(h:i<e)(he:e<=s.size):∃ c,(s.extract i e).data.toList=c::(s.extract (i+1) e).data.toList/\aT s i=(c.toNat:Int):=by
 have hl : i < s.data.toList.length := by have : s.size = s.data.toList.length := by simp
                                          omega
 refine⟨s.data.toList[i],?_,?_⟩;rw[Dn,Dn,List.drop_eq_getElem_cons hl,show e-i=(e-(i+1))+1 by omega,List.take_succ_cons];unfold aT;rw[List.getD_eq_getElem?_getD,List.getElem?_eq_getElem hl];rfl
theorem Qd{c:Int}(h:ck c=true):48<=c/\c<=57:=by
 unfold ck at h;simpa only[Bool.and_eq_true,decide_eq_true_eq] using h
theorem FH{s : ByteArray}{e : Nat}(he : e ≤ s.size) : ∀(k i n : Nat), k = e - i → i ≤ e → (∀ j, i ≤ j → j < e → ck (aT s j) = true) → n ≤ 1000000000000000 →
 yc (s.extract i e).data.toList/\(1000000000000000<jI (s.extract i e).data.toList n->(jY s e i n).2=true)/\(jI (s.extract i e).data.toList n<=1000000000000000->jY s e i n=((jI (s.extract i e).data.toList n:Int),false))
 | k, i, n, hk, hi, hd, hn => by
   by_cases h:i<e
   . obtain⟨c,h1,h2⟩:=ext_cons h he;have hc:=Qd (hd i (Nat.le_refl _) h);have hg:=FC (s.extract (i+1) e).data.toList (n*10+(c.toNat-48));have hcast:((n:Int)*10+(aT s i-48))=((n*10+(c.toNat-48):Nat):Int):=by omega
     rw[h1,jY,dif_pos h,hcast];cases k with
     | zero=>omega
     | succ k =>
       by_cases hb:n*10+(c.toNat-48)<=1000000000000000;obtain⟨i1,i2,i3⟩:=FH he k (i+1) (n*10+(c.toNat-48)) (by omega) (by omega) (fun j h3 h4=>hd j (by omega) h4) hb;refine⟨fun x hx=>?_,fun h3=>?_,fun h3=>?_⟩;rcases List.mem_cons.1 hx with rfl|hx;omega;exact i1 x hx;rw[if_neg (by omega)];exact i2 h3;rw[if_neg (by omega)];exact i3 h3;have Cq:yc (s.extract (i+1) e).data.toList:=(FH he k (i+1) 0 (by omega) (by omega) (fun j h3 h4=>hd j (by omega) h4) (by omega)).1;refine⟨fun x hx=>?_,fun _=>?_,fun h3=>?_⟩;rcases List.mem_cons.1 hx with rfl|hx;omega;exact Cq x hx;rw[if_pos (by omega)];have h3:jI (s.extract (i+1) e).data.toList (n*10+(c.toNat-48))<=1000000000000000:=h3;omega
   have e0:(s.extract i e).data.toList=[]:=by rw[Dn,show e-i=0 by omega,List.take_zero]
   rw[e0,jY,dif_neg h];exact⟨(by intro x hx;cases hx),fun h3=>by have h3:1000000000000000<n:=h3;omega,fun _=>rfl⟩
end Go.Proofs.YtcimgfhfpiapaaaGreatDoor
