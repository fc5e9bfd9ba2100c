/- Reading back: pieces between separators, numbers. -/
import Derived.Test.YtepmdidomecebaaGreatDoorSave1
import Derived.Lib.AtoiTie
import Derived.Test.YtepmdidomecebaaGreatDoorRead1
import Derived.Test.YtepmdidomecebaaGreatDoorText1
import Derived.Test.YtepmdidomecebaaGreatDoorProg
import Derived.Tactics
import Derived.Tactics2
import Derived.Defers
import Derived.Recover
import Derived.Laws.Pointers
import Derived.TacticsInMore
import Derived.RegionIn
import Derived.LoopNIn
import Derived.RecoverIn
namespace Go.Proofs.YtepmdidomecebaaGreatDoor
open Go.aJ Go.Words Go.cG
set_option maxRecDepth 100000
def eN (c:Int):List Int->List (List Int)
 | []=>[[]]
 | x::l=>if x=c then []::eN c l else (x::(eN c l).headD [])::(eN c l).tail
theorem SB (c:Int):∀ l,eN c l≠[]
 | []=>by simp [eN]
 | x::l=>by rw [eN];split <;> simp
theorem Ax (c:Int) (l:List Int):∃ p r,eN c l=p::r:=by
 cases h:eN c l with
 | nil=>exact absurd h (SB c l)
 | cons p r=>exact ⟨p,r,rfl⟩
theorem qI {c:Int}:∀ {p:List Int} (r:List Int),(∀ x∈p,x≠c)->eN c (p++c::r)=p::eN c r
 | [],r,_=>by rw [List.nil_append,eN,if_pos rfl]
 | x::p,r,h=>by
   rw [List.cons_append,eN,if_neg (h x (by simp)),qI r fun y hy=>h y (by simp [hy])];rfl
theorem vU {c:Int}:∀ {p:List Int},(∀ x∈p,x≠c)->eN c p=[p]
 | [],_=>rfl
 | x::p,h=>by
   rw [eN,if_neg (h x (by simp)),vU fun y hy=>h y (by simp [hy])];rfl
def kx (c:Int):List Int->Option Nat
 | []=>none
 | x::l=>if x=c then some 0 else (kx c l).map (· + 1)
theorem vV {c:Int}:∀ {l:List Int},kx c l=none->∀ x∈l,x≠c
 | [],_=>by simp
 | x :: l, h => by
   rw [kx] at h;split at h
   . cases h
   . rename_i hx;intro y hy;rcases List.mem_cons.1 hy with rfl | hy
     . exact hx
     . exact vV (by simpa using h) y hy
theorem vW {c:Int}:∀ {l:List Int} {m:Nat},kx c l=some m->m<l.length/\(∀ x∈l.take m,x≠c)/\l.drop m=c::l.drop (m+1)
 | [],_,h=>by cases h
 | x :: l, m, h => by
   rw [kx] at h;split at h
   . rename_i hx;cases h;subst hx;exact ⟨by simp,by simp,by simp⟩
   . rename_i hx;cases hf:kx c l with
     | none=>rw [hf] at h;cases h
     | some k =>
       rw [hf] at h;cases h;obtain ⟨a,b,d⟩:=vW hf;refine ⟨by simpa using a,fun y hy=>?_,by simpa using d⟩;rw [List.take_succ_cons] at hy;rcases List.mem_cons.1 hy with rfl | hy
       . exact hx
       . exact b y hy
theorem Ay {c:Int} (l:List Int):eN c l=match kx c l with | none=>[l] | some m=>l.take m::eN c (l.drop (m+1)):=by
 cases h:kx c l with
 | none=>exact vU (vV h)
 | some m =>
   obtain ⟨a,b,d⟩:=vW h;have e:=qI (p:=l.take m) (l.drop (m+1)) b;rw [<-d,List.take_append_drop] at e;exact e
def iG (c:Int) (l:List Int):Nat:=l.countP fun x=>decide (x=c)
theorem qJ (c:Int):∀ l,(eN c l).length=iG c l+1
 | []=>rfl
 | x :: l => by
   have ih:=qJ c l;obtain ⟨p,r,e⟩:=Ax c l;rw [eN];unfold iG at ih ⊢;rw [List.countP_cons];split
   . rename_i h;rw [List.length_cons,ih];simp [h]
   . rename_i h;rw [e] at ih ⊢;simp [h] at ih ⊢;omega
def bq (c:Int) (s:ByteArray):List ByteArray:=(eN c (af s)).map aP
theorem iQ {a b:ByteArray} (h:af a=af b):a=b:=by
 have key : ∀ l m : List UInt8, (l.map fun x => (x.toNat : Int)) = (m.map fun x => (x.toNat : Int)) → l = m := by
  intro l
  induction l with
  | nil=>intro m h;cases m with | nil=>rfl | cons _ _=>simp at h
  | cons x l ih =>
    intro m h;cases m with
    | nil=>simp at h
    | cons y m =>
      simp only [List.map_cons,List.cons.injEq] at h;have hxy:x=y:=UInt8.toNat_inj.1 (by have:=h.1;omega);rw [ih m h.2,hxy]
 have e:=key a.data.toList b.data.toList (by simpa [af] using h);apply ByteArray.ext;exact Array.ext' e
theorem oT {s:ByteArray} {x:Int} (h:x∈af s):0<=x/\x<256:=by
 simp only [af,List.mem_map] at h;obtain ⟨b,_,rfl⟩:=h;have:=b.toNat_lt;omega
theorem lS (s:ByteArray):aP (af s)=s:=iQ (eP fun _ h=>oT h)
theorem sQ (s:ByteArray) (i j:Nat):aP (((af s).drop i).take (j-i))=s.extract i j:=by
 refine iQ ?_;rw [eP fun x h=>oT (List.mem_of_mem_drop (List.mem_of_mem_take h))];simp only [af];rw [ByteArray.data_extract,Array.toList_extract,List.extract_eq_take_drop,List.map_take,List.map_drop]
def JE (l:List Int):Bool:=decide (1<=l.length/\l.length<=10/\(l=[48]∨l.getD 0 0≠48))&&l.all iB
def fK (l:List Int):Option Int:=if l=[45,49] then some (-1) else if JE l=true then some (num l) else none
def mS (u:Nat):List Int:=(Lib.decDigits u).map fun b=>(b.toNat:Int)
theorem qK {u:Nat} (h:u<10):mS u=[48+(u:Int)]:=by
 unfold mS;rw [Lib.decDigits,dif_pos h];simp;omega
theorem JF {u:Nat} (h:¬ u<10):mS u=mS (u / 10)++[48+((u % 10:Nat):Int)]:=by
 unfold mS;rw [Lib.decDigits,dif_neg h];simp;omega
theorem Eb (u:Nat):num (mS u)=u/\(mS u).all iB=true/\1<=(mS u).length/\(u≠0->(mS u).getD 0 0≠48):=by
 induction u using Nat.strongRecOn with
 | _ u ih =>
   by_cases h:u<10
   . rw [qK h];refine ⟨by simp [num];omega,by simp [iB];omega,by simp,fun h0=>by simp;omega⟩
   . obtain ⟨a,b,c,d⟩:=ih (u / 10) (by omega);rw [JF h];refine ⟨?_,?_,by simp,fun _=>?_⟩
     . rw [Bc,a];omega
     . rw [List.all_append,b];simp [iB];omega
     . have:=d (by omega);cases hl:mS (u / 10) with
       | nil=>rw [hl] at c;simp at c
       | cons x r=>rw [hl] at this;simpa using this
theorem JG:∀ (k u:Nat),u<10 ^ (k+1)->(mS u).length<=k+1
 | 0,u,h=>by rw [qK (by simpa using h)];simp
 | k + 1, u, h => by
   by_cases h0:u<10
   . rw [qK h0];simp
   . rw [JF h0,List.length_append];have:=JG k (u / 10) (by rw [Nat.pow_succ] at h;omega);simp;omega
theorem SC:mS 0=[48]:=qK (by omega)
theorem Wf {u:Nat} (h:u<10 ^ 10):JE (mS u)=true:=by
 obtain ⟨a,b,c,d⟩:=Eb u;have:=JG 9 u h;unfold JE;rw [b,Bool.and_true,decide_eq_true_eq];refine ⟨c,by omega,?_⟩;by_cases h0:u=0
 . subst h0;exact .inl SC
 . exact .inr (d h0)
theorem FE (n:Nat):af (bH (n:Int))=mS n:=by
 unfold bH mS Lib.itoa;rw [if_neg (by omega),sH];simp
theorem JH:af (bH (-1))=[45,49]:=by decide +kernel
def kT (x:Int):Prop:=-1<=x/\x<10000000000
theorem qU {x:Int} (h:kT x):fK (af (bH x))=some x:=by
 obtain ⟨h1,h2⟩:=h;by_cases h0:x=-1
 . subst h0;rw [JH];rfl
 . have e:x=(x.toNat:Int):=by omega
   rw [e,FE];obtain ⟨a,b,c,d⟩:=Eb x.toNat;have hd:=Wf (u:=x.toNat) (by omega);unfold fK;rw [if_neg,if_pos hd,a];intro h45;rw [h45] at b;simp [iB] at b
theorem yC {x:Int} (h:kT x):∀ c∈af (bH x),c=45∨48<=c/\c<=57:=by
 obtain ⟨h1,h2⟩:=h;by_cases h0:x=-1
 . subst h0;rw [JH];intro c hc;simp at hc;omega
 . have e:x=(x.toNat:Int):=by omega
   rw [e,FE];obtain ⟨a,b,c,d⟩:=Eb x.toNat;intro y hy;rw [List.all_eq_true] at b;exact .inr (sG (b y hy))
theorem tH {c:Int} {p:List Int} (hp:∀ x∈p,x≠c):∀ (ps:List (List Int)),(∀ q∈ps,∀ x∈q,x≠c)->eN c (p++ps.flatMap fun q=>c::q)=p::ps
 | [],_=>by rw [List.flatMap_nil,List.append_nil,vU hp]
 | q::ps,h=>by
   rw [List.flatMap_cons,List.cons_append,qI _ hp,tH (h q (by simp)) ps fun r hr=>h r (by simp [hr])]
theorem OU {s:List Int} (hs:∀ x∈s,x≠32) {xs:List Int} (hx:∀ x∈xs,kT x):eN 32 (s++jA xs)=s::xs.map fun x=>af (bH x):=by
 have e:jA xs=(xs.map fun x=>af (bH x)).flatMap fun q=>32::q:=by
  unfold jA;rw [List.flatMap_map]
 rw [e];refine tH hs _ fun q hq x hxq=>?_;obtain ⟨y,hy,rfl⟩:=List.mem_map.1 hq;have:=yC (hx y hy) x hxq;omega
end Go.Proofs.YtepmdidomecebaaGreatDoor
namespace Go.Proofs.YtepmdidomecebaaGreatDoor
open Go.aJ Go.Words
set_option maxRecDepth 100000
def pE (l:List Int) (N:Nat) (f:nu):Prop:=∀ i w j,i<=l.length->f i=some (w,j)->w.length<=N/\j<=l.length
theorem gP {l:List Int} {c:Int} {i:Nat} (h:i<=l.length):bR l c i<=l.length:=by
 have:=mP l _ i rfl h;unfold bR;split
 . rename_i h1;have:=(oL h1).1;omega
 . omega
theorem Bp {l : List Int} {item : nu} (h : pE l 16000 item) : pE l 16000 (oJ item l) := by
 intro i w j hi e;unfold oJ at e;split at e
 . cases e
 . rename_i v k hv;obtain ⟨h1,h2⟩:=h i v k hi hv;split at e
   . cases e
   · split at e
     · split at e
       . split at e
         . cases e
         . rename_i hh;cases e;have h3:=gP (c:=45) (gP (c:=94) h2);refine ⟨?_,(D5 l _ _ rfl h3).2⟩;generalize gN l (bR l 45 (bR l 94 k))=x at *;have hl:(if bV l 45 (bR l 94 k)=true then eH v else v).length=v.length:=by split <;> simp [eH]
           rw [jv,hl];rcases Int.lt_or_le x 0 with hx | hx
           . rw [Int.toNat_of_nonpos (by omega)];omega
           . have:((x.toNat*v.length:Nat):Int)=x*v.length:=by simp [Int.toNat_of_nonneg hx]
             omega
       . cases e
     . cases e;exact ⟨h1,gP h2⟩
theorem yD {l:List Int} {Ro:nu} (h:pE l 16000 Ro):∀ (m:Nat) (acc:List Int),pE l 4000 (lP Ro l m acc)
 | 0,acc=>fun i w j _ e=>by cases e
 | m + 1, acc => fun i w j hi e => by
   rw [lP] at e;split at e
   . cases e
   . rename_i v k hv;obtain ⟨h1,h2⟩:=h _ v k (mP l _ i rfl hi).2 hv;split at e
     . cases e
     . rename_i hh;split at e
       . exact yD h m _ _ w j (gP h2) e
       . cases e;exact ⟨by omega,gP h2⟩
theorem Bq {l:List Int} {c:Int} {N:Nat} {i:Nat} {f:nu} (h:pE l N f) (hi:i<=l.length) {w:List Int} {j:Nat} (e:endP l c (f i)=some (w,j)):w.length<=N/\j<=l.length:=by
 unfold endP at e;split at e
 . cases e
 . rename_i v k hv;obtain ⟨h1,h2⟩:=h i v k hi hv;split at e
   . cases e;exact ⟨h1,gP h2⟩
   . cases e
theorem JI {l:List Int} {f:nu} (h:pE l 4000 f):pE l 16000 (rJ f l):=by
 intro i w j hi e;unfold rJ at e;split at e
 . cases e
 . rename_i x k hx;obtain ⟨h1,h2⟩:=Bq h hi hx;split at e
   . cases e
   . rename_i y m hy;obtain ⟨h3,h4⟩:=h _ _ _ h2 hy;cases e;refine ⟨?_,h4⟩;simp [eH];omega
theorem JJ {l:List Int} {g:Int}:pE l 16000 (qk g l):=by
 intro i w j hi e;unfold qk at e;split at e
 . cases e;exact ⟨by simp,gP hi⟩
 . split at e
   . cases e;exact ⟨by simp,by omega⟩
   . cases e
theorem sR {l:List Int} {g:Int}:∀ d:Nat,pE l 16000 (gY g l d)
 | 0=>fun i w j hi e=>by
   rw [gY] at e;split at e
   . cases e
   . exact JJ i w j hi e
 | d + 1 => fun i w j hi e => by
   have hw:=yD (Bp (sR (l:=l) (g:=g) d)) (l.length+1) [];rw [gY] at e;split at e
   . rename_i hs;have:=Bq hw (i:=bn l i+1) (by have:=(oL hs).1;omega) e;omega
   . split at e
     . rename_i hs;exact Bq (JI hw) (i:=bn l i+1) (by have:=(oL hs).1;omega) e
     . exact JJ i w j hi e
theorem p6 {l:List Int} {g:Int} (d:Nat):pE l 4000 (dG g l d):=yD (Bp (sR d)) _ _
def RG (n:Int):Prop:=1<=n/\n<=16
abbrev gv (r:Option (List Int×Nat)):List Int×Nat:=r.getD ([],0)
def iy (R:Int->List Int->Nat->nu) (d:Nat):bw:=Ir fun s i o n=>(.p (At s i/\RG n/\o=50-(d:Int)/\(R n (af s) d i.toNat).isSome=true),aZ (gv (R n (af s) d i.toNat)).1,[dw s (gv (R n (af s) d i.toNat)).2 o n])
theorem uF {f:FuncId} {R:Int->List Int->Nat->nu} {d:Nat} (he:enters Tryz.prog f=true) (h:∀ s i n w j,At s i->RG n->R n (af s) d i.toNat=some (w,j)->aT Tryz.prog f [qq] [dw s i (50-(d:Int)) n] (aZ w) [dw s j (50-(d:Int)) n]):aH Tryz.prog f (iy R d):=D6 he fun s i o n hc=>by
 obtain ⟨h1,h2,rfl,h4⟩:=hc;obtain ⟨⟨w,j⟩,e⟩:=Option.isSome_iff_exists.1 h4;have:=h s i n w j h1 h2 e;show aT Tryz.prog f [qq] [dw s i (50-(d:Int)) n] (aZ (gv (R n (af s) d i.toNat)).1) [dw s (gv (R n (af s) d i.toNat)).2 _ n];rw [e];exact this
def pF (n:Int) (l:List Int) (d:Nat):nu:=gY n l d
def tI (n:Int) (l:List Int) (d:Nat):nu:=oJ (gY n l d) l
def JK (n:Int) (l:List Int) (d:Nat):nu:=rJ (dG n l d) l
noncomputable def gFac (d:Nat):bF:=[(216,iy pF d),(209,zB),(211,uz),(191,uw),(217,cTu),(218,XI),(219,cRep)]
theorem Zl {d:Nat} (h:aH Tryz.prog 216 (iy pF d)):aS Tryz.prog (gFac d):=ai h (ai CB (ai pZ (ai qG (ai Rm (ai Vh (ai YS ay))))))
theorem FG {l:List Int} {k:Nat} (h:o8 l k=true):0<=gN l k/\gN l k<10000:=by
 have ho:=of_decide_eq_true h;have QU:k<=l.length:=by
  rcases Nat.lt_or_ge l.length k with h1 | h1
  . rw [qQ (by omega)] at ho;omega
  . exact h1
 have hle:=D5 l _ k rfl QU;have hd:∀ c∈(l.drop k).take (fk l k-k),iB c=true:=by
  intro c hc;obtain ⟨m,hm,rfl⟩:=List.mem_iff_getElem.1 hc;rw [List.length_take,List.length_drop] at hm;rw [List.getElem_take,List.getElem_drop];have:=Bd l _ k rfl (k+m) (by omega) (by omega);rw [List.getD_eq_getElem?_getD,List.getElem?_eq_getElem (by omega)] at this;exact this
 have hn:=ye (fk l k-k) _ (by rw [List.length_take,List.length_drop];omega) (by omega) hd;have h2:(10:Int) ^ (fk l k-k)<=10 ^ 4:=by
  have:fk l k-k=0∨fk l k-k=1∨fk l k-k=2∨fk l k-k=3∨fk l k-k=4:=by omega
  rcases this with h | h | h | h | h <;> rw [h] <;> decide
 unfold gN;omega
theorem SE {l:List Int} {c:Int} {i:Nat} (h:bV l c i=false):bn l (bR l c i)=bR l c i:=by
 have:bR l c i=bn l i:=by unfold bR;rw [h];simp
 rw [this,mq]
theorem lC {s:ByteArray} {k:Nat} (h:s.size<=1000000) (hk:k<=(af s).length):At s k:=by
 rw [aW] at hk;exact ⟨h,by omega,by omega⟩
theorem C4 {d:Nat} (hI:aH Tryz.prog 216 (iy pF d)):aH Tryz.prog 210 (iy tI d):=uF (by kernel_rfl) fun s i n w j h hn e=>by
 refine cJ (live:=[]) (bQ:=[]) (fz:=[some dI]) (Zl hI) Tryz.func210 (by kernel_rfl) (keep:=1) rfl (by kernel_rfl) 100 ?_;apply of_eq (q:=let q3:=(af s);let q4:=((50:Int)-(d:Int));let q2:=(gv (pF n q3 d i.toNat));let q7:=(bR q3 (94:Int) q2.snd);let q1:=(bR q3 (45:Int) q7);let q6:=decide ((4000:Int)<IntKind.i64.wrap (gN q3 q1*(↑(eH q2.fst).length:Int)));let q8:=(bn q3 q1);let q5:=decide ((4000:Int)<IntKind.i64.wrap (gN q3 q8*(↑q2.fst.length:Int)));(At s i/\RG n/\(50:Int)-(d:Int)=(50:Int)-(d:Int)/\(pF n q3 d i.toNat).isSome=true)/\q2.fst.length<=(4000:Nat)/\At s (↑q2.snd:Int)/\((!bV q3 (94:Int) q2.snd)=true->ak [V.c (W.rd (D.int .i64) q2.fst)]=aZ w/\[Ob.mk 223 [Fd.c (W.str s),Fd.c (W.int .i64 (↑q7:Int)),Fd.c (W.int .i64 q4),Fd.c (W.int .i64 n)]]=[dw s (j:Int) q4 n])/\((!bV q3 (94:Int) q2.snd)=false->At s (↑q7:Int)/\(bV q3 (45:Int) q7=true->q2.fst.length<=(1000000:Nat)/\(At s (↑q1:Int)/\o8 q3 q1=true)/\(q6=true->False)/\(q6=false->((0:Int)<=gN q3 q1/\gN q3 q1<=(100000:Int)/\(eH q2.fst).length<=(100000:Nat)/\(gN q3 q1).toNat*(eH q2.fst).length<=(1000000:Nat))/\ak [V.c (W.rd (D.int .i64) (pw (eH q2.fst) (gN q3 q1).toNat))]=aZ w/\[Ob.mk 223 [Fd.c (W.str s),Fd.c (W.int .i64 (↑(fk q3 q1):Int)),Fd.c (W.int .i64 q4),Fd.c (W.int .i64 n)]]=[dw s (j:Int) q4 n]))/\(bV q3 (45:Int) q7=false->At s (↑q1:Int)/\(At s (↑q8:Int)/\o8 q3 q8=true)/\(q5=true->False)/\(q5=false->((0:Int)<=gN q3 q8/\gN q3 q8<=(100000:Int)/\q2.fst.length<=(100000:Nat)/\(gN q3 q8).toNat*q2.fst.length<=(1000000:Nat))/\ak [V.c (W.rd (D.int .i64) (pw q2.fst (gN q3 q8).toNat))]=aZ w/\[Ob.mk 223 [Fd.c (W.str s),Fd.c (W.int .i64 (↑(fk q3 q8):Int)),Fd.c (W.int .i64 q4),Fd.c (W.int .i64 n)]]=[dw s (j:Int) q4 n])))) (by kernel_rfl)
 try simp only [true_and,Bool.not_eq_true',Bool.not_eq_false',decide_eq_true_eq,decide_eq_false_iff_not,Int.not_lt]
 unfold tI oJ at e;cases hv:gY n (af s) d i.toNat with
 | none=>rw [hv] at e;cases e
 | some vk =>
 obtain ⟨v,k⟩:=vk;rw [hv] at e;dsimp only at e;have hv':pF n (af s) d i.toNat=some (v,k):=hv;have fX:i.toNat<=(af s).length:=by rw [aW];have:=h.2;omega
 obtain ⟨f1,f2⟩:=sR d _ v k fX hv;rw [hv'];dsimp only [Option.getD_some,gv,Option.isSome_some];by_cases h4:4000<v.length
 . rw [if_pos h4] at e;cases e
 rw [if_neg h4] at e;have a1:=lC h.1 f2;have a2:=lC h.1 (gP (c:=94) f2);have a3:=lC h.1 (gP (c:=45) (gP (c:=94) f2));have tl:(eH v).length=v.length:=by simp [eH]
 refine ⟨⟨h,hn,rfl⟩,by omega,a1,fun g=>?_,fun g=>⟨a2,fun g2=>?_,fun g2=>?_⟩⟩
 . rw [if_neg (by rw [g];simp)] at e;cases e;exact ⟨rfl,rfl⟩
 . rw [if_pos g] at e;split at e
   . rename_i hok;obtain ⟨x1,x2⟩:=FG hok;split at e
     . cases e
     . rename_i hm;cases e;generalize gN (af s) (bR (af s) 45 (bR (af s) 94 k))=x at *;have hx0:0<=x*(v.length:Int):=Int.mul_nonneg x1 (by omega);have hxt:((x.toNat*v.length:Nat):Int)=x*v.length:=by simp [Int.toNat_of_nonneg x1]
       have hw:IntKind.i64.wrap (x*((eH v).length:Nat))=x*v.length:=by rw [tl,wrap64 (by omega) (by omega)]
       refine ⟨by omega,⟨a3,hok⟩,fun g3=>hm ?_,fun _=>⟨⟨x1,by omega,?_,?_⟩,rfl,rfl⟩⟩
       . rw [<-hw];exact g3
       . show (eH v).length<=100000;omega
       . show x.toNat*(eH v).length<=1000000;rw [tl];omega
   . cases e
 . rw [if_pos g] at e;rw [SE g2];split at e
   . rename_i hok;obtain ⟨x1,x2⟩:=FG hok;split at e
     . cases e
     . rename_i hm;rw [if_neg (by rw [g2];simp)] at e;cases e;generalize gN (af s) (bR (af s) 45 (bR (af s) 94 k))=x at *;have hx0:0<=x*(v.length:Int):=Int.mul_nonneg x1 (by omega);have hxt:((x.toNat*v.length:Nat):Int)=x*v.length:=by simp [Int.toNat_of_nonneg x1]
       rw [wrap64 (n:=x*(v.length:Int)) (by omega) (by omega)];exact ⟨a3,⟨a3,hok⟩,fun g3=>hm g3,fun _=>⟨⟨x1,by omega,by omega,by omega⟩,rfl,rfl⟩⟩
   . cases e
noncomputable def gWo (d:Nat):bF:=[(210,iy tI d),(209,zB),(211,uz),(191,uw)]
theorem SF {d:Nat} (h:aH Tryz.prog 210 (iy tI d)):aS Tryz.prog (gWo d):=ai h (ai CB (ai pZ (ai qG ay)))
noncomputable def sWo (d:Nat):Site:=aY Tryz.prog (gWo d) Tryz.f190 1 [([0,1,1],[0,3])] [] [some dI]
theorem FH {d:Nat} (hI:aH Tryz.prog 210 (iy tI d)) (s:ByteArray) (n:Int) (hn:RG n) (W:List Int) (J:Nat):∀ (m:Nat) (i:Nat) (acc:List Int),At s i->lP (tI n (af s) d) (af s) m acc i=some (W,J)->acc.length<=4000->
 aq (sWo d) (ax (aZ W) [dw s J (50-(d:Int)) n]) [0,1,1] (fr [(0,qq),(3,gi 1 acc.length)]) (.ofList [⟨223,[.c (.str s),.c (.int .i64 i),.c (.int .i64 (50-(d:Int))),.c (.int .i64 n)]⟩,bp acc])
 | 0,i,acc,h,e,hl=>by cases e
 | m + 1, i, acc, h, e, hl => by
   refine aK (SF hI) (by kernel_rfl) 100 ?_;apply of_eq (q:=let q1:=(gv (tI n (af s) d (bn (af s) i)));let q2:=(List.take acc.length (List.drop (0:Nat) acc)++q1.fst);let q3:=(acc.length+q1.fst.length);let q4:=((50:Int)-(d:Int));At s (i:Int)/\(At s (↑(bn (af s) i):Int)/\RG n/\(50:Int)-(d:Int)=(50:Int)-(d:Int)/\(tI n (af s) d (bn (af s) i)).isSome=true)/\((0:Nat)+acc.length<=acc.length/\q3*(8:Nat)<=(140737488355328:Nat))/\(acc.length+q1.fst.length<=(4000:Nat)/\acc.length+q1.fst.length<=q2.length)/\At s (↑q1.snd:Int)/\((!bV (af s) (42:Int) q1.snd)=true->(0:Nat)+q3<=q2.length/\ak [V.c (aJ.W.rd (D.int .i64) (List.take q3 (List.drop (0:Nat) q2)))]=aZ W/\[Ob.mk 223 [Fd.c (aJ.W.str s),Fd.c (aJ.W.int .i64 (↑(bR (af s) (42:Int) q1.snd):Int)),Fd.c (aJ.W.int .i64 q4),Fd.c (aJ.W.int .i64 n)]]=[dw s (J:Int) q4 n])/\((!bV (af s) (42:Int) q1.snd)=false->aq (sWo d) (ax (aZ W) [dw s (J:Int) q4 n]) [0,1,1] (fr [(0,A.p (V.c (aJ.W.ptr 0 0))),(3,A.p (V.c (aJ.W.sl 1 0 q3 (1:Nat))))]) (ah.ofList [Ob.mk 223 [Fd.c (aJ.W.str s),Fd.c (aJ.W.int .i64 (↑(bR (af s) (42:Int) q1.snd):Int)),Fd.c (aJ.W.int .i64 q4),Fd.c (aJ.W.int .i64 n)],Ob.mk 3 [Fd.a 0 (D.int .i64) q2]]))) (by kernel_rfl)
   try simp only [true_and,Nat.zero_add,Bool.not_eq_true',Bool.not_eq_false',List.drop_zero,List.take_length,Nat.le_refl]
   rw [lP] at e;have fX:i<=(af s).length:=by rw [aW];have:=h.2;omega
   have hsk:=(mP (af s) _ i rfl fX).2;cases hv:tI n (af s) d (bn (af s) i) with
   | none=>rw [hv] at e;cases e
   | some vk =>
   obtain ⟨v,k⟩:=vk;rw [hv] at e;dsimp only at e;obtain ⟨f1,f2⟩:=Bp (sR d) _ v k hsk hv;dsimp only [Option.getD_some,gv,Option.isSome_some];by_cases h4:4000<(acc++v).length
   . rw [if_pos h4] at e;cases e
   rw [if_neg h4] at e;have hla:(acc++v).length=acc.length+v.length:=List.length_append;rw [hla] at h4 ⊢;refine ⟨h,⟨lC h.1 hsk,hn,rfl⟩,by omega,by omega,lC h.1 f2,fun g=>?_,fun g=>?_⟩
   . rw [if_neg (by rw [g];simp)] at e;cases e;refine ⟨Nat.le_refl _,?_,rfl⟩;rw [<-hla,List.take_length];rfl
   . rw [if_pos g] at e;rw [<-hla];exact FH hI s n hn W J m _ (acc++v) (lC h.1 (gP f2)) e (by omega)
theorem JL {d:Nat} (hI:aH Tryz.prog 210 (iy tI d)):aH Tryz.prog 190 (iy dG d):=uF (by kernel_rfl) fun s i n w j h hn e=>by
 refine cJ (live:=[([0,1,1],[0,3])]) (bQ:=[]) (fz:=[some dI]) (SF hI) Tryz.func190 (by kernel_rfl) (keep:=1) rfl (by kernel_rfl) 100 ?_;apply of_eq (q:=aq (aY Tryz.prog (gWo d) Tryz.f190 (1:Nat) [([0,1,1],[0,3])] [] [some dI]) (ax (aZ w) [dw s (j:Int) ((50:Int)-(d:Int)) n]) [0,1,1] (fr [(0,A.p (V.c (W.ptr 0 0))),(3,A.p (V.c (W.sl 1 0 0 1)))]) (ah.ofList [Ob.mk 223 [Fd.c (W.str s),Fd.c (W.int .i64 i),Fd.c (W.int .i64 ((50:Int)-(d:Int))),Fd.c (W.int .i64 n)],Ob.mk 3 [Fd.a 0 (D.int .i64) []]])) (by kernel_rfl);have:=FH hI s n hn w j _ i.toNat [] (by rw [toNat_cast h.2.1];exact h) e (by simp);rw [toNat_cast h.2.1] at this;exact this
noncomputable def gCm (d:Nat):bF:=[(190,iy dG d),(223,Iu),(217,cTu),(224,cCat)]
theorem gCm_ok {d:Nat} (h:aH Tryz.prog 190 (iy dG d)):aS Tryz.prog (gCm d):=ai h (ai Fs (ai Rm (ai YL ay)))
theorem Zm {d:Nat} (hI:aH Tryz.prog 190 (iy dG d)):aH Tryz.prog 222 (iy JK d):=uF (by kernel_rfl) fun s i n w j h hn e=>by
 refine cJ (live:=[]) (bQ:=[]) (fz:=[some dI]) (gCm_ok hI) Tryz.func222 (by kernel_rfl) (keep:=1) rfl (by kernel_rfl) 100 ?_;apply of_eq (q:=let q2:=(gv (dG n (af s) d i.toNat));let q1:=(dG n (af s) d (bR (af s) (44:Int) q2.snd));let q3:=(List.take (4:Nat) (List.drop (0:Nat) [eH q2.fst,eH (gv q1).fst,q2.fst,(gv q1).fst]));(At s i/\RG n/\(50:Int)-(d:Int)=(50:Int)-(d:Int)/\(dG n (af s) d i.toNat).isSome=true)/\(At s (↑q2.snd:Int)/\bV (af s) (44:Int) q2.snd=true)/\(At s (↑(bR (af s) (44:Int) q2.snd):Int)/\RG n/\(50:Int)-(d:Int)=(50:Int)-(d:Int)/\q1.isSome=true)/\q2.fst.length<=(1000000:Nat)/\(gv q1).fst.length<=(1000000:Nat)/\(0:Nat)+(4:Nat)<=(4:Nat)/\((4:Nat)<=(100:Nat)/\q3.flatten.length<=(1000000:Nat))/\ak [V.c (W.rd (D.int .i64) q3.flatten)]=aZ w/\[Ob.mk 223 [Fd.c (W.str s),Fd.c (W.int .i64 (↑(gv q1).snd:Int)),Fd.c (W.int .i64 ((50:Int)-(d:Int))),Fd.c (W.int .i64 n)]]=[dw s (j:Int) ((50:Int)-(d:Int)) n]) (by kernel_rfl)
 try simp only [true_and,Nat.zero_add,List.drop_zero,List.take_succ_cons,List.take_zero,Nat.le_refl]
 unfold JK rJ endP at e;have fX:i.toNat<=(af s).length:=by rw [aW];have:=h.2;omega
 cases hx:dG n (af s) d i.toNat with
 | none=>rw [hx] at e;cases e
 | some xk =>
 obtain ⟨x,k⟩:=xk;rw [hx] at e;dsimp only at e;by_cases hs:bV (af s) 44 k=true
 . rw [if_pos hs] at e;dsimp only at e;obtain ⟨f1,f2⟩:=p6 d _ x k fX hx;cases hy:dG n (af s) d (bR (af s) 44 k) with
   | none=>rw [hy] at e;cases e
   | some yk =>
   obtain ⟨y,m⟩:=yk;rw [hy] at e;cases e;obtain ⟨f3,f4⟩:=p6 d _ y _ (gP f2) hy;dsimp only [Option.getD_some,gv,Option.isSome_some];rw [hy];dsimp only [Option.getD_some,gv,Option.isSome_some];refine ⟨⟨h,hn,rfl⟩,⟨lC h.1 f2,hs⟩,⟨lC h.1 (gP f2),hn,rfl⟩,by omega,by omega,⟨by omega,?_⟩,?_,rfl⟩
   . simp [eH];omega
   . simp [ak,aZ]
 . rw [if_neg hs] at e;cases e
def JM (g:Nat) (n:Int) (l:List Int) (d:Nat):nu:=bif Nat.beq g 190 then dG n l d else rJ (dG n l d) l
def OV (d:Nat):bw:={ refs:=[true,true,false],f:=fun args aj=>match args,aj with
 | [.p (.c (.ptr a b)),.p (.c (.fC g x y)),.p (.c (.int .u8 c))],[o]=>bif Nat.beq a 0&&(Nat.beq b 0&&(Nat.beq x 0&&(Nat.beq y 0&&(Nat.beq g 190||Nat.beq g 222)))) then (match A9 o with
   | some (s,i,o,n)=>some (.p (At s i/\i<s.size/\RG n/\o=49-(d:Int)/\(endP (af s) c (JM g n (af s) d (i.toNat+1))).isSome=true),aZ (gv (endP (af s) c (JM g n (af s) d (i.toNat+1)))).1,[dw s (gv (endP (af s) c (JM g n (af s) d (i.toNat+1)))).2 o n])
   | none=>none) else none
 | _,_=>none }
noncomputable def gWi (d:Nat):bF:=[(190,iy dG d),(222,iy JK d),(223,Iu)]
theorem SG {d:Nat} (h:aH Tryz.prog 190 (iy dG d)):aS Tryz.prog (gWi d):=ai h (ai (Zm h) (ai Fs ay))
theorem KU {d:Nat} (hd:d<=49) (hI:aH Tryz.prog 190 (iy dG d)) (c:Int) (s:ByteArray) (i n:Int) (w:List Int) (j:Nat) (h:At s i/\i<s.size) (hn:RG n) (e:endP (af s) c (dG n (af s) d (i.toNat+1))=some (w,j)) :
 aT Tryz.prog 221 [qq,.p (.c (.fC 190 0 0)),LK c] [dw s i (49-(d:Int)) n] (aZ w) [dw s j (49-(d:Int)) n]:=by
 refine cJ (live:=[]) (bQ:=[]) (fz:=[some dI]) (SG hI) Tryz.func221 (by kernel_rfl) (keep:=1) rfl (by kernel_rfl) 100 ?_;apply of_eq (q:=let q0:=IntKind.i64.wrap;let q1:=(dG n (af s) d (q0 (i+(1:Int))).toNat);(decide ((49:Int)-(d:Int)=(50:Int))=true->False)/\(decide ((49:Int)-(d:Int)=(50:Int))=false->(At s (q0 (i+(1:Int)))/\RG n/\q0 ((49:Int)-(d:Int)+(1:Int))=(50:Int)-(d:Int)/\q1.isSome=true)/\(At s (↑(gv q1).snd:Int)/\bV (af s) c (gv q1).snd=true)/\ak [V.c (W.rd (D.int .i64) (gv q1).fst)]=aZ w/\[Ob.mk 223 [Fd.c (W.str s),Fd.c (W.int .i64 (↑(bR (af s) c (gv q1).snd):Int)),Fd.c (W.int .i64 (q0 (q0 ((49:Int)-(d:Int)+(1:Int))-(1:Int)))),Fd.c (W.int .i64 n)]]=[dw s (j:Int) ((49:Int)-(d:Int)) n])) (by kernel_rfl)
 try simp only [decide_eq_true_eq,decide_eq_false_iff_not]
 have fX:i.toNat+1<=(af s).length:=by rw [aW];have:=h.1.2;omega
 have hbs:=h.1.1;rw [wrap64 (n:=i+1) (by have:=h.1.2;omega) (by have:=h.1.2;omega),wrap64 (n:=49-(d:Int)+1) (by omega) (by omega),wrap64 (n:=49-(d:Int)+1-1) (by omega) (by omega),show (i+1).toNat=i.toNat+1 by have:=h.1.2;omega];unfold endP at e;cases hx:dG n (af s) d (i.toNat+1) with
 | none=>rw [hx] at e;cases e
 | some xk =>
 obtain ⟨x,k⟩:=xk;rw [hx] at e;dsimp only at e;by_cases hs:bV (af s) c k=true
 . rw [if_pos hs] at e;cases e;obtain ⟨f1,f2⟩:=p6 d _ _ k fX hx;dsimp only [Option.getD_some,gv,Option.isSome_some];refine ⟨fun h1=>by omega,fun _=>⟨⟨⟨hbs,by have:=h.1.2;omega,by have:=h.1.2;omega⟩,hn,by omega,rfl⟩,⟨lC hbs f2,hs⟩,rfl,?_⟩⟩;rw [show 49-(d:Int)+1-1=49-(d:Int) by omega]
 . rw [if_neg hs] at e;cases e
theorem KV {d:Nat} (hd:d<=49) (hI:aH Tryz.prog 190 (iy dG d)) (c:Int) (s:ByteArray) (i n:Int) (w:List Int) (j:Nat) (h:At s i/\i<s.size) (hn:RG n) (e:endP (af s) c (rJ (dG n (af s) d) (af s) (i.toNat+1))=some (w,j)) :
 aT Tryz.prog 221 [qq,.p (.c (.fC 222 0 0)),LK c] [dw s i (49-(d:Int)) n] (aZ w) [dw s j (49-(d:Int)) n]:=by
 refine cJ (live:=[]) (bQ:=[]) (fz:=[some dI]) (SG hI) Tryz.func221 (by kernel_rfl) (keep:=1) rfl (by kernel_rfl) 100 ?_;apply of_eq (q:=let q0:=IntKind.i64.wrap;let q1:=(JK n (af s) d (q0 (i+(1:Int))).toNat);(decide ((49:Int)-(d:Int)=(50:Int))=true->False)/\(decide ((49:Int)-(d:Int)=(50:Int))=false->(At s (q0 (i+(1:Int)))/\RG n/\q0 ((49:Int)-(d:Int)+(1:Int))=(50:Int)-(d:Int)/\q1.isSome=true)/\(At s (↑(gv q1).snd:Int)/\bV (af s) c (gv q1).snd=true)/\ak [V.c (W.rd (D.int .i64) (gv q1).fst)]=aZ w/\[Ob.mk 223 [Fd.c (W.str s),Fd.c (W.int .i64 (↑(bR (af s) c (gv q1).snd):Int)),Fd.c (W.int .i64 (q0 (q0 ((49:Int)-(d:Int)+(1:Int))-(1:Int)))),Fd.c (W.int .i64 n)]]=[dw s (j:Int) ((49:Int)-(d:Int)) n])) (by kernel_rfl)
 try simp only [decide_eq_true_eq,decide_eq_false_iff_not]
 have fX:i.toNat+1<=(af s).length:=by rw [aW];have:=h.1.2;omega
 have hbs:=h.1.1;rw [wrap64 (n:=i+1) (by have:=h.1.2;omega) (by have:=h.1.2;omega),wrap64 (n:=49-(d:Int)+1) (by omega) (by omega),wrap64 (n:=49-(d:Int)+1-1) (by omega) (by omega),show (i+1).toNat=i.toNat+1 by have:=h.1.2;omega];unfold endP at e;have hcr:JK n (af s) d (i.toNat+1)=rJ (dG n (af s) d) (af s) (i.toNat+1):=rfl;rw [hcr];cases hx:rJ (dG n (af s) d) (af s) (i.toNat+1) with
 | none=>rw [hx] at e;cases e
 | some xk =>
 obtain ⟨x,k⟩:=xk;rw [hx] at e;dsimp only at e;by_cases hs:bV (af s) c k=true
 . rw [if_pos hs] at e;cases e;obtain ⟨f1,f2⟩:=JI (p6 d) _ _ k fX hx;dsimp only [Option.getD_some,gv,Option.isSome_some];refine ⟨fun h1=>by omega,fun _=>⟨⟨⟨hbs,by have:=h.1.2;omega,by have:=h.1.2;omega⟩,hn,by omega,rfl⟩,⟨lC hbs f2,hs⟩,rfl,?_⟩⟩;rw [show 49-(d:Int)+1-1=49-(d:Int) by omega]
 . rw [if_neg hs] at e;cases e
theorem Wg {d:Nat} (hd:d<=49) (hI:aH Tryz.prog 190 (iy dG d)):aH Tryz.prog 221 (OV d):=by
 refine ⟨by kernel_rfl,fun args aj c r aR e hc=>?_⟩;simp only [OV] at e;split at e
 . rename_i g x y c' o;have hb':=ar.aD e;clear e;obtain ⟨hb,e⟩:=hb';simp only [Bool.and_eq_true,Bool.or_eq_true,Nat.beq_eq] at hb;obtain ⟨rfl,rfl,rfl,rfl,hg⟩:=hb;split at e
   . rename_i s i o n hr;rw [ur hr];cases e;obtain ⟨h1,h2,h3,rfl,h4⟩:=hc;obtain ⟨⟨w,j⟩,e⟩:=Option.isSome_iff_exists.1 h4;rw [e];rcases hg with rfl | rfl
     . exact KU hd hI c' s i n w j ⟨h1,h2⟩ h3 e
     . exact KV hd hI c' s i n w j ⟨h1,h2⟩ h3 e
   . cases e
 . cases e
theorem yE (l:List Int) (c:Int) (i:Nat):bV l c (bn l i)=bV l c i:=by unfold bV;rw [mq]
theorem FI (l:List Int) (c:Int) (i:Nat):bR l c (bn l i)=bR l c i:=by unfold bR;rw [yE,mq]
noncomputable def gIt0:bF:=[(220,Gp),(211,uz)]
theorem Zn:aS Tryz.prog gIt0:=ai Bb (ai pZ ay)
noncomputable def gItm (d:Nat):bF:=[(220,Gp),(211,uz),(221,OV d)]
theorem Zo {d:Nat} (hd:d<=49) (hI:aH Tryz.prog 190 (iy dG d)):aS Tryz.prog (gItm d):=ai Bb (ai pZ (ai (Wg hd hI) ay))
theorem SH:aH Tryz.prog 216 (iy pF 0):=uF (by kernel_rfl) fun s i n w j h hn e=>by
 refine cJ (live:=[]) (bQ:=[]) (fz:=[some dI]) Zn Tryz.func216 (by kernel_rfl) (keep:=1) rfl (by kernel_rfl) 100 ?_;apply of_eq (q:=let q0:=IntKind.i64.wrap;let q4:=(bn (af s) i.toNat);let q6:=((50:Int)-(↑(0:Nat):Int));let q7:=(W.int .i64 n);let q1:=(bR (af s) (49:Int) (bn (af s) q4));let q2:=decide ((↑q1:Int)<(s.size:Int));let q3:=decide ((97:Int)<=jK s q1);let q5:=(q0 ((↑q1:Int)+(1:Int))-(1:Int));let q8:=decide (q0 (IntKind.u8.wrap (jK s q1-(97:Int)))<n);At s i/\(bV (af s) (40:Int) i.toNat=true->False)/\(bV (af s) (40:Int) i.toNat=false->At s (↑q4:Int)/\(bV (af s) (91:Int) q4=true->False)/\(bV (af s) (91:Int) q4=false->At s (↑(bn (af s) q4):Int)/\(bV (af s) (49:Int) (bn (af s) q4)=true->(0:Nat)<=(0:Nat)/\ak [V.c (W.rd (D.int .i64) (List.take (0:Nat) (List.drop (0:Nat) [])))]=aZ w/\[Ob.mk 223 [Fd.c (W.str s),Fd.c (W.int .i64 (↑q1:Int)),Fd.c (W.int .i64 q6),Fd.c q7]]=[dw s (j:Int) q6 n])/\(bV (af s) (49:Int) (bn (af s) q4)=false->(q2=true->q2=true)/\(q2=true->q2=true)/\(q2=true->q2=true)/\(q2=true->q2=true)/\(q2=true->q2=true)/\(q2=true->q2=true)/\(q2=true->q2=true)/\(q2=true->q2=true)/\(q2=true->(0:Int)<=(↑q1:Int)/\(↑q1:Int)<(s.size:Int))/\(q2=true->q2=true)/\(q2=true->q2=true)/\((bif q2 then q3 else false)=true->(bif q2 then q3 else false)=true)/\((bif q2 then q3 else false)=true->(bif q2 then q3 else false)=true)/\((bif q2 then q3 else false)=true->(bif q2 then q3 else false)=true)/\((bif q2 then q3 else false)=true->(bif q2 then q3 else false)=true)/\((bif q2 then q3 else false)=true->(bif q2 then q3 else false)=true)/\((bif q2 then q3 else false)=true->(bif q2 then q3 else false)=true)/\((bif q2 then q3 else false)=true->(bif q2 then q3 else false)=true)/\((bif q2 then q3 else false)=true->(bif q2 then q3 else false)=true)/\((bif q2 then q3 else false)=true->(0:Int)<=(↑q1:Int)/\(↑q1:Int)<(s.size:Int))/\((bif q2 then q3 else false)=true->(bif q2 then q3 else false)=true)/\((bif q2 then q3 else false)=true->(bif q2 then q3 else false)=true)/\((bif q2 then q3 else false)=true->(bif q2 then q3 else false)=true)/\((bif q2 then q3 else false)=true->(bif q2 then q3 else false)=true)/\((bif q2 then q3 else false)=true->(bif q2 then q3 else false)=true)/\((bif q2 then q3 else false)=true->(bif q2 then q3 else false)=true)/\((bif q2 then q3 else false)=true->(bif q2 then q3 else false)=true)/\((bif q2 then q3 else false)=true->(bif q2 then q3 else false)=true)/\((bif q2 then q3 else false)=true->(bif q2 then q3 else false)=true)/\A.cond ((bif q2 then q3 else false)=true) (V.c q7)=A.cond ((bif q2 then q3 else false)=true) (V.c q7)/\((bif q2 then q3 else false)=true->(bif q2 then q3 else false)=true)/\A.cond ((bif q2 then q3 else false)=true) (V.c q7)=A.cond ((bif q2 then q3 else false)=true) (V.c q7)/\((bif bif q2 then q3 else false then q8 else false)=true->((0:Int)<=q0 q5/\q0 q5<(s.size:Int))/\(0:Nat)+(1:Nat)<=(1:Nat)/\ak [V.c (W.rd (D.int .i64) (List.take (1:Nat) (List.drop (0:Nat) [q0 (q0 (IntKind.u8.wrap (jK s (q0 q5).toNat-(97:Int)))+(1:Int))])))]=aZ w/\[Ob.mk 223 [Fd.c (W.str s),Fd.c (W.int .i64 (q0 ((↑q1:Int)+(1:Int)))),Fd.c (W.int .i64 q6),Fd.c q7]]=[dw s (j:Int) q6 n])/\((bif bif q2 then q3 else false then q8 else false)=false->False))))) (by kernel_rfl)
 try simp only [imp_self,true_and,Nat.zero_add,Bool.cond_false_right,Bool.and_eq_true,Bool.and_eq_false_imp,decide_eq_true_eq,decide_eq_false_iff_not,Int.not_lt,List.drop_zero,List.take_succ_cons,List.take_zero,Nat.le_refl]
 have fX:i.toNat<=(af s).length:=by rw [aW];have:=h.2;omega
 have hsk:=(mP (af s) _ i.toNat rfl fX).2;unfold pF at e;rw [gY] at e;simp only [mq,yE,FI];obtain ⟨hat,_⟩:=ux h;refine ⟨h,fun g=>?_,fun g0=>⟨hat,fun g=>?_,fun g1=>⟨hat,?_⟩⟩⟩
 . rw [if_pos (.inl g)] at e;cases e
 . rw [if_pos (.inr g)] at e;cases e
 rw [if_neg (by rw [g0,g1];simp)] at e;refine ⟨fun g=>?_,fun g=>?_⟩
 . unfold qk at e;rw [if_pos g] at e;cases e;exact ⟨rfl,rfl⟩
 . have ht:bR (af s) 49 i.toNat=bn (af s) i.toNat:=by unfold bR;rw [g];simp
   unfold qk at e;rw [if_neg (by rw [g];simp)] at e;rw [ht];have hl:=aW s;have hsz:=h.1;generalize bn (af s) i.toNat=p at *;split at e
   . rename_i hc;obtain ⟨c1,c2,c3⟩:=hc;have hb:=uQ s p;have w1:IntKind.i64.wrap ((p:Int)+1)=(p:Int)+1:=wrap64 (by omega) (by omega);have w2:IntKind.i64.wrap ((p:Int)+1-1)=(p:Int):=by rw [wrap64 (by omega) (by omega)];omega
     have hA:IntKind.i64.wrap (IntKind.u8.wrap ((af s).getD p 0-97))=(af s).getD p 0-97:=by rw [Oa (by omega) (by omega),wrap64 (by omega) (by omega)]
     have hB:IntKind.i64.wrap ((af s).getD p 0-97+1)=(af s).getD p 0-96:=by rw [wrap64 (by omega) (by omega)];omega
     simp only [w1,w2,Int.toNat_natCast,kM,hA,hB];cases e;exact ⟨fun _=>by omega,fun _=>by omega,fun _=>⟨by omega,rfl,rfl⟩,fun g4=>by have:=g4 (by omega);omega⟩
   . cases e
theorem SI {d:Nat} (hd:d<=49) (hI:aH Tryz.prog 190 (iy dG d)):aH Tryz.prog 216 (iy pF (d+1)):=uF (by kernel_rfl) fun s i n w j h hn e=>by
 refine cJ (live:=[]) (bQ:=[]) (fz:=[some dI]) (Zo hd hI) Tryz.func216 (by kernel_rfl) (keep:=1) rfl (by kernel_rfl) 100 ?_;apply of_eq (q:=let q0:=IntKind.i64.wrap;let q4:=(bn (af s) i.toNat);let q5:=((50:Int)-(↑(d+(1:Nat)):Int));let q6:=(endP (af s) (41:Int) (JM (190:Nat) n (af s) d (bn (af s) i.toNat+(1:Nat))));let q7:=(endP (af s) (93:Int) (JM (222:Nat) n (af s) d (bn (af s) q4+(1:Nat))));let q8:=(W.int .i64 n);let aC:=(bn (af s) q4);let aQ:=(W.int .i64 q5);let q1:=(bR (af s) (49:Int) aC);let q2:=decide ((↑q1:Int)<(s.size:Int));let q3:=decide ((97:Int)<=jK s q1);let q9:=(q0 ((↑q1:Int)+(1:Int))-(1:Int));let aM:=decide (q0 (IntKind.u8.wrap (jK s q1-(97:Int)))<n);At s i/\(bV (af s) (40:Int) i.toNat=true->(At s (↑q4:Int)/\(↑q4:Int)<(s.size:Int)/\RG n/\(50:Int)-(↑(d+(1:Nat)):Int)=(49:Int)-(d:Int)/\q6.isSome=true)/\ak [V.c (W.rd (D.int .i64) (gv q6).fst)]=aZ w/\[Ob.mk 223 [Fd.c (W.str s),Fd.c (W.int .i64 (↑(gv q6).snd:Int)),Fd.c aQ,Fd.c q8]]=[dw s (j:Int) q5 n])/\(bV (af s) (40:Int) i.toNat=false->At s (↑q4:Int)/\(bV (af s) (91:Int) q4=true->(At s (↑aC:Int)/\(↑aC:Int)<(s.size:Int)/\RG n/\(50:Int)-(↑(d+(1:Nat)):Int)=(49:Int)-(d:Int)/\q7.isSome=true)/\ak [V.c (W.rd (D.int .i64) (gv q7).fst)]=aZ w/\[Ob.mk 223 [Fd.c (W.str s),Fd.c (W.int .i64 (↑(gv q7).snd:Int)),Fd.c aQ,Fd.c q8]]=[dw s (j:Int) q5 n])/\(bV (af s) (91:Int) q4=false->At s (↑aC:Int)/\(bV (af s) (49:Int) aC=true->(0:Nat)<=(0:Nat)/\ak [V.c (W.rd (D.int .i64) (List.take (0:Nat) (List.drop (0:Nat) [])))]=aZ w/\[Ob.mk 223 [Fd.c (W.str s),Fd.c (W.int .i64 (↑q1:Int)),Fd.c aQ,Fd.c q8]]=[dw s (j:Int) q5 n])/\(bV (af s) (49:Int) aC=false->(q2=true->q2=true)/\(q2=true->q2=true)/\(q2=true->q2=true)/\(q2=true->q2=true)/\(q2=true->q2=true)/\(q2=true->q2=true)/\(q2=true->q2=true)/\(q2=true->q2=true)/\(q2=true->(0:Int)<=(↑q1:Int)/\(↑q1:Int)<(s.size:Int))/\(q2=true->q2=true)/\(q2=true->q2=true)/\((bif q2 then q3 else false)=true->(bif q2 then q3 else false)=true)/\((bif q2 then q3 else false)=true->(bif q2 then q3 else false)=true)/\((bif q2 then q3 else false)=true->(bif q2 then q3 else false)=true)/\((bif q2 then q3 else false)=true->(bif q2 then q3 else false)=true)/\((bif q2 then q3 else false)=true->(bif q2 then q3 else false)=true)/\((bif q2 then q3 else false)=true->(bif q2 then q3 else false)=true)/\((bif q2 then q3 else false)=true->(bif q2 then q3 else false)=true)/\((bif q2 then q3 else false)=true->(bif q2 then q3 else false)=true)/\((bif q2 then q3 else false)=true->(0:Int)<=(↑q1:Int)/\(↑q1:Int)<(s.size:Int))/\((bif q2 then q3 else false)=true->(bif q2 then q3 else false)=true)/\((bif q2 then q3 else false)=true->(bif q2 then q3 else false)=true)/\((bif q2 then q3 else false)=true->(bif q2 then q3 else false)=true)/\((bif q2 then q3 else false)=true->(bif q2 then q3 else false)=true)/\((bif q2 then q3 else false)=true->(bif q2 then q3 else false)=true)/\((bif q2 then q3 else false)=true->(bif q2 then q3 else false)=true)/\((bif q2 then q3 else false)=true->(bif q2 then q3 else false)=true)/\((bif q2 then q3 else false)=true->(bif q2 then q3 else false)=true)/\((bif q2 then q3 else false)=true->(bif q2 then q3 else false)=true)/\A.cond ((bif q2 then q3 else false)=true) (V.c q8)=A.cond ((bif q2 then q3 else false)=true) (V.c q8)/\((bif q2 then q3 else false)=true->(bif q2 then q3 else false)=true)/\A.cond ((bif q2 then q3 else false)=true) (V.c q8)=A.cond ((bif q2 then q3 else false)=true) (V.c q8)/\((bif bif q2 then q3 else false then aM else false)=true->((0:Int)<=q0 q9/\q0 q9<(s.size:Int))/\(0:Nat)+(1:Nat)<=(1:Nat)/\ak [V.c (W.rd (D.int .i64) (List.take (1:Nat) (List.drop (0:Nat) [q0 (q0 (IntKind.u8.wrap (jK s (q0 q9).toNat-(97:Int)))+(1:Int))])))]=aZ w/\[Ob.mk 223 [Fd.c (W.str s),Fd.c (W.int .i64 (q0 ((↑q1:Int)+(1:Int)))),Fd.c aQ,Fd.c q8]]=[dw s (j:Int) q5 n])/\((bif bif q2 then q3 else false then aM else false)=false->False))))) (by kernel_rfl)
 try simp only [imp_self,true_and,Nat.zero_add,Bool.cond_false_right,Bool.and_eq_true,Bool.and_eq_false_imp,decide_eq_true_eq,decide_eq_false_iff_not,Int.not_lt,List.drop_zero,List.take_succ_cons,List.take_zero,Nat.le_refl]
 have fX:i.toNat<=(af s).length:=by rw [aW];have:=h.2;omega
 have hsk:=(mP (af s) _ i.toNat rfl fX).2;unfold pF at e;rw [gY] at e;simp only [mq,yE,FI];obtain ⟨hat,_⟩:=ux h;refine ⟨h,fun g=>?_,fun g0=>⟨hat,fun g=>?_,fun g1=>⟨hat,?_⟩⟩⟩
 . rw [if_pos g] at e;have hr:JM 190 n (af s) d (bn (af s) i.toNat+1)=dG n (af s) d (bn (af s) i.toNat+1):=rfl;have e':endP (af s) 41 (dG n (af s) d (bn (af s) i.toNat+1))=some (w,j):=e;rw [hr,e'];have hlt:=(oL g).1;rw [aW] at hlt;exact ⟨⟨hat,by omega,hn,by omega,rfl⟩,rfl,rfl⟩
 . rw [if_neg (by rw [g0];simp),if_pos g] at e;have hr:JM 222 n (af s) d (bn (af s) i.toNat+1)=rJ (dG n (af s) d) (af s) (bn (af s) i.toNat+1):=rfl;have e':endP (af s) 93 (rJ (dG n (af s) d) (af s) (bn (af s) i.toNat+1))=some (w,j):=e;rw [hr,e'];have hlt:=(oL g).1;rw [aW] at hlt;exact ⟨⟨hat,by omega,hn,by omega,rfl⟩,rfl,rfl⟩
 rw [if_neg (by rw [g0];simp),if_neg (by rw [g1];simp)] at e;refine ⟨fun g=>?_,fun g=>?_⟩
 . unfold qk at e;rw [if_pos g] at e;cases e;exact ⟨rfl,rfl⟩
 . have ht:bR (af s) 49 i.toNat=bn (af s) i.toNat:=by unfold bR;rw [g];simp
   unfold qk at e;rw [if_neg (by rw [g];simp)] at e;rw [ht];have hl:=aW s;have hsz:=h.1;generalize bn (af s) i.toNat=p at *;split at e
   . rename_i hc;obtain ⟨c1,c2,c3⟩:=hc;have hb:=uQ s p;have w1:IntKind.i64.wrap ((p:Int)+1)=(p:Int)+1:=wrap64 (by omega) (by omega);have w2:IntKind.i64.wrap ((p:Int)+1-1)=(p:Int):=by rw [wrap64 (by omega) (by omega)];omega
     have hA:IntKind.i64.wrap (IntKind.u8.wrap ((af s).getD p 0-97))=(af s).getD p 0-97:=by rw [Oa (by omega) (by omega),wrap64 (by omega) (by omega)]
     have hB:IntKind.i64.wrap ((af s).getD p 0-97+1)=(af s).getD p 0-96:=by rw [wrap64 (by omega) (by omega)];omega
     simp only [w1,w2,Int.toNat_natCast,kM,hA,hB];cases e;exact ⟨fun _=>by omega,fun _=>by omega,fun _=>⟨by omega,rfl,rfl⟩,fun g4=>by have:=g4 (by omega);omega⟩
   . cases e
theorem JN:∀ d:Nat,d<=50->aH Tryz.prog 190 (iy dG d)
 | 0,_=>JL (C4 SH)
 | d+1,h=>JL (C4 (SI (by omega) (JN d (by omega))))
end Go.Proofs.YtepmdidomecebaaGreatDoor
namespace Go.Proofs.YtepmdidomecebaaGreatDoor
set_option maxRecDepth 100000
theorem Ga (x y:Value) (w:World) :
 CallsDIn Fence.wide 0 Tryz.prog 189 #[x,y] .returning w fun e u' w'=>e=.returned (.tuple #[])/\u'=.returning/\w'=w:=by
 refine callsDIn_of_wpSIn Tryz.func189 rfl (by simp [Fence.wide]) fun c₀ cs hu=>?_;apply wpSIn_seq;apply wpSIn_region;simp [wpOpsSIn,go_sem,recoverD,hu,Tryz.ntmps189,Exit.thenS,Fence.wide];apply wpSIn_seq;apply wpSIn_seq;apply wpSIn_region;simp [wpOpsSIn,go_sem,recoverD,hu,Exit.thenS];refine wpSIn_cond (t:=true) (by simp [Act.eval,Array.replicate]) ?_;simp only [if_true];refine wpSIn_of_wpIn rfl (wpIn_ret ?_);cases c₀;simp_all [bodyPostS,results,Tryz.results189,Exit.thenS]
end Go.Proofs.YtepmdidomecebaaGreatDoor
namespace Go.Proofs.YtepmdidomecebaaGreatDoor
open Go.aJ Go.Words
open Go.RowKit
set_option maxRecDepth 100000
theorem JO:zq Tryz.prog 189 2:=by
 refine ⟨by kernel_rfl,fun vs w hv=>?_⟩;obtain ⟨x,y,rfl⟩:∃ x y,vs=#[x,y]:=by
  rcases vs with ⟨l⟩
  match l,hv with
  | [x,y],_=>exact ⟨x,y,rfl⟩
 exact (Ga x y w).mono fun e u' w' ⟨h1,h2,h3⟩=>⟨h1,h2,by subst h3;exact Below.refl _ _⟩
noncomputable def gPa:bF:=[(190,iy dG 50),(191,uw)]
theorem gPa_ok:aS Tryz.prog gPa:=ai (JN 50 (by decide)) (ai qG ay)
def dfPa:List { x:FuncId×Nat // zq Tryz.prog x.1 x.2 }:=[⟨(189,2),JO⟩]
abbrev okF (w:List Int):A:=.aF [.c (.rd (.int .i64) w),.agg [.int .i64 0,.int .i64 0]]
theorem SJ (s:ByteArray) (g:Int) (w:List Int) (hs:s.size<=20000) (hg:RG g) (e:gj g (af s)=some w):aT Tryz.prog 164 [.p (.c (.str s)),nI g] [] (okF w) []:=by
 refine QX (live:=[]) (bQ:=[]) (fz:=[some dI,none]) dfPa gPa_ok Tryz.func164 (by kernel_rfl) (keep:=0) rfl (by kernel_rfl) 100 ?_;apply of_eq (q:=let q1:=(dG g (af s) (50:Nat) (0:Nat));let q2:=decide (g<(1:Int));let q3:=(W.rd (D.int .i64) (List.take (0:Nat) (List.drop (0:Nat) [])));let q4:=decide ((↑(bn (af s) (gv q1).snd):Int)<(s.size:Int));(q2=false->q2=false)/\(q2=false->q2=false)/\((bif q2 then true else decide ((16:Int)<g))=true->(0:Nat)<=(0:Nat)/\ak [V.c q3,V.agg [W.int .i64 (2),W.int .i64 (0)]]=okF w/\([]:List Ob)=[])/\((bif q2 then true else decide ((16:Int)<g))=false->(decide ((20000:Int)<(s.size:Int))=true->(0:Nat)<=(0:Nat)/\ak [V.c q3,V.agg [W.int .i64 (4),W.int .i64 (20000)]]=okF w/\([]:List Ob)=[])/\(decide ((20000:Int)<(s.size:Int))=false->(At s (0:Int)/\RG g/\(0:Int)=(50:Int)-(↑(50:Nat):Int)/\q1.isSome=true)/\At s (↑(gv q1).snd:Int)/\(q4=true->False)/\(q4=false->ak [V.c (W.rd (D.int .i64) (gv q1).fst),V.agg [W.int .i64 (0),W.int .i64 (0)]]=okF w/\([]:List Ob)=[])))) (by kernel_rfl)
 try simp only [imp_self,true_and,and_true,Bool.cond_true_left,Bool.or_eq_true,Bool.or_eq_false_iff,decide_eq_true_eq,decide_eq_false_iff_not,Int.not_lt,List.drop_zero,List.take_zero,Nat.le_refl]
 unfold gj at e;cases hv:dG g (af s) 50 0 with
 | none=>rw [hv] at e;cases e
 | some vk =>
 obtain ⟨v,k⟩:=vk;rw [hv] at e;dsimp only at e;obtain ⟨h1,h2⟩:=hg;obtain ⟨f1,f2⟩:=p6 50 0 v k (Nat.zero_le _) hv;have hl:=aW s;by_cases hs2:bn (af s) k<(af s).length
 . rw [if_pos hs2] at e;cases e
 . rw [if_neg hs2] at e;cases e;refine ⟨fun h=>by omega,fun _=>⟨fun h=>by omega,fun _=>⟨⟨⟨by omega,by omega,by omega⟩,⟨h1,h2⟩,by omega,rfl⟩,lC (by omega) f2,fun h=>?_,fun _=>rfl⟩⟩⟩
   exact hs2 (by rw [hl]; have : bn (af s) k < s.size := by exact_mod_cast h
                 exact this)
def SK:bw:=jj .str (.int .i64) fun s g=>(.p (s.size<=20000/\RG g/\(gj g (af s)).isSome=true),okF ((gj g (af s)).getD []),[])
theorem SL:aH Tryz.prog 164 SK:=fu (by kernel_rfl) fun s g h=>by
 obtain ⟨h1,h2,h3⟩:=h;obtain ⟨w,e⟩:=Option.isSome_iff_exists.1 h3;rw [e];exact SJ s g w h1 h2 e
end Go.Proofs.YtepmdidomecebaaGreatDoor
namespace Go.Proofs.YtepmdidomecebaaGreatDoor
open Go.aJ Go.Words Go.cG Go.RowKit
set_option maxRecDepth 100000
theorem vX {P:Program} {f:FuncId} {args:List A} {r:A} (h:∀ (η:Eta) (Z:Zeta) (w:World) vs,aN (bL η Z) args vs->Calls P f vs.toArray w fun e w'=>∃ u,e=.returned u/\w'=w/\∀ η Z,bL η Z r u):aT P f args [] r []:=by
 intro base η Z w vs R hvs hK;refine (callsIn_wide.2 (h η Z w vs hvs)).mono ?_;rintro e w' ⟨u,rfl,rfl,hu⟩;exact ⟨u,η,Z,rfl,⟨fun _ _ _ h=>h,R,Step.refl _ _ _ _⟩,hu η Z⟩
def dW (s:ByteArray):Int:=(af s).getD 0 0
theorem SN {s:ByteArray} (h:s.size=1):∃ c:UInt8,s=⟨#[c]⟩/\dW s=c.toNat:=by
 obtain ⟨⟨l⟩⟩:=s;have hl:l.length=1:=h
 match l,hl with
 | [c],_=>exact ⟨c,rfl,by simp [dW,af]⟩
theorem SQ (c:UInt8):∀ l:List UInt8,iG c.toNat (l.map fun b=>(b.toNat:Int))=Lib.countByte l c
 | []=>rfl
 | b :: l => by
   have ih:=SQ c l;unfold iG Lib.countByte at *;rw [List.map_cons,List.countP_cons,List.count_cons,ih];congr 1;by_cases h:b=c
   . subst h;simp
   . rw [if_neg,if_neg]
     . simpa using h
     . simp only [decide_eq_true_eq];intro h2;exact h (UInt8.toNat_inj.1 (by omega))
def tJ (c:Int) (l:List Int):Int:=match kx c l with | none=>-1 | some m=>m
theorem idx_eq (c:UInt8):∀ l:List UInt8,tJ c.toNat (l.map fun b=>(b.toNat:Int))=Lib.indexByte l c
 | []=>rfl
 | b :: l => by
   have ih:=idx_eq c l;unfold tJ at *;rw [List.map_cons,kx,Lib.indexByte];by_cases h:b=c
   . subst h;simp
   . have h2:¬ ((b.toNat:Int)=c.toNat):=fun h2=>h (UInt8.toNat_inj.1 (by omega));rw [if_neg h2,if_neg (by simpa using h),<-ih];cases hf:kx (c.toNat:Int) (l.map fun b=>(b.toNat:Int)) with
     | none=>rfl
     | some m =>
       have:¬ ((m:Int)=-1):=by omega
       simp [this]
theorem SR (s sep:ByteArray) (h:sep.size=1):aT Tryz.prog 137 [bW s,bW sep] [] (nI (iG (dW sep) (af s))) [] :=
 vX fun η Z w vs hvs => by
  obtain ⟨c,rfl,hc⟩:=SN h
  match vs,hvs with
  | [u,v],⟨⟨_,h1⟩,⟨_,h2⟩,_⟩ =>
    have h1:u=.string s:=h1;have h2:v=.string ⟨#[c]⟩:=h2;subst h1;subst h2;refine (Tryz.strings_Count_one s c w).mono ?_;rintro e w' ⟨rfl,rfl⟩;refine ⟨_,rfl,rfl,fun η Z=>⟨by simp,?_⟩⟩;rw [hc,show af s=s.data.toList.map fun b=>(b.toNat:Int) from rfl,SQ];simp only [aA,aG]
def SS:bw:=jj .str .str fun s sep=>(.p (sep.size=1),nI (iG (dW sep) (af s)),[])
theorem SV:aH Tryz.prog 137 SS:=fu (by kernel_rfl) fun s sep h=>SR s sep h
theorem SW (s sep:ByteArray) (h:sep.size=1):aT Tryz.prog 138 [bW s,bW sep] [] (nI (tJ (dW sep) (af s))) [] :=
 vX fun η Z w vs hvs => by
  obtain ⟨c,rfl,hc⟩:=SN h
  match vs,hvs with
  | [u,v],⟨⟨_,h1⟩,⟨_,h2⟩,_⟩ =>
    have h1:u=.string s:=h1;have h2:v=.string ⟨#[c]⟩:=h2;subst h1;subst h2;refine (Tryz.strings_Index_one s c w).mono ?_;rintro e w' ⟨rfl,rfl⟩;refine ⟨_,rfl,rfl,fun η Z=>⟨by simp,?_⟩⟩;rw [hc,show af s=s.data.toList.map fun b=>(b.toNat:Int) from rfl,idx_eq];simp only [aA,aG]
def SX:bw:=jj .str .str fun s sep=>(.p (sep.size=1),nI (tJ (dW sep) (af s)),[])
theorem SY:aH Tryz.prog 138 SX:=fu (by kernel_rfl) fun s sep h=>SW s sep h
theorem Az {c:Int} {t:ByteArray} {m:Nat} (h:kx c (af t)=some m):bq c t=t.extract 0 m::bq c (t.extract (m+1) t.size)/\iG c (af t)=iG c (af (t.extract (m+1) t.size))+1/\m<t.size:=by
 obtain ⟨h1,h2,h3⟩:=vW h;have hl:=aW t;have e1:=sQ t 0 m;have e2:af (t.extract (m+1) t.size)=(af t).drop (m+1):=by
  have:=sQ t (m+1) t.size;rw [<-this,eP fun x hx=>oT (List.mem_of_mem_drop (List.mem_of_mem_take hx)),List.take_of_length_le];rw [List.length_drop];omega
 have hs:=Ay (c:=c) (af t);rw [h] at hs;simp only at hs;refine ⟨?_,?_,by omega⟩
 . unfold bq;rw [hs,e2,List.map_cons,<-e1,List.drop_zero,Nat.sub_zero]
 . have a:=qJ c (af t);have b:=qJ c ((af t).drop (m+1));rw [hs,List.length_cons] at a;rw [e2];omega
theorem JQ {c:Int} {l:List Int} (h:0<iG c l):∃ m,kx c l=some m:=by
 cases hf:kx c l with
 | some m=>exact ⟨m,rfl⟩
 | none =>
   have:=vV hf;have e:iG c l=0:=by
    unfold iG;rw [List.countP_eq_zero];intro x hx;simpa using this x hx
   omega
theorem KW {c:Int} {t:ByteArray} (h:iG c (af t)=0):bq c t=[t]:=by
 have hs:=Ay (c:=c) (af t);cases hf:kx c (af t) with
 | some m =>
   have:=(Az hf).2.1;omega
 | none =>
   rw [hf] at hs;unfold bq;rw [hs];simp [lS]
noncomputable def OW:bF:=[(137,SS),(138,SX)]
theorem Mn:aS Tryz.prog OW:=ai SV (ai SY ay)
abbrev pSpl:List Nat:=[0,0,1,1,1,1,1,1,1,1]
abbrev zE:List (List Nat×List Nat):=[(pSpl,[0,1,2,3,9,10])]
noncomputable def sSpl:Site:=aY Tryz.prog OW Tryz.f102 0 zE [] [some dS]
theorem Wh {l:List ByteArray} {i j:Nat} {x:ByteArray}:(l.set i x)[j]? = if i=j/\i<l.length then some x else l[j]?:=by
 rw [List.getElem?_set];split
 . rename_i h;subst h;split
   . rename_i h2;rw [if_pos ⟨rfl,h2⟩]
   . rename_i h2;rw [if_neg (by omega),List.getElem?_eq_none (by omega)]
 . rename_i h;rw [if_neg (by omega)]
theorem FJ {l:List ByteArray} {i:Nat} (x:ByteArray) (h:i<l.length):(l.set i x).take (i+1)=l.take i++[x]:=by
 rw [List.take_add_one,List.take_set_of_le (Nat.le_refl _),Wh,if_pos ⟨rfl,h⟩];rfl
theorem JR (sep:ByteArray) (hsep:sep.size=1) (PS:List ByteArray) (n:Nat) (hn:n<=1000000):∀ (k i:Nat) (t:ByteArray) (l:List ByteArray),k=iG (dW sep) (af t)->i+k+1=n->l.length=n->t.size<=1000000->PS=l.take i++bq (dW sep) t->
 aq sSpl (ax (kR PS) []) pSpl (fr [(0,bW t),(1,bW sep),(2,nI 0),(3,nI (n-1:Nat)),(9,.p (.c (.sl 0 0 n 1))),(10,nI i)]) (.ofList [obS l])
 | k,i,t,l,hk,hi,hl,ht,hP=>by
   refine aK Mn (by kernel_rfl) 100 ?_;apply of_eq (q:=let q0:=IntKind.i64.wrap;let q2:=((i:Int)+(1:Int));let q3:=(0:Int);let q4:=(tJ (dW sep) (af t)+(sep.size:Int));let q5:=(tJ (dW sep) (af t)+q3);let q6:=(0:Nat);let q1:=(W.rd D.str (List.take (q0 q2-q3).toNat (List.drop (q6+q6*(1:Nat)) (l.set (q6+i) t))));(decide ((i:Int)<(↑(n-(1:Nat)):Int))=true->sep.size=(1:Nat)/\(decide (tJ (dW sep) (af t)<q3)=true->(q3<=(i:Int)/\(i:Int)<(n:Int))/\q6+i<l.length/\(q3<=q3/\q3<=q0 q2/\q0 q2<=(n:Int))/\q6+q6*(1:Nat)+(q0 q2-q3).toNat<=(l.set (q6+i) t).length/\ak [V.c q1]=kR PS/\([]:List Ob)=[])/\(decide (tJ (dW sep) (af t)<q3)=false->(q3<=q3/\q3<=q0 q5/\q0 q5<=(t.size:Int))/\(q3<=(i:Int)/\(i:Int)<(n:Int))/\q6+i<l.length/\(q3<=q0 q4/\q0 q4<=(t.size:Int)/\(t.size:Int)<=(t.size:Int))/\aq sSpl (ax (kR PS) []) [0,0,1,1,1,1,1,1,1,1] (fr [(0,A.p (V.c (W.str (t.extract (q0 q4).toNat t.size)))),(1,A.p (V.c (W.str sep))),(2,nI (0)),(3,nI (↑(n-(1:Nat)):Int)),(9,A.p (V.c (W.sl 0 0 n 1))),(10,nI (q0 q2))]) (ah.ofList [Ob.mk 9 [Fd.a 0 D.str (l.set (q6+i) (t.extract q6 (q0 q5).toNat))]])))/\(decide ((i:Int)<(↑(n-(1:Nat)):Int))=false->(q3<=(i:Int)/\(i:Int)<(n:Int))/\q6+i<l.length/\(q3<=q3/\q3<=q0 q2/\q0 q2<=(n:Int))/\q6+q6*(1:Nat)+(q0 q2-q3).toNat<=(l.set (q6+i) t).length/\ak [V.c q1]=kR PS/\([]:List Ob)=[])) (by kernel_rfl)
   try simp only [true_and,and_true,Nat.zero_add,Nat.mul_one,decide_eq_true_eq,decide_eq_false_iff_not,Int.not_lt,List.drop_zero,Int.le_refl]
   have hlast:k=0->kR (List.take (IntKind.i64.wrap ((i:Int)+1)-0).toNat (l.set i t))=kR PS:=fun h0=>by
    rw [wrap64 (n:=(i:Int)+1) (by omega) (by omega),show (((i:Int)+1)-0).toNat=i+1 by omega,FJ t (by omega),hP,KW (by omega)]
   have hw:IntKind.i64.wrap ((i:Int)+1)=(i:Int)+1:=wrap64 (by omega) (by omega);refine ⟨fun h=>?_,fun h=>⟨by omega,by omega,by omega,by rw [List.length_set];omega,hlast (by omega)⟩⟩;have hpos:0<iG (dW sep) (af t):=by omega
   obtain ⟨m,hm⟩:=JQ hpos;obtain ⟨e1,e2,e3⟩:=Az hm;have hx:tJ (dW sep) (af t)=(m:Int):=by unfold tJ;rw [hm]
   rw [hx,hsep,wrap64 (n:=(m:Int)+0) (by omega) (by omega),wrap64 (n:=(m:Int)+((1:Nat):Int)) (by omega) (by omega),hw];refine ⟨rfl,fun h0=>by omega,fun _=>⟨by omega,by omega,by omega,by omega,?_⟩⟩;rw [show ((m:Int)+((1:Nat):Int)).toNat=m+1 by omega,show ((m:Int)+0).toNat=m by omega];cases k with
   | zero=>omega
   | succ k =>
     refine JR sep hsep PS n hn k (i+1) _ _ (by omega) (by omega) (by rw [List.length_set];exact hl) ?_ ?_
     . rw [ByteArray.size_extract];omega
     . rw [hP,e1,FJ _ (by omega),List.append_assoc];rfl
theorem Mq (c:Int) (l:List Int):iG c l<=l.length:=List.countP_le_length
theorem JS (s sep:ByteArray) (hsep:sep.size=1) (hs:s.size<=900000):aT Tryz.prog 102 [bW s,bW sep,nI 0,nI (-1)] [] (kR (bq (dW sep) s)) []:=by
 refine cJ (live:=zE) (bQ:=[]) (fz:=[some dS]) Mn Tryz.func102 (by kernel_rfl) (keep:=0) rfl (by kernel_rfl) 100 ?_;apply of_eq (q:=let q0:=IntKind.i64.wrap;let q1:=(q0 ((s.size:Int)+(1:Int)));let q2:=(q0 ((↑(iG (dW sep) (af s)):Int)+(1:Int)));let q3:=(-1:Int);(decide (q3=(0:Int))=true->(0:Nat)<=(0:Nat)/\ak [V.c (W.rd D.str (List.take (0:Nat) (List.drop (0:Nat) [])))]=kR (bq (dW sep) s)/\([]:List Ob)=[])/\(decide (q3=(0:Int))=false->(decide (sep=ByteArray.mk #[])=true->False)/\(decide (sep=ByteArray.mk #[])=false->(decide (q3<(0:Int))=true->sep.size=(1:Nat)/\((0:Int)<=min q2 q1/\min q2 q1<=min q2 q1/\(↑(16:Nat):Int)*min q2 q1<=(140737488355328:Int))/\aq (aY Tryz.prog OW Tryz.f102 (0:Nat) zE [] [some dS]) (ax (kR (bq (dW sep) s)) []) [0,0,1,1,1,1,1,1,1,1] (fr [(0,A.p (V.c (W.str s))),(1,A.p (V.c (W.str sep))),(2,nI (0)),(3,nI (q0 (min q2 q1-(1:Int)))),(9,A.p (V.c (W.sl 0 0 (min q2 q1).toNat (1:Nat)))),(10,nI (0))]) (ah.ofList [Ob.mk 9 [Fd.a 0 D.str (List.replicate (min q2 q1).toNat (ByteArray.mk #[]))]]))/\(decide (q3<(0:Int))=false->((0:Int)<=min q3 q1/\min q3 q1<=min q3 q1/\(↑(16:Nat):Int)*min q3 q1<=(140737488355328:Int))/\aq (aY Tryz.prog OW Tryz.f102 (0:Nat) zE [] [some dS]) (ax (kR (bq (dW sep) s)) []) [0,0,1,1,1,1,1,1,1,1] (fr [(0,A.p (V.c (W.str s))),(1,A.p (V.c (W.str sep))),(2,nI (0)),(3,nI (q0 (min q3 q1-(1:Int)))),(9,A.p (V.c (W.sl 0 0 (min q3 q1).toNat (1:Nat)))),(10,nI (0))]) (ah.ofList [Ob.mk 9 [Fd.a 0 D.str (List.replicate (min q3 q1).toNat (ByteArray.mk #[]))]]))))) (by kernel_rfl)
 try simp only [true_and,and_true,decide_eq_true_eq,decide_eq_false_iff_not,Int.not_lt,List.drop_zero,List.take_zero,Nat.le_refl,Int.le_refl,Int.reduceEq,not_false_eq_true]
 have hc:=Mq (dW sep) (af s);rw [aW] at hc;rw [wrap64 (n:=(iG (dW sep) (af s):Int)+1) (by omega) (by omega),wrap64 (n:=(s.size:Int)+1) (by omega) (by omega),Int.min_eq_left (by omega),wrap64 (n:=(iG (dW sep) (af s):Int)+1-1) (by omega) (by omega)];refine ⟨fun h=>h.elim,fun _=>⟨fun h=>(by rw [h] at hsep;cases hsep),fun _=>⟨fun _=>⟨hsep,by omega,?_⟩,fun h=>by omega⟩⟩⟩;have:=JR sep hsep (bq (dW sep) s) (iG (dW sep) (af s)+1) (by omega) (iG (dW sep) (af s)) 0 s (List.replicate (iG (dW sep) (af s)+1) ⟨#[]⟩) rfl (by omega) (by simp) (by omega) (by simp);rw [show ((iG (dW sep) (af s):Int)+1).toNat=iG (dW sep) (af s)+1 by omega,show (iG (dW sep) (af s):Int)+1-1=((iG (dW sep) (af s)+1-1:Nat):Int) by omega];exact this
def Ec:bw:={ refs:=[],f:=fun args aj=>match args,aj with
 | [x,y,.p (.c (.int .i64 a)),.p (.c (.int .i64 b))],[]=>match gb .str x,gb .str y with
   | some s,some sep=>some (.p (a=0/\b=-1/\(show ByteArray from sep).size=1/\(show ByteArray from s).size<=900000),kR (bq (dW sep) s),[])
   | _,_=>none
 | _,_=>none }
theorem OX:aH Tryz.prog 102 Ec:=by
 refine ⟨by kernel_rfl,fun args aj c r aR e hc=>?_⟩;simp only [Ec] at e;split at e
 . rename_i x y a b;split at e
   . rename_i s sep hx hy;cases e;obtain ⟨h1,h2,h3,h4⟩:=hc;have h1:a=0:=h1;have h2:b=-1:=h2;subst h1;subst h2;exact (JS s sep h3 h4).args fun η Z vs hv=>match vs,hv with
      | [_,_,_,_],⟨a1,a2,a3,a4,_⟩=>⟨ck hx a1,ck hy a2,a3,a4,trivial⟩
   . cases e
 . cases e
noncomputable def gSp:bF:=[(102,Ec)]
theorem gSp_ok:aS Tryz.prog gSp:=ai OX ay
theorem FK (s sep:ByteArray) (hsep:sep.size=1) (hs:s.size<=900000):aT Tryz.prog 51 [bW s,bW sep] [] (kR (bq (dW sep) s)) []:=by
 refine cJ (live:=[]) (bQ:=[]) (fz:=[]) gSp_ok Tryz.func51 (by kernel_rfl) (keep:=0) rfl (by kernel_rfl) 100 ?_;apply of_eq (q:=((0:Int)=(0:Int)/\(-1:Int)=(-1:Int)/\sep.size=(1:Nat)/\s.size<=(900000:Nat))/\ak [V.c (W.rd D.str (bq (dW sep) s))]=kR (bq (dW sep) s)/\([]:List Ob)=[]) (by kernel_rfl)
 try simp only [true_and,and_true]
 exact ⟨⟨hsep,hs⟩,rfl⟩
def JT:bw:=jj .str .str fun s sep=>(.p (sep.size=1/\s.size<=900000),kR (bq (dW sep) s),[])
theorem FL:aH Tryz.prog 51 JT:=fu (by kernel_rfl) fun s sep h=>FK s sep h.1 h.2
def pfx (p s:ByteArray):Bool:=(af p).isPrefixOf (af s)
def oU (p s:ByteArray):ByteArray:=if pfx p s=true then s.extract p.size s.size else s
theorem SZ (s p : ByteArray) : Lib.hasPrefix s.data.toList p.data.toList = pfx p s := by
 unfold Lib.hasPrefix pfx af;have : ∀ a b : List UInt8, a.isPrefixOf b = (a.map fun x => (x.toNat : Int)).isPrefixOf (b.map fun x => (x.toNat : Int)) := by
  intro a
  induction a with
  | nil=>intro b;simp
  | cons x a ih =>
    intro b;cases b with
    | nil=>rfl
    | cons y b =>
      simp only [List.map_cons,List.isPrefixOf,ih b];congr 1;by_cases h:x=y
      . subst h;rw [beq_self_eq_true,beq_self_eq_true]
      . have h2:¬ ((x.toNat:Int)=y.toNat):=fun h2=>h (UInt8.toNat_inj.1 (by omega));rw [beq_eq_false_iff_ne.2 h,beq_eq_false_iff_ne.2 h2]
 exact this _ _
theorem cut_eq (s p:ByteArray):(⟨(Lib.trimPrefix s.data.toList p.data.toList).toArray⟩:ByteArray)=oU p s:=by
 unfold Lib.trimPrefix oU;rw [SZ];split
 . refine iQ ?_;rw [sH];simp only [af];rw [ByteArray.data_extract,Array.toList_extract,List.extract_eq_take_drop,List.take_of_length_le]
   . rfl
   . rw [List.length_drop];exact Nat.le_refl _
 . exact ByteArray.ext (Array.toArray_toList ..)
theorem Wi (s p:ByteArray):aT Tryz.prog 141 [bW s,bW p] [] (.aF [.c (.str (oU p s)),.c (.bool (pfx p s))]) [] :=
 vX fun η Z w vs hvs => by
  match vs,hvs with
  | [u,v],⟨⟨_,h1⟩,⟨_,h2⟩,_⟩ =>
    have h1:u=.string s:=h1;have h2:v=.string p:=h2;subst h1;subst h2;refine (Tryz.strings_CutPrefix s p w).mono ?_;rintro e w' ⟨rfl,rfl⟩;refine ⟨_,rfl,rfl,fun η Z=>⟨[_,_],rfl,⟨by simp,?_⟩,⟨by simp,?_⟩,trivial⟩⟩
    . rw [cut_eq];simp only [aA,aG]
    . rw [SZ];simp only [aA,aG]
def X1:bw:=jj .str .str fun s p=>(.t,.aF [.c (.str (oU p s)),.c (.bool (pfx p s))],[])
theorem Wj:aH Tryz.prog 141 X1:=fu (by kernel_rfl) fun s p _=>Wi s p
end Go.Proofs.YtepmdidomecebaaGreatDoor
