/- Reading back: pieces between separators, numbers. -/
import Derived.Test.YtmajgbnpplgaoaaGreatDoorSave1
import Derived.Lib.AtoiTie
import Derived.Test.YtmajgbnpplgaoaaGreatDoorWord1
import Derived.Test.YtmajgbnpplgaoaaGreatDoorText1
import Derived.Test.YtmajgbnpplgaoaaGreatDoorProg
import Derived.Tactics
import Derived.Tactics2
import Derived.Defers
import Derived.Recover
import Derived.Laws.Pointers
import Derived.TacticsInMore
import Derived.RegionIn
import Derived.LoopNIn
import Derived.RecoverIn
import Derived.Test.YtmajgbnpplgaoaaGreatDoorLoom4
namespace Go.Proofs.YtmajgbnpplgaoaaGreatDoor
open Go.ax Go.Words Go.cU
set_option maxRecDepth 100000
def fJ (c:Int):List Int->List (List Int)
 | []=>[[]]
 | x::l=>if x=c then []::fJ c l else (x::(fJ c l).headD [])::(fJ c l).tail
theorem zB (c:Int):∀ l,fJ c l≠[]
 | []=>by simp [fJ]
 | x::l=>by rw [fJ];split <;> simp
theorem Bv (c:Int) (l:List Int):∃ p r,fJ c l=p::r:=by
 cases h:fJ c l with
 | nil=>exact absurd h (zB c l)
 | cons p r=>exact ⟨p,r,rfl⟩
theorem DP {c:Int}:∀ {p:List Int} (r:List Int),(∀ x∈p,x≠c)->fJ c (p++c::r)=p::fJ c r
 | [],r,_=>by rw [List.nil_append,fJ,if_pos rfl]
 | x::p,r,h=>by
   rw [List.cons_append,fJ,if_neg (h x (by simp)),DP r fun y hy=>h y (by simp [hy])]
   rfl
theorem DQ {c:Int}:∀ {p:List Int},(∀ x∈p,x≠c)->fJ c p=[p]
 | [],_=>rfl
 | x::p,h=>by
   rw [fJ,if_neg (h x (by simp)),DQ fun y hy=>h y (by simp [hy])]
   rfl
def lJ (c:Int):List Int->Option Nat
 | []=>none
 | x::l=>if x=c then some 0 else (lJ c l).map (· + 1)
theorem w9 {c:Int}:∀ {l:List Int},lJ c l=none->∀ x∈l,x≠c
 | [],_=>by simp
 | x :: l, h => by
   rw [lJ] at h
   split at h
   . cases h
   . rename_i hx
     intro y hy
     rcases List.mem_cons.1 hy with rfl | hy
     . exact hx
     . exact w9 (by simpa using h) y hy
theorem xg {c:Int}:∀ {l:List Int} {m:Nat},lJ c l=some m->m<l.length/\(∀ x∈l.take m,x≠c)/\l.drop m=c::l.drop (m+1)
 | [],_,h=>by cases h
 | x :: l, m, h => by
   rw [lJ] at h
   split at h
   . rename_i hx
     cases h
     subst hx
     exact ⟨by simp,by simp,by simp⟩
   . rename_i hx
     cases hf:lJ c l with
     | none=>rw [hf] at h;cases h
     | some k =>
       rw [hf] at h
       cases h
       obtain ⟨a,b,d⟩:=xg hf
       refine ⟨by simpa using a,fun y hy=>?_,by simpa using d⟩
       rw [List.take_succ_cons] at hy
       rcases List.mem_cons.1 hy with rfl | hy
       . exact hx
       . exact b y hy
theorem Bw {c:Int} (l:List Int):fJ c l=match lJ c l with | none=>[l] | some m=>l.take m::fJ c (l.drop (m+1)):=by
 cases h:lJ c l with
 | none=>exact DQ (w9 h)
 | some m =>
   obtain ⟨a,b,d⟩:=xg h
   have e:=DP (p:=l.take m) (l.drop (m+1)) b
   rw [<-d,List.take_append_drop] at e
   exact e
def jA (c:Int) (l:List Int):Nat:=l.countP fun x=>decide (x=c)
theorem sx (c:Int):∀ l,(fJ c l).length=jA c l+1
 | []=>rfl
 | x :: l => by
   have ih:=sx c l
   obtain ⟨p,r,e⟩:=Bv c l
   rw [fJ]
   unfold jA at ih ⊢
   rw [List.countP_cons]
   split
   . rename_i h
     rw [List.length_cons,ih]
     simp [h]
   . rename_i h
     rw [e] at ih ⊢
     simp [h] at ih ⊢
     omega
def bI (c:Int) (s:ByteArray):List ByteArray:=(fJ c (af s)).map bg
theorem pK {a b:ByteArray} (h:af a=af b):a=b:=by
 have key : ∀ l m : List UInt8, (l.map fun x => (x.toNat : Int)) = (m.map fun x => (x.toNat : Int)) → l = m := by
  intro l
  induction l with
  | nil=>intro m h;cases m with | nil=>rfl | cons _ _=>simp at h
  | cons x l ih =>
    intro m h
    cases m with
    | nil=>simp at h
    | cons y m =>
      simp only [List.map_cons,List.cons.injEq] at h
      have hxy:x=y:=UInt8.toNat_inj.1 (by have:=h.1;omega)
      rw [ih m h.2,hxy]
 have e:=key a.data.toList b.data.toList (by simpa [af] using h)
 apply ByteArray.ext
 exact Array.ext' e
theorem ql {s:ByteArray} {x:Int} (h:x∈af s):0<=x/\x<256:=by
 simp only [af,List.mem_map] at h
 obtain ⟨b,_,rfl⟩:=h
 have:=b.toNat_lt
 omega
theorem DR (s:ByteArray):bg (af s)=s:=pK (fU fun _ h=>ql h)
theorem tW (s:ByteArray) (i j:Nat):bg (((af s).drop i).take (j-i))=s.extract i j:=by
 refine pK ?_
 rw [fU fun x h=>ql (List.mem_of_mem_drop (List.mem_of_mem_take h))]
 simp only [af]
 rw [ByteArray.data_extract,Array.toList_extract,List.extract_eq_take_drop,List.map_take,List.map_drop]
def Bx (l:List Int):Bool:=decide (1<=l.length/\l.length<=10/\(l=[48]∨l.getD 0 0≠48))&&l.all jI
def dU (l:List Int):Option Int:=if l=[45,49] then some (-1) else if Bx l=true then some (num l) else none
def nK (u:Nat):List Int:=(Lib.decDigits u).map fun b=>(b.toNat:Int)
theorem pL {u:Nat} (h:u<10):nK u=[48+(u:Int)]:=by
 unfold nK
 rw [Lib.decDigits,dif_pos h]
 simp
 omega
theorem Co {u:Nat} (h:¬ u<10):nK u=nK (u / 10)++[48+((u % 10:Nat):Int)]:=by
 unfold nK
 rw [Lib.decDigits,dif_neg h]
 simp
 omega
theorem Fa (u:Nat):num (nK u)=u/\(nK u).all jI=true/\1<=(nK u).length/\(u≠0->(nK u).getD 0 0≠48):=by
 induction u using Nat.strongRecOn with
 | _ u ih =>
   by_cases h:u<10
   . rw [pL h]
     refine ⟨by simp [num];omega,by simp [jI];omega,by simp,fun h0=>by simp;omega⟩
   . obtain ⟨a,b,c,d⟩:=ih (u / 10) (by omega)
     rw [Co h]
     refine ⟨?_,?_,by simp,fun _=>?_⟩
     . rw [wU,a];omega
     . rw [List.all_append,b];simp [jI];omega
     . have:=d (by omega)
       cases hl:nK (u / 10) with
       | nil=>rw [hl] at c;simp at c
       | cons x r=>rw [hl] at this;simpa using this
theorem KA:∀ (k u:Nat),u<10 ^ (k+1)->(nK u).length<=k+1
 | 0,u,h=>by rw [pL (by simpa using h)];simp
 | k + 1, u, h => by
   by_cases h0:u<10
   . rw [pL h0];simp
   . rw [Co h0,List.length_append]
     have:=KA k (u / 10) (by rw [Nat.pow_succ] at h;omega)
     simp;omega
theorem Uc:nK 0=[48]:=pL (by omega)
theorem XB {u:Nat} (h:u<10 ^ 10):Bx (nK u)=true:=by
 obtain ⟨a,b,c,d⟩:=Fa u
 have:=KA 9 u h
 unfold Bx
 rw [b,Bool.and_true,decide_eq_true_eq]
 refine ⟨c,by omega,?_⟩
 by_cases h0:u=0
 . subst h0;exact .inl Uc
 . exact .inr (d h0)
theorem zC (n:Nat):af (cG (n:Int))=nK n:=by
 unfold cG nK Lib.itoa
 rw [if_neg (by omega),tR]
 simp
theorem KC:af (cG (-1))=[45,49]:=by decide +kernel
def rU (x:Int):Prop:=-1<=x/\x<10000000000
theorem aaM {x:Int} (h:rU x):dU (af (cG x))=some x:=by
 obtain ⟨h1,h2⟩:=h
 by_cases h0:x=-1
 . subst h0;rw [KC];rfl
 . have e:x=(x.toNat:Int):=by omega
   rw [e,zC]
   obtain ⟨a,b,c,d⟩:=Fa x.toNat
   have hd:=XB (u:=x.toNat) (by omega)
   unfold dU
   rw [if_neg,if_pos hd,a]
   intro h45
   rw [h45] at b
   simp [jI] at b
theorem Ud {x:Int} (h:rU x):∀ c∈af (cG x),c=45∨48<=c/\c<=57:=by
 obtain ⟨h1,h2⟩:=h
 by_cases h0:x=-1
 . subst h0;rw [KC];intro c hc;simp at hc;omega
 . have e:x=(x.toNat:Int):=by omega
   rw [e,zC]
   obtain ⟨a,b,c,d⟩:=Fa x.toNat
   intro y hy
   rw [List.all_eq_true] at b
   exact .inr (mF (b y hy))
end Go.Proofs.YtmajgbnpplgaoaaGreatDoor
namespace Go.Proofs.YtmajgbnpplgaoaaGreatDoor
open Go.ax Go.Words
set_option maxRecDepth 100000
def mq (l:List Int) (N:Nat) (f:j7):Prop:=∀ i w j,i<=l.length->f i=some (w,j)->w.length<=N/\j<=l.length
theorem gP {l:List Int} {c:Int} {i:Nat} (h:i<=l.length):bE l c i<=l.length:=by
 have:=jz l _ i rfl h
 unfold bE
 split
 . rename_i h1
   have:=(lI h1).1
   omega
 . omega
theorem xh {l : List Int} {item : j7} (h : mq l 16000 item) : mq l 16000 (uG item l) := by
 intro i w j hi e
 unfold uG at e
 split at e
 . cases e
 . rename_i v k hv
   obtain ⟨h1,h2⟩:=h i v k hi hv
   split at e
   . cases e
   · split at e
     · split at e
       . split at e
         . cases e
         . rename_i hh
           cases e
           have h3:=gP (c:=45) (gP (c:=94) h2)
           refine ⟨?_,(Aw l _ _ rfl h3).2⟩
           generalize gO l (bE l 45 (bE l 94 k))=x at *
           have hl:(if cx l 45 (bE l 94 k)=true then fQ v else v).length=v.length:=by split <;> simp [fQ]
           rw [kF,hl]
           rcases Int.lt_or_le x 0 with hx | hx
           . rw [Int.toNat_of_nonpos (by omega)];omega
           . have:((x.toNat*v.length:Nat):Int)=x*v.length:=by simp [Int.toNat_of_nonneg hx]
             omega
       . cases e
     . cases e
       exact ⟨h1,gP h2⟩
theorem tX {l:List Int} {xX:j7} (h:mq l 16000 xX):∀ (m:Nat) (acc:List Int),mq l 4000 (qx xX l m acc)
 | 0,acc=>fun i w j _ e=>by cases e
 | m + 1, acc => fun i w j hi e => by
   rw [qx] at e
   split at e
   . cases e
   . rename_i v k hv
     obtain ⟨h1,h2⟩:=h _ v k (jz l _ i rfl hi).2 hv
     split at e
     . cases e
     . rename_i hh
       split at e
       . exact tX h m _ _ w j (gP h2) e
       . cases e
         exact ⟨by omega,gP h2⟩
theorem xj {l:List Int} {c:Int} {N:Nat} {i:Nat} {f:j7} (h:mq l N f) (hi:i<=l.length) {w:List Int} {j:Nat} (e:endP l c (f i)=some (w,j)):w.length<=N/\j<=l.length:=by
 unfold endP at e
 split at e
 . cases e
 . rename_i v k hv
   obtain ⟨h1,h2⟩:=h i v k hi hv
   split at e
   . cases e;exact ⟨h1,gP h2⟩
   . cases e
theorem Cp {l:List Int} {f:j7} (h:mq l 4000 f):mq l 16000 (sS f l):=by
 intro i w j hi e
 unfold sS at e
 split at e
 . cases e
 . rename_i x k hx
   obtain ⟨h1,h2⟩:=xj h hi hx
   split at e
   . cases e
   . rename_i y m hy
     obtain ⟨h3,h4⟩:=h _ _ _ h2 hy
     cases e
     refine ⟨?_,h4⟩
     simp [fQ];omega
theorem KD {l:List Int} {g:Int}:mq l 16000 (nH g l):=by
 intro i w j hi e
 unfold nH at e
 split at e
 . cases e;exact ⟨by simp,gP hi⟩
 . split at e
   . cases e;exact ⟨by simp,by omega⟩
   . cases e
theorem mO {l:List Int} {g:Int}:∀ d:Nat,mq l 16000 (gZ g l d)
 | 0=>fun i w j hi e=>by
   rw [gZ] at e
   split at e
   . cases e
   . exact KD i w j hi e
 | d + 1 => fun i w j hi e => by
   have hw:=tX (xh (mO (l:=l) (g:=g) d)) (l.length+1) []
   rw [gZ] at e
   split at e
   . rename_i hs
     have:=xj hw (i:=aZ l i+1) (by have:=(lI hs).1;omega) e
     omega
   . split at e
     . rename_i hs
       exact xj (Cp hw) (i:=aZ l i+1) (by have:=(lI hs).1;omega) e
     . exact KD i w j hi e
theorem qY {l:List Int} {g:Int} (d:Nat):mq l 4000 (cQ g l d):=tX (xh (mO d)) _ _
def RG (n:Int):Prop:=1<=n/\n<=16
abbrev gv (r:Option (List Int×Nat)):List Int×Nat:=r.getD ([],0)
def ia (n:Int) (l:List Int) (d:Nat):j7:=gZ n l d
def jG (n:Int) (l:List Int) (d:Nat):j7:=uG (gZ n l d) l
def kX (n:Int) (l:List Int) (d:Nat):j7:=sS (cQ n l d) l
theorem GP {l:List Int} {k:Nat} (h:gB l k=true):0<=gO l k/\gO l k<10000:=by
 have ho:=of_decide_eq_true h
 have Sz:k<=l.length:=by
  rcases Nat.lt_or_ge l.length k with h1 | h1
  . rw [vE (by omega)] at ho;omega
  . exact h1
 have hle:=Aw l _ k rfl Sz
 have hd:∀ c∈(l.drop k).take (fD l k-k),jI c=true:=by
  intro c hc
  obtain ⟨m,hm,rfl⟩:=List.mem_iff_getElem.1 hc
  rw [List.length_take,List.length_drop] at hm
  rw [List.getElem_take,List.getElem_drop]
  have:=wV l _ k rfl (k+m) (by omega) (by omega)
  rw [List.getD_eq_getElem?_getD,List.getElem?_eq_getElem (by omega)] at this
  exact this
 have hn:=tQ (fD l k-k) _ (by rw [List.length_take,List.length_drop];omega) (by omega) hd
 have h2:(10:Int) ^ (fD l k-k)<=10 ^ 4:=by
  have:fD l k-k=0∨fD l k-k=1∨fD l k-k=2∨fD l k-k=3∨fD l k-k=4:=by omega
  rcases this with h | h | h | h | h <;> rw [h] <;> decide
 unfold gO
 omega
theorem Ue {l:List Int} {c:Int} {i:Nat} (h:cx l c i=false):aZ l (bE l c i)=bE l c i:=by
 have:bE l c i=aZ l i:=by unfold bE;rw [h];simp
 rw [this,nS]
theorem kY {s:ByteArray} {k:Nat} (h:s.size<=1000000) (hk:k<=(af s).length):At s k:=by
 rw [bq] at hk
 exact ⟨h,by omega,by omega⟩
def zD (g:Nat) (n:Int) (l:List Int) (d:Nat):j7:=bif Nat.beq g 120 then cQ n l d else sS (cQ n l d) l
theorem zE (l:List Int) (c:Int) (i:Nat):cx l c (aZ l i)=cx l c i:=by unfold cx;rw [nS]
theorem GQ (l:List Int) (c:Int) (i:Nat):bE l c (aZ l i)=bE l c i:=by unfold bE;rw [zE,nS]
noncomputable def gIt0:bS:=[(140,HL),(133,vH)]
theorem aaN:bt Tryz.prog gIt0:=ar Cc (ar qV aC)
end Go.Proofs.YtmajgbnpplgaoaaGreatDoor
namespace Go.Proofs.YtmajgbnpplgaoaaGreatDoor
set_option maxRecDepth 100000
end Go.Proofs.YtmajgbnpplgaoaaGreatDoor
namespace Go.Proofs.YtmajgbnpplgaoaaGreatDoor
open Go.ax Go.Words
open Go.RowKit
set_option maxRecDepth 100000
end Go.Proofs.YtmajgbnpplgaoaaGreatDoor
namespace Go.Proofs.YtmajgbnpplgaoaaGreatDoor
open Go.ax Go.Words Go.cU Go.RowKit
set_option maxRecDepth 100000
theorem xq {P:Program} {f:FuncId} {args:List A} {r:A} (h:∀ (η:Eta) (Z:aA) (w:World) vs,aT (cr η Z) args vs->Calls P f vs.toArray w fun e w'=>∃ u,e=.returned u/\w'=w/\∀ η Z,cr η Z r u):bw P f args [] r []:=by
 intro base η Z w vs R hvs hK
 refine (callsIn_wide.2 (h η Z w vs hvs)).mono ?_
 rintro e w' ⟨u,rfl,rfl,hu⟩
 exact ⟨u,η,Z,rfl,⟨fun _ _ _ h=>h,R,Step.refl _ _ _ _⟩,hu η Z⟩
def eU (s:ByteArray):Int:=(af s).getD 0 0
theorem Uf {s:ByteArray} (h:s.size=1):∃ c:UInt8,s=⟨#[c]⟩/\eU s=c.toNat:=by
 obtain ⟨⟨l⟩⟩:=s
 have hl:l.length=1:=h
 match l,hl with
 | [c],_=>exact ⟨c,rfl,by simp [eU,af]⟩
theorem Ug (c:UInt8):∀ l:List UInt8,jA c.toNat (l.map fun b=>(b.toNat:Int))=Lib.countByte l c
 | []=>rfl
 | b :: l => by
   have ih:=Ug c l
   unfold jA Lib.countByte at *
   rw [List.map_cons,List.countP_cons,List.count_cons,ih]
   congr 1
   by_cases h:b=c
   . subst h;simp
   . rw [if_neg,if_neg]
     . simpa using h
     . simp only [decide_eq_true_eq]
       intro h2
       exact h (UInt8.toNat_inj.1 (by omega))
def uH (c:Int) (l:List Int):Int:=match lJ c l with | none=>-1 | some m=>m
theorem idx_eq (c:UInt8):∀ l:List UInt8,uH c.toNat (l.map fun b=>(b.toNat:Int))=Lib.indexByte l c
 | []=>rfl
 | b :: l => by
   have ih:=idx_eq c l
   unfold uH at *
   rw [List.map_cons,lJ,Lib.indexByte]
   by_cases h:b=c
   . subst h;simp
   . have h2:¬ ((b.toNat:Int)=c.toNat):=fun h2=>h (UInt8.toNat_inj.1 (by omega))
     rw [if_neg h2,if_neg (by simpa using h),<-ih]
     cases hf:lJ (c.toNat:Int) (l.map fun b=>(b.toNat:Int)) with
     | none=>rfl
     | some m =>
       have:¬ ((m:Int)=-1):=by omega
       simp [this]
theorem Uh (s sep:ByteArray) (h:sep.size=1):bw Tryz.prog 76 [ck s,ck sep] [] (nI (jA (eU sep) (af s))) [] :=
 xq fun η Z w vs hvs => by
  obtain ⟨c,rfl,hc⟩:=Uf h
  match vs,hvs with
  | [u,v],⟨⟨_,h1⟩,⟨_,h2⟩,_⟩ =>
    have h1:u=.string s:=h1
    have h2:v=.string ⟨#[c]⟩:=h2
    subst h1;subst h2
    refine (Tryz.strings_Count_one s c w).mono ?_
    rintro e w' ⟨rfl,rfl⟩
    refine ⟨_,rfl,rfl,fun η Z=>⟨by simp,?_⟩⟩
    rw [hc,show af s=s.data.toList.map fun b=>(b.toNat:Int) from rfl,Ug]
    simp only [aF,aM]
def Ui:bP:=jU .str .str fun s sep=>(.p (sep.size=1),nI (jA (eU sep) (af s)),[])
theorem Uj:aV Tryz.prog 76 Ui:=fT (by kernel_rfl) fun s sep h=>Uh s sep h
theorem Uk (s sep:ByteArray) (h:sep.size=1):bw Tryz.prog 77 [ck s,ck sep] [] (nI (uH (eU sep) (af s))) [] :=
 xq fun η Z w vs hvs => by
  obtain ⟨c,rfl,hc⟩:=Uf h
  match vs,hvs with
  | [u,v],⟨⟨_,h1⟩,⟨_,h2⟩,_⟩ =>
    have h1:u=.string s:=h1
    have h2:v=.string ⟨#[c]⟩:=h2
    subst h1;subst h2
    refine (Tryz.strings_Index_one s c w).mono ?_
    rintro e w' ⟨rfl,rfl⟩
    refine ⟨_,rfl,rfl,fun η Z=>⟨by simp,?_⟩⟩
    rw [hc,show af s=s.data.toList.map fun b=>(b.toNat:Int) from rfl,idx_eq]
    simp only [aF,aM]
def Ul:bP:=jU .str .str fun s sep=>(.p (sep.size=1),nI (uH (eU sep) (af s)),[])
theorem Um:aV Tryz.prog 77 Ul:=fT (by kernel_rfl) fun s sep h=>Uk s sep h
theorem Bz {c:Int} {t:ByteArray} {m:Nat} (h:lJ c (af t)=some m):bI c t=t.extract 0 m::bI c (t.extract (m+1) t.size)/\jA c (af t)=jA c (af (t.extract (m+1) t.size))+1/\m<t.size:=by
 obtain ⟨h1,h2,h3⟩:=xg h
 have hl:=bq t
 have e1:=tW t 0 m
 have e2:af (t.extract (m+1) t.size)=(af t).drop (m+1):=by
  have:=tW t (m+1) t.size
  rw [<-this,fU fun x hx=>ql (List.mem_of_mem_drop (List.mem_of_mem_take hx)),List.take_of_length_le]
  rw [List.length_drop];omega
 have hs:=Bw (c:=c) (af t)
 rw [h] at hs
 simp only at hs
 refine ⟨?_,?_,by omega⟩
 . unfold bI
   rw [hs,e2,List.map_cons,<-e1,List.drop_zero,Nat.sub_zero]
 . have a:=sx c (af t)
   have b:=sx c ((af t).drop (m+1))
   rw [hs,List.length_cons] at a
   rw [e2]
   omega
theorem KE {c:Int} {l:List Int} (h:0<jA c l):∃ m,lJ c l=some m:=by
 cases hf:lJ c l with
 | some m=>exact ⟨m,rfl⟩
 | none =>
   have:=w9 hf
   have e:jA c l=0:=by
    unfold jA
    rw [List.countP_eq_zero]
    intro x hx
    simpa using this x hx
   omega
theorem Mt {c:Int} {t:ByteArray} (h:jA c (af t)=0):bI c t=[t]:=by
 have hs:=Bw (c:=c) (af t)
 cases hf:lJ c (af t) with
 | some m =>
   have:=(Bz hf).2.1
   omega
 | none =>
   rw [hf] at hs
   unfold bI
   rw [hs]
   simp [DR]
noncomputable def Qe:bS:=[(76,Ui),(77,Ul)]
theorem ND:bt Tryz.prog Qe:=ar Uj (ar Um aC)
abbrev pSpl:List Nat:=[0,0,1,1,1,1,1,1,1,1]
abbrev AG:List (List Nat×List Nat):=[(pSpl,[0,1,2,3,9,10])]
noncomputable def sSpl:bD:=bN Tryz.prog Qe Tryz.f58 0 AG [] [some dS]
theorem XC {l:List ByteArray} {i j:Nat} {x:ByteArray}:(l.set i x)[j]? = if i=j/\i<l.length then some x else l[j]?:=by
 rw [List.getElem?_set]
 split
 . rename_i h;subst h
   split
   . rename_i h2;rw [if_pos ⟨rfl,h2⟩]
   . rename_i h2;rw [if_neg (by omega),List.getElem?_eq_none (by omega)]
 . rename_i h;rw [if_neg (by omega)]
theorem GR {l:List ByteArray} {i:Nat} (x:ByteArray) (h:i<l.length):(l.set i x).take (i+1)=l.take i++[x]:=by
 rw [List.take_add_one,List.take_set_of_le (Nat.le_refl _),XC,if_pos ⟨rfl,h⟩]
 rfl
theorem KF (sep:ByteArray) (hsep:sep.size=1) (PS:List ByteArray) (n:Nat) (hn:n<=1000000):∀ (k i:Nat) (t:ByteArray) (l:List ByteArray),k=jA (eU sep) (af t)->i+k+1=n->l.length=n->t.size<=1000000->PS=l.take i++bI (eU sep) t->
 av sSpl (aG (mG PS) []) pSpl (fr [(0,ck t),(1,ck sep),(2,nI 0),(3,nI (n-1:Nat)),(9,.p (.c (.sl 0 0 n 1))),(10,nI i)]) (.ofList [obS l])
 | k,i,t,l,hk,hi,hl,ht,hP=>by
   refine aX ND (by kernel_rfl) 100 ?_
   apply of_eq (q:=let q0:=IntKind.i64.wrap;let q2:=(uH (eU sep) (af t)+(sep.size:Int));let q3:=(i:Int);let q4:=(uH (eU sep) (af t)+0);let q1:=(0:Nat)+i<l.length/\((0:Int)<=0/\(0:Int)<=q0 (q3+1)/\q0 (q3+1)<=(n:Int))/\(0:Nat)+0*1+(q0 (q3+1)-0).toNat<=(l.set ((0:Nat)+i) t).length/\aB [V.c (W.rd D.str (List.take (q0 (q3+1)-0).toNat (List.drop ((0:Nat)+0*1) (l.set ((0:Nat)+i) t))))]=mG PS/\([]:List Ob)=[];(decide (q3<(↑(n-1):Int))=true->sep.size=1/\(decide (uH (eU sep) (af t)<0)=true->((0:Int)<=q3/\q3<(n:Int))/\q1)/\(decide (uH (eU sep) (af t)<0)=false->((0:Int)<=0/\(0:Int)<=q0 q4/\q0 q4<=(t.size:Int))/\((0:Int)<=q3/\q3<(n:Int))/\(0:Nat)+i<l.length/\((0:Int)<=q0 q2/\q0 q2<=(t.size:Int)/\(t.size:Int)<=(t.size:Int))/\av sSpl (aG (mG PS) []) [0,0,1,1,1,1,1,1,1,1] (fr [(0,aP (W.str (t.extract (q0 q2).toNat t.size))),(1,aP (W.str sep)),(2,nI (0)),(3,nI (↑(n-1):Int)),(9,aS 0 0 n),(10,nI (q0 (q3+1)))]) (ai.ofList [Ob.mk 9 [Fd.a 0 D.str (l.set ((0:Nat)+i) (t.extract (0:Nat) (q0 q4).toNat))]])))/\(decide (q3<(↑(n-1):Int))=false->((0:Int)<=q3/\q3<(n:Int))/\q1)) (by kernel_rfl)
   try simp only [sL]
   have hlast:k=0->mG (List.take (IntKind.i64.wrap ((i:Int)+1)-0).toNat (l.set i t))=mG PS:=fun h0=>by
    rw [wrap64 (n:=(i:Int)+1) (by omega) (by omega),show (((i:Int)+1)-0).toNat=i+1 by omega,GR t (by omega),hP,Mt (by omega)]
   have hw:IntKind.i64.wrap ((i:Int)+1)=(i:Int)+1:=wrap64 (by omega) (by omega)
   refine ⟨fun h=>?_,fun h=>⟨by omega,by omega,by omega,by rw [List.length_set];omega,hlast (by omega)⟩⟩
   have hpos:0<jA (eU sep) (af t):=by omega
   obtain ⟨m,hm⟩:=KE hpos
   obtain ⟨e1,e2,e3⟩:=Bz hm
   have hx:uH (eU sep) (af t)=(m:Int):=by unfold uH;rw [hm]
   rw [hx,hsep,wrap64 (n:=(m:Int)+0) (by omega) (by omega),wrap64 (n:=(m:Int)+((1:Nat):Int)) (by omega) (by omega),hw]
   refine ⟨rfl,fun h0=>by omega,fun _=>⟨by omega,by omega,by omega,by omega,?_⟩⟩
   rw [show ((m:Int)+((1:Nat):Int)).toNat=m+1 by omega,show ((m:Int)+0).toNat=m by omega]
   cases k with
   | zero=>omega
   | succ k =>
     refine KF sep hsep PS n hn k (i+1) _ _ (by omega) (by omega) (by rw [List.length_set];exact hl) ?_ ?_
     . rw [ByteArray.size_extract];omega
     . rw [hP,e1,GR _ (by omega),List.append_assoc]
       rfl
theorem NE (c:Int) (l:List Int):jA c l<=l.length:=List.countP_le_length
theorem KG (s sep:ByteArray) (hsep:sep.size=1) (hs:s.size<=900000):bw Tryz.prog 58 [ck s,ck sep,nI 0,nI (-1)] [] (mG (bI (eU sep) s)) []:=by
 refine eI (aq:=AG) (cE:=[]) (fz:=[some dS]) ND Tryz.func58 (by kernel_rfl) (ay:=0) rfl (by kernel_rfl) 100 ?_
 apply of_eq (q:=let q0:=IntKind.i64.wrap;let q1:=(q0 ((s.size:Int)+1));let q2:=(q0 ((↑(jA (eU sep) (af s)):Int)+1));let q3:=(-1:Int);(decide (q3=0)=true->(0:Nat)<=0/\aB [V.c (W.rd D.str (List.take (0:Nat) (List.drop (0:Nat) [])))]=mG (bI (eU sep) s)/\([]:List Ob)=[])/\(decide (q3=0)=false->(decide (sep=ByteArray.mk #[])=true->False)/\(decide (sep=ByteArray.mk #[])=false->(decide (q3<0)=true->sep.size=1/\((0:Int)<=min q2 q1/\min q2 q1<=min q2 q1/\(↑(16:Nat):Int)*min q2 q1<=140737488355328)/\av (bN Tryz.prog Qe Tryz.f58 (0:Nat) AG [] [some dS]) (aG (mG (bI (eU sep) s)) []) [0,0,1,1,1,1,1,1,1,1] (fr [(0,aP (W.str s)),(1,aP (W.str sep)),(2,nI (0)),(3,nI (q0 (min q2 q1-1))),(9,aS 0 0 (min q2 q1).toNat),(10,nI (0))]) (ai.ofList [Ob.mk 9 [Fd.a 0 D.str (List.replicate (min q2 q1).toNat (ByteArray.mk #[]))]]))/\(decide (q3<0)=false->((0:Int)<=min q3 q1/\min q3 q1<=min q3 q1/\(↑(16:Nat):Int)*min q3 q1<=140737488355328)/\av (bN Tryz.prog Qe Tryz.f58 (0:Nat) AG [] [some dS]) (aG (mG (bI (eU sep) s)) []) [0,0,1,1,1,1,1,1,1,1] (fr [(0,aP (W.str s)),(1,aP (W.str sep)),(2,nI (0)),(3,nI (q0 (min q3 q1-1))),(9,aS 0 0 (min q3 q1).toNat),(10,nI (0))]) (ai.ofList [Ob.mk 9 [Fd.a 0 D.str (List.replicate (min q3 q1).toNat (ByteArray.mk #[]))]]))))) (by kernel_rfl)
 try simp only [sL,Int.reduceEq]
 have hc:=NE (eU sep) (af s)
 rw [bq] at hc
 rw [wrap64 (n:=(jA (eU sep) (af s):Int)+1) (by omega) (by omega),wrap64 (n:=(s.size:Int)+1) (by omega) (by omega),Int.min_eq_left (by omega),wrap64 (n:=(jA (eU sep) (af s):Int)+1-1) (by omega) (by omega)]
 refine ⟨fun h=>h.elim,fun _=>⟨fun h=>(by rw [h] at hsep;cases hsep),fun _=>⟨fun _=>⟨hsep,by omega,?_⟩,fun h=>by omega⟩⟩⟩
 have:=KF sep hsep (bI (eU sep) s) (jA (eU sep) (af s)+1) (by omega) (jA (eU sep) (af s)) 0 s (List.replicate (jA (eU sep) (af s)+1) ⟨#[]⟩) rfl (by omega) (by simp) (by omega) (by simp)
 rw [show ((jA (eU sep) (af s):Int)+1).toNat=jA (eU sep) (af s)+1 by omega,show (jA (eU sep) (af s):Int)+1-1=((jA (eU sep) (af s)+1-1:Nat):Int) by omega]
 exact this
def Fb:bP:={ cF:=[],f:=fun args ak=>match args,ak with
 | [x,y,.p (.c (.int .i64 a)),.p (.c (.int .i64 b))],[]=>match fH .str x,fH .str y with
   | some s,some sep=>some (.p (a=0/\b=-1/\(show ByteArray from sep).size=1/\(show ByteArray from s).size<=900000),mG (bI (eU sep) s),[])
   | _,_=>none
 | _,_=>none }
theorem Qf:aV Tryz.prog 58 Fb:=by
 refine ⟨by kernel_rfl,fun args ak c r bp e hc=>?_⟩
 simp only [Fb] at e
 split at e
 . rename_i x y a b
   split at e
   . rename_i s sep hx hy
     cases e
     obtain ⟨h1,h2,h3,h4⟩:=hc
     have h1:a=0:=h1
     have h2:b=-1:=h2
     subst h1;subst h2
     exact (KG s sep h3 h4).args fun η Z vs hv=>match vs,hv with
      | [_,_,_,_],⟨a1,a2,a3,a4,_⟩=>⟨cg hx a1,cg hy a2,a3,a4,trivial⟩
   . cases e
 . cases e
noncomputable def gSp:bS:=[(58,Fb)]
theorem gSp_ok:bt Tryz.prog gSp:=ar Qf aC
theorem GS (s sep:ByteArray) (hsep:sep.size=1) (hs:s.size<=900000):bw Tryz.prog 34 [ck s,ck sep] [] (mG (bI (eU sep) s)) []:=by
 refine eI (aq:=[]) (cE:=[]) (fz:=[]) gSp_ok Tryz.func34 (by kernel_rfl) (ay:=0) rfl (by kernel_rfl) 100 ?_
 apply of_eq (q:=((0:Int)=0/\(-1:Int)=(-1:Int)/\sep.size=1/\s.size<=900000)/\aB [V.c (W.rd D.str (bI (eU sep) s))]=mG (bI (eU sep) s)/\([]:List Ob)=[]) (by kernel_rfl)
 try simp only [sL]
 exact ⟨⟨hsep,hs⟩,rfl⟩
def Un:bP:=jU .str .str fun s sep=>(.p (sep.size=1/\s.size<=900000),mG (bI (eU sep) s),[])
theorem Uo:aV Tryz.prog 34 Un:=fT (by kernel_rfl) fun s sep h=>GS s sep h.1 h.2
def pfx (p s:ByteArray):Bool:=(af p).isPrefixOf (af s)
def mP (p s:ByteArray):ByteArray:=if pfx p s=true then s.extract p.size s.size else s
theorem Uq (s p : ByteArray) : Lib.hasPrefix s.data.toList p.data.toList = pfx p s := by
 unfold Lib.hasPrefix pfx af
 have : ∀ a b : List UInt8, a.isPrefixOf b = (a.map fun x => (x.toNat : Int)).isPrefixOf (b.map fun x => (x.toNat : Int)) := by
  intro a
  induction a with
  | nil=>intro b;simp
  | cons x a ih =>
    intro b
    cases b with
    | nil=>rfl
    | cons y b =>
      simp only [List.map_cons,List.isPrefixOf,ih b]
      congr 1
      by_cases h:x=y
      . subst h;rw [beq_self_eq_true,beq_self_eq_true]
      . have h2:¬ ((x.toNat:Int)=y.toNat):=fun h2=>h (UInt8.toNat_inj.1 (by omega))
        rw [beq_eq_false_iff_ne.2 h,beq_eq_false_iff_ne.2 h2]
 exact this _ _
theorem cut_eq (s p:ByteArray):(⟨(Lib.trimPrefix s.data.toList p.data.toList).toArray⟩:ByteArray)=mP p s:=by
 unfold Lib.trimPrefix mP
 rw [Uq]
 split
 . refine pK ?_
   rw [tR]
   simp only [af]
   rw [ByteArray.data_extract,Array.toList_extract,List.extract_eq_take_drop,List.take_of_length_le]
   . rfl
   . rw [List.length_drop]
     exact Nat.le_refl _
 . exact ByteArray.ext (Array.toArray_toList ..)
theorem XD (s p:ByteArray):bw Tryz.prog 80 [ck s,ck p] [] (.aL [.c (.str (mP p s)),.c (.bool (pfx p s))]) [] :=
 xq fun η Z w vs hvs => by
  match vs,hvs with
  | [u,v],⟨⟨_,h1⟩,⟨_,h2⟩,_⟩ =>
    have h1:u=.string s:=h1
    have h2:v=.string p:=h2
    subst h1;subst h2
    refine (Tryz.strings_CutPrefix s p w).mono ?_
    rintro e w' ⟨rfl,rfl⟩
    refine ⟨_,rfl,rfl,fun η Z=>⟨[_,_],rfl,⟨by simp,?_⟩,⟨by simp,?_⟩,trivial⟩⟩
    . rw [cut_eq];simp only [aF,aM]
    . rw [Uq];simp only [aF,aM]
def Zm:bP:=jU .str .str fun s p=>(.t,.aL [.c (.str (mP p s)),.c (.bool (pfx p s))],[])
theorem XE:aV Tryz.prog 80 Zm:=fT (by kernel_rfl) fun s p _=>XD s p
end Go.Proofs.YtmajgbnpplgaoaaGreatDoor
namespace Go.Proofs.YtmajgbnpplgaoaaGreatDoor
open Go.ax Go.Words Go.cU
set_option maxRecDepth 100000
def aY (e i:Int):Value:=.iface 81 (.agg #[.int .i64 e,.int .i64 i])
abbrev aO (L:List ByteArray) (a:Int) (x:W):Ob:=⟨87,[.c (.rd .str L),.c (.int .i64 a),.c x]⟩
def noU8:W->Bool
 | .int .u8 _=>false
 | _=>true
def DS:List Ob->Option (List ByteArray×Int×W×List Ob)
 | ⟨t,[.c (.rd .str L),.c (.int .i64 a),.c x]⟩::bn=>bif Nat.beq t 87&&noU8 x then some (L,a,x,bn) else none
 | _=>none
theorem KH {ak bn:List Ob} {L:List ByteArray} {a:Int} {x:W} (e:DS ak=some (L,a,x,bn)):ak=aO L a x::bn/\∀ n,x≠.int .u8 n:=by
 unfold DS at e
 split at e
 . obtain ⟨hb,e1⟩:=au.aH e
   clear e
   simp only [Bool.and_eq_true] at hb
   cases Nat.eq_of_beq_eq_true hb.1
   cases e1
   refine ⟨rfl,fun n h=>?_⟩
   rw [h] at hb
   cases hb.2
 . cases e
structure rV (d:D) where
 c:List ByteArray->Int->d.ty->Prop
 b:List ByteArray->Int->d.ty->Bool
 r:List ByteArray->Int->d.ty->A
 n:List ByteArray->Int->d.ty->Int
def rV.con {d:D} (M:rV d):bP:={ cF:=[true,false],f:=fun args ak=>match args with
 | [.p (.c (.ptr 0 0)),y]=>match fH d y,DS ak with
   | some y,some (L,a,x,bn)=>some (.p (M.c L a y/\M.b L a y=false),M.r L a y,aO L (M.n L a y) x::bn)
   | _,_=>none
 | _=>none }
def rV.die {d:D} (M:rV d):dK:={ cF:=[true,false],f:=fun args ak=>match args with
 | [.p (.c (.ptr 0 0)),y]=>match fH d y,DS ak with
   | some y,some (L,a,_,_)=>some (.p (M.c L a y),some (M.b L a y),aY 11 a)
   | _,_=>none
 | _=>none }
def A.flat:A->Prop
 | .p (.c x)=>x.clean=true
 | .aL vs=>∀ v∈vs,∃ x,v=.c x/\x.clean=true
 | _=>False
theorem vX {η aE:Eta} {Z:aA}:∀ {r:A},A.flat r->∀ {u:Value},cr η Z r u->cr aE Z r u
 | .p (.c x),h,u,hr=>⟨hr.1,qR (aA.le.refl _) h hr.2⟩
 | .p (.agg _),h,_,_=>h.elim
 | .aL vs, h, u, ⟨us, hu, hl⟩ => by
   refine ⟨us,hu,?_⟩
   replace h:∀ v∈vs,∃ x,v=.c x/\x.clean=true:=h
   clear hu
   induction vs generalizing us with
   | nil=>cases us with | nil=>trivial | cons _ _=>exact hl.elim
   | cons v vs ih =>
     cases us with
     | nil=>exact hl.elim
     | cons u us =>
       obtain ⟨x,rfl,hx⟩:=h v (by simp)
       exact ⟨⟨hl.1.1,qR (aA.le.refl _) hx hl.1.2⟩,ih us hl.2 fun v hv=>h v (by simp [hv])⟩
 | .cond _ _,h,_,_=>h.elim
 | .dec _,h,_,_=>h.elim
theorem KI {d:D} {y:d.ty} (η aE:Eta) (Z:aA) (vs:List Value) (h0:η 0=aE 0) (h:aT (cr η Z) [.p (.c (.ptr 0 0)),dat d y] vs):aT (cr aE Z) [.p (.c (.ptr 0 0)),dat d y] vs:=by
 match vs,h with
 | [u,v],⟨⟨_,p,hp,hu⟩,⟨hd,hv⟩,_⟩=>exact ⟨⟨by simp,p,by rw [<-h0];exact hp,hu⟩,⟨hd,(D.f6 d).2 ((D.f6 d).1 hv)⟩,trivial⟩
theorem rV.both {d:D} {M:rV d} {f:FuncId} (he:enters Tryz.prog f=true) (hr:∀ L a y,A.flat (M.r L a y))
 (H:∀ L a y v,M.c L a y->(M.b L a y=false->bA Tryz.prog f 1 [.p (.c (.ptr 0 0)),dat d y] [aO L a (.val v)] (M.r L a y) [aO L (M.n L a y) (.val v)])/\(M.b L a y=true->dQ Tryz.prog f [.p (.c (.ptr 0 0)),dat d y] [aO L a (.val v)] (aY 11 a))) :
 aV Tryz.prog f M.con/\cZ Tryz.prog f M.die:=by
 constructor
 . refine ⟨he,fun args ak c r bp e hc=>?_⟩
   simp only [rV.con] at e
   split at e
   . rename_i y
     split at e
     . rename_i y' L a x bn hy ho
       cases e
       obtain ⟨hc1,hc2⟩:=hc
       obtain ⟨rfl,hx⟩:=KH ho
       have:=bA.veiled (T:=87) (a:=.rd .str L) (l:=[.int .i64 a]) (a':=.rd .str L) (l':=[.int .i64 (M.n L a y')]) (k:=(aO L a x::bn).length) (x:=x) (bn:=bn) rfl (by intro z hz;rw [List.mem_singleton.1 hz];rfl) rfl (by intro z hz;rw [List.mem_singleton.1 hz];rfl) KI (fun η aE Z u hu=>vX (hr L a y') hu) (fun v=>(H L a y' v hc1).1 hc2) hx
       intro base η Z w vs R hvs hK
       match vs,hvs with
       | [u,v],⟨h1,h2,_⟩=>exact this base η Z w [u,v] R ⟨h1,cg hy h2,trivial⟩ hK
     . cases e
   . cases e
 . refine ⟨he,fun args ak c b u e hc hb=>?_⟩
   simp only [rV.die] at e
   split at e
   . rename_i y
     split at e
     . rename_i y' L a x bn hy ho
       cases e
       obtain ⟨rfl,hx⟩:=KH ho
       have:=dQ.veiled (T:=87) (a:=.rd .str L) (l:=[.int .i64 a]) (x:=x) rfl (by intro z hz;rw [List.mem_singleton.1 hz];rfl) KI (fun v=>(H L a y' v hc).2 (by cases h:M.b L a y' <;> simp_all)) hx bn
       intro base η Z w vs R hvs hK
       match vs,hvs with
       | [u,v],⟨h1,h2,_⟩=>exact this base η Z w [u,v] R ⟨h1,cg hy h2,trivial⟩ hK
     . cases e
   . cases e
abbrev pX:A:=.p (.c (.ptr 0 0))
theorem XF (o:Ob) (e i:Int):dQ Tryz.prog 35 [pX,nI e,nI i] [o] (aY e i):=by
 refine (dw (dies:=[]) (aq:=[]) (cE:=[]) (fz:=[]) aC Tryz.func35 (by kernel_rfl) 1 (by kernel_rfl) (b:=true) (r0:=.aL []) (bL:=[]) 100 ?_).2 rfl
 apply of_eq (q:=true=true/\Value.iface (81:Nat) (Value.agg #[Value.int .i64 e,Value.int .i64 i])=aY e i) (by kernel_rfl)
 try simp only [sL]
 rfl
def DT:dK:={ cF:=[true,false,false],f:=fun args ak=>match args,ak with
 | [.p (.c (.ptr 0 0)),.p (.c (.int .i64 e)),.p (.c (.int .i64 i))],⟨t,[.c (.rd .str L),.c (.int .i64 a),.c x]⟩::bn=>bif Nat.beq t 87&&noU8 x then some (.t,none,aY e i) else none
 | _,_=>none }
theorem Cq:cZ Tryz.prog 35 DT:=by
 refine ⟨by kernel_rfl,fun args ak c b u e hc hb=>?_⟩
 simp only [DT] at e
 split at e
 . rename_i er i t L a x bn
   obtain ⟨j5,e1⟩:=au.aH e
   clear e
   simp only [Bool.and_eq_true] at j5
   cases Nat.eq_of_beq_eq_true j5.1
   cases e1
   refine dQ.veiled (T:=87) (a:=.rd .str L) (l:=[.int .i64 a]) (x:=x) rfl (by intro z hz;rw [List.mem_singleton.1 hz];rfl) (fun η aE Z vs h0 h=>?_) (fun v=>XF _ er i) (fun n h=>by rw [h] at j5;cases j5.2) bn
   match vs,h with
   | [u,v,w],⟨⟨_,p,hp,hu⟩,h2,h3,_⟩=>exact ⟨⟨by simp,p,by rw [<-h0];exact hp,hu⟩,h2,h3,trivial⟩
 . cases e
def DU:bP:={ cF:=[true,false,false],f:=fun args ak=>match args,ak with
 | [.p (.c (.ptr 0 0)),.p (.c (.int .i64 _)),.p (.c (.int .i64 _))],⟨_,[.c (.rd .str _),.c (.int .i64 _),.c _]⟩::_=>some (.p False,.aL [],ak)
 | _,_=>none }
theorem Cr:aV Tryz.prog 35 DU:=by
 refine ⟨by kernel_rfl,fun args ak c r bp e hc=>?_⟩
 simp only [DU] at e
 split at e
 . cases e;exact hc.elim
 . cases e
noncomputable def gNu:bS:=[(35,DU),(78,PJ)]
theorem Ur:bt Tryz.prog gNu:=ar Cr (ar JT aC)
def sZ:List { x:FuncId×dK // cZ Tryz.prog x.1 x.2 }:=[⟨(35,DT),Cq⟩]
abbrev pNu:List Nat:=[0,1,0,1,1,1]
abbrev KJ:List (List Nat×List Nat):=[(pNu,[0,1,5,30,31,32])]
noncomputable def sNu (b:Bool) (u:Value):bD:=cD Tryz.prog gNu sZ Tryz.f59 1 KJ [] [] b u
theorem dgS_ok {s:ByteArray} (h:Bx (af s)=true):Gw s:=by
 unfold Bx at h
 simp only [Bool.and_eq_true,decide_eq_true_eq,List.all_eq_true,bq] at h
 exact ⟨h.2,h.1.1,h.1.2.1⟩
theorem NG (L:List ByteArray) (a:Int) (s:ByteArray) (v:Value) (hs:s.size<=900000) (hm:af s≠[45,49]):∀ (k i:Nat) (g:Bool),k=s.size-i->i<=s.size->(g&&((af s).drop i).all jI)=Bx (af s)->
 av (sNu (dU (af s)).isNone (aY 11 a)) (ez (dU (af s)).isNone (nI ((dU (af s)).getD 0)) [aO L a (.val v)]) pNu (fr [(0,pX),(1,ck s),(5,bB g),(30,.p (.c (.rd (.int .u8) (af s)))),(31,nI s.size),(32,nI i)]) (.ofList [aO L a (.val v)])
 | k,i,g,hk,hi,hg=>by
   refine aX Ur (by kernel_rfl) 100 ?_
   apply of_eq (q:=let q2:=(af s);let q1:=(bif g then decide ((48:Int)<=q2.getD i (0:Int)) else false)=true;(decide ((i:Int)<(s.size:Int))=true->((0:Int)<=(i:Int)/\(i:Int)<(↑q2.length:Int))/\i<q2.length/\(g=true->g=true)/\(g=true->g=true)/\(q1->q1)/\(q1->q1)/\av (sNu (dU q2).isNone (aY (11:Int) a)) (ez (dU q2).isNone (nI ((dU q2).getD (0:Int))) [aO L a (W.val v)]) [0,1,0,1,1,1] (fr [(0,aR 0 0),(1,aP (W.str s)),(5,bB (bif bif g then decide ((48:Int)<=q2.getD i (0:Int)) else false then decide (q2.getD i (0:Int)<=57) else false)),(30,aP (W.rd (D.int .u8) q2)),(31,nI (s.size:Int)),(32,nI (IntKind.i64.wrap ((i:Int)+1)))]) (ai.ofList [Ob.mk 87 [Fd.c (W.rd D.str L),fI a,Fd.c (W.val v)]]))/\(decide ((i:Int)<(s.size:Int))=false->((!g)=true->(dU q2).isNone=true/\aY (11:Int) a=aY (11:Int) a)/\((!g)=false->Gw s/\(dU q2).isNone=false/\aB [vI (num q2)]=nI ((dU q2).getD (0:Int))/\[Ob.mk 87 [Fd.c (W.rd D.str L),fI a,Fd.c (W.val v)]]=[aO L a (W.val v)]))) (by kernel_rfl)
   try simp only [sL]
   have hl:=bq s
   refine ⟨fun h=>⟨by omega,by omega,?_⟩,fun h=>?_⟩
   . rw [wrap64 (n:=(i:Int)+1) (by omega) (by omega)]
     cases k with
     | zero=>omega
     | succ k =>
       refine NG L a s v hs hm k (i+1) _ (by omega) (by omega) ?_
       rw [jP (l:=af s) (i:=i) (by omega),List.all_cons] at hg
       rw [<-hg]
       unfold jI
       cases g <;> simp
   . rw [List.drop_eq_nil_of_le (by omega),List.all_nil,Bool.and_true] at hg
     refine ⟨fun h0=>?_,fun h0=>?_⟩
     . rw [h0] at hg
       unfold dU
       rw [if_neg hm,<-hg];rfl
     . rw [h0] at hg
       refine ⟨dgS_ok hg.symm,?_⟩
       unfold dU
       rw [if_neg hm,if_pos hg.symm]
       exact ⟨rfl,rfl⟩
theorem XG (L:List ByteArray) (a:Int) (s:ByteArray) (v:Value) (hs:s.size<=900000):((dU (af s)).isNone=false->bA Tryz.prog 59 1 [pX,ck s] [aO L a (.val v)] (nI ((dU (af s)).getD 0)) [aO L a (.val v)])/\((dU (af s)).isNone=true->dQ Tryz.prog 59 [pX,ck s] [aO L a (.val v)] (aY 11 a)):=by
 refine dw (dies:=sZ) (aq:=KJ) (cE:=[]) (fz:=[]) Ur Tryz.func59 (by kernel_rfl) 1 (by kernel_rfl) 100 ?_
 apply of_eq (q:=let q2:=decide (s=ByteArray.mk #[(48:UInt8)])=false;let q3:=decide ((0:Int)<(s.size:Int));let q4:=(dU (af s));let q5:=decide (s=ByteArray.mk #[(45:UInt8),(49:UInt8)]);let q1:=(bif q3 then decide ((s.size:Int)<=10) else false)=true;(q5=true->q4.isNone=false/\aB [vI (-1)]=nI (q4.getD (0:Int))/\[Ob.mk 87 [Fd.c (W.rd D.str L),fI a,Fd.c (W.val v)]]=[aO L a (W.val v)])/\(q5=false->(q3=true->q3=true)/\(q3=true->q3=true)/\(q3=true->q3=true)/\(q1->q1)/\(q1->q1)/\(q1/\q2->q1/\q2)/\(q1/\q2->(0:Int)<=0/\(0:Int)<(s.size:Int))/\(q1/\q2->q1/\q2)/\(q1->q1)/\(q1->q2->q1/\q2)/\(q1->q1)/\av (cD Tryz.prog gNu sZ Tryz.f59 (1:Nat) KJ [] [] q4.isNone (aY (11:Int) a)) (ez q4.isNone (nI (q4.getD (0:Int))) [aO L a (W.val v)]) [0,1,0,1,1,1] (fr [(0,aR 0 0),(1,aP (W.str s)),(5,bB (bif bif q3 then decide ((s.size:Int)<=10) else false then bif decide (s=ByteArray.mk #[(48:UInt8)]) then true else !decide (jH s (0:Nat)=48) else false)),(30,aP (W.rd (D.int .u8) (af s))),(31,nI (↑(af s).length:Int)),(32,nI (0))]) (ai.ofList [Ob.mk 87 [Fd.c (W.rd D.str L),fI a,Fd.c (W.val v)]]))) (by kernel_rfl)
 try simp only [sL]
 have hl:=bq s
 refine ⟨fun h=>?_,fun h=>⟨fun h=>by omega,fun h1 h2=>⟨h1,h2⟩,?_⟩⟩
 . have e:af s=[45,49]:=by rw [h];rfl
   rw [e]
   exact ⟨rfl,rfl⟩
 . have hm:af s≠[45,49]:=fun e=>h (pK (by rw [e];rfl))
   rw [hl]
   refine NG L a s v hs hm s.size 0 _ rfl (by omega) ?_
   rw [List.drop_zero]
   unfold Bx
   congr 1
   rw [kT,hl]
   have e48:s=⟨#[48]⟩↔af s=[48]:=⟨fun e=>by rw [e];rfl,fun e=>pK (by rw [e];rfl)⟩
   by_cases h1:af s=[48]
   . have:s.size=1:=by rw [<-hl,h1];rfl
     rw [decide_eq_true (e48.2 h1),this,h1]
     rfl
   . rw [decide_eq_false (fun e=>h1 (e48.1 e))]
     rw [Bool.eq_iff_iff]
     simp only [Bool.and_eq_true,Bool.or_eq_true,decide_eq_true_eq,Bool.not_eq_true',decide_eq_false_iff_not,Bool.false_eq_true,false_or,h1,ne_eq]
     omega
def iz:rV .str:={ c:=fun _ _ s=>(show ByteArray from s).size<=900000,b:=fun _ _ s=>(dU (af s)).isNone,r:=fun _ _ s=>nI ((dU (af s)).getD 0),n:=fun _ a _=>a }
theorem NH:aV Tryz.prog 59 iz.con/\cZ Tryz.prog 59 iz.die :=
 rV.both (by kernel_rfl) (fun _ _ _=>rfl) fun L a s v h=>XG L a s v h
def takeN (n:ByteArray) (ws:List ByteArray):Option (List ByteArray):=if n=⟨#[]⟩ then some ws else match ws with
 | []=>none
 | w::r=>if w=n then some r else none
theorem GU {n:ByteArray} (h:¬ n=⟨#[]⟩):takeN n []=none:=by unfold takeN;rw [if_neg h]
theorem xu {n w:ByteArray} {r:List ByteArray} (h:¬ n=⟨#[]⟩):takeN n (w::r)=if w=n then some r else none:=by unfold takeN;rw [if_neg h]
def lZ:List ByteArray->List ByteArray->Option (List Int)
 | [],ws=>if ws=[] then some [] else none
 | n :: ns, ws => match takeN n ws with
   | some (w::r)=>match dU (af w) with
     | some x=>(lZ ns r).map (x::·)
     | none=>none
   | _=>none
def dW (L:List ByteArray) (a:Int) (ns:List ByteArray):Option (List Int):=if a=L.length then none else lZ ns (bI 32 (L.getD a.toNat ⟨#[]⟩))
noncomputable def NI:bS:=[(35,DU),(59,iz.con),(34,Un)]
theorem vN:bt Tryz.prog NI:=ar Cr (ar NH.1 (ar Uo aC))
def zF:List { x:FuncId×dK // cZ Tryz.prog x.1 x.2 }:=[⟨(35,DT),Cq⟩,⟨(59,iz.die),NH.2⟩]
abbrev pFl:List Nat:=[0,1,0,1,1,1,1]
abbrev KL:List (List Nat×List Nat):=[(pFl,[0,5,6,36,37,38])]
noncomputable def Zn (b:Bool) (u:Value):bD:=cD Tryz.prog NI zF Tryz.f36 1 KL [] [some dI] b u
def mQ (l:List ByteArray):Prop:=∀ s∈l,s.size<=900000
theorem NJ (L : List ByteArray) (a : Int) (ns : List ByteArray) (v : Value) (hns : ns.length ≤ 1000) (ha : 0 ≤ a ∧ a ≤ 1000000) (V : Option (List Int)) : ∀ (k i : Nat) (ws : List ByteArray) (out : List Int), k = ns.length - i → i ≤ ns.length → mQ ws → ws.length ≤ 1000000 → out.length ≤ i → V = (lZ (ns.drop i) ws).map (out ++ ·) →
 av (Zn V.isNone (aY 11 a)) (ez V.isNone (bF (V.getD [])) [aO L (a+1) (.val v)]) pFl (fr [(0,pX),(5,mG ws),(6,gL 1 out.length),(36,mG ns),(37,nI ns.length),(38,nI i)]) (.ofList [aO L a (.val v),aD out])
 | k, i, ws, out, hk, hi, hw, FO, ho, hV => by
   refine aX vN (by kernel_rfl) 100 ?_
   apply of_eq (q:=let q1:=(List.drop (1:Nat) (List.take ws.length ws));let q3:=(ByteArray.mk #[]);let q4:=aY (11:Int) a=aY (11:Int) a;let q5:=(ws.length:Int);let q6:=(0:Nat);let q7:=(↑q1.length:Int);let q8:=(q1.getD q6 q3);let q9:=(ws.getD q6 q3);let aW:=(0:Int);let bG:=V.isNone=true;let bM:=(ns.length:Int);let cS:=q6+out.length<=out.length;let cA:=A.p (ax.V.c (wI (IntKind.i64.wrap ((i:Int)+1))));let q2:=decide (q5=0)=false;(decide ((i:Int)<bM)=true->(aW<=(i:Int)/\(i:Int)<bM)/\i<ns.length/\((!decide (ns.getD i q3=ByteArray.mk #[]))=true->(q2->q2)/\(q2->aW<=0/\aW<q5)/\(q2->q2)/\(q2->q6<ws.length)/\(q2->q2)/\(q2->q2)/\(q2->q2)/\((bif decide (q5=0) then true else !decide (ws.getD q6 q3=ns.getD i q3))=true->bG/\q4)/\((bif decide (q5=0) then true else !decide (ws.getD q6 q3=ns.getD i q3))=false->(aW<=1/\(1:Int)<=q5/\q5<=q5)/\(decide (q7=0)=true->bG/\q4)/\(decide (q7=0)=false->(aW<=0/\aW<q7)/\q6<q1.length/\iz.c L a q8/\(iz.b L a q8=true->bG/\q4)/\(iz.b L a q8=false->(iz.c L a q8/\iz.b L a q8=false)/\q6+1<=1/\(cS/\(out.length+1)*8<=140737488355328)/\(aW<=1/\(1:Int)<=q7/\q7<=q7)/\av (Zn V.isNone (aY (11:Int) a)) (ez V.isNone (bF (V.getD [])) [aO L (a+1) (W.val v)]) [0,1,0,1,1,1,1] (fr [(0,A.p (ax.V.c (W.ptr 0 0))),(5,A.p (ax.V.c (W.rd D.str (List.drop (1:Nat) (List.take q1.length q1))))),(6,A.p (ax.V.c (W.sl 1 0 (out.length+1) 1))),(36,A.p (ax.V.c (W.rd D.str ns))),(37,A.p (ax.V.c (wI bM))),(38,cA)]) (ai.ofList [Ob.mk 87 [Fd.c (W.rd D.str L),fI (iz.n L a q8),Fd.c (W.val v)],aD (List.take out.length (List.drop q6 out)++List.take (1:Nat) (List.drop q6 [(dU (af q8)).getD aW]))])))))/\((!decide (ns.getD i q3=ByteArray.mk #[]))=false->(decide (q5=0)=true->bG/\q4)/\(q2->(aW<=0/\aW<q5)/\q6<ws.length/\iz.c L a q9/\(iz.b L a q9=true->bG/\q4)/\(iz.b L a q9=false->(iz.c L a q9/\iz.b L a q9=false)/\q6+1<=1/\(cS/\(out.length+1)*8<=140737488355328)/\(aW<=1/\(1:Int)<=q5/\q5<=q5)/\av (Zn V.isNone (aY (11:Int) a)) (ez V.isNone (bF (V.getD [])) [aO L (a+1) (W.val v)]) [0,1,0,1,1,1,1] (fr [(0,A.p (ax.V.c (W.ptr 0 0))),(5,A.p (ax.V.c (W.rd D.str q1))),(6,A.p (ax.V.c (W.sl 1 0 (out.length+1) 1))),(36,A.p (ax.V.c (W.rd D.str ns))),(37,A.p (ax.V.c (wI bM))),(38,cA)]) (ai.ofList [Ob.mk 87 [Fd.c (W.rd D.str L),fI (iz.n L a q9),Fd.c (W.val v)],aD (List.take out.length (List.drop q6 out)++List.take (1:Nat) (List.drop q6 [(dU (af q9)).getD aW]))])))))/\(decide ((i:Int)<bM)=false->(decide (aW<q5)=true->bG/\q4)/\(decide (aW<q5)=false->cS/\V.isNone=false/\aB [ax.V.c (wR (List.take out.length (List.drop q6 out)))]=bF (V.getD [])/\[Ob.mk 87 [Fd.c (W.rd D.str L),fI (IntKind.i64.wrap (a+1)),Fd.c (W.val v)]]=[aO L (a+1) (W.val v)]))) (by kernel_rfl)
   try simp only [sL]
   rw [wrap64 (n:=a+1) (by omega) (by omega),wrap64 (n:=(i:Int)+1) (by omega) (by omega)]
   refine ⟨fun h=>⟨by omega,by omega,?_⟩,fun h=>?_⟩
   . have ic:i<ns.length:=by omega
     have hd:ns.drop i=ns.getD i ⟨#[]⟩::ns.drop (i+1):=by
      rw [List.drop_eq_getElem_cons ic,List.getD_eq_getElem?_getD,List.getElem?_eq_getElem ic];rfl
     rw [hd] at hV
     cases k with
     | zero=>omega
     | succ k =>
     have next:∀ (x:ByteArray) (r:List ByteArray),takeN (ns.getD i ⟨#[]⟩) ws=some (x::r)->mQ (x::r)->r.length<=1000000->
      ((dU (af x)).isNone=true->V.isNone=true)/\((dU (af x)).isNone=false->av (Zn V.isNone (aY 11 a)) (ez V.isNone (bF (V.getD [])) [aO L (a+1) (.val v)]) pFl (fr [(0,pX),(5,mG r),(6,gL 1 (out.length+1)),(36,mG ns),(37,nI ns.length),(38,nI (i+1:Nat))]) (.ofList [aO L a (.val v),aD (out++[(dU (af x)).getD 0])])):=by
      intro x r ht hs hrl
      cases hz:dU (af x) with
      | none =>
        refine ⟨fun _=>?_,fun h=>(by cases h)⟩
        rw [hV,lZ,ht]
        simp only [hz]
        rfl
      | some z =>
        refine ⟨fun h=>(by cases h),fun _=>?_⟩
        have e:out.length+1=(out++[z]).length:=by simp
        rw [e]
        refine NJ L a ns v hns ha V k (i+1) r (out++[z]) (by omega) (by omega) (fun s hs'=>hs s (by simp [hs'])) hrl (by simp;omega) ?_
        rw [hV,lZ,ht]
        simp only [hz]
        cases lZ (ns.drop (i+1)) r with
        | none=>rfl
        | some l=>simp
     have stop:(∀ x r,takeN (ns.getD i ⟨#[]⟩) ws≠some (x::r))->V.isNone=true:=by
      intro hno
      rw [hV,lZ]
      split
      . rename_i x r hx
        exact absurd hx (hno x r)
      . rfl
     have e1:((i:Int)+1)=((i+1:Nat):Int):=by omega
     refine ⟨fun hn=>?_,fun hn=>?_⟩
     . refine ⟨fun h=>by omega,fun h=>by omega,fun h=>stop fun x r hx=>?_,fun h=>?_⟩
       . cases ws with
         | nil=>rw [GU hn] at hx;cases hx
         | cons w q =>
           rw [xu hn] at hx
           split at hx
           . rename_i hw'
             rcases h with h | h
             . rw [List.length_cons] at h;omega
             . exact h hw'
           . cases hx
       · cases ws with
         | nil=>exact absurd rfl h.1
         | cons w q =>
           have hwn:w=ns.getD i ⟨#[]⟩:=h.2
           rw [List.drop_succ_cons,List.drop_zero]
           have ht:takeN (ns.getD i ⟨#[]⟩) (w::q)=some q:=by rw [xu hn,if_pos hwn]
           refine ⟨by rw [List.length_cons];omega,fun h0=>stop fun x r hx=>?_,fun h0=>?_⟩
           . rw [ht] at hx
             cases hx
             rw [List.length_cons] at h0;omega
           . cases q with
             | nil=>exact absurd rfl h0
             | cons x r =>
               rw [List.length_cons,List.length_cons] at FO
               obtain ⟨n1,n2⟩:=next x r ht (fun s hs=>hw s (by simp at hs ⊢;exact .inr hs)) (by omega)
               rw [List.getD_cons_zero,List.drop_succ_cons,List.drop_zero,e1]
               refine ⟨by rw [List.length_cons];omega,by rw [List.length_cons];omega,hw x (by simp),n1,fun h1=>⟨⟨hw x (by simp),h1⟩,by omega,by rw [List.length_cons];omega,n2 h1⟩⟩
     . have ht:takeN (ns.getD i ⟨#[]⟩) ws=some ws:=by unfold takeN;rw [if_pos hn]
       refine ⟨fun h0=>stop fun x r hx=>?_,fun h0=>?_⟩
       . rw [ht] at hx
         cases hx
         rw [List.length_cons] at h0;omega
       . cases ws with
         | nil=>exact absurd rfl h0
         | cons x r =>
           rw [List.length_cons] at FO
           obtain ⟨n1,n2⟩:=next x r ht hw (by omega)
           rw [List.getD_cons_zero,List.drop_succ_cons,List.drop_zero,e1]
           refine ⟨by rw [List.length_cons];omega,by rw [List.length_cons];omega,hw x (by simp),n1,fun h1=>⟨⟨hw x (by simp),h1⟩,by omega,by rw [List.length_cons];omega,n2 h1⟩⟩
   . rw [List.drop_eq_nil_of_le (by omega),lZ] at hV
     refine ⟨fun h0=>?_,fun h0=>?_⟩
     . rw [hV,if_neg (fun e=>by rw [e] at h0;simp at h0)];rfl
     . have:ws=[]:=List.eq_nil_of_length_eq_zero (by omega)
       rw [if_pos this] at hV
       rw [hV]
       simp
       rfl
theorem zG (c:Int):∀ (l p:List Int),p∈fJ c l->p.length<=l.length
 | [],p,hp=>by simp [fJ] at hp;subst hp;exact Nat.le_refl _
 | x :: l, p, hp => by
   have ih:=zG c l
   obtain ⟨q,r,e⟩:=Bv c l
   rw [fJ] at hp
   split at hp
   . rcases List.mem_cons.1 hp with rfl | hp
     . simp
     . have:=ih p hp;rw [List.length_cons];omega
   . rw [e] at hp ih
     rcases List.mem_cons.1 hp with rfl | hp
     . have:=ih q (by simp);simp;omega
     . have:=ih p (by simp [show p∈r from hp]);rw [List.length_cons];omega
theorem kZ (c:Int) {s:ByteArray} (hs:s.size<=900000):mQ (bI c s)/\(bI c s).length<=s.size+1:=by
 have hl:=bq s
 constructor
 . intro t ht
   obtain ⟨p,hp,rfl⟩:=List.mem_map.1 ht
   rw [kI]
   have:=zG c _ p hp
   omega
 . unfold bI
   rw [List.length_map,sx]
   have:=NE c (af s)
   omega
theorem s5 {L:List ByteArray} {i:Nat} (h:i<L.length):L.getD i ⟨#[]⟩∈L:=by
 rw [List.getD_eq_getElem?_getD,List.getElem?_eq_getElem h];exact List.getElem_mem h
theorem Mu (L:List ByteArray) (a:Int) (ns:List ByteArray) (v:Value) (h:ns.length<=1000/\(0<=a/\a<=L.length)/\L.length<=900000/\mQ L):((dW L a ns).isNone=false->bA Tryz.prog 36 1 [pX,mG ns] [aO L a (.val v)] (bF ((dW L a ns).getD [])) [aO L (a+1) (.val v)])/\((dW L a ns).isNone=true->dQ Tryz.prog 36 [pX,mG ns] [aO L a (.val v)] (aY 11 a)):=by
 refine dw (dies:=zF) (aq:=KL) (cE:=[]) (fz:=[some dI]) vN Tryz.func36 (by kernel_rfl) 1 (by kernel_rfl) 100 ?_
 apply of_eq (q:=(decide (a=(L.length:Int))=true->(dW L a ns).isNone=true/\aY (11:Int) a=aY (11:Int) a)/\(decide (a=(L.length:Int))=false->((0:Int)<=a/\a<(L.length:Int))/\a.toNat<L.length/\((1:Nat)=1/\(L.getD a.toNat (ByteArray.mk #[])).size<=900000)/\av (cD Tryz.prog NI zF Tryz.f36 (1:Nat) KL [] [some dI] (dW L a ns).isNone (aY (11:Int) a)) (ez (dW L a ns).isNone (bF ((dW L a ns).getD [])) [aO L (a+1) (W.val v)]) [0,1,0,1,1,1,1] (fr [(0,aR 0 0),(5,aP (W.rd D.str (bI (eU (ByteArray.mk #[(32:UInt8)])) (L.getD a.toNat (ByteArray.mk #[]))))),(6,aS 1 0 0),(36,aP (W.rd D.str ns)),(37,nI (ns.length:Int)),(38,nI (0))]) (ai.ofList [Ob.mk 87 [Fd.c (W.rd D.str L),fI a,Fd.c (W.val v)],aD ([])]))) (by kernel_rfl)
 try simp only [sL]
 obtain ⟨h1,h2,h3,h4⟩:=h
 refine ⟨fun h=>?_,fun h=>⟨by omega,by omega,?_⟩⟩
 . unfold dW;rw [if_pos h];rfl
 . have hsz:=h4 _ (s5 (L:=L) (i:=a.toNat) (by omega))
   obtain ⟨s1,s2⟩:=kZ (eU ⟨#[32]⟩) hsz
   refine ⟨hsz,?_⟩
   refine NJ L a ns v h1 (by omega) _ ns.length 0 _ [] rfl (by omega) s1 (by omega) (Nat.le_refl _) ?_
   unfold dW
   rw [if_neg h,List.drop_zero]
   show _=Option.map (([]:List Int)++·) (lZ ns (bI 32 (L.getD a.toNat ⟨#[]⟩)))
   cases lZ ns (bI 32 (L.getD a.toNat ⟨#[]⟩)) <;> rfl
def nC:rV dS:={ c:=fun L a ns=>List.length (α:=ByteArray) ns<=1000/\(0<=a/\a<=L.length)/\L.length<=900000/\mQ L,b:=fun L a ns=>(dW L a ns).isNone,r:=fun L a ns=>bF ((dW L a ns).getD []),n:=fun _ a _=>a+1 }
theorem DV:aV Tryz.prog 36 nC.con/\cZ Tryz.prog 36 nC.die :=
 rV.both (by kernel_rfl) (fun _ _ _=>rfl) fun L a ns v h=>Mu L a ns v h
noncomputable def gSta:bS:=[(80,Zm)]
theorem aaO:bt Tryz.prog gSta:=ar XE aC
def pV:ByteArray:=⟨#[32]⟩
def gS (L:List ByteArray) (a:Int) (f:ByteArray):Bool:=if a=L.length then false else pfx (f++pV) (L.getD a.toNat ⟨#[]⟩)
def cT (L:List ByteArray) (a:Int) (f:ByteArray):ByteArray:=if a=L.length then ⟨#[]⟩ else mP (f++pV) (L.getD a.toNat ⟨#[]⟩)
theorem Qg (L:List ByteArray) (a:Int) (f:ByteArray) (v:Value) (h:(0<=a/\a<=L.length)/\f.size<=1000):bA Tryz.prog 63 1 [pX,ck f] [aO L a (.val v)] (.aL [.c (.str (cT L a f)),.c (.bool (gS L a f))]) [aO L a (.val v)]:=by
 refine di (aq:=[]) (cE:=[]) (fz:=[]) aaO Tryz.func63 (by kernel_rfl) 1 (by kernel_rfl) 100 ?_
 apply of_eq (q:=let q1:=[Ob.mk 87 [Fd.c (W.rd D.str L),fI a,Fd.c (W.val v)]]=[aO L a (W.val v)];(decide (a=(L.length:Int))=true->aB [V.c (W.str (ByteArray.mk #[])),vB false]=A.aL [V.c (W.str (cT L a f)),vB (gS L a f)]/\q1)/\(decide (a=(L.length:Int))=false->((0:Int)<=a/\a<(L.length:Int))/\a.toNat<L.length/\f.size+1<=9223372036854775807/\aB [V.c (W.str (mP (f++ByteArray.mk #[(32:UInt8)]) (L.getD a.toNat (ByteArray.mk #[])))),vB (pfx (f++ByteArray.mk #[(32:UInt8)]) (L.getD a.toNat (ByteArray.mk #[])))]=A.aL [V.c (W.str (cT L a f)),vB (gS L a f)]/\q1)) (by kernel_rfl)
 try simp only [sL]
 obtain ⟨h1,h2⟩:=h
 refine ⟨fun h=>?_,fun h=>⟨by omega,by omega,by omega,?_⟩⟩
 . unfold cT gS;rw [if_pos h,if_pos h];rfl
 . unfold cT gS;rw [if_neg h,if_neg h];rfl
def dD:rV .str:={ c:=fun L a f=>(0<=a/\a<=L.length)/\(show ByteArray from f).size<=1000,b:=fun _ _ _=>false,r:=fun L a f=>.aL [.c (.str (cT L a f)),.c (.bool (gS L a f))],n:=fun _ a _=>a }
theorem xw:aV Tryz.prog 63 dD.con/\cZ Tryz.prog 63 dD.die :=
 rV.both (by kernel_rfl) (fun L a f v hv=>(by
  simp only [List.mem_cons,List.not_mem_nil,or_false] at hv
  rcases hv with rfl | rfl
  . exact ⟨_,rfl,rfl⟩
  . exact ⟨_,rfl,rfl⟩)) fun L a f v h=>⟨fun _=>Qg L a f v h,fun h=>by cases h⟩
structure Hd where
 g:Int
 aJ:Int
 aQ:Int
 aI:Int
abbrev bX (h:Hd) (R S:W):Ob:=⟨60,[.c (.int .i64 h.g),.c R,.c S,.c (.int .i64 h.aJ),.c (.int .i64 h.aQ),.c (.int .i64 0),.c (.int .i64 h.aI),.c (.int .i64 0),.c (.int .i64 0),.c (.int .i64 0),.c .nil,.c .nil,.c .nil]⟩
abbrev eD (l:List (List Int)):Ob:=⟨43,[.a 0 (.sl (.int .i64)) l]⟩
def iL:Ob->Option (List ByteArray×Int)
 | ⟨t,[.c (.rd .str L),.c (.int .i64 a),.c (.ptr 1 0)]⟩=>bif Nat.beq t 87 then some (L,a) else none
 | _=>none
theorem d9 {o:Ob} {L:List ByteArray} {a:Int} (e:iL o=some (L,a)):o=aO L a (.ptr 1 0):=by
 unfold iL at e
 split at e
 . obtain ⟨hb,e1⟩:=au.aH e
   clear e
   cases Nat.eq_of_beq_eq_true hb
   cases e1
   rfl
 . cases e
def iT:Ob->Option (Hd×W×W)
 | ⟨t,[.c (.int .i64 g),.c R,.c S,.c (.int .i64 aJ),.c (.int .i64 aQ),.c (.int .i64 0),.c (.int .i64 aI),.c (.int .i64 0),.c (.int .i64 0),.c (.int .i64 0),.c .nil,.c .nil,.c .nil]⟩=>bif Nat.beq t 60 then some (⟨g,aJ,aQ,aI⟩,R,S) else none
 | _=>none
theorem fj {o:Ob} {h:Hd} {R S:W} (e:iT o=some (h,R,S)):o=bX h R S:=by
 unfold iT at e
 split at e
 . obtain ⟨hb,e1⟩:=au.aH e
   clear e
   cases Nat.eq_of_beq_eq_true hb
   cases e1
   rfl
 . cases e
def uJ:Ob->Option (List (List Int))
 | ⟨t,[.a 0 (.sl (.int .i64)) l]⟩=>bif Nat.beq t 43 then some l else none
 | _=>none
theorem oK {o:Ob} {l:List (List Int)} (e:uJ o=some l):o=eD l:=by
 unfold uJ at e
 split at e
 . obtain ⟨hb,e1⟩:=au.aH e
   clear e
   cases Nat.eq_of_beq_eq_true hb
   cases e1
   rfl
 . cases e
theorem zH {L:List ByteArray} {i:Nat} {tag:ByteArray} (h:i<=L.length):(i=L.length->gS L i tag=false/\L.drop i=[])/\(i<L.length->gS L i tag=pfx (tag++pV) (L.getD i ⟨#[]⟩)/\cT L i tag=mP (tag++pV) (L.getD i ⟨#[]⟩)/\L.drop i=L.getD i ⟨#[]⟩::L.drop (i+1)):=by
 refine ⟨fun h1=>⟨by unfold gS;rw [if_pos (by omega)],List.drop_eq_nil_of_le (by omega)⟩,fun h1=>⟨?_,?_,?_⟩⟩
 . unfold gS;rw [if_neg (by omega),Int.toNat_natCast]
 . unfold cT;rw [if_neg (by omega),Int.toNat_natCast]
 . rw [List.drop_eq_getElem_cons h1,List.getD_eq_getElem?_getD,List.getElem?_eq_getElem h1];rfl
theorem Us (p s:ByteArray):(mP p s).size<=s.size:=by
 unfold mP
 split
 . rw [ByteArray.size_extract];omega
 . exact Nat.le_refl _
def Sh2 (l:List ByteArray):Prop:=∀ s∈l,s.size<=20000
def ef:ByteArray:=⟨#[114,101,108]⟩
abbrev XH:List Nat:=[0,1,1]
abbrev Fe:List (List Nat×List Nat):=[(XH,[0,1,4,5,6])]
def ep:ByteArray:=⟨#[115,117,98]⟩
abbrev XI:List Nat:=[0,1,1]
abbrev Ff:List (List Nat×List Nat):=[(XI,[0,1,4,5,6])]
theorem ku (t:TypeId) (k:IntKind) (n:Int) (l:List ax.Fd):¬ (Ob.mk t (.c (.int k n)::l)).eV:=by
 rintro (h | ⟨_,_,h⟩)
 . cases h
 . cases h
theorem fzR (L:List ByteArray) (n:Nat) (h:Hd) (ws:List (List Int)):∀ base η Z w,St base η Z (.ofList [aO L n (.ptr 1 0),bX h (.sl 2 0 ws.length 1) .nil,eD ws]) w->∃ aE Z',fF 2 base η Z (.ofList [aO L n (.ptr 1 0),bX h (.sl 2 0 ws.length 1) .nil,eD ws]) w aE Z' (.ofList [aO L n (.ptr 1 0),bX h (.rd (.sl (.int .i64)) ws) .nil]) w:=by
 intro base η Z w R0
 have e:qJ (.ofList [aO L n (.ptr 1 0),bX h (.sl 2 0 ws.length 1) .nil,eD ws]) (.sl (.sl (.int .i64))) (.sl 2 0 ws.length 1)=some (.p (0+ws.length<=ws.length),(((ws.drop 0).take ws.length:List (List Int)):D.ty (.sl (.sl (.int .i64)))),(ai.ofList [aO L n (.ptr 1 0),bX h (.sl 2 0 ws.length 1) .nil,eD ws]).del 2):=by kernel_rfl
 rw [List.drop_zero,List.take_length] at e
 obtain ⟨Z1,mv⟩:=R0.sj (n:=1) (o:=bX h (.sl 2 0 ws.length 1) .nil) (pre:=[.c (.int .i64 h.g)]) (post:=[.c .nil,.c (.int .i64 h.aJ),.c (.int .i64 h.aQ),.c (.int .i64 0),.c (.int .i64 h.aI),.c (.int .i64 0),.c (.int .i64 0),.c (.int .i64 0),.c .nil,.c .nil,.c .nil]) rfl rfl (ku _ _ _ _) e (show 0+ws.length<=ws.length by omega) rfl (ku _ _ _ _) (fun k hk=>by cases hk)
 exact ⟨_,Z1,mv.zh (rs:=[0,1]) (by decide) rfl rfl (fun n hn=>by match n,hn with | 0,_=>rfl | 1,_=>rfl) rfl⟩
theorem fnR (L:List ByteArray) (n:Nat) (h:Hd):∀ base η Z w,St base η Z (.ofList [aO L n (.ptr 1 0),bX h (.nil) .nil]) w->∃ aE Z',fF 2 base η Z (.ofList [aO L n (.ptr 1 0),bX h (.nil) .nil]) w aE Z' (.ofList [aO L n (.ptr 1 0),bX h (.rd (.sl (.int .i64)) []) .nil]) w:=by
 intro base η Z w R0
 have e:qJ (.ofList [aO L n (.ptr 1 0),bX h (.nil) .nil]) (.sl (.sl (.int .i64))) .nil=some (.t,(([]:List (List Int)):D.ty (.sl (.sl (.int .i64)))),ai.ofList [aO L n (.ptr 1 0),bX h (.nil) .nil]):=by kernel_rfl
 obtain ⟨Z1,mv⟩:=R0.sj (n:=1) (o:=bX h (.nil) .nil) (pre:=[.c (.int .i64 h.g)]) (post:=[.c .nil,.c (.int .i64 h.aJ),.c (.int .i64 h.aQ),.c (.int .i64 0),.c (.int .i64 h.aI),.c (.int .i64 0),.c (.int .i64 0),.c (.int .i64 0),.c .nil,.c .nil,.c .nil]) rfl rfl (ku _ _ _ _) e trivial rfl (ku _ _ _ _) (fun k hk=>by cases hk)
 exact ⟨_,Z1,mv.zh (rs:=[0,1]) (by decide) rfl rfl (fun n hn=>by match n,hn with | 0,_=>rfl | 1,_=>rfl) rfl⟩
abbrev tY (h:Hd):List (List Int)->List Ob
 | []=>[bX h (.nil) .nil]
 | w::ws=>[bX h (.sl 2 0 (w::ws).length 1) .nil,eD (w::ws)]
theorem fzS (L:List ByteArray) (n:Nat) (h:Hd) (R:List (List Int)) (ws:List (List Int)):∀ base η Z w,St base η Z (.ofList [aO L n (.ptr 1 0),bX h (.rd (.sl (.int .i64)) R) (.sl 2 0 ws.length 1),eD ws]) w->∃ aE Z',fF 2 base η Z (.ofList [aO L n (.ptr 1 0),bX h (.rd (.sl (.int .i64)) R) (.sl 2 0 ws.length 1),eD ws]) w aE Z' (.ofList [aO L n (.ptr 1 0),bX h (.rd (.sl (.int .i64)) R) (.rd (.sl (.int .i64)) ws)]) w:=by
 intro base η Z w R0
 have e:qJ (.ofList [aO L n (.ptr 1 0),bX h (.rd (.sl (.int .i64)) R) (.sl 2 0 ws.length 1),eD ws]) (.sl (.sl (.int .i64))) (.sl 2 0 ws.length 1)=some (.p (0+ws.length<=ws.length),(((ws.drop 0).take ws.length:List (List Int)):D.ty (.sl (.sl (.int .i64)))),(ai.ofList [aO L n (.ptr 1 0),bX h (.rd (.sl (.int .i64)) R) (.sl 2 0 ws.length 1),eD ws]).del 2):=by kernel_rfl
 rw [List.drop_zero,List.take_length] at e
 obtain ⟨Z1,mv⟩:=R0.sj (n:=1) (o:=bX h (.rd (.sl (.int .i64)) R) (.sl 2 0 ws.length 1)) (pre:=[.c (.int .i64 h.g),.c (.rd (.sl (.int .i64)) R)]) (post:=[.c (.int .i64 h.aJ),.c (.int .i64 h.aQ),.c (.int .i64 0),.c (.int .i64 h.aI),.c (.int .i64 0),.c (.int .i64 0),.c (.int .i64 0),.c .nil,.c .nil,.c .nil]) rfl rfl (ku _ _ _ _) e (show 0+ws.length<=ws.length by omega) rfl (ku _ _ _ _) (fun k hk=>by cases hk)
 exact ⟨_,Z1,mv.zh (rs:=[0,1]) (by decide) rfl rfl (fun n hn=>by match n,hn with | 0,_=>rfl | 1,_=>rfl) rfl⟩
theorem fnS (L:List ByteArray) (n:Nat) (h:Hd) (R:List (List Int)):∀ base η Z w,St base η Z (.ofList [aO L n (.ptr 1 0),bX h (.rd (.sl (.int .i64)) R) (.nil)]) w->∃ aE Z',fF 2 base η Z (.ofList [aO L n (.ptr 1 0),bX h (.rd (.sl (.int .i64)) R) (.nil)]) w aE Z' (.ofList [aO L n (.ptr 1 0),bX h (.rd (.sl (.int .i64)) R) (.rd (.sl (.int .i64)) [])]) w:=by
 intro base η Z w R0
 have e:qJ (.ofList [aO L n (.ptr 1 0),bX h (.rd (.sl (.int .i64)) R) (.nil)]) (.sl (.sl (.int .i64))) .nil=some (.t,(([]:List (List Int)):D.ty (.sl (.sl (.int .i64)))),ai.ofList [aO L n (.ptr 1 0),bX h (.rd (.sl (.int .i64)) R) (.nil)]):=by kernel_rfl
 obtain ⟨Z1,mv⟩:=R0.sj (n:=1) (o:=bX h (.rd (.sl (.int .i64)) R) (.nil)) (pre:=[.c (.int .i64 h.g),.c (.rd (.sl (.int .i64)) R)]) (post:=[.c (.int .i64 h.aJ),.c (.int .i64 h.aQ),.c (.int .i64 0),.c (.int .i64 h.aI),.c (.int .i64 0),.c (.int .i64 0),.c (.int .i64 0),.c .nil,.c .nil,.c .nil]) rfl rfl (ku _ _ _ _) e trivial rfl (ku _ _ _ _) (fun k hk=>by cases hk)
 exact ⟨_,Z1,mv.zh (rs:=[0,1]) (by decide) rfl rfl (fun n hn=>by match n,hn with | 0,_=>rfl | 1,_=>rfl) rfl⟩
abbrev tZ (h:Hd) (R:List (List Int)):List (List Int)->List Ob
 | []=>[bX h (.rd (.sl (.int .i64)) R) (.nil)]
 | w::ws=>[bX h (.rd (.sl (.int .i64)) R) (.sl 2 0 (w::ws).length 1),eD (w::ws)]
end Go.Proofs.YtmajgbnpplgaoaaGreatDoor
