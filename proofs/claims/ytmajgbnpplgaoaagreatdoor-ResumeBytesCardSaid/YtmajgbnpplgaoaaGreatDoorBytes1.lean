/- Texts of checkpoints: no two differ in one byte, none begins another. -/
import Derived.Test.YtmajgbnpplgaoaaGreatDoorBack1
import Derived.Test.YtmajgbnpplgaoaaGreatDoorRows2
import Derived.Test.YtmajgbnpplgaoaaGreatDoorCards
import Derived.Test.YtmajgbnpplgaoaaGreatDoorTie
import Derived.WalkKit
import Derived.ProofKit
import Derived.OpenShut
import Derived.Deep.DeepHandedRow
import Derived.Lib.LaidTab
import Derived.Test.YtmajgbnpplgaoaaGreatDoorMill1
import Derived.Test.YtmajgbnpplgaoaaGreatDoorLoom4
namespace Go.Proofs.YtmajgbnpplgaoaaGreatDoor
open Go.ax Go.Words Go.cU
set_option maxRecDepth 10000
theorem xK (n:Int):IntKind.u32.wrap n=n % 4294967296:=by simp [IntKind.wrap,IntKind.bits,IntKind.signed]
def Fp:BitVec 32:=2166136261#32
theorem N9:(2166136261:Int)=(Fp.toNat:Int):=rfl
def vQ (h c:BitVec 32):BitVec 32:=(h ^^^ c)*16777619#32
def Ly (c:Int):BitVec 32:=BitVec.ofInt 32 (IntKind.u32.wrap c)
def tf (l:List Int) (h:BitVec 32):BitVec 32:=l.foldl (fun h c=>vQ h (Ly c)) h
theorem aaV (h c:BitVec 32):((vQ h c).toNat:Int)=(((h ^^^ c).toNat:Int)*16777619) % 4294967296:=by
 have:(vQ h c).toNat=(h ^^^ c).toNat*16777619 % 4294967296:=BitVec.toNat_mul _ _
 rw [this]
 omega
theorem QA (c:Int) (l:List Int) (h:Int):nW (c::l) h=nW l (IntKind.u32.wrap ((IntKind.u32.wrap ((BitVec.ofInt 32 h ^^^ Ly c).toNat:Int))*16777619)):=rfl
theorem X0 (h c:BitVec 32):IntKind.u32.wrap ((IntKind.u32.wrap ((BitVec.ofInt 32 (h.toNat:Int) ^^^ c).toNat:Int))*16777619)=((vQ h c).toNat:Int):=by
 have e1:BitVec.ofInt 32 (h.toNat:Int)=h:=by
  apply BitVec.eq_of_toNat_eq
  rw [BitVec.toNat_ofInt]
  have:=h.isLt
  omega
 rw [e1,aaV,xK,xK]
 have:=(h ^^^ c).isLt
 generalize (h ^^^ c).toNat=x at *
 omega
theorem mT (c:Int) (l:List Int) (h:BitVec 32):tf (c::l) h=tf l (vQ h (Ly c)):=by unfold tf;rw [List.foldl_cons]
theorem Cv (l:List Int):∀ (h:BitVec 32),nW l (h.toNat:Int)=((tf l h).toNat:Int):=by
 induction l with
 | nil=>intro h;rfl
 | cons c l ih =>
   intro h
   rw [mT]
   exact (QA c l _).trans ((congrArg (nW l) (X0 h (Ly c))).trans (ih _))
theorem Zs {c h h':BitVec 32} (e:vQ h c=vQ h' c):h=h':=by
 have key:∀ x:BitVec 32,x*16777619#32*899433627#32=x:=fun x=>by
  rw [BitVec.mul_assoc,show (16777619#32*899433627#32)=1#32 by decide,BitVec.mul_one]
 have h1:=congrArg (· * 899433627#32) e
 simp only [vQ] at h1
 rw [key,key] at h1
 have h2:=congrArg (· ^^^ c) h1
 simpa [BitVec.xor_assoc] using h2
theorem stF_c {h c c':BitVec 32} (e:vQ h c=vQ h c'):c=c':=by
 have e':vQ c h=vQ c' h:=by unfold vQ at e ⊢;rw [BitVec.xor_comm c h,BitVec.xor_comm c' h];exact e
 exact Zs e'
theorem sumV_h (l:List Int):∀ {h h':BitVec 32},tf l h=tf l h'->h=h':=by
 induction l with
 | nil=>intro h h' e;exact e
 | cons c l ih =>
   intro h h' e
   rw [mT,mT] at e
   exact Zs (ih e)
theorem aaW {c c':Int} (h:0<=c/\c<256) (h':0<=c'/\c'<256) (e:Ly c=Ly c'):c=c':=by
 have:=congrArg BitVec.toNat e
 unfold Ly at this
 rw [xK,xK,BitVec.toNat_ofInt,BitVec.toNat_ofInt] at this
 omega
theorem X1 (v:Int) (hv:0<=v/\v<256) (l:List Int):∀ (i:Nat) (h:BitVec 32),i<l.length->(∀ x∈l,0<=x/\x<256)->tf (l.set i v) h=tf l h->l.getD i 0=v:=by
 induction l with
 | nil=>intro i h hi;cases hi
 | cons c l ih =>
   intro i h hi hl e
   cases i with
   | zero =>
     rw [List.set_cons_zero,mT,mT] at e
     exact (aaW hv (hl c (by simp)) (stF_c (sumV_h l e))).symm
   | succ i =>
     rw [List.set_cons_succ,mT,mT] at e
     exact ih i _ (by simpa using hi) (fun x hx=>hl x (by simp [hx])) e
theorem X2 {l:List Int} {i:Nat} {v:Int} (hi:i<l.length) (hl:∀ x∈l,0<=x/\x<256) (hv:0<=v/\v<256) (e:jm (bg (l.set i v))=jm (bg l)):l.getD i 0=v:=by
 have hl':∀ x∈l.set i v,0<=x/\x<256:=fun x hx=>by
  rcases List.mem_or_eq_of_mem_set hx with hx | rfl
  . exact hl x hx
  . exact hv
 unfold jm at e
 rw [fU hl,fU hl'] at e
 rw [N9,Cv,Cv] at e
 have h1:=(tf (l.set i v) Fp).isLt
 have h2:=(tf l Fp).isLt
 rw [wrap64 (by omega) (by omega),wrap64 (by omega) (by omega)] at e
 exact X1 v hv l i Fp hi hl (BitVec.eq_of_toNat_eq (by omega))
def ot (B:List Int):Int:=jm (bg B)
def mU (r:List Int):List Int:=af (cG (ot r))
def lK (r:List Int):List Int:=115::117::109::32::(mU r++[10])
def pW (B:List Int):List Int:=B++lK B
theorem qC (B:List Int):pW B=B++lK B:=rfl
theorem aaX (r:Rn):dA r=pW (pJ r):=by
 rw [N8,qC]
 have:j4 jn [sumOf r]++[10]=lK (pJ r):=by
  unfold j4 mg lK mU ot sumOf
  simp [jn,af]
 rw [this]
theorem Lz (r:List Int):0<=ot r:=by
 have h:=Cv (af (bg (r))) Fp
 have h2:=(tf (af (bg (r))) Fp).isLt
 unfold ot jm
 rw [N9,h,wrap64 (by omega) (by omega)]
 omega
theorem xL (r:List Int):(∀ c∈mU r,48<=c/\c<=57)/\dU (mU r)=some (ot r):=by
 have h:=aaM (G8 (bg (r)))
 have hp:=Lz r
 have h:dU (mU r)=some (ot r):=h
 refine ⟨?_,h⟩
 unfold dU at h
 split at h
 . have h1:=Option.some.inj h
   generalize ot r=z at *
   omega
 . split at h
   . rename_i hd
     unfold Bx at hd
     rw [Bool.and_eq_true,List.all_eq_true] at hd
     intro c hc
     have:=hd.2 c hc
     unfold jI at this
     simp only [Bool.and_eq_true,decide_eq_true_eq] at this
     exact this
   . cases h
theorem last5 (D:List Int) (tl:∀ j,D.getD j 0≠115/\D.getD j 0≠117):∀ k,(1<=k->((115:Int)::117::109::32::D).getD k 0≠115)/\(2<=k->((115:Int)::117::109::32::D).getD k 0≠117)
 | 0=>⟨fun h=>by omega,fun h=>by omega⟩
 | 1=>⟨fun _=>by rw [List.getD_cons_succ,List.getD_cons_zero];omega,fun h=>by omega⟩
 | 2=>⟨fun _=>by rw [List.getD_cons_succ,List.getD_cons_succ,List.getD_cons_zero];omega,fun _=>by rw [List.getD_cons_succ,List.getD_cons_succ,List.getD_cons_zero];omega⟩
 | 3=>⟨fun _=>by rw [List.getD_cons_succ,List.getD_cons_succ,List.getD_cons_succ,List.getD_cons_zero];omega,fun _=>by rw [List.getD_cons_succ,List.getD_cons_succ,List.getD_cons_succ,List.getD_cons_zero];omega⟩
 | k+4=>by
   rw [List.getD_cons_succ,List.getD_cons_succ,List.getD_cons_succ,List.getD_cons_succ]
   exact ⟨fun _=>(tl k).1,fun _=>(tl k).2⟩
theorem Oa (r:List Int) (k:Nat):(1<=k->(lK r).getD k 0≠115)/\(2<=k->(lK r).getD k 0≠117):=by
 have hd:=(xL r).1
 unfold lK
 generalize mU r=D at *
 refine last5 (D++[10]) (fun j=>?_) k
 rw [List.getD_eq_getElem?_getD]
 cases hj:(D++[10])[j]? with
 | none=>exact ⟨by decide,by decide⟩
 | some x =>
   rcases List.mem_append.1 (List.mem_of_getElem? hj) with h | h
   . have:=hd x h
     exact ⟨by show x≠115;omega,by show x≠117;omega⟩
   . rw [List.mem_singleton.1 h]
     exact ⟨by decide,by decide⟩
theorem El:∀ {L:List (List Int)},(∀ l∈L,t6 l)->t6 (dV L)
 | [],_=>fun x hx=>by cases hx
 | l::L,h=>by
   rw [iD]
   exact oN (oN (h l (by simp)) (fun x hx=>by rw [List.mem_singleton.1 hx];exact ⟨by omega,by omega⟩)) (El fun l hl=>h l (by simp [hl]))
theorem X3 (r:Rn):t6 (pJ r):=by
 rw [Fm]
 exact El fun l hl=>G9 r l (List.mem_append_left _ hl)
theorem sA {a b:List Int} {k:Nat}:(a++b).getD (a.length+k) 0=b.getD k 0:=by
 rw [List.getD_eq_getElem?_getD,List.getElem?_append_right (by omega),Nat.add_sub_cancel_left,<-List.getD_eq_getElem?_getD]
theorem Oc {X Y:List Int} (hl:(pW Y).length=(pW X).length) (h:X.length<Y.length):∃ p,(pW X).getD p 0≠(pW Y).getD p 0/\(pW X).getD (p+1) 0≠(pW Y).getD (p+1) 0:=by
 refine ⟨Y.length,?_,?_⟩
 . obtain ⟨k,hk⟩:=Nat.exists_eq_add_of_lt h
   rw [qC X,qC Y,show Y.length=X.length+(k+1) by omega,sA,<-show Y.length=X.length+(k+1) by omega]
   have e:=sA (a:=Y) (b:=lK Y) (k:=0)
   rw [Nat.add_zero] at e
   rw [e]
   exact (Oa X (k+1)).1 (by omega)
 . obtain ⟨k,hk⟩:=Nat.exists_eq_add_of_lt h
   have e:=sA (a:=Y) (b:=lK Y) (k:=1)
   rw [qC X,qC Y,e,show Y.length+1=X.length+(k+2) by omega,sA]
   exact (Oa X (k+2)).2 (by omega)
theorem X4 {X Y:List Int} (hB:t6 X) {i:Nat} {v:Int} (hi:i<(pW X).length) (hv:0<=v/\v<256) (hne:(pW X).getD i 0≠v) (e:pW Y=(pW X).set i v):False:=by
 have hl:(pW Y).length=(pW X).length:=by rw [e,List.length_set]
 have same:∀ j,j≠i->(pW X).getD j 0=(pW Y).getD j 0:=fun j hj=>by
  rw [e,List.getD_eq_getElem?_getD,List.getD_eq_getElem?_getD,List.getElem?_set_ne (by omega)]
 rcases Nat.lt_trichotomy X.length Y.length with h | h | h
 . obtain ⟨p,h1,h2⟩:=Oc hl h
   by_cases hp:p=i
   . exact h2 (same _ (by omega))
   . exact h1 (same _ hp)
 · rw [qC X, qC Y] at e
   rw [qC X] at hi hne
   by_cases hb:i<X.length
   . rw [List.set_append_left _ _ hb] at e
     obtain ⟨e1,e2⟩:=List.append_inj e (by rw [List.length_set];exact h.symm)
     have hd:mU Y=mU X:=by
      unfold lK at e2
      simp only [List.cons.injEq,true_and] at e2
      exact List.append_cancel_right e2
     have hs:ot Y=ot X:=by
      have a:=(xL Y).2
      rw [hd,(xL X).2] at a
      exact (Option.some.inj a).symm
     unfold ot at hs
     rw [e1] at hs
     have:=X2 hb (hB) hv hs
     rw [List.getD_eq_getElem?_getD,List.getElem?_append_left hb,<-List.getD_eq_getElem?_getD] at hne
     exact hne this
   . rw [List.set_append_right _ _ (by omega)] at e
     obtain ⟨e1,e2⟩:=List.append_inj e h.symm
     have hs:ot Y=ot X:=by unfold ot;rw [e1]
     have hL:lK Y=lK X:=by unfold lK mU;rw [hs]
     rw [hL] at e2
     rw [List.length_append] at hi
     have hk:i-X.length<(lK X).length:=by omega
     have:=congrArg (fun l=>l.getD (i-X.length) 0) e2
     simp only [List.getD_eq_getElem?_getD,List.getElem?_set_self hk] at this
     rw [List.getD_eq_getElem?_getD,List.getElem?_append_right (by omega)] at hne
     exact hne this
 . obtain ⟨p,h1,h2⟩:=Oc hl.symm h
   by_cases hp:p=i
   . exact h2 (same _ (by omega)).symm
   . exact h1 (same _ hp).symm
theorem LA:∀ (l m A B:List Int),(∀ c∈l,c≠10)->(∀ c∈m,c≠10)->l++(10::A) <+: m++(10::B)->l=m/\A <+: B
 | [],[],A,B,_,_,h=>⟨rfl,(List.cons_prefix_cons.1 h).2⟩
 | [],y::m,A,B,_,hm,h=>absurd (List.cons_prefix_cons.1 h).1.symm (hm y (by simp))
 | x::l,[],A,B,hl,_,h=>absurd (List.cons_prefix_cons.1 h).1 (hl x (by simp))
 | x::l,y::m,A,B,hl,hm,h=>by
   obtain ⟨h1,h2⟩:=List.cons_prefix_cons.1 h
   obtain ⟨a,b⟩:=LA l m A B (fun c hc=>hl c (by simp [hc])) (fun c hc=>hm c (by simp [hc])) h2
   exact ⟨by rw [h1,a],b⟩
theorem UW:∀ (L M:List (List Int)),(∀ l∈L,∀ c∈l,c≠10)->(∀ l∈M,∀ c∈l,c≠10)->dV L <+: dV M->L <+: M
 | [],_,_,_,_=>List.nil_prefix
 | l::L,[],_,_,h=>by
   rw [iD] at h
   have:=List.IsPrefix.length_le h
   simp [dV] at this
 | l::L,m::M,hL,hM,h=>by
   rw [iD,iD,List.append_assoc,List.append_assoc] at h
   obtain ⟨h1,h2⟩:=LA l m (dV L) (dV M) (hL l (by simp)) (hM m (by simp)) h
   subst h1
   obtain ⟨t,ht⟩:=UW L M (fun x hx=>hL x (by simp [hx])) (fun x hx=>hM x (by simp [hx])) h2
   exact ⟨t,by rw [<-ht];rfl⟩
theorem aaY {t:ByteArray} {x:List Int} (h:3<=t.size):(af t++x).getD 2 0=(af t).getD 2 0:=by
 rw [List.getD_eq_getElem?_getD,List.getElem?_append_left (by rw [bq];omega),<-List.getD_eq_getElem?_getD]
theorem aaZ (r:Rn):∀ l∈lP r,l.getD 0 0≠115∨l.getD 2 0≠109:=by
 intro l hl
 unfold lP at hl
 rcases List.mem_cons.1 hl with rfl | hl
 . exact .inl (by decide)
 rcases List.mem_cons.1 hl with rfl | hl
 . left
   unfold Ej
   rw [iH hO]
   simp only [List.append_assoc]
   rw [show af hO=[103,101,110,115,32] from rfl,List.cons_append,List.getD_cons_zero]
   omega
 rcases List.mem_append.1 hl with hl | hl
 . obtain ⟨w,_,rfl⟩:=List.mem_map.1 hl
   left
   rw [iH,show af nJ=[114,101,108,32] from rfl,List.cons_append,List.getD_cons_zero]
   omega
 rcases List.mem_append.1 hl with hl | hl
 . obtain ⟨w,_,rfl⟩:=List.mem_map.1 hl
   right
   rw [iH,aaY (by decide),show af mL=[115,117,98,32] from rfl]
   decide
 rcases List.mem_cons.1 hl with rfl | hl
 . left
   unfold j4
   rw [show af mM=[97,116] from rfl,List.cons_append,List.getD_cons_zero]
   omega
 . obtain ⟨j,rfl⟩:=rz r _ _ l hl
   left
   unfold j4
   rw [show af sY=[114,111,119] from rfl,List.cons_append,List.getD_cons_zero]
   omega
set_option maxRecDepth 100000
def x5 (s:ByteArray):Prop:=∃ L:List (List Int),(∀ l∈L,∀ c∈l,c≠10)/\af s=pW (dV L)
theorem Em (B:List Int):lK B=(115::117::109::32::mU B)++[10]:=rfl
theorem X5 (L:List (List Int)):pW (dV L)=dV (L++[115::117::109::32::mU (dV L)]):=by
 rw [qC,Em,sy,iD]
 show _=_++(_++[])
 rw [List.append_nil]
theorem UX (B:List Int):∀ c∈(115::117::109::32::mU B:List Int),c≠10:=by
 have hd:=(xL B).1
 intro c hc
 simp only [List.mem_cons] at hc
 rcases hc with rfl | rfl | rfl | rfl | hc
 . omega
 . omega
 . omega
 . omega
 . have:=hd c hc;omega
theorem no_one {X:Rn} {s:ByteArray} {i:Nat} {v:Int} (hi:i<(dA X).length) (hv:0<=v/\v<256) (hne:(dA X).getD i 0≠v) (e:af s=(dA X).set i v):¬ x5 s:=by
 rintro ⟨L,_,h⟩
 rw [aaX] at hi hne e
 rw [h] at e
 exact X4 (X3 X) hi hv hne e
theorem no_cut {X:Rn} (hX:Lw X) {s:ByteArray} {n:Nat} (hn:n<(dA X).length) (e:af s=(dA X).take n):¬ x5 s:=by
 rintro ⟨L,hL,h⟩
 rw [h,X5] at e
 have hp:dV (L++[115::117::109::32::mU (dV L)]) <+: dA X:=by rw [e];exact List.take_prefix n _
 have hlt:(dV (L++[115::117::109::32::mU (dV L)])).length<(dA X).length:=by rw [e,List.length_take];omega
 have hno:∀ l∈L++[115::117::109::32::mU (dV L)],∀ c∈l,c≠10:=by
  intro l hl
  rcases List.mem_append.1 hl with hl | hl
  . exact hL l hl
  . rw [List.mem_singleton.1 hl];exact UX _
 rw [Fo X] at hp
 obtain ⟨t,ht⟩:=UW _ _ hno (Qz hX) hp
 rcases List.eq_nil_or_concat t with h0 | ⟨t',x,h0⟩
 . subst h0
   rw [List.append_nil] at ht
   rw [ht,<-Fo X] at hlt
   omega
 . subst h0
   rw [List.concat_eq_append,<-List.append_assoc] at ht
   obtain ⟨h1,_⟩:=List.append_inj' ht rfl
   have hm:(115::117::109::32::mU (dV L):List Int)∈lP X:=by rw [<-h1];simp
   rcases aaZ X _ hm with h2 | h2
   . exact h2 rfl
   . exact h2 rfl
theorem qD (c:Int):∀ (l:List Int),∃ L q,fJ c l=L++[q]/\l=(L.flatMap fun p=>p++[c])++q/\∀ p∈L++[q],∀ x∈p,x≠c
 | []=>⟨[],[],rfl,rfl,fun p hp=>by simp at hp;subst hp;simp⟩
 | x :: l => by
   obtain ⟨L,q,h1,h2,h3⟩:=qD c l
   by_cases hx:x=c
   . subst hx
     refine ⟨[]::L,q,by rw [fJ,if_pos rfl,h1];rfl,by rw [h2];simp,fun p hp=>?_⟩
     rcases List.mem_cons.1 hp with rfl | hp
     . simp
     . exact h3 p hp
   . cases L with
     | nil =>
       refine ⟨[],x::q,by rw [fJ,if_neg hx,h1];rfl,by rw [h2];rfl,fun p hp=>?_⟩
       simp at hp
       subst hp
       intro y hy
       rcases List.mem_cons.1 hy with rfl | hy
       . exact hx
       . exact h3 q (by simp) y hy
     | cons a L =>
       refine ⟨(x::a)::L,q,by rw [fJ,if_neg hx,h1];rfl,by rw [h2];rfl,fun p hp=>?_⟩
       rcases List.mem_cons.1 hp with rfl | hp
       . intro y hy
         rcases List.mem_cons.1 hy with rfl | hy
         . exact hx
         . exact h3 a (by simp) y hy
       . exact h3 p (List.mem_cons_of_mem _ hp)
theorem LB : ∀ (k : Nat) (l : List Int), l.length = k + 1 → (∀ c ∈ l, jI c = true) → (l = [48] ∨ l.getD 0 0 ≠ 48) → 0 ≤ num l ∧ l = nK (num l).toNat ∧ (l ≠ [48] → 1 ≤ num l)
 | 0,l,hl,hd,h0=>by
   match l,hl with
   | [c],_ =>
     have:=mF (hd c (by simp))
     have e:num [c]=c-48:=by simp [num]
     rw [e,pL (u:=(c-48).toNat) (by omega)]
     refine ⟨by omega,by simp;omega,fun h=>?_⟩
     have:c≠48:=fun h'=>h (by rw [h'])
     omega
 | k + 1, l, hl, hd, h0 => by
   rcases List.eq_nil_or_concat l with h | ⟨m,c,h⟩
   . subst h;simp at hl
   · rw [List.concat_eq_append] at h
     subst h
     rw [List.length_append,List.length_singleton] at hl
     have hc:=mF (hd c (by simp))
     have hm0:m≠[48]:=by
      intro e
      subst e
      rcases h0 with h0 | h0
      . cases h0
      . exact h0 rfl
     have hm:m.getD 0 0≠48:=by
      rcases h0 with h0 | h0
      . have h9:=congrArg List.length h0
        rw [List.length_append] at h9
        simp only [List.length_cons,List.length_nil] at h9
        omega
      . rw [List.getD_eq_getElem?_getD,List.getElem?_append_left (by omega),<-List.getD_eq_getElem?_getD] at h0;exact h0
     obtain ⟨a,b,d⟩:=LB k m (by omega) (fun x hx=>hd x (by simp [hx])) (.inr hm)
     have d:=d hm0
     rw [wU]
     have e1:((num m*10+(c-48)).toNat) / 10=(num m).toNat:=by omega
     have e2:(((num m*10+(c-48)).toNat % 10:Nat):Int)=c-48:=by omega
     refine ⟨by omega,?_,fun _=>by omega⟩
     rw [Co (by omega),e1,e2,<-b]
     congr 1
     simp
     omega
theorem UY {l:List Int} {x:Int} (h:dU l=some x) (hx:0<=x):l=af (cG x):=by
 unfold dU at h
 split at h
 . cases h;omega
 . split at h
   . rename_i hd
     cases h
     unfold Bx at hd
     simp only [Bool.and_eq_true,decide_eq_true_eq,List.all_eq_true] at hd
     obtain ⟨a,b,_⟩:=LB (l.length-1) l (by omega) hd.2 hd.1.2.2
     have e:num l=((num l).toNat:Int):=by omega
     have h9:=zC (num l).toNat
     rw [<-e] at h9
     rw [h9]
     exact b
   . cases h
theorem aa0 {n:ByteArray} (hn:¬ n=⟨#[]⟩) {ws:List ByteArray} {c:Int} (h:lZ [n] ws=some [c]):∃ w,ws=[n,w]/\dU (af w)=some c:=by
 cases ws with
 | nil=>rw [lZ,GU hn] at h;cases h
 | cons a ws =>
   rw [lZ,xu hn] at h
   split at h
   . rename_i w r hw
     split at hw
     . rename_i ha
       cases hw
       cases hz:dU (af w) with
       | none=>rw [hz] at h;cases h
       | some x =>
         rw [hz] at h
         dsimp only at h
         rw [lZ] at h
         split at h
         . rename_i hr
           subst hr
           cases h
           exact ⟨w,by rw [ha],hz⟩
         . cases h
     . cases hw
   . cases h
theorem X6 {l:List Int} (h:bg l=ru):l=[]:=by
 have:=congrArg ByteArray.size h
 rw [kI] at this
 exact List.eq_nil_of_length_eq_zero this
theorem X7 {L:List (List Int)} {p:List Int} (hp:p∈L) {c x:Int} (hx:x∈p):x∈L.flatMap fun p=>p++[c]:=List.mem_flatMap.2 ⟨p,hp,List.mem_append_left _ hx⟩
theorem aa1 (s:ByteArray):0<=jm s:=by
 have:=Lz (af s)
 unfold ot at this
 rw [DR] at this
 exact this
theorem aa2 {s tl:ByteArray} {L:List ByteArray} (hs:bI 10 s=L++[tl]) {i:Nat} (hi:i<L.length):(L.getD i ⟨#[]⟩).size<s.size:=by
 obtain ⟨LL,q,h1,h2,h3⟩:=qD 10 (af s)
 unfold bI at hs
 rw [h1,List.map_append] at hs
 obtain ⟨e1,e2⟩:=List.append_inj' hs rfl
 subst e1
 rw [List.length_map] at hi
 rw [List.getD_eq_getElem?_getD,List.getElem?_map,List.getElem?_eq_getElem hi]
 show (bg LL[i]).size<_
 rw [kI,<-bq s,h2,List.length_append]
 have:∀ (L:List (List Int)) (p:List Int),p∈L->p.length+1<=(L.flatMap fun p=>p++[(10:Int)]).length:=by
  intro L
  induction L with
  | nil=>intro p hp;cases hp
  | cons a L ih =>
    intro p hp
    rw [List.flatMap_cons,List.length_append,List.length_append,List.length_singleton]
    rcases List.mem_cons.1 hp with rfl | hp
    . omega
    . have:=ih p hp;omega
 have:=this LL LL[i] (List.getElem_mem hi)
 omega
theorem cks_of {s:ByteArray} {L:List ByteArray} {i:Nat} {gi:Int} (hs:bI 10 s=L++[ru]) (hi:i+1=L.length) (hf:dW L i [jn]=some [gi]) (hc:jm (s.extract 0 (s.size-(L.getD i ⟨#[]⟩).size-1))=gi):x5 s:=by
 obtain ⟨LL,q,h1,h2,h3⟩:=qD 10 (af s)
 unfold bI at hs
 rw [h1,List.map_append] at hs
 obtain ⟨e1,e2⟩:=List.append_inj' hs rfl
 have hq:q=[]:=X6 (List.singleton_inj.1 e2)
 subst hq
 rw [List.append_nil] at h2
 rcases List.eq_nil_or_concat LL with h | ⟨M,l,h⟩
 . subst h;subst e1;simp at hi
 rw [List.concat_eq_append] at h
 subst h
 subst e1
 rw [List.length_map,List.length_append,List.length_singleton] at hi
 have hM:M.length=i:=by omega
 have X8:∀ p∈M++[l],∀ x∈p,0<=x/\x<256:=fun p hp x hx=>ql (s:=s) (by rw [h2];exact X7 hp hx)
 have hlast:((M++[l]).map bg).getD i ⟨#[]⟩=bg l:=by
  rw [List.map_append,List.getD_eq_getElem?_getD,List.getElem?_append_right (by simp;omega)]
  simp [hM]
 rw [hlast,kI] at hc
 have hw:(M++[l]).flatMap (fun p=>p++[(10:Int)])=dV M++(l++[10]):=by
  rw [List.flatMap_append]
  unfold dV
  simp
 rw [hw] at h2
 have hsz:s.size=(dV M).length+l.length+1:=by
  rw [<-bq s,h2,List.length_append,List.length_append,List.length_singleton]
  omega
 have hx:s.extract 0 (s.size-l.length-1)=bg (dV M):=by
  rw [<-tW,List.drop_zero,h2,show s.size-l.length-1-0=(dV M).length by omega,List.take_left' rfl]
 rw [hx] at hc
 have hc0:=aa1 (bg (dV M))
 unfold dW at hf
 rw [if_neg (by rw [List.length_map,List.length_append,List.length_singleton];omega),Int.toNat_natCast,hlast] at hf
 obtain ⟨w,Ky,hn⟩:=aa0 (by decide) hf
 unfold bI at Ky
 rw [fU fun x hx=>X8 l (by simp) x hx] at Ky
 obtain ⟨P,r,g1,g2,g3⟩:=qD 32 l
 rw [g1,List.map_append] at Ky
 obtain ⟨f1,f2⟩:=List.append_inj' (s₁:=P.map bg) (t₁:=[bg r]) (s₂:=[jn]) (t₂:=[w]) Ky rfl
 have hr:bg r=w:=List.singleton_inj.1 f2
 match P,f1,g2 with
 | [p0],f1,g2 =>
   have oG:bg p0=jn:=List.singleton_inj.1 f1
   have g2:l=p0++[32]++r:=by rw [g2];simp
   have b0:p0=af jn:=by
    rw [<-oG,fU fun x hx=>X8 l (by simp) x (by rw [g2];simp [hx])]
   have br:r=af w:=by
    rw [<-hr,fU fun x hx=>X8 l (by simp) x (by rw [g2];simp [hx])]
   have hwd:af w=af (cG gi):=UY hn (by omega)
   refine ⟨M,fun p hp=>h3 p (by simp [hp]),?_⟩
   rw [h2,qC,Em,g2,b0,br,hwd]
   unfold mU ot
   rw [hc]
   rfl
 | [],f1,_=>cases f1
 | _::_::_,f1,_=>simp at f1
structure lQ where
 s:ByteArray
 L:List ByteArray
 tl:ByteArray
 hb:Bool
 h:Hd
 rb:Bool
 ri:Nat
 R:List (List Int)
 i1:Nat
 sb:Bool
 si:Nat
 S:List (List Int)
 i2:Nat
 ab:Bool
 p:Pl
 tb:Bool
 ti:Nat
 aq:Int
 RW:List (List Int)
 PR:List Int
 i4:Nat
 cb:Bool
 gi:Int
structure nL (v:lQ):Prop where
 sz:v.s.size<=890000
 spl:bI 10 v.s=v.L++[v.tl]
 hd:dW v.L 1 [Ef,Lq,Eg,Eh]=bif v.hb then none else some [v.h.g,v.h.aJ,v.h.aQ,v.h.aI]
 aN:jZ v.rb v.ri v.i1 v.R v.h.g ef 2 [] (v.L.drop 2)
 subs:jZ v.sb v.si v.i2 v.S v.h.g ep v.i1 [] (v.L.drop v.i1)
 at':dW v.L v.i2 [mM,ru,ru]=bif v.ab then none else some [v.p.ph,v.p.co,v.p.ix]
 rws:mR v.tb v.ti v.i4 v.aq v.RW v.PR v.h.g (v.i2+1) 0 [] [] (v.L.drop (v.i2+1))
 sum:dW v.L v.i4 [jn]=bif v.cb then none else some [v.gi]
 no:¬ x5 v.s
def j3 (v:lQ):Int×Int :=
 if v.L.length=0∨¬ v.L.getD 0 ru=kH then (11,0)
 else if v.hb=true then (11,1)
 else if v.rb=true then (11,v.ri)
 else if v.sb=true then (11,v.si)
 else if v.ab=true then (11,v.i2)
 else if v.tb=true then (11,v.ti)
 else if v.cb=true then (11,v.i4)
 else if v.i4+1<v.L.length∨¬ v.tl=ru then (11,v.i4+1)
 else (14,v.i4)
theorem aa3 (v:lQ):(j3 v).1≠0:=by
 unfold j3
 split
 . show (11:Int)≠0;omega
 split
 . show (11:Int)≠0;omega
 split
 . show (11:Int)≠0;omega
 split
 . show (11:Int)≠0;omega
 split
 . show (11:Int)≠0;omega
 split
 . show (11:Int)≠0;omega
 split
 . show (11:Int)≠0;omega
 split
 . show (11:Int)≠0;omega
 . show (14:Int)≠0;omega
theorem X9:∀ k:Nat,k<11->(10:Int) ^ k<=10000000000:=by decide
theorem LC : ∀ {ns ws : List ByteArray} {l : List Int}, lZ ns ws = some l → l.length = ns.length ∧ ∀ x ∈ l, -1 ≤ x ∧ x < 10000000000
 | [],ws,l,h=>by
   rw [lZ] at h
   split at h
   . cases h;exact ⟨rfl,fun x hx=>by cases hx⟩
   . cases h
 | n :: ns, ws, l, h => by
   rw [lZ] at h
   split at h
   . rename_i w r _
     cases hz:dU (af w) with
     | none=>rw [hz] at h;cases h
     | some x =>
       rw [hz] at h
       dsimp only at h
       cases hr:lZ ns r with
       | none=>rw [hr] at h;cases h
       | some l' =>
         rw [hr] at h
         cases h
         obtain ⟨a,b⟩:=LC hr
         refine ⟨by simp [a],fun y hy=>?_⟩
         rcases List.mem_cons.1 hy with rfl | hy
         . unfold dU at hz
           split at hz
           . cases hz;omega
           . split at hz
             . rename_i hd
               cases hz
               unfold Bx at hd
               simp only [Bool.and_eq_true,decide_eq_true_eq,List.all_eq_true] at hd
               have:=tQ (af w).length (af w) rfl hd.1.2.1 hd.2
               have h10:=X9 _ (Nat.lt_succ_of_le hd.1.2.1)
               omega
             . cases hz
         . exact b y hy
   . cases h
theorem lM {L:List ByteArray} {a:Int} {ns:List ByteArray} {l:List Int} (h:dW L a ns=some l):a≠L.length/\l.length=ns.length/\∀ x∈l,-1<=x/\x<10000000000:=by
 unfold dW at h
 split at h
 . cases h
 . rename_i ha
   exact ⟨ha,LC h⟩
theorem LD {g:Int} {tag:ByteArray}:∀ {ls:List ByteArray} {n:Nat} {ws:List (List Int)},rL g tag n ls=some ws->ws.length<=ls.length
 | [],n,ws,h=>by rw [rL] at h;cases h;exact Nat.le_refl _
 | l :: ls, n, ws, h => by
   rw [rL] at h
   split at h
   . split at h
     . cases h
     . cases hr:rL g tag (n+1) ls with
       | none=>rw [hr] at h;cases h
       | some r =>
         rw [hr] at h
         cases h
         have:=LD hr
         simp only [List.length_cons];omega
   . cases h;exact Nat.zero_le _
theorem LF {g:Int}:∀ {ls:List ByteArray} {ws:List ByteArray},rM g ls=some ws->ws.length<=ls.length
 | [],ws,h=>by rw [rM] at h;cases h;exact Nat.le_refl _
 | l :: ls, ws, h => by
   rw [rM] at h
   split at h
   . split at h
     . cases h
     . cases hr:rM g ls with
       | none=>rw [hr] at h;cases h
       | some r =>
         rw [hr] at h
         cases h
         have:=LF hr
         simp only [List.length_cons];omega
   . cases h;exact Nat.zero_le _
theorem jZ.le {b:Bool} {e n:Nat} {W:List (List Int)} {g:Int} {tag:ByteArray} {L:List ByteArray} {i:Nat} (H:jZ b e n W g tag i [] (L.drop i)) (hb:b=false) (hi:i<=L.length):n<=L.length:=by
 unfold jZ at H
 split at H
 . rw [H.1] at hb;cases hb
 . rename_i ws hw
   have:=LD hw
   rw [List.length_drop] at this
   have:=H.2.2
   omega
theorem mR.le {b:Bool} {e n:Nat} {lv:Int} {RW:List (List Int)} {PR:List Int} {g:Int} {L:List ByteArray} {i:Nat} (H:mR b e n lv RW PR g i 0 [] [] (L.drop i)) (hb:b=false) (hi:i<=L.length):n<=L.length:=by
 unfold mR at H
 split at H
 . rw [H.1] at hb;cases hb
 . rename_i ws hw
   have:=LF hw
   rw [List.length_drop] at this
   have:=H.2.2.2.2
   omega
structure Stands (v:lQ):Prop where
 lc:v.hb=false->2<=v.L.length∨v.L.length=0
 gr:v.hb=false->-1<=v.h.g/\v.h.g<=10000000000
 l1:v.hb=false->v.L.length≠0->v.rb=false->v.i1<=v.L.length
 l2:v.hb=false->v.L.length≠0->v.rb=false->v.sb=false->v.i2<=v.L.length
 l3:v.hb=false->v.L.length≠0->v.rb=false->v.sb=false->v.ab=false->v.i2+1<=v.L.length
 l4:v.hb=false->v.L.length≠0->v.rb=false->v.sb=false->v.ab=false->v.tb=false->v.i4<=v.L.length
 l5:v.hb=false->v.L.length≠0->v.rb=false->v.sb=false->v.ab=false->v.tb=false->v.cb=false->v.i4+1<=v.L.length
 len:v.L.length<=890001
 sh:mQ v.L
theorem nL.stands {v:lQ} (H:nL v):Stands v:=by
 have hsh:=kZ 10 (s:=v.s) (by have:=H.sz;omega)
 rw [H.spl] at hsh
 have cB:v.L.length<=890001:=by
  have:=hsh.2
  rw [List.length_append,List.length_singleton] at this
  have:=H.sz
  omega
 have h1:v.hb=false->2<=v.L.length∨v.L.length=0:=fun hb=>by
  have:=H.hd
  rw [hb] at this
  have:=(lM this).1
  omega
 have hgr:v.hb=false->-1<=v.h.g/\v.h.g<=10000000000:=fun hb=>by
  have:=H.hd
  rw [hb] at this
  have:=(lM this).2.2 v.h.g (by simp)
  omega
 have l1:v.hb=false->v.L.length≠0->v.rb=false->v.i1<=v.L.length:=fun a b c=>H.aN.le c (by have:=h1 a;omega)
 have l2:v.hb=false->v.L.length≠0->v.rb=false->v.sb=false->v.i2<=v.L.length:=fun a b c d=>H.subs.le d (l1 a b c)
 have l3:v.hb=false->v.L.length≠0->v.rb=false->v.sb=false->v.ab=false->v.i2+1<=v.L.length:=fun a b c d e=>by
  have:=H.at'
  rw [e] at this
  have h:=(lM this).1
  have:=l2 a b c d
  omega
 have l4:v.hb=false->v.L.length≠0->v.rb=false->v.sb=false->v.ab=false->v.tb=false->v.i4<=v.L.length:=fun a b c d e f=>H.rws.le f (l3 a b c d e)
 refine ⟨h1,hgr,l1,l2,l3,l4,fun a b c d e f g=>?_,cB,fun s hs=>hsh.1 s (by simp [hs])⟩
 have:=H.sum
 rw [g] at this
 have h:=(lM this).1
 have:=l4 a b c d e f
 omega
def Zt (v:lQ):bP:=jU .str .str fun s sep=>(.p (s=v.s/\sep=⟨#[10]⟩),mG (v.L++[v.tl]),[])
theorem Ya (v:lQ) (H:nL v):aV Tryz.prog 34 (Zt v):=fT (by kernel_rfl) fun s sep h=>by
 obtain ⟨rfl,rfl⟩:=h
 have:=GS v.s ⟨#[10]⟩ rfl (by have:=H.sz;omega)
 rw [show bI (eU ⟨#[10]⟩) v.s=v.L++[v.tl] from H.spl] at this
 exact this
def QB (v:lQ):bP:={ cF:=[true,false],f:=fun args ak=>match args with
 | [.p (.c (.ptr 0 0)),y]=>match fH dS y,H8 ak with
   | some ([a,b,c,d]:List ByteArray),some (L,i,bn)=>some (.p ((L=v.L/\i=1/\v.L.length≠0/\[a,b,c,d]=[Ef,Lq,Eg,Eh])/\v.hb=false),bF [v.h.g,v.h.aJ,v.h.aQ,v.h.aI],aO v.L 2 (.ptr 1 0)::bn)
   | some ([a,b,c]:List ByteArray),some (L,i,bn)=>some (.p ((L=v.L/\i=v.i2/\v.i2<=v.L.length/\[a,b,c]=[mM,ru,ru])/\v.ab=false),bF [v.p.ph,v.p.co,v.p.ix],aO v.L (v.i2+1) (.ptr 1 0)::bn)
   | some ([a]:List ByteArray),some (L,i,bn)=>some (.p ((L=v.L/\i=v.i4/\v.i4<=v.L.length/\[a]=[jn])/\v.cb=false),bF [v.gi],aO v.L (v.i4+1) (.ptr 1 0)::bn)
   | _,_=>none
 | _=>none }
def QC (v:lQ):dK:={ cF:=[true,false],f:=fun args ak=>match args with
 | [.p (.c (.ptr 0 0)),y]=>match fH dS y,H8 ak with
   | some ([a,b,c,d]:List ByteArray),some (L,i,_)=>some (.p (L=v.L/\i=1/\v.L.length≠0/\[a,b,c,d]=[Ef,Lq,Eg,Eh]),some v.hb,aY 11 1)
   | some ([a,b,c]:List ByteArray),some (L,i,_)=>some (.p (L=v.L/\i=v.i2/\v.i2<=v.L.length/\[a,b,c]=[mM,ru,ru]),some v.ab,aY 11 v.i2)
   | some ([a]:List ByteArray),some (L,i,_)=>some (.p (L=v.L/\i=v.i4/\v.i4<=v.L.length/\[a]=[jn]),some v.cb,aY 11 v.i4)
   | _,_=>none
 | _=>none }
theorem sE {L:List ByteArray} {i:Int} {ns:List ByteArray} {b:Bool} {res:List Int} (hi:0<=i/\i<=L.length) (hl:L.length<=900000) (hs:mQ L) (hn:ns.length<=1000) (e:dW L i ns=bif b then none else some res) {y:A} (hy:fH dS y=some ns) (bn:List Ob) :
 (b=false->bA Tryz.prog 36 (aO L i (.ptr 1 0)::bn).length [.p (.c (.ptr 0 0)),y] (aO L i (.ptr 1 0)::bn) (bF res) (aO L (i+1) (.ptr 1 0)::bn))/\(b=true->dQ Tryz.prog 36 [.p (.c (.ptr 0 0)),y] (aO L i (.ptr 1 0)::bn) (aY 11 i)):=by
 have hr:DS (aO L i (.ptr 1 0)::bn)=some (L,i,.ptr 1 0,bn):=rfl
 constructor
 . intro hb
   subst hb
   have e2:nC.r L i ns=bF res:=by
    show bF ((dW L i ns).getD [])=_
    rw [e];rfl
   have:=DV.1.2 [.p (.c (.ptr 0 0)),y] (aO L i (.ptr 1 0)::bn) (Cd.p (nC.c L i ns/\nC.b L i ns=false)) (nC.r L i ns) (aO L (nC.n L i ns) (.ptr 1 0)::bn) (by
    simp only [rV.con,hy,hr]) ⟨⟨hn,hi,hl,hs⟩,by show (dW L i ns).isNone=false;rw [e];rfl⟩
   rw [e2] at this
   exact this
 . intro hb
   subst hb
   exact DV.2.2 [.p (.c (.ptr 0 0)),y] (aO L i (.ptr 1 0)::bn) (Cd.p (nC.c L i ns)) (some (nC.b L i ns)) (aY 11 i) (by simp only [rV.die,hy,hr]) ⟨hn,hi,hl,hs⟩ (by
    show some (dW L i ns).isNone≠some false
    rw [e];intro h;cases h)
theorem Yb (v:lQ) (H:nL v):aV Tryz.prog 36 (QB v):=by
 refine ⟨by kernel_rfl,fun args ak c r bp e hc=>?_⟩
 have K:=H.stands
 have hl:=K.len
 simp only [QB] at e
 split at e
 . split at e
   . rename_i h1 h2
     cases e
     obtain ⟨⟨rfl,rfl,h0,hn⟩,hb⟩:=hc
     rw [qo h2]
     exact (sE (i:=1) ⟨by omega,by omega⟩ (by omega) K.sh (by simp) (by rw [hn];exact H.hd) h1 _).1 hb
   . rename_i h1 h2
     cases e
     obtain ⟨⟨rfl,rfl,h0,hn⟩,hb⟩:=hc
     rw [qo h2]
     exact (sE ⟨by omega,by omega⟩ (by omega) K.sh (by simp) (by rw [hn];exact H.at') h1 _).1 hb
   . rename_i h1 h2
     cases e
     obtain ⟨⟨rfl,rfl,h0,hn⟩,hb⟩:=hc
     rw [qo h2]
     exact (sE ⟨by omega,by omega⟩ (by omega) K.sh (by simp) (by rw [hn];exact H.sum) h1 _).1 hb
   . cases e
 . cases e
theorem Yc (v:lQ) (H:nL v):cZ Tryz.prog 36 (QC v):=by
 refine ⟨by kernel_rfl,fun args ak c b u e hc hb=>?_⟩
 have K:=H.stands
 have hl:=K.len
 simp only [QC] at e
 split at e
 . split at e
   . rename_i h1 h2
     cases e
     obtain ⟨rfl,rfl,h0,hn⟩:=hc
     rw [qo h2]
     exact (sE (i:=1) ⟨by omega,by omega⟩ (by omega) K.sh (by simp) (by rw [hn];exact H.hd) h1 _).2 (rW hb)
   . rename_i h1 h2
     cases e
     obtain ⟨rfl,rfl,h0,hn⟩:=hc
     rw [qo h2]
     exact (sE ⟨by omega,by omega⟩ (by omega) K.sh (by simp) (by rw [hn];exact H.at') h1 _).2 (rW hb)
   . rename_i h1 h2
     cases e
     obtain ⟨rfl,rfl,h0,hn⟩:=hc
     rw [qo h2]
     exact (sE ⟨by omega,by omega⟩ (by omega) K.sh (by simp) (by rw [hn];exact H.sum) h1 _).2 (rW hb)
   . cases e
 . cases e
def QD (v : lQ) : bP := { cF := [true, false], ay := some 2, f := fun args ak => match args, ak with
 | [.p (.c (.ptr 0 0)), y], [o1, o2] => match fH .str y with
   | some s=>match (af s).headD 0 with
     | 114=>match (af s).getD 1 0 with
       | 101=>match iL o1,iT o2 with
         | some (L,a),some (h,.nil,.nil)=>some (.p ((s=ef/\L=v.L/\a=2/\2<=v.L.length/\h.g=v.h.g)/\v.rb=false),.aL [],[aO v.L v.i1 (.ptr 1 0),bX h (.rd (.sl (.int .i64)) v.R) .nil])
         | _,_=>none
       | _=>match iL o1,rm o2 with
         | some (L,a),some (h,R,S,p,0,.nil,.nil)=>some (.p ((s=cO/\L=v.L/\a=v.i2+1/\v.i2+1<=v.L.length/\h.g=v.h.g/\(-1<=v.h.g/\v.h.g<=10000000000))/\v.tb=false),.aL [],[aO v.L v.i4 (.ptr 1 0),gu h R S p v.aq .ct .ct])
         | _,_=>none
     | _=>match iL o1,iT o2 with
       | some (L,a),some (h,.rd (.sl (.int .i64)) R,.nil)=>some (.p ((s=ep/\L=v.L/\a=v.i1/\v.i1<=v.L.length/\h.g=v.h.g)/\v.sb=false),.aL [],[aO v.L v.i2 (.ptr 1 0),bX h (.rd (.sl (.int .i64)) R) (.rd (.sl (.int .i64)) v.S)])
       | _,_=>none
   | _=>none
 | _,_=>none }
def QE (v : lQ) : dK := { cF := [true, false], f := fun args ak => match args, ak with
 | [.p (.c (.ptr 0 0)), y], [o1, o2] => match fH .str y with
   | some s=>match (af s).headD 0 with
     | 114=>match (af s).getD 1 0 with
       | 101=>match iL o1,iT o2 with
         | some (L,a),some (h,.nil,.nil)=>some (.p (s=ef/\L=v.L/\a=2/\2<=v.L.length/\h.g=v.h.g),some v.rb,aY 11 v.ri)
         | _,_=>none
       | _=>match iL o1,rm o2 with
         | some (L,a),some (h,_,_,_,0,.nil,.nil)=>some (.p (s=cO/\L=v.L/\a=v.i2+1/\v.i2+1<=v.L.length/\h.g=v.h.g/\(-1<=v.h.g/\v.h.g<=10000000000)),some v.tb,aY 11 v.ti)
         | _,_=>none
     | _=>match iL o1,iT o2 with
       | some (L,a),some (h,.rd (.sl (.int .i64)) _,.nil)=>some (.p (s=ep/\L=v.L/\a=v.i1/\v.i1<=v.L.length/\h.g=v.h.g),some v.sb,aY 11 v.si)
       | _,_=>none
   | _=>none
 | _,_=>none }
theorem resR (v:lQ) (H:nL v) {h:Hd} (q:2<=v.L.length) (q4:h.g=v.h.g):(0<=(2:Int)/\(2:Int)<=v.L.length)/\(v.L.length<=900000/\mQ v.L)/\jZ v.rb v.ri v.i1 v.R h.g ef (2:Int).toNat [] (v.L.drop (2:Int).toNat):=⟨⟨by omega,by omega⟩,⟨by have:=H.stands.len;omega,H.stands.sh⟩,by rw [q4];exact H.aN⟩
theorem resS (v:lQ) (H:nL v) {h:Hd} (q:v.i1<=v.L.length) (q4:h.g=v.h.g):(0<=(v.i1:Int)/\(v.i1:Int)<=v.L.length)/\(v.L.length<=900000/\mQ v.L)/\jZ v.sb v.si v.i2 v.S h.g ep (v.i1:Int).toNat [] (v.L.drop (v.i1:Int).toNat):=⟨⟨by omega,by omega⟩,⟨by have:=H.stands.len;omega,H.stands.sh⟩,by rw [q4,Int.toNat_natCast];exact H.subs⟩
theorem o9 (v:lQ) (H:nL v) {h:Hd} (q:v.i2+1<=v.L.length) (q4:h.g=v.h.g) (q5:-1<=v.h.g/\v.h.g<=10000000000):(0<=(v.i2:Int)+1/\(v.i2:Int)+1<=v.L.length)/\(v.L.length<=900000/\mQ v.L)/\(-1<=h.g/\h.g<=10000000000)/\mR v.tb v.ti v.i4 v.aq v.RW v.PR h.g ((v.i2:Int)+1).toNat 0 [] [] (v.L.drop ((v.i2:Int)+1).toNat):=⟨⟨by omega,by omega⟩,⟨by have:=H.stands.len;omega,H.stands.sh⟩,by rw [q4];exact q5,by
 have e:((v.i2:Int)+1).toNat=v.i2+1:=by omega
 rw [q4,e];exact H.rws⟩
theorem Fq {f:FuncId} {tag s:ByteArray} {ak bp:List Ob} {r:A} {y:A} (hy:fH .str y=some s) (hs:s=tag) (K:bA Tryz.prog f 2 [pX,ck tag] ak r bp):bA Tryz.prog f 2 [.p (.c (.ptr 0 0)),y] ak r bp:=by
 intro base η Z w vs R0 hv hK
 subst hs
 match vs,hv with
 | [u,t],⟨a1,a3,_⟩=>exact K base η Z w _ R0 ⟨a1,cg hy a3,trivial⟩ hK
theorem Cw {f:FuncId} {tag s:ByteArray} {ak:List Ob} {u:Value} {y:A} (hy:fH .str y=some s) (hs:s=tag) (K:dQ Tryz.prog f [pX,ck tag] ak u):dQ Tryz.prog f [.p (.c (.ptr 0 0)),y] ak u:=by
 intro base η Z w vs R0 hv hK
 subst hs
 match vs,hv with
 | [u,t],⟨a1,a3,_⟩=>exact K base η Z w _ R0 ⟨a1,cg hy a3,trivial⟩ hK
theorem Yd (v : lQ) (H : nL v) : aV Tryz.prog 37 (QD v) := by
 refine ⟨by kernel_rfl,fun args ak c r bp e hc=>?_⟩
 simp only [QD] at e
 split at e
 · split at e
   . rename_i hs
     split at e
     . split at e
       . split at e
         . rename_i h1 h2
           cases e
           obtain ⟨⟨q1,rfl,rfl,q,q4⟩,hb⟩:=hc
           rw [d9 h1,fj h2]
           exact Fq hs q1 ((Eb _ _ _ _ _ _ _ (resR v H q q4)).1 hb)
         . cases e
       . split at e
         . rename_i h1 h2
           cases e
           obtain ⟨⟨q1,rfl,rfl,q,q4,q5⟩,hb⟩:=hc
           rw [d9 h1,oM h2]
           exact Fq hs q1 ((Ee _ _ _ _ _ _ _ _ _ _ _ _ (o9 v H q q4 q5)).1 hb)
         . cases e
     . split at e
       . rename_i h1 h2
         cases e
         obtain ⟨⟨q1,rfl,rfl,q,q4⟩,hb⟩:=hc
         rw [d9 h1,fj h2]
         exact Fq hs q1 ((Ec _ _ _ _ _ _ _ _ (resS v H q q4)).1 hb)
       . cases e
   . cases e
 . cases e
theorem Ye (v : lQ) (H : nL v) : cZ Tryz.prog 37 (QE v) := by
 refine ⟨by kernel_rfl,fun args ak c b u e hc hb=>?_⟩
 simp only [QE] at e
 split at e
 · split at e
   . rename_i hs
     split at e
     . split at e
       . split at e
         . rename_i h1 h2
           cases e
           obtain ⟨q1,rfl,rfl,q,q4⟩:=hc
           rw [d9 h1,fj h2]
           exact Cw hs q1 ((Eb _ _ _ _ _ _ _ (resR v H q q4)).2 (rW hb))
         . cases e
       . split at e
         . rename_i h1 h2
           cases e
           obtain ⟨q1,rfl,rfl,q,q4,q5⟩:=hc
           rw [d9 h1,oM h2]
           exact Cw hs q1 ((Ee _ _ _ _ _ _ _ _ _ _ _ _ (o9 v H q q4 q5)).2 (rW hb))
         . cases e
     . split at e
       . rename_i h1 h2
         cases e
         obtain ⟨q1,rfl,rfl,q,q4⟩:=hc
         rw [d9 h1,fj h2]
         exact Cw hs q1 ((Ec _ _ _ _ _ _ _ _ (resS v H q q4)).2 (rW hb))
       . cases e
   . cases e
 . cases e
def Zu:bP:=j9 .str fun s=>(.p ((show ByteArray from s).size<=1000000),nI (jm s),[])
theorem Yf:aV Tryz.prog 31 Zu:=gA (by kernel_rfl) fun s h=>NC s h
noncomputable def gLx (v:lQ):bS:=[(34,Zt v),(36,QB v),(37,QD v),(31,Zu)]
theorem UZ (v:lQ) (H:nL v):bt Tryz.prog (gLx v):=ar (Ya v H) (ar (Yb v H) (ar (Yd v H) (ar Yf aC)))
def diLx (v:lQ) (H:nL v):List { x:FuncId×dK // cZ Tryz.prog x.1 x.2 }:=[⟨(35,DT),Cq⟩,⟨(36,QC v),Yc v H⟩,⟨(37,QE v),Ye v H⟩]
abbrev tlLx:Ao Tryz.prog:={ f:=33,k:=2,got:=XY,ok:=UN }
noncomputable def sLx (v:lQ) (H:nL v):bD:={ cD Tryz.prog (gLx v) (diLx v H) Tryz.f11 0 [] [] [] false (aY 0 0) with tail:=some tlLx }
theorem U0 (v:lQ) (H:nL v):bw Tryz.prog 11 [ck v.s] [] (.aL [.c .bY,.agg [.int .i64 (j3 v).1,.int .i64 (j3 v).2]]) []:=by
 refine wM (s:=sLx v H) (UZ v H) rfl Tryz.func11 (by kernel_rfl) rfl (by kernel_rfl) 400 ?_ (fun u h=>by cases h.1)
 apply of_eq (q:=(decide ((8000000:Int)<(v.s.size:Int))=true->aB [V.c W.bY,V.agg [wI (4),wI (0)]]=A.aL [V.c W.bY,V.agg [wI (j3 v).fst,wI (j3 v).snd]]/\([]:List Ob)=[])/\(decide ((8000000:Int)<(v.s.size:Int))=false->Dh (sLx v H) (fun r o=>r=A.aL [V.c W.bY,V.agg [wI (j3 v).fst,wI (j3 v).snd]]/\o=[]) [0,1,1] (((((au.T.leaf.node (some (aP (W.func 33 [(0,(0:Nat)),(1,(0:Nat))]))) au.T.leaf).node none au.T.leaf).node (some (aR 1 0)) (au.T.leaf.node (some (aP (W.str v.s))) au.T.leaf)).node none (au.T.leaf.node none (au.T.leaf.node (some (A.dec false)) au.T.leaf))).node (some (aP (W.str v.s))) ((au.T.leaf.node none (au.T.leaf.node (some (nI (v.s.size:Int))) au.T.leaf)).node (some (aR 0 0)) au.T.leaf)) (ai.ofList [Ob.mk 28 [Fd.c W.bY],Ob.mk 39 [fI (0),fI (0)]]))) (by kernel_rfl)
 try simp only [sL]
 have h1:=H.sz
 refine ⟨fun h=>by omega,fun _=>?_⟩
 refine Gm (T:=tlLx) (UZ v H) rfl rfl rfl rfl 400 ?_
 apply of_eq (q:=let q0:=IntKind.i64.wrap;let q4:=(q0 ((v.s.size:Int)-(↑(v.L.getD v.i4 (ByteArray.mk #[])).size:Int))-1);let q6:=(↑(v.L++[v.tl]).length:Int);let q9:=(v.i2:Int)=(v.i2:Int)/\v.i2<=v.L.length/\[ByteArray.mk #[(97:UInt8),(116:UInt8)],ByteArray.mk #[],ByteArray.mk #[]]=[mM,ru,ru];let aW:=V.c W.bY;let cS:=([]:List Ob)=[];let cA:=(0:Nat);let bU:=(0:Int);let fA:=decide ((v.L++[v.tl]).getD (q0 (q6-1)).toNat (ByteArray.mk #[])=ByteArray.mk #[]);let fu:=(v.s.extract cA (q0 q4).toNat);let cX:=(j3 v);let fw:=(115:UInt8);let eG:=ByteArray.mk #[(114:UInt8),(101:UInt8),(108:UInt8)]=ef;let iB:=ByteArray.mk #[(114:UInt8),(111:UInt8),(119:UInt8)]=cO;let gM:=(v.i4:Int);let kW:=ByteArray.mk #[fw,(117:UInt8),(98:UInt8)]=ep;let q2:=(List.take (q0 (q6-1)).toNat (v.L++[v.tl]));let q3:=q0 (bU+1)=1/\v.L.length≠cA/\[ByteArray.mk #[(103:UInt8),(101:UInt8),(110:UInt8),fw],ByteArray.mk #[(108:UInt8),(105:UInt8),(109:UInt8),(105:UInt8),(116:UInt8)],ByteArray.mk #[(109:UInt8),(111:UInt8),fw,(116:UInt8)],ByteArray.mk #[fw,(116:UInt8),(97:UInt8),(116:UInt8),(117:UInt8),fw]]=[Ef,Lq,Eg,Eh];let q5:=[v.h.g,v.h.aJ,v.h.aQ,v.h.aI].getD cA bU=v.h.g;let q7:=decide (gM+1<(v.L.length:Int));let q8:=decide ((List.drop cA q2).getD cA (ByteArray.mk #[])=ByteArray.mk #[(99:UInt8),(111:UInt8),fw,(101:UInt8),(116:UInt8),(32:UInt8),(49:UInt8)]);let bG:=v.L=v.L/\(v.i2:Int)+1=(v.i2:Int)+1/\v.i2+1<=v.L.length/\q5/\(-1:Int)<=v.h.g/\v.h.g<=10000000000;let bM:=gM=gM/\v.i4<=v.L.length/\[ByteArray.mk #[fw,(117:UInt8),(109:UInt8)]]=[jn];let eu:=v.L=v.L/\(v.i1:Int)=(v.i1:Int)/\v.i1<=v.L.length/\q5;let fO:=v.L=v.L/\(2:Int)=2/\(2:Nat)<=v.L.length/\q5;let q1:=decide ((↑(List.drop cA q2).length:Int)=0);let eB:=q1=false;(v.s=v.s/\ByteArray.mk #[(10:UInt8)]=ByteArray.mk #[(10:UInt8)])/\(bU<=q0 (q6-1)/\q0 (q6-1)<q6)/\(q0 (q6-1)).toNat<(v.L++[v.tl]).length/\(bU<=0/\bU<=q0 (q6-1)/\q0 (q6-1)<=q6)/\(eB->eB)/\(eB->eB)/\(eB->eB)/\(eB->eB)/\(eB->bU<=0/\bU<(↑(List.drop cA q2).length:Int))/\(eB->eB)/\(eB->cA<(List.drop cA q2).length)/\(eB->eB)/\(eB->eB)/\((bif q1 then true else !q8)=true->aB [aW,V.agg [wI (11),wI (0)]]=A.aL [aW,V.agg [wI cX.fst,wI cX.snd]]/\cS)/\((bif q1 then true else !q8)=false->cA+4<=4/\(List.drop cA q2=v.L/\q3)/\(v.hb=true->aB [aW,V.agg [wI (11),wI (1)]]=A.aL [aW,V.agg [wI cX.fst,wI cX.snd]]/\cS)/\(v.hb=false->cA+4<=4/\((List.drop cA q2=v.L/\q3)/\v.hb=false)/\(bU<=0/\bU<(↑(4:Nat):Int))/\cA<4/\(bU<=1/\(1:Int)<(↑(4:Nat):Int))/\(1:Nat)<4/\(bU<=2/\(2:Int)<(↑(4:Nat):Int))/\(2:Nat)<4/\(bU<=3/\(3:Int)<(↑(4:Nat):Int))/\(3:Nat)<4/\(eG/\fO)/\(v.rb=true->aB [aW,V.agg [wI (11),wI (v.ri:Int)]]=A.aL [aW,V.agg [wI cX.fst,wI cX.snd]]/\cS)/\(v.rb=false->((eG/\fO)/\v.rb=false)/\(kW/\eu)/\(v.sb=true->aB [aW,V.agg [wI (11),wI (v.si:Int)]]=A.aL [aW,V.agg [wI cX.fst,wI cX.snd]]/\cS)/\(v.sb=false->((kW/\eu)/\v.sb=false)/\cA+3<=3/\(v.L=v.L/\q9)/\(v.ab=true->aB [aW,V.agg [wI (11),wI (v.i2:Int)]]=A.aL [aW,V.agg [wI cX.fst,wI cX.snd]]/\cS)/\(v.ab=false->cA+3<=3/\((v.L=v.L/\q9)/\v.ab=false)/\(bU<=0/\bU<(↑(3:Nat):Int))/\cA<3/\(bU<=1/\(1:Int)<(↑(3:Nat):Int))/\(1:Nat)<3/\(bU<=2/\(2:Int)<(↑(3:Nat):Int))/\(2:Nat)<3/\(iB/\bG)/\(v.tb=true->aB [aW,V.agg [wI (11),wI (v.ti:Int)]]=A.aL [aW,V.agg [wI cX.fst,wI cX.snd]]/\cS)/\(v.tb=false->((iB/\bG)/\v.tb=false)/\cA+1<=1/\(v.L=v.L/\bM)/\(v.cb=true->aB [aW,V.agg [wI (11),wI gM]]=A.aL [aW,V.agg [wI cX.fst,wI cX.snd]]/\cS)/\(v.cb=false->cA+1<=1/\((v.L=v.L/\bM)/\v.cb=false)/\(bU<=0/\bU<(↑(1:Nat):Int))/\cA<1/\(q7=false->q7=false)/\(q7=false->q7=false)/\((bif q7 then true else !fA)=true->aB [aW,V.agg [wI (11),wI (gM+1)]]=A.aL [aW,V.agg [wI cX.fst,wI cX.snd]]/\cS)/\((bif q7 then true else !fA)=false->(bU<=gM/\gM<(v.L.length:Int))/\v.i4<v.L.length/\(bU<=0/\bU<=q0 q4/\q0 q4<=(v.s.size:Int))/\fu.size<=1000000/\((!decide ([v.gi].getD cA bU=jm fu))=true->aB [aW,V.agg [wI (14),wI gM]]=A.aL [aW,V.agg [wI cX.fst,wI cX.snd]]/\cS)/\((!decide ([v.gi].getD cA bU=jm fu))=false->False)))))))))) (by kernel_rfl)
 try simp only [sL]
 have K:=H.stands
 have hl:=K.len
 have hn:IntKind.i64.wrap (((v.L++[v.tl]).length:Int)-1)=v.L.length:=by
  rw [List.length_append,List.length_singleton]
  exact (wrap64 (by omega) (by omega)).trans (by omega)
 have ht:List.take v.L.length (v.L++[v.tl])=v.L:=List.take_left' rfl
 have hla:(v.L++[v.tl]).length=v.L.length+1:=by simp
 have hgd:(v.L++[v.tl]).getD v.L.length ⟨#[]⟩=v.tl:=by
  rw [List.getD_eq_getElem?_getD,List.getElem?_append_right (Nat.le_refl _),Nat.sub_self];rfl
 have out:∀ {a b:Int},j3 v=(a,b)->aB [V.c W.bY,V.agg [W.int .i64 a,W.int .i64 b]]=A.aL [.c .bY,.agg [.int .i64 (j3 v).1,.int .i64 (j3 v).2]]:=fun h=>by rw [h];rfl
 rw [hn,Int.toNat_natCast,ht,hla,hgd]
 refine ⟨by omega,by omega,by omega,fun h=>by omega,fun h=>by omega,fun h=>out ?_,fun h=>⟨⟨rfl,rfl,by omega,rfl⟩,fun hb=>out ?_,fun hb=>?_⟩⟩
 . unfold j3
   exact if_pos (h.imp (fun h=>by omega) id)
 . unfold j3
   rw [if_neg (by rintro (h9 | h9); · omega
                  . exact h9 h.2),if_pos hb]
 have c0:¬ (v.L.length=0∨¬ v.L.getD 0 ru=kH):=by
  rintro (h9 | h9)
  . omega
  . exact h9 h.2
 have z0:v.L.length≠0:=fun h9=>c0 (.inl h9)
 have nb:∀ {b:Bool},b=false->¬ b=true:=fun h=>by rw [h];decide
 have l2:=(K.lc hb).resolve_right z0
 refine ⟨⟨⟨rfl,rfl,by omega,rfl⟩,hb⟩,by decide,by decide,by decide,by decide,by decide,by decide,by decide,by decide,⟨rfl,l2,rfl⟩,fun rb=>out ?_,fun rb=>?_⟩
 . unfold j3
   rw [if_neg c0,if_neg (nb hb),if_pos rb]
 have l1:=K.l1 hb z0 rb
 refine ⟨⟨⟨rfl,l2,rfl⟩,rb⟩,⟨rfl,l1,rfl⟩,fun sb=>out ?_,fun sb=>?_⟩
 . unfold j3
   rw [if_neg c0,if_neg (nb hb),if_neg (nb rb),if_pos sb]
 have l3:=K.l2 hb z0 rb sb
 refine ⟨⟨⟨rfl,l1,rfl⟩,sb⟩,⟨l3,rfl⟩,fun ab=>out ?_,fun ab=>?_⟩
 . unfold j3
   rw [if_neg c0,if_neg (nb hb),if_neg (nb rb),if_neg (nb sb),if_pos ab]
 have l4:=K.l3 hb z0 rb sb ab
 have hg:=K.gr hb
 refine ⟨⟨⟨l3,rfl⟩,ab⟩,by decide,by decide,by decide,by decide,by decide,by decide,⟨rfl,l4,rfl,hg⟩,fun tb=>out ?_,fun tb=>?_⟩
 . unfold j3
   rw [if_neg c0,if_neg (nb hb),if_neg (nb rb),if_neg (nb sb),if_neg (nb ab),if_pos tb]
 have l5:=K.l4 hb z0 rb sb ab tb
 refine ⟨⟨⟨rfl,l4,rfl,hg⟩,tb⟩,⟨l5,rfl⟩,fun cb=>out ?_,fun cb=>?_⟩
 . unfold j3
   rw [if_neg c0,if_neg (nb hb),if_neg (nb rb),if_neg (nb sb),if_neg (nb ab),if_neg (nb tb),if_pos cb]
 have l6:=K.l5 hb z0 rb sb ab tb cb
 have base:j3 v=if v.i4+1<v.L.length∨¬ v.tl=ru then (11,(v.i4+1:Int)) else (14,(v.i4:Int)):=by
  unfold j3
  rw [if_neg c0,if_neg (nb hb),if_neg (nb rb),if_neg (nb sb),if_neg (nb ab),if_neg (nb tb),if_neg (nb cb)]
 refine ⟨⟨⟨l5,rfl⟩,cb⟩,by decide,by decide,fun h=>?_,fun h=>?_⟩
 . exact out (base.trans (if_pos (h.imp (fun h=>by omega) id)))
 . have l7:v.i4<v.L.length:=by omega
   have hcs:=aa2 H.spl l7
   have hw:IntKind.i64.wrap (IntKind.i64.wrap ((v.s.size:Int)-(v.L.getD v.i4 ⟨#[]⟩).size)-1)=(v.s.size:Int)-(v.L.getD v.i4 ⟨#[]⟩).size-1:=by
    rw [wrap64 (n:=(v.s.size:Int)-_) (by omega) (by omega),wrap64 (by omega) (by omega)]
   rw [hw]
   have hn2:((v.s.size:Int)-(v.L.getD v.i4 ⟨#[]⟩).size-1).toNat=v.s.size-(v.L.getD v.i4 ⟨#[]⟩).size-1:=by omega
   rw [hn2]
   refine ⟨by omega,l7,by omega,by rw [ByteArray.size_extract];omega,fun _=>out (base.trans (if_neg ?_)),fun hc=>H.no ?_⟩
   . rintro (h9 | h9)
     . omega
     . exact h9 h.2
   . have h2:=H.sum
     rw [cb] at h2
     have h3:=H.spl
     rw [show v.tl=ru from h.2] at h3
     exact cks_of h3 (by omega) h2 hc.symm
theorem fld4 (L:List ByteArray) (a:Int) (x y z w:ByteArray):∃ (b:Bool) (h:Hd),dW L a [x,y,z,w]=bif b then none else some [h.g,h.aJ,h.aQ,h.aI]:=by
 cases e:dW L a [x,y,z,w] with
 | none=>exact ⟨true,⟨0,0,0,0⟩,rfl⟩
 | some l =>
   have:=(lM e).2.1
   match l,this with
   | [a,b,c,d],_=>exact ⟨false,⟨a,b,c,d⟩,rfl⟩
theorem fld3 (L:List ByteArray) (a:Int) (x y z:ByteArray):∃ (b:Bool) (p:Pl),dW L a [x,y,z]=bif b then none else some [p.ph,p.co,p.ix]:=by
 cases e:dW L a [x,y,z] with
 | none=>exact ⟨true,⟨0,0,0⟩,rfl⟩
 | some l =>
   have:=(lM e).2.1
   match l,this with
   | [a,b,c],_=>exact ⟨false,⟨a,b,c⟩,rfl⟩
theorem fld1 (L:List ByteArray) (a:Int) (x:ByteArray):∃ (b:Bool) (c:Int),dW L a [x]=bif b then none else some [c]:=by
 cases e:dW L a [x] with
 | none=>exact ⟨true,0,rfl⟩
 | some l =>
   have:=(lM e).2.1
   match l,this with
   | [a],_=>exact ⟨false,a,rfl⟩
theorem Od (g:Int) (tag:ByteArray) (i:Nat) (ls:List ByteArray):∃ (b:Bool) (e n:Nat) (W:List (List Int)),jZ b e n W g tag i [] ls:=by
 unfold jZ
 cases rL g tag ([]:List (List Int)).length ls with
 | none=>exact ⟨true,_,0,[],rfl,rfl⟩
 | some ws=>exact ⟨false,0,_,_,rfl,rfl,rfl⟩
theorem aa4 (g:Int) (i:Nat) (ls:List ByteArray):∃ (b:Bool) (e n:Nat) (lv:Int) (RW:List (List Int)) (PR:List Int),mR b e n lv RW PR g i 0 [] [] ls:=by
 unfold mR
 cases rM g ls with
 | none=>exact ⟨true,_,0,0,[],[],rfl,rfl⟩
 | some ws=>exact ⟨false,0,_,_,_,_,rfl,rfl,rfl,rfl,rfl⟩
theorem lx_ex {s:ByteArray} (hz:s.size<=890000) (hn:¬ x5 s):∃ v:lQ,v.s=s/\nL v:=by
 have h0:bI 10 s≠[]:=by unfold bI;intro h;exact zB _ _ (List.map_eq_nil_iff.1 h)
 rcases List.eq_nil_or_concat (bI 10 s) with h | ⟨L,tl,h⟩
 . exact absurd h h0
 rw [List.concat_eq_append] at h
 obtain ⟨hb,hd,e1⟩:=fld4 L 1 Ef Lq Eg Eh
 obtain ⟨rb,ri,i1,R,e2⟩:=Od hd.g ef 2 (L.drop 2)
 obtain ⟨sb,si,i2,S,e3⟩:=Od hd.g ep i1 (L.drop i1)
 obtain ⟨ab,p,e4⟩:=fld3 L i2 mM ru ru
 obtain ⟨tb,ti,i4,lv,RW,PR,e5⟩:=aa4 hd.g (i2+1) (L.drop (i2+1))
 obtain ⟨cb,gi,e6⟩:=fld1 L i4 jn
 exact ⟨⟨s,L,tl,hb,hd,rb,ri,R,i1,sb,si,S,i2,ab,p,tb,ti,lv,RW,PR,i4,cb,gi⟩,rfl,⟨hz,h,e1,e2,e3,e4,e5,e6,hn⟩⟩
noncomputable def uc (s:ByteArray):Int×Int:=open Classical in if h:∃ v:lQ,v.s=s/\nL v then j3 (Classical.choose h) else (11,0)
theorem En (s:ByteArray):(uc s).1≠0:=by
 unfold uc
 split
 . exact aa3 _
 . show (11:Int)≠0;omega
noncomputable def U1:bP:=j9 .str fun s=>(.p ((show ByteArray from s).size<=890000/\¬ x5 s),.aL [.c .bY,.agg [.int .i64 (uc s).1,.int .i64 (uc s).2]],[])
theorem U2:aV Tryz.prog 11 U1:=gA (by kernel_rfl) fun s h=>by
 have hx:=lx_ex h.1 h.2
 have e:uc s=j3 (Classical.choose hx):=by unfold uc;rw [dif_pos hx]
 obtain ⟨h1,h2⟩:=Classical.choose_spec hx
 rw [e]
 have:=U0 _ h2
 rw [h1] at this
 exact this
structure Cs (X:Rn):Prop where
 txt:Lw X
 sv:Sv X
theorem cs_rn0 {g aJ:Int} {aN sub:List (List Int)} (B:Begins g aJ aN sub) (hl:1<=aJ/\aJ<=1000) (hg:1<=g/\g<=3) (hr:rA g aN) (hs:rA g sub):Cs (gW g aJ aN sub):=by
 have G:=B.good
 have m0:=LW g aJ aN sub
 have l0:(gW g aJ aN sub).ah.length=1:=rfl
 have e:(gW g aJ aN sub).aJ=aJ:=rfl
 constructor
 . exact Vi G.dz m0 (by omega) (by omega) hg hr hs (by rw [e];omega) ⟨Int.le_refl _,by show (0:Int)<=2;omega⟩ ⟨⟨Int.le_refl _,by show (0:Int)<=3;omega⟩,⟨Int.le_refl _,by show (0:Int)<=(1:Nat);omega⟩,⟨Int.le_refl _,by show (0:Int)<=1000;omega⟩⟩
 . exact ZA G.dz m0 (by omega) (by omega) hg hr hs (by rw [e];omega) ⟨Int.le_refl _,by show (0:Int)<=2;omega⟩ ⟨⟨Int.le_refl _,by show (0:Int)<=3;omega⟩,⟨Int.le_refl _,by show (0:Int)<=(1:Nat);omega⟩,⟨Int.le_refl _,by show (0:Int)<=1000;omega⟩⟩
theorem abk {g aJ:Int} {aN sub:List (List Int)} (B:Begins g aJ aN sub) (hl:1<=aJ/\aJ<=1000) (hg:1<=g/\g<=3) (hr:rA g aN) (hs:rA g sub) {N:Int} (hN:1<=N):Cs (cM (gW g aJ aN sub) N).1:=by
 have G:=B.good
 have X:=LR G (LW g aJ aN sub) rfl hN
 have x1:=X.len
 have x2:=X.pS
 have x3:=X.aJ
 have l0:(gW g aJ aN sub).ah.length=1:=rfl
 have hll:(gW g aJ aN sub).aJ=aJ:=rfl
 obtain ⟨e1,e2,e3,e4⟩:=X.same
 have e1:(cM (gW g aJ aN sub) N).1.g=g:=e1
 have e2:(cM (gW g aJ aN sub) N).1.aN=aN:=e2
 have e3:(cM (gW g aJ aN sub) N).1.sub=sub:=e3
 have e4:(cM (gW g aJ aN sub) N).1.aJ=aJ:=e4
 have xp:0<(cM (gW g aJ aN sub) N).1.ah.length:=by omega
 constructor
 . exact Vi X.dz X.mo xp (by omega) (by rw [e1];exact hg) (by rw [e1,e2];exact hr) (by rw [e1,e3];exact hs) (by rw [e4];omega) X.aI X.pos
 . exact ZA X.dz X.mo xp (by omega) (by rw [e1];exact hg) (by rw [e1,e2];exact hr) (by rw [e1,e3];exact hs) (by rw [e4];omega) X.aI X.pos
theorem Vj (x n:Int) (h1:1<=n) (h2:n<=1000000):bw Tryz.prog 8 [nI x,nI n] [] (nI (bC x n)) []:=by
 refine bV (aq:=[]) aC Tryz.func8 (by kernel_rfl) (ay:=0) rfl (by kernel_rfl) 100 ?_
 apply of_eq (q:=n≠(0:Int)/\n≠(0:Int)/\aB [vI ((IntKind.i64.wrap (x.tmod n+n)).tmod n)]=nI (bC x n)/\([]:List Ob)=[]) (by kernel_rfl)
 try simp only [sL]
 have h3:=Int.lt_tmod_of_pos x (show 0<n by omega)
 have h4:=Int.tmod_lt_of_pos x (show 0<n by omega)
 rw [wrap64 (n:=x.tmod n+n) (by omega) (by omega)]
 exact ⟨by omega,by omega,rfl⟩
def Vk:bP:=jU (.int .i64) (.int .i64) fun x n=>(.p (1<=(show Int from n)/\(show Int from n)<=1000000),nI (bC x n),[])
theorem Vl:aV Tryz.prog 8 Vk:=fT (by kernel_rfl) fun x n h=>Vj x n h.1 h.2
theorem Ov (n:Int):IntKind.u8.wrap n=n % 256:=by simp [IntKind.wrap,IntKind.bits,IntKind.signed]
def Ow (c t:Int):Int:=IntKind.u8.wrap (c+IntKind.u8.wrap (IntKind.i64.wrap (1+t)))
theorem byV_ok {c t:Int} (hc:0<=c/\c<256) (ht:0<=t/\t<255):(0<=Ow c t/\Ow c t<256)/\c≠Ow c t:=by
 unfold Ow
 rw [wrap64 (n:=1+t) (by omega) (by omega),Ov,Ov]
 omega
theorem tg (X:Rn):t6 (dA X):=by rw [Fo];exact UU _ (G9 X)
theorem zW {X:Rn} (S:Sv X):(bg (dA X)).size=(dA X).length/\0<(dA X).length/\(dA X).length<=890000:=by
 have hcs:=xJ jn [sumOf X] (fun x hx=>by simp at hx;subst hx;exact wrap_i64 _)
 have z:jn.size=3:=rfl
 simp only [List.length_cons,List.length_nil] at hcs
 have hbl:=Lx S
 have hl:(dA X).length=(pJ X).length+((j4 jn [sumOf X]).length+1):=by rw [N8,List.length_append,List.length_append,List.length_singleton]
 exact ⟨kI _,by omega,by omega⟩
theorem by_one {X:Rn} (S:Sv X) {a:Nat} (ha:a<(dA X).length) {t:Int} (ht:0<=t/\t<255):(bg (List.take (bg (dA X)).size ((af (bg (dA X))).set a (Ow ((af (bg (dA X))).getD a 0) t)))).size<=890000/\¬ x5 (bg (List.take (bg (dA X)).size ((af (bg (dA X))).set a (Ow ((af (bg (dA X))).getD a 0) t)))):=by
 obtain ⟨z1,z2,z3⟩:=zW S
 rw [fU (tg X),z1]
 have hc:0<=(dA X).getD a 0/\(dA X).getD a 0<256:=by
  rw [List.getD_eq_getElem?_getD,List.getElem?_eq_getElem ha]
  exact tg X _ (List.getElem_mem ha)
 obtain ⟨v1,v2⟩:=byV_ok hc ht
 rw [List.take_of_length_le (by rw [List.length_set];exact Nat.le_refl _)]
 refine ⟨by rw [kI,List.length_set];exact z3,no_one ha v1 v2 (fU fun x hx=>?_)⟩
 rcases List.mem_or_eq_of_mem_set hx with h | h
 . exact tg X x h
 . rw [h];exact v1
theorem by_cut {X:Rn} (C:Cs X) {a:Nat} (ha:a<(dA X).length):((bg (dA X)).extract 0 a).size<=890000/\¬ x5 ((bg (dA X)).extract 0 a):=by
 obtain ⟨z1,z2,z3⟩:=zW C.sv
 refine ⟨by rw [ByteArray.size_extract];omega,no_cut C.txt ha ?_⟩
 rw [<-tW,List.drop_zero,Nat.sub_zero,fU (tg X),fU fun x hx=>tg X x (List.mem_of_mem_take hx)]
noncomputable def gBy:bS:=[(4,Ou),(5,Ol),(7,Ft),(8,Vk),(6,cNew),(9,DH),(10,Qd),(11,U1)]
theorem gBy_ok:bt Tryz.prog gBy:=ar Q8 (ar QT (ar Es (ar Vl (ar aaF (ar Cl (ar Kz (ar U2 aC)))))))
theorem Vm (which n at_ ZE:Int) (l k:List Int):bw Tryz.prog 3 [nI which,nI n,nI at_,nI ZE,bF l,bF k] [] (bB true) []:=by
 refine bV (aq:=[]) gBy_ok Tryz.func3 (by kernel_rfl) (ay:=0) rfl (by kernel_rfl) 400 ?_
 apply of_eq (q:=let cA:=decide ((60:Int)<(l.length:Int));let fw:=(!false)=true;let eG:=(0:Nat);let iB:=(jr which l);let fO:=(0:Int);let kW:=([]:List Ob)=[];let jY:=(!decide (fO=0))=false;let Oq:=(IntKind.i64.wrap ((1:Int)+bC ZE (255:Int)));let q1:=(gW iB.fst (100:Int) iB.snd (lR k iB.fst));let q8:=(A.p (V.agg (List.take (2:Nat) (List.drop eG (Ob.mk 26 (fI iB.fst::fL iB.snd::List.append._f [] PUnit.unit [])).cells))));let eB:=(cM q1 (bC n (40:Int)));let eu:=(bg (dA q1));let Ez:=(1:Nat)=1/\((2:Int)*q1.g).toNat=((2:Int)*q1.g).toNat;let q4:=(bg (dA eB.fst));let q5:=(↑eu.size:Int);let bG:=(↑q4.size:Int);let bM:=eG+(bC at_ q5).toNat<(af eu).length;let gM:=(bC at_ bG);let ju:=(eG+(bC at_ q5).toNat);let x6:=(eu.extract eG (bC at_ q5).toNat);let Ey:=aP (W.int .u8 ((af q4).getD (eG+gM.toNat) fO));let q7:=(R1.pure (Cd.t.and (Cd.p (bM))) (aP (W.int .u8 ((af eu).getD ju fO)))).v=(R1.pure (Cd.t.and (Cd.p (bM))) (aP (W.int .u8 ((af eu).getD ju fO)))).v;let cS:=eG+gM.toNat<(af q4).length;let bU:=((af eu).set ju (IntKind.u8.wrap ((af eu).getD ju fO+IntKind.u8.wrap Oq)));let fA:=((af q4).set (eG+gM.toNat) (IntKind.u8.wrap ((af q4).getD (eG+gM.toNat) fO+IntKind.u8.wrap Oq)));let q2:=(bg (List.take q4.size (List.drop eG fA)));let q3:=(bg (List.take eu.size (List.drop eG bU)));let q6:=(R1.pure (Cd.t.and (Cd.p (cS))) (Ey)).v=(R1.pure (Cd.t.and (Cd.p (cS))) (Ey)).v;let q9:=(bif bif !false then !decide ((uc q2).fst=0) else false then !false else false)=true;let aW:=(bif bif !false then !decide ((uc q3).fst=0) else false then !false else false)=true;let fu:=(bif !false then !decide ((uc q2).fst=0) else false)=true;let cX:=(bif !false then !decide ((uc q3).fst=0) else false)=true;(cA=false->cA=false)/\(cA=false->cA=false)/\(cA=false->cA=false)/\((bif cA then true else decide ((30:Int)<(k.length:Int)))=true->aB [vB true]=bB true/\kW)/\((bif cA then true else decide ((30:Int)<(k.length:Int)))=false->l.length<=1000/\(((1:Int)<=iB.fst/\iB.fst<=16)/\k.length<=1000)/\Begins iB.fst (100:Int) iB.snd (lR k iB.fst)/\(R1.pure Cd.t q8).v=(R1.pure Cd.t q8).v/\(R1.pure Cd.t q8).v=(R1.pure Cd.t q8).v/\(jY->jY)/\(jY->jY)/\((bif !decide (fO=0) then true else false)=true->aB [vB false]=bB true/\kW)/\((bif !decide (fO=0) then true else false)=false->((1:Int)<=40/\(40:Int)<=1000000)/\(decide (fO<bC n (40:Int))=true->(((1:Nat)=1/\Ez)/\eG<1/\bC n (40:Int)<=1000000/\((1:Int)<=bC n (40:Int)->q1.aI=0->gD q1))/\((eB.fst.ah.length=eB.fst.ah.length/\eB.fst.aj.length=eB.fst.aj.length/\((2:Int)*eB.fst.g).toNat=((2:Int)*eB.fst.g).toNat)/\Sv eB.fst)/\(decide (bG=0)=true->aB [vB false]=bB true/\kW)/\(decide (bG=0)=false->((1:Int)<=bG/\bG<=1000000)/\eG<q4.size/\(fO<=bC at_ bG/\bC at_ bG<bG)/\cS/\((1:Int)<=255/\(255:Int)<=1000000)/\(fO<=bC at_ bG/\bC at_ bG<bG)/\cS/\cS/\q6/\cS/\q6/\cS/\q6/\eG+q4.size<=fA.length/\(q2.size<=890000/\¬x5 q2)/\(fO<=0/\fO<=bC at_ bG/\bC at_ bG<=bG)/\((q4.extract eG gM.toNat).size<=890000/\¬x5 (q4.extract eG gM.toNat))/\(fw->fw)/\(fw->fw)/\(fw->fw)/\(fu->fu)/\(fu->fu)/\(q9->q9)/\(q9->q9)/\(q9->q9)/\aB [vB (bif bif bif !false then !decide ((uc q2).fst=0) else false then !false else false then !decide ((uc (q4.extract eG gM.toNat)).fst=0) else false)]=bB true/\kW))/\(decide (fO<bC n (40:Int))=false->(((1:Nat)=1/\Ez)/\Sv q1)/\(decide (q5=0)=true->aB [vB false]=bB true/\kW)/\(decide (q5=0)=false->((1:Int)<=q5/\q5<=1000000)/\eG<eu.size/\(fO<=bC at_ q5/\bC at_ q5<q5)/\bM/\((1:Int)<=255/\(255:Int)<=1000000)/\(fO<=bC at_ q5/\bC at_ q5<q5)/\bM/\bM/\q7/\bM/\q7/\bM/\q7/\eG+eu.size<=bU.length/\(q3.size<=890000/\¬x5 q3)/\(fO<=0/\fO<=bC at_ q5/\bC at_ q5<=q5)/\(x6.size<=890000/\¬x5 x6)/\(fw->fw)/\(fw->fw)/\(fw->fw)/\(cX->cX)/\(cX->cX)/\(aW->aW)/\(aW->aW)/\(aW->aW)/\aB [vB (bif bif bif !false then !decide ((uc q3).fst=0) else false then !false else false then !decide ((uc x6).fst=0) else false)]=bB true/\kW))))) (by kernel_rfl)
 try simp only [sL]
 have tn:=jF n 40 (by omega)
 obtain ⟨hg,hr⟩:=QX which l
 have hs:=Et hg.1 k
 have B:=Q0 100 (by omega) hg hr hs
 have K0:=cs_rn0 B (by omega) hg hr hs
 have K1:=fun h:0<bC n 40=>abk B (by omega) hg hr hs (N:=bC n 40) (by omega)
 have G:=B.good
 have tb:=jF ZE 255 (by omega)
 generalize bC n 40=N at *
 generalize bC ZE 255=T at *
 generalize jr which l=gg at *
 generalize lR k gg.1=ww at *
 generalize gW gg.1 100 gg.2 ww=r0 at *
 have main:∀ X:Rn,Cs X->Sv X/\0<(bg (dA X)).size/\(bg (dA X)).size<=890000/\(af (bg (dA X))).length=(bg (dA X)).size/\(0<=bC at_ (bg (dA X)).size/\bC at_ (bg (dA X)).size<(bg (dA X)).size)/\_/\_:=fun X C=>by
  obtain ⟨z1,z2,z3⟩:=zW C.sv
  have ta:=jF at_ (bg (dA X)).size (by omega)
  exact ⟨C.sv,by omega,by omega,bq _,ta,by_one C.sv (a:=(bC at_ (bg (dA X)).size).toNat) (t:=T) (by omega) tb,by_cut C (a:=(bC at_ (bg (dA X)).size).toNat) (by omega)⟩
 refine ⟨fun _=>rfl,fun hlk=>⟨by omega,⟨by omega,by omega⟩,B,fun h=>absurd trivial h,fun _=>⟨by omega,fun hN=>?_,fun hN=>?_⟩⟩⟩
 . obtain ⟨m1,m2,m3,m4,m5,m6,m7⟩:=main _ (K1 hN)
   refine ⟨⟨by omega,by omega,fun _ _=>G⟩,m1,fun h=>absurd h (by omega),fun _=>⟨by omega,m2,m5,by omega,by omega,m5,by omega,by omega,by omega,by omega,by rw [List.length_set];omega,m6,⟨m5.1,by omega⟩,m7,?_⟩⟩
   rw [decide_eq_false (En _),decide_eq_false (En _)]
   rfl
 . obtain ⟨m1,m2,m3,m4,m5,m6,m7⟩:=main _ K0
   refine ⟨m1,fun h=>absurd h (by omega),fun _=>⟨by omega,m2,m5,by omega,by omega,m5,by omega,by omega,by omega,by omega,by rw [List.length_set];omega,m6,⟨m5.1,by omega⟩,m7,?_⟩⟩
   rw [decide_eq_false (En _),decide_eq_false (En _)]
   rfl
theorem Vn:Av (fun args=>bw Tryz.prog 3 args [] (dat .bool true) []) [.int .i64,.int .i64,.int .i64,.int .i64,.sl (.int .i64),.sl (.int .i64)] [] :=
 fun w _ n _ a _ b _ l _ k _=>Vm w n a b l k
end Go.Proofs.YtmajgbnpplgaoaaGreatDoor
namespace Go.Proofs.YtmajgbnpplgaoaaGreatDoor
open Go.ChangeShapes Go.WideShapes Go.ChangeAt Go.RowKit Go.au
set_option maxRecDepth 1000000
theorem own:ownKnob Tryz.prog.godebug=none:=by kernel_rfl
def LX:DataW Unit->List Value
 | .lit (.int k n)=>[.int k n]
 | _=>[]
def cells1:DataW Unit->List Value
 | .agg l=>l.flatMap LX
 | d=>LX d
def cellsD:DataW Unit->List Value
 | .agg l=>l.flatMap cells1
 | d=>LX d
def textD:DataW Unit->ByteArray
 | .iface _ (.ptr (.agg [.lit (.string l)]))=>⟨l.toArray⟩
 | _=>⟨#[]⟩
def ZF:DataW Unit->Bool
 | .iface _ _=>true
 | _=>false
noncomputable def low:Nat:=(World.holding Tryz.prog default ⟨#[],#[],[]⟩).heap.size
noncomputable def LY (w:World) (P:Program) (n:Nat):List (String×DataW Unit)->World
 | []=>w
 | (name,d)::l=>match P.globalNamed name with
   | some g=>bif ZF d
    then LY { w with heap:=w.heap.modify g fun | .cells _ t frozen=>.cells #[.iface 196 (.pointer (some ⟨low+n,0,none⟩))] t frozen | o=>o } P (n+1) l
    else LY { w with heap:=w.heap.modify g fun | .cells _ t frozen=>.cells (cellsD d).toArray t frozen | o=>o } P n l
   | none=>w
def errs (l:List (String×DataW Unit)):List Obj:=(l.filter fun x=>ZF x.2).map fun x=>.cells #[.string (textD x.2)] 198
noncomputable def ug (os:Os) (l:List (String×DataW Unit)):World:=LY (World.holding Tryz.prog os ⟨(errs l).toArray,#[],[]⟩) Tryz.prog 0 l
theorem Vo (os:Os) (args:Array Value):laidMet Tryz.prog Rows.resumeBytesRow.laid ((ug os Rows.resumeBytesRow.laid).forCall (fun _ _=>0) ⟨#[],args,[]⟩).memory :=
 laidMet_of_run' 8 (by kernel_rfl) (by kernel_rfl)
theorem xP {P:Program} {x:String×DataW Unit} {r:List (String×DataW Unit)} {W:World} (h:laidMet P (x::r) W):laidMet P r W:=by
 obtain ⟨ps,hv,hnd,hall⟩:=h
 obtain ⟨n,d⟩:=x
 obtain ⟨g,t,cs,fuel,p,q,_,_,_,_,h5,rfl⟩:=hv
 exact ⟨q,h5,(List.nodup_append.1 hnd).2.1,fun b off hm=>hall b off (by simp [hm])⟩
theorem Cy {P:Program} {W:World} {name:String} {k:IntKind} {zs:List Int} (h:Lib.TabIs P W name k zs) {g:Nat} (hg:P.globalNamed name=some g):ax.lG W g=some (zs.map (Value.int k)).toArray:=by
 unfold Lib.TabIs World.var? at h
 rw [hg] at h
 simp only [Option.bind_some] at h
 unfold ax.lG
 split at h
 . rename_i c t fz e
   rw [e]
   simp only [Option.some.injEq] at h ⊢
   exact h
 . cases h
theorem knows {W:World} (h:laidMet Tryz.prog Rows.resumeBytesRow.laid W):ax.gT Tryz.prog (ax.lG W):=by
 have t32:Lib.TabIs Tryz.prog W "math/bits.deBruijn32tab" .u8 ax.YK:=Lib.tabIs_of_head (g:=6) (t:=192) (e:=5) (n:=32) (by kernel_rfl) (by kernel_rfl) Tryz.underlying192 Tryz.underlying5 (by kernel_rfl) (by kernel_rfl) h
 have t64:Lib.TabIs Tryz.prog W "math/bits.deBruijn64tab" .u8 ax.YJ:=Lib.tabIs_of_head (g:=7) (t:=193) (e:=5) (n:=64) (by kernel_rfl) (by kernel_rfl) Tryz.underlying193 Tryz.underlying5 (by kernel_rfl) (by kernel_rfl) (xP h)
 have t10:Lib.TabIs Tryz.prog W "internal/strconv.uint64pow10" .u64 ax.O6:=Lib.tabIs_of_head (g:=0) (t:=158) (e:=111) (n:=20) (by kernel_rfl) (by kernel_rfl) Tryz.underlying158 Tryz.underlying111 (by kernel_rfl) (by kernel_rfl) (xP (xP h))
 intro x hx g hg
 simp only [ax.O7,List.mem_cons,List.not_mem_nil,or_false] at hx
 rcases hx with rfl | rfl | rfl
 . exact Cy t32 hg
 . exact Cy t64 hg
 . exact Cy t10 hg
end Go.Proofs.YtmajgbnpplgaoaaGreatDoor
namespace Go.Proofs.YtmajgbnpplgaoaaGreatDoor
open Go.ChangeShapes Go.WideShapes Go.ChangeAt Go.RowKit Go.ChangeMaps
set_option maxRecDepth 1000000
namespace resumeBytes
theorem Yv (os:Os) (args:Array Value):laidMet Tryz.prog Rows.resumeBytesRow.laid ((ug os Rows.resumeBytesRow.laid).forCall (fun _ _=>0) ⟨#[],args,[]⟩).memory :=
 Vo os args
theorem contract (H:Type) (enc:TypeId×Value->H) (W:World) (base:Nat) (args:Array Value) (ds gs:List (DataW H)) (before:List MemPlace)
 (hval:∀ (j:Nat) t v,Tryz.f3.params[j]? = some t->args[j]? = some v->Value.okWide Tryz.prog W .any base t v)
 (hW:DataW.Whole enc Tryz.prog Tryz.f3.params.toList Rows.resumeBytesSpec.vars false W args.toList ds gs before) (hK:ax.gT Tryz.prog (ax.lG W)) :
 Calls Tryz.prog 3 args W fun e W'=>∃ v,e=.returned v/\Rows.resumeBytesSpec.post enc Tryz.prog Tryz.f3 false true false false W args v W' :=
 ax.JM (kinds:=[.int .i64,.int .i64,.int .i64,.int .i64,.sl (.int .i64),.sl (.int .i64)]) (by kernel_rfl) (by kernel_rfl) Vn (by kernel_rfl) Tryz.underlying4 rfl (fun ds h=>by
  match ds,h with
  | [_,_,_,_,_,_],_=>exact ⟨rfl,rfl,rfl⟩) hval hW hK
theorem reads (os:Os) {H:Type} (enc:TypeId×Value->H):∃ places,DataW.whole enc Tryz.prog ((ug os Rows.resumeBytesRow.laid).forCall (fun _ _=>0) ⟨#[],#[.int .i64 0,.int .i64 0,.int .i64 0,.int .i64 0,.slice none 0 0,.slice none 0 0],[]⟩).memory Tryz.f3.params.toList Rows.resumeBytesSpec.vars false (#[.int .i64 0,.int .i64 0,.int .i64 0,.int .i64 0,.slice none 0 0,.slice none 0 0]:Array Value).toList 8=some ([.lit (.int .i64 0),.lit (.int .i64 0),.lit (.int .i64 0),.lit (.int .i64 0),.nil,.nil],[],places) :=
 ⟨[],by kernel_rfl⟩
theorem lifted (os:Os) (started:os.Started) (H:Type) (enc:TypeId×Value->H) (F:Stop.Interp) :
 ReturnsInHanded {} Tryz.checked os 3 .any ((OpenSpec.ofChange Rows.resumeBytesSpec).preRow enc Tryz.prog Tryz.f3 Rows.resumeBytesRow.domain false Rows.resumeBytesRow.laid) (((OpenSpec.ofChange Rows.resumeBytesSpec).at F).post enc Tryz.prog Tryz.f3 false true false false):=by
 obtain ⟨places,hx⟩:=reads os enc
 refine returnsInHanded_of_row (C:=Tryz.checked) (s:=OpenSpec.ofChange Rows.resumeBytesSpec) own started (by kernel_rfl) Tryz.func3
  (witness_row_at (enc:=enc) (C:=Tryz.checked) false (ug os Rows.resumeBytesRow.laid) #[.int .i64 0,.int .i64 0,.int .i64 0,.int .i64 0,.slice none 0 0,.slice none 0 0] rfl (by kernel_rfl) (by kernel_rfl) (by kernel_rfl)
   (OpenSpec.preRow_of_cond 8 hx (by kernel_rfl) (fun k hk=>by cases hk) (by kernel_rfl) (Yv os _))) ?_
 intro W base args ds gs before hval hW _ _ _ hL _ _
 exact contract H enc W base args ds gs before hval hW (knows hL)
theorem said:Rows.ResumeBytesSaid :=
 OpenClaim.holds_of_cond 3 Tryz.f3 rfl rfl rfl rfl rfl rfl rfl ⟨rfl,rfl,rfl,rfl,rfl⟩ rfl rfl rfl rfl rfl (by kernel_rfl) Tryz.func3 (by kernel_rfl)
  (of_decide_eq_true (by kernel_rfl)) (by unfold Func.isWrapper;first | (rw [if_pos (by decide +kernel)];kernel_rfl) | (rw [if_neg (by decide +kernel)];exact ⟨rfl,rfl⟩))
  (fun os started H enc _ F=>by rw [OpenClaim.pre_eq_preRow];exact lifted os started H enc F)
theorem plain (f:FuncId) (fn:Func) (hf:Tryz.pinned.checked.prog.funcNamed "cayley/cayleylaw39.ResumeBytes" = some f) (hfn:Tryz.pinned.checked.prog.funcs[f]? = some fn) :
 true=Tryz.pinned.checked.prog.looks []/\∀ (j:Nat) t,fn.params[j]? = some t->Tryz.pinned.checked.prog.wantsStandIn t=false:=by
 obtain rfl:f=3:=Option.some.inj ((show Tryz.prog.funcNamed "cayley/cayleylaw39.ResumeBytes" = some 3 by kernel_rfl).symm.trans hf) |>.symm
 obtain rfl:fn=Tryz.f3:=(Option.some.inj (Tryz.func3.symm.trans hfn)).symm
 refine ⟨by kernel_rfl,fun j t ht=>?_⟩
 rw [Tryz.params3] at ht
 cases j with
 | zero=>simp at ht;subst ht;kernel_rfl
 | succ j =>
   cases j with
   | zero=>simp at ht;subst ht;kernel_rfl
   | succ j =>
     cases j with
     | zero=>simp at ht;subst ht;kernel_rfl
     | succ j =>
       cases j with
       | zero=>simp at ht;subst ht;kernel_rfl
       | succ j =>
         cases j with
         | zero=>simp at ht;subst ht;kernel_rfl
         | succ j =>
           cases j with
           | zero=>simp at ht;subst ht;kernel_rfl
           | succ j =>
             simp at ht
end resumeBytes
theorem resumeBytes_holds:Rows.ResumeBytesCardSaid :=
 Claim7.holds_tied_plain_at .later [] _ _ _ _ resumeBytes.said (fun _ h=>by cases h) (by kernel_rfl) (fun _ h=>by cases h) resumeBytes_row_tie rfl ⟨rfl,rfl⟩ (by kernel_rfl) rfl resumeBytes.plain (by kernel_rfl)
end Go.Proofs.YtmajgbnpplgaoaaGreatDoor
