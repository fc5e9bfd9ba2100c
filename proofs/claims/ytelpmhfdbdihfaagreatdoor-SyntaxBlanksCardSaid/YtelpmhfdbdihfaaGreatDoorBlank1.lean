/- Tokens elsewhere: what is read at a place depends on the bytes there. -/
import Derived.Test.YtelpmhfdbdihfaaGreatDoorText2
namespace Go.Proofs.YtelpmhfdbdihfaaGreatDoor
open Go.aT Go.RowKit
set_option maxRecDepth 100000
structure Ag (s:ByteArray) (a:Nat) (s':ByteArray) (a' n:Nat):Prop where
 le:a+n<=s.size
 le':a'+n<=s'.size
 eq:∀ j,j<n->bn s (a+j)=bn s' (a'+j)
theorem Ac {s:ByteArray} {i:Nat} (h:i<s.size):bn s i=(s[i].toNat:Int):=by
 unfold bn
 have h1:i<s.data.toList.length:=by simpa using h
 rw [List.getD_eq_getElem?_getD,List.getElem?_eq_getElem h1]
 rfl
theorem Ag.ext {s s':ByteArray} {a a' n:Nat} (h:Ag s a s' a' n):s.extract a (a+n)=s'.extract a' (a'+n):=by
 apply ByteArray.ext_getElem
 . rw [ByteArray.size_extract,ByteArray.size_extract]
   have:=h.le
   have:=h.le'
   omega
 . intro i h1 h2
   rw [ByteArray.size_extract] at h1
   have l1:=h.le
   have l2:=h.le'
   rw [ByteArray.getElem_extract,ByteArray.getElem_extract]
   have e:=h.eq i (by omega)
   rw [Ac (by omega),Ac (by omega)] at e
   exact UInt8.toNat_inj.1 (by omega)
theorem s8 {p:Int->Bool} {s s':ByteArray} {a a' n:Nat} (h:Ag s a s' a' n) (hx:a'+n=s'.size∨p (bn s' (a'+n))=false):∀ (j k:Nat),j=n-k->k<=n->aQ p s (a+k)=a+n->aQ p s' (a'+k)=a'+n
 | j, k, hj, hk, hr => by
   by_cases hkn:k=n
   . subst hkn
     exact jY (by rintro ⟨h1,h2⟩;rcases hx with hx | hx;omega;rw [hx] at h2;cases h2)
   . have hp:a+k<s.size/\p (bn s (a+k))=true:=by
      by_cases hp:a+k<s.size/\p (bn s (a+k))=true
      . exact hp
      . rw [jY hp] at hr;omega
     rw [gA hp] at hr
     have e:=h.eq k (by omega)
     have l:=h.le'
     rw [gA ⟨by omega,by rw [<-e];exact hp.2⟩]
     cases j with
     | zero=>omega
     | succ j=>exact s8 h hx j (k+1) (by omega) (by omega) hr
def Tok.mv (t:Tok) (a:Int):Tok:=⟨t.kind,t.text,t.n,a⟩
theorem Fx {s s':ByteArray} {a a' n:Nat} (h:Ag s a s' a' n):∀ (j k:Nat) (x:Int),j=n-k->k<=n->mO s' (a'+n) (a'+k) x=mO s (a+n) (a+k) x
 | j,k,x,hj,hk=>by
   conv=>lhs;rw [mO]
   conv=>rhs;rw [mO]
   by_cases hkn:k<n
   . rw [dif_pos (by omega),dif_pos (by omega),h.eq k hkn]
     split
     . rfl
     . cases j with
       | zero=>omega
       | succ j=>exact Fx h j (k+1) _ (by omega) (by omega)
   . rw [dif_neg (by omega),dif_neg (by omega)]
structure Nx (s:ByteArray) (a:Nat) (s':ByteArray) (a' n:Nat):Prop where
 w:gU (bn s a)=true->a'+n=s'.size∨dB (bn s' (a'+n))=false
 d:cT (bn s a)=true->a'+n=s'.size∨cT (bn s' (a'+n))=false
 s:gU (bn s a)=false->cT (bn s a)=false->n=1->a'+2<=s'.size->fB eW (s'.extract a' (a'+2))=false
theorem JT (s:ByteArray) (a:Nat):l9 s a 2=if a+2<=s.size/\fB eW (s.extract a (a+2))=true then ⟨⟨5,s.extract a (a+2),0,a⟩,(a+2:Nat),0,0⟩ else
 if a+1<=s.size/\fB eW (s.extract a (a+1))=true then ⟨⟨5,s.extract a (a+1),0,a⟩,(a+1:Nat),0,0⟩ else ⟨⟨5,eS,0,a⟩,(a+1:Nat),11,a⟩:=rfl
theorem R3 {s s':ByteArray} {a a' n:Nat} (h:Ag s a s' a' n) (hn:0<n) (hx:Nx s a s' a' n) (he:(bS s a).er=0) (hE:(bS s a).e=(a+n:Nat)) :
 bS s' a'=⟨(bS s a).t.mv a',(a'+n:Nat),0,0⟩:=by
 have e0:=h.eq 0 hn
 rw [Nat.add_zero,Nat.add_zero] at e0
 have lx:=h.ext
 have l1:=h.le
 have l2:=h.le'
 by_cases c1:gU (bn s a)=true
 . have q:bS s a=j9 s a (aQ dB s (a+1)):=by unfold bS;rw [if_pos c1]
   have q':bS s' a'=j9 s' a' (aQ dB s' (a'+1)):=by unfold bS;rw [<-e0,if_pos c1]
   rw [q] at he hE ⊢
   rw [q']
   have hr:aQ dB s (a+1)=a+n:=by
    unfold j9 at hE
    split at hE
    . exact Int.ofNat.inj hE
    . split at hE <;> exact Int.ofNat.inj hE
   have hr':=s8 h (hx.w c1) (n-1) 1 rfl (by omega) hr
   rw [hr] at he ⊢
   rw [hr']
   unfold j9 at he ⊢
   rw [<-lx]
   by_cases g1:fB pG (s.extract a (a+n))=true
   . rw [if_pos g1,if_pos g1];rfl
   . rw [if_neg g1] at he
     by_cases g2:20<(s.extract a (a+n)).size
     . rw [if_pos g2] at he;cases he
     . rw [if_neg g1,if_neg g1,if_neg g2,if_neg g2];rfl
 have c1':gU (bn s a)=false:=by simpa using c1
 by_cases c2:cT (bn s a)=true
 . have q:bS s a=l8 s a (aQ cT s (a+1)):=by unfold bS;rw [if_neg c1,if_pos c2]
   have q':bS s' a'=l8 s' a' (aQ cT s' (a'+1)):=by unfold bS;rw [<-e0,if_neg c1,if_pos c2]
   rw [q] at he hE ⊢
   rw [q']
   have hr:aQ cT s (a+1)=a+n:=by
    unfold l8 at hE
    split at hE
    . exact Int.ofNat.inj hE
    . split at hE <;> exact Int.ofNat.inj hE
   have hr':=s8 h (hx.d c2) (n-1) 1 rfl (by omega) hr
   have hN:=Fx h n 0 0 rfl (by omega)
   rw [Nat.add_zero,Nat.add_zero] at hN
   rw [hr] at he ⊢
   rw [hr']
   unfold l8 at he ⊢
   rw [hN,<-e0]
   by_cases g1:bn s a=48/\a+1<a+n
   . rw [if_pos g1] at he;cases he
   . rw [if_neg g1] at he
     by_cases g2:(mO s (a+n) a 0).2=true
     . rw [if_pos g2] at he;cases he
     . rw [if_neg (fun g=>g1 ⟨g.1,by omega⟩),if_neg g1,if_neg g2,if_neg g2];rfl
 have c2':cT (bn s a)=false:=by simpa using c2
 by_cases c3:bn s a=34
 · have q : bS s a = nA s a (aQ cJ s (a + 1)) := by unfold bS; rw [if_neg c1, if_neg c2, if_pos c3]
   have q':bS s' a'=nA s' a' (aQ cJ s' (a'+1)):=by unfold bS;rw [<-e0,if_neg c1,if_neg c2,if_pos c3]
   rw [q] at he hE ⊢
   rw [q']
   unfold nA at he hE
   by_cases g1:aQ cJ s (a+1)=s.size∨bn s (aQ cJ s (a+1))≠34
   . rw [if_pos g1] at he;cases he
   · rw [if_neg g1] at he hE
     by_cases g2:200<(s.extract (a+1) (aQ cJ s (a+1))).size
     . rw [if_pos g2] at he;cases he
     . rw [if_neg g2] at hE
       have hr:aQ cJ s (a+1)+1=a+n:=Int.ofNat.inj hE
       have hge:=(jB cJ s _ (a+1) rfl).1
       have h2:Ag s a s' a' (n-1):=⟨by omega,by omega,fun j hj=>h.eq j (by omega)⟩
       have e9:=h.eq (n-1) (by omega)
       have hb:bn s (aQ cJ s (a+1))=34:=by
        by_cases g:bn s (aQ cJ s (a+1))=34
        . exact g
        . exact absurd (.inr g) g1
       have hq:aQ cJ s (a+1)=a+(n-1):=by omega
       rw [hq] at hb
       have hr':=s8 h2 (p:=cJ) (.inr (by rw [<-e9,hb];rfl)) (n-1-1) 1 rfl (by omega) hq
       have h3:Ag s (a+1) s' (a'+1) (n-2):=⟨by omega,by omega,fun j hj=>by have:=h.eq (j+1) (by omega);rw [show a+1+j=a+(j+1) by omega,show a'+1+j=a'+(j+1) by omega];exact this⟩
       have lx3:=h3.ext
       rw [show a+1+(n-2)=a+(n-1) by omega,show a'+1+(n-2)=a'+(n-1) by omega] at lx3
       rw [hq] at g2
       unfold nA
       rw [hr',hq,<-lx3]
       rw [if_neg (by rintro (g | g);omega;rw [<-e9] at g;exact g hb),if_neg g2,if_neg (by rintro (g | g);omega;exact g hb),if_neg g2]
       show _=(⟨_,_,0,0⟩:K5)
       rw [show a'+(n-1)+1=a'+n by omega];rfl
 . have q:bS s a=l9 s a 2:=by unfold bS;rw [if_neg c1,if_neg c2,if_neg c3]
   have q':bS s' a'=l9 s' a' 2:=by unfold bS;rw [<-e0,if_neg c1,if_neg c2,if_neg c3]
   rw [q] at he hE ⊢
   rw [q']
   rw [JT] at he hE ⊢
   rw [JT]
   by_cases g2:a+2<=s.size/\fB eW (s.extract a (a+2))=true
   . rw [if_pos g2] at hE
     have hE:((a+2:Nat):Int)=(a+n:Nat):=hE
     obtain rfl:n=2:=by omega
     rw [if_pos g2,if_pos ⟨l2,by rw [<-lx];exact g2.2⟩,<-lx];rfl
   . rw [if_neg g2] at he hE
     by_cases g1:a+1<=s.size/\fB eW (s.extract a (a+1))=true
     . rw [if_pos g1] at hE
       have hE:((a+1:Nat):Int)=(a+n:Nat):=hE
       obtain rfl:n=1:=by omega
       rw [if_neg g2,if_pos g1,if_neg (fun g=>by have:=hx.s c1' c2' rfl g.1;rw [this] at g;cases g.2),if_pos ⟨l2,by rw [<-lx];exact g1.2⟩,<-lx];rfl
     . rw [if_neg g1] at he;cases he
structure R4 (l l':List Tok):Prop where
 len:l'.length=l.length
 tk:∀ i:Int,(bC l' i).kind=(bC l i).kind/\(bC l' i).text=(bC l i).text/\(bC l' i).n=(bC l i).n
structure XS {α β:Type} (f:α->β) (r r':XR α):Prop where
 d:r'.die=r.die
 e:r'.e=r.e
 v:f r'.v=f r.v
 i:r'.i=r.i
theorem XS.vi {α:Type} {r r':XR α} (g:XS id r r'):r'.v=r.v:=g.v
section
variable {s s':ByteArray} {l l':List Tok} (h:R4 l l')
include h
theorem dK (i:Int) (x:ByteArray):aL l' i x=aL l i x:=by
 unfold aL;rw [h.len,(h.tk i).1,(h.tk i).2.1]
theorem Ad (i:Int):fP l' i=fP l i:=by unfold fP;rw [h.len,(h.tk i).1]
theorem Mf (i lv:Int):dL l' i lv=dL l i lv:=by unfold dL;rw [h.len,(h.tk i).2.1,dK h]
omit h in
theorem eH {α β:Type} (f:α->β) {v v':α} (hv:f v'=f v) (i j:Int) (hi:j=i):XS f (iM s l v i) (iM s' l' v' j):=⟨rfl,rfl,hv,hi⟩
omit h in
theorem eB {α β:Type} (f:α->β) {v v':α} (hv:f v'=f v) (i:Int):XS f (fN v i) (fN v' i):=⟨rfl,rfl,hv,rfl⟩
variable {ex ex':lD} (H:∀ lv i,XS id (ex lv i) (ex' lv i))
include H
theorem R5 (lv:Int):∀ (k:Nat) (x:Ex) (i:Int),XS id (rQ s l ex lv k x i) (rQ s' l' ex' lv k x i)
 | 0,x,i=>eH _ rfl _ _ rfl
 | k + 1, x, i => by
   have g:=H (lv+1) (i+1)
   unfold rQ
   rw [Mf h,(h.tk i).2.1,g.d,g.i,g.vi]
   cases dL l i lv with
   | false=>exact eB _ rfl _
   | true =>
     simp only [cond_true]
     cases (ex (lv+1) (i+1)).die with
     | true=>exact g
     | false =>
       simp only [cond_false]
       cases decide (lv=4) with
       | true=>exact eB _ rfl _
       | false=>exact R5 lv k _ _
theorem R6:∀ (k:Nat) (x:Ex) (i:Int),XS id (rR s l ex k x i) (rR s' l' ex' k x i)
 | 0,x,i=>eH _ rfl _ _ rfl
 | k + 1, x, i => by
   have g:=H 1 (i+1)
   unfold rR
   rw [dK h,g.d,g.i,dK h,g.vi]
   cases aL l i sX with
   | false=>exact eB _ rfl _
   | true =>
     simp only [cond_true]
     cases (ex 1 (i+1)).die with
     | true=>exact g
     | false =>
       simp only [cond_false]
       cases aL l (ex 1 (i+1)).i qG with
       | true=>exact R6 k _ _
       | false=>exact eH _ rfl _ _ rfl
theorem R7 (t:ByteArray):∀ (k:Nat) (acc:List Ex) (i:Int),XS id (qf s l ex t k acc i) (qf s' l' ex' t k acc i)
 | 0,acc,i=>eH _ rfl _ _ rfl
 | k + 1, acc, i => by
   have g:=H 1 i
   unfold qf
   rw [g.d,g.e,g.i,dK h,dK h,g.vi]
   cases (ex 1 i).die with
   | true=>exact ⟨rfl,rfl,rfl,rfl⟩
   | false =>
     simp only [cond_false]
     cases aL l (ex 1 i).i t with
     | true=>exact eB _ rfl _
     | false =>
       simp only [cond_false]
       cases aL l (ex 1 i).i yQ with
       | true=>exact R7 t k _ _
       | false=>exact eH _ rfl _ _ rfl
theorem JU (t:ByteArray) (i:Int):XS id (fM s l ex t i) (fM s' l' ex' t i):=by
 unfold fM
 rw [dK h,h.len]
 cases aL l i t with
 | true=>exact eB _ rfl _
 | false=>exact R7 h H t _ _ _
theorem VA (i:Int):XS id (jN s l ex i) (jN s' l' ex' i):=by
 have g:=H 1 (i+1)
 have g1:=JU (s:=s) (s':=s') h H qG (i+1)
 have g2:=JU (s:=s) (s':=s') h H ku (i+1+1)
 unfold jN
 rw [dK h,dK h,dK h,dK h,dK h,dK h,Ad h,h.len,(h.tk i).1,(h.tk i).2.1,(h.tk i).2.2,g.d,g.i,g1.d,g1.e,g1.i,g2.d,g2.e,g2.i,g.vi,g1.vi,g2.vi]
 cases aL l i mV with
 | true =>
   simp only [cond_true]
   cases (ex 1 (i+1)).die with
   | true=>exact g
   | false =>
     simp only [cond_false]
     cases aL l (ex 1 (i+1)).i ku with
     | true=>exact eB _ rfl _
     | false=>exact eH _ rfl _ _ rfl
 | false =>
 simp only [cond_false]
 cases aL l i sX with
 | true=>exact ⟨rfl,rfl,rfl,rfl⟩
 | false =>
 simp only [cond_false]
 cases aL l i IL with
 | true=>exact eB _ rfl _
 | false =>
 simp only [cond_false]
 cases aL l i IQ with
 | true=>exact eB _ rfl _
 | false =>
 simp only [cond_false]
 cases decide ((l.length:Int)<=i) with
 | true=>exact eH _ rfl _ _ rfl
 | false =>
 simp only [cond_false]
 cases decide ((bC l i).kind=3) with
 | true=>exact eB _ rfl _
 | false =>
 simp only [cond_false]
 cases decide ((bC l i).kind=4) with
 | true=>exact eB _ rfl _
 | false =>
 simp only [cond_false]
 cases fP l i with
 | false=>exact eH _ rfl _ _ rfl
 | true =>
   simp only [cond_true]
   cases aL l (i+1) mV with
   | true=>exact ⟨rfl,rfl,rfl,rfl⟩
   | false=>exact eB _ rfl _
theorem ex_sim (lv i:Int):XS id (wQ s l ex lv i) (wQ s' l' ex' lv i):=by
 have un:∀ t,XS id (rS l ex t lv i) (rS l' ex' t lv i):=by
  intro t
  have g:=H lv (i+1)
  unfold rS
  rw [dK h,g.d,g.i,g.vi]
  cases aL l i t with
  | false=>exact H _ _
  | true =>
    simp only [cond_true]
    cases (ex lv (i+1)).die with
    | true=>exact g
    | false=>exact eB _ rfl _
 unfold wQ
 cases decide (lv=3) with
 | true=>exact un _
 | false =>
 simp only [cond_false]
 cases decide (lv=7) with
 | true=>exact un _
 | false =>
 simp only [cond_false]
 cases decide (lv=8) with
 | true =>
   have g:=H 9 i
   have g1:=H 7 ((ex 9 i).i+1)
   simp only [cond_true]
   unfold IU
   rw [g.d,g.i,Mf h,(h.tk _).2.1,g1.d,g1.i,g.vi,g1.vi]
   cases (ex 9 i).die with
   | true=>exact g
   | false =>
     simp only [cond_false]
     cases dL l (ex 9 i).i 8 with
     | false=>exact eB _ rfl _
     | true =>
       simp only [cond_true]
       cases (ex 7 ((ex 9 i).i+1)).die with
       | true=>exact g1
       | false=>exact eB _ rfl _
 | false =>
 simp only [cond_false]
 cases decide (lv=9) with
 | true =>
   have g:=H 10 i
   simp only [cond_true]
   rw [g.d,g.i,h.len,g.vi]
   cases (ex 10 i).die with
   | true=>exact g
   | false=>exact R6 h H _ _ _
 | false =>
 simp only [cond_false]
 cases decide (lv=10) with
 | true=>exact VA h H i
 | false =>
 have g:=H (lv+1) i
 simp only [cond_false]
 rw [g.d,g.i,h.len,g.vi]
 cases (ex (lv+1) i).die with
 | true=>exact g
 | false=>exact R5 h H _ _ _ _
omit H in
theorem R8:∀ (n:Nat) (lv i:Int),XS id (cn s l n lv i) (cn s' l' n lv i)
 | 0,lv,i=>eH _ rfl _ _ rfl
 | n+1,lv,i=>ex_sim h (R8 n) lv i
omit H in
theorem Dk (lv i:Int):XS id (EX s l lv i) (EX s' l' lv i):=by
 unfold EX
 rw [h.len]
 exact R8 h _ _ _
omit H in
theorem Ku {r r':XR Ex} (g:XS id r r'):XS id (bif r.die then r else bif aL l r.i wj then fN r.v (r.i+1) else iM s l jH r.i) (bif r'.die then r' else bif aL l' r'.i wj then fN r'.v (r'.i+1) else iM s' l' jH r'.i):=by
 rw [g.d,g.i,dK h,g.vi]
 cases r.die with
 | true=>simp only [cond_true];exact g
 | false =>
   simp only [cond_false]
   cases aL l r.i wj with
   | true=>exact eB _ rfl _
   | false=>exact eH _ rfl _ _ rfl
omit H in
theorem wC (i:Int):XS id (ew s l i) (ew s' l' i):=Ku h (Dk h 1 i)
end
mutual
def St.un:St->St
 | .mk k _ t p e b c=>.mk k 0 t p e (St.ig b) (St.ig c)
def St.ig:List St->List St
 | []=>[]
 | x::l=>x.un::St.ig l
end
theorem St.mY (k line:Int) (t:ByteArray) (p:List ByteArray) (e:Ex) (b c:List St):(St.mk k line t p e b c).un=.mk k 0 t p e (St.ig b) (St.ig c):=by rw [St.un]
theorem St.Mg (l:List St):St.ig l=l.map St.un:=by
 induction l with
 | nil=>rw [St.ig];rfl
 | cons x l ih=>rw [St.ig,ih];rfl
theorem St.pL (l:List St) (x:St):St.ig (l++[x])=St.ig l++[x.un]:=by rw [St.Mg,St.Mg,List.map_append];rfl
section
variable {s s':ByteArray} {l l':List Tok} (h:R4 l l')
theorem lF {α β γ δ:Type} {f:α->β} {g:γ->δ} {r r':XR α} (q:XS f r r') {v v':γ} (hv:g v'=g v):XS g (r.to v) (r'.to v'):=⟨rfl,q.e,hv,q.i⟩
theorem R9 {k n n':Int} {q q':XR Ex} (g:XS id q q'):XS St.un (oP k n q) (oP k n' q'):=by
 unfold oP
 rw [g.d,g.i,g.vi]
 cases q.die with
 | true=>exact lF g rfl
 | false=>exact eB _ (by rw [St.mY,St.mY]) _
theorem YG {n n':Int} {t:ByteArray} {q q':XR Ex} (g:XS id q q'):XS St.un (mo n t q) (mo n' t q'):=by
 unfold mo
 rw [g.d,g.i,g.vi]
 cases q.die with
 | true=>exact lF g rfl
 | false=>exact eB _ (by rw [St.mY,St.mY]) _
variable {bl JV:nR} (B:∀ i,XS St.ig (bl i) (JV i))
include B
theorem Sb {k n n':Int} {t:ByteArray} {q q':XR Ex} (g:XS id q q'):XS St.un (oQ bl k n t q) (oQ JV k n' t q'):=by
 unfold oQ
 rw [g.d,g.i,g.vi,(B q.i).d,(B q.i).i]
 cases q.die with
 | true=>exact lF g rfl
 | false =>
   simp only [cond_false]
   cases (bl q.i).die with
   | true=>exact lF (B q.i) rfl
   | false=>exact eB _ (by rw [St.mY,St.mY,(B q.i).v]) _
include h
theorem if_sim {n n':Int} {q q':XR Ex} (g:XS id q q'):XS St.un (qH l bl n q) (qH l' JV n' q'):=by
 unfold qH
 rw [g.d,g.i,g.vi,(B q.i).d,(B q.i).i,dK h,(B ((bl q.i).i+1)).d,(B ((bl q.i).i+1)).i]
 cases q.die with
 | true=>exact lF g rfl
 | false =>
   simp only [cond_false]
   cases (bl q.i).die with
   | true=>exact lF (B q.i) rfl
   | false =>
     simp only [cond_false]
     cases aL l (bl q.i).i IY with
     | false=>exact eB _ (by rw [St.mY,St.mY,(B q.i).v]) _
     | true =>
       simp only [cond_true]
       cases (bl ((bl q.i).i+1)).die with
       | true=>exact lF (B ((bl q.i).i+1)) rfl
       | false=>exact eB _ (by rw [St.mY,St.mY,(B q.i).v,(B ((bl q.i).i+1)).v]) _
theorem Sc (ins:Bool) (i:Int):XS St.un (kQ s l bl ins i) (kQ s' l' JV ins i):=by
 unfold kQ
 rw [dK h,dK h,dK h,dK h,dK h,dK h,dK h,Ad h,Ad h,(h.tk _).2.1,(h.tk _).2.1]
 cases aL l i IX with
 | true=>exact R9 (wC h _)
 | false =>
 simp only [cond_false]
 cases aL l i QU with
 | true=>exact if_sim h B (Dk h _ _)
 | false =>
 simp only [cond_false]
 cases aL l i IZ with
 | true=>exact Sb B (Dk h _ _)
 | false =>
 simp only [cond_false]
 cases aL l i I4 with
 | true =>
   simp only [cond_true]
   cases fP l (i+1) with
   | false=>exact eH _ rfl _ _ rfl
   | true =>
     simp only [cond_true]
     cases aL l (i+1+1) QV with
     | true=>exact Sb B (Dk h _ _)
     | false=>exact eH _ rfl _ _ rfl
 | false =>
 simp only [cond_false]
 cases ins&&aL l i I5 with
 | true=>exact R9 (wC h _)
 | false =>
 simp only [cond_false]
 cases fP l i with
 | false=>exact eH _ rfl _ _ rfl
 | true =>
   simp only [cond_true]
   cases aL l (i+1) QW with
   | true=>exact YG (wC h _)
   | false=>exact eH _ rfl _ _ rfl
omit B in
theorem Mh {st st':Int->XR St} (S:∀ i,XS St.un (st i) (st' i)):∀ (k:Nat) (acc acc':List St) (i:Int),St.ig acc'=St.ig acc->XS St.ig (qh s l st k acc i) (qh s' l' st' k acc' i)
 | 0,acc,acc',i,ha=>eH _ ha _ _ rfl
 | k + 1, acc, acc', i, ha => by
   unfold qh
   rw [dK h,(S i).d,(S i).i]
   cases aL l i QY with
   | true=>exact eB _ ha _
   | false =>
     simp only [cond_false]
     cases (st i).die with
     | true=>exact lF (S i) ha
     | false=>exact Mh S k _ _ _ (by rw [St.pL,St.pL,ha,(S i).v])
omit B in
theorem YH {st st':Int->XR St} (S:∀ i,XS St.un (st i) (st' i)) (i:Int):XS St.ig (wS s l st i) (wS s' l' st' i):=by
 unfold wS
 rw [dK h,h.len]
 cases aL l i QX with
 | true=>exact Mh h S _ _ _ _ rfl
 | false=>exact eH _ rfl _ _ rfl
omit B in
theorem JW (ins:Bool):∀ (n:Nat) (i:Int),XS St.ig (iE s l ins n i) (iE s' l' ins n i)
 | 0,i=>eH _ rfl _ _ rfl
 | n+1,i=>YH h (fun i=>Sc h (JW ins n) ins i) i
omit B in
theorem Mi (xs:List ByteArray) (i:Int):(kf s' l' xs i).map Prod.fst=(kf s l xs i).map Prod.fst:=by
 unfold kf
 rw [Ad h,(h.tk i).2.1]
 cases fP l i with
 | false=>rfl
 | true =>
   simp only [cond_true]
   cases fB xs (bC l i).text <;> rfl
omit B in
theorem Sd:∀ (k:Nat) (acc:List ByteArray) (i:Int),XS id (oR s l k acc i) (oR s' l' k acc i)
 | 0,acc,i=>eH _ rfl _ _ rfl
 | k + 1, acc, i => by
   have g:=Mi (s:=s) (s':=s') h acc i
   unfold oR
   rw [dK h,dK h,(h.tk i).2.1]
   cases hf:kf s l acc i with
   | some q =>
     obtain ⟨e,a⟩:=q
     rw [hf] at g
     cases hf':kf s' l' acc i with
     | none=>rw [hf'] at g;cases g
     | some q' =>
       obtain ⟨e',a'⟩:=q'
       rw [hf'] at g
       have g:e'=e:=Option.some.inj g
       exact ⟨rfl,g,rfl,rfl⟩
   | none =>
     rw [hf] at g
     cases hf':kf s' l' acc i with
     | some q'=>rw [hf'] at g;cases g
     | none =>
       show XS id (bif _ then _ else _) (bif _ then _ else _)
       cases aL l (i+1) ku with
       | true=>exact eB _ rfl _
       | false =>
         simp only [cond_false]
         cases aL l (i+1) yQ with
         | true=>exact Sd k _ _
         | false=>exact eH _ rfl _ _ rfl
theorem df_sim (ns : List ByteArray) (n n' i : Int) : XS St.un (iL s l bl ns n i) (iL s' l' JV ns n' i) := by
 have g:=Mi (s:=s) (s':=s') h ns i
 unfold iL
 rw [dK h,dK h,(h.tk i).2.1,h.len]
 cases hf:kf s l ns i with
 | some q =>
   obtain ⟨e,a⟩:=q
   rw [hf] at g
   cases hf':kf s' l' ns i with
   | none=>rw [hf'] at g;cases g
   | some q' =>
     obtain ⟨e',a'⟩:=q'
     rw [hf'] at g
     have g:e'=e:=Option.some.inj g
     exact ⟨rfl,g,rfl,rfl⟩
 | none =>
   rw [hf] at g
   cases hf':kf s' l' ns i with
   | some q'=>rw [hf'] at g;cases g
   | none =>
     show XS St.un (bif _ then _ else _) (bif _ then _ else _)
     cases aL l (i+1) mV with
     | false=>exact eH _ rfl _ _ rfl
     | true =>
       simp only [cond_true]
       have key:∀ q q':XR (List ByteArray),XS id q q'->XS St.un (nS bl n (bC l i).text q) (nS JV n' (bC l i).text q'):=by
        intro q q' g
        unfold nS
        rw [g.d,g.i,g.vi,(B q.i).d,(B q.i).i]
        cases q.die with
        | true=>exact lF g rfl
        | false =>
          simp only [cond_false]
          cases (bl q.i).die with
          | true=>exact lF (B q.i) rfl
          | false=>exact eB _ (by rw [St.mY,St.mY,(B q.i).v]) _
       refine key _ _ ?_
       cases aL l (i+1+1) ku with
       | true=>exact eB _ rfl _
       | false=>exact Sd h _ _ _
omit B in
theorem bT_sim (i:Int):XS St.ig (bT s l i) (bT s' l' i):=by
 unfold bT
 rw [h.len]
 exact JW h _ _ _
omit B in
theorem sT_sim (i:Int):XS St.un (sT s l i) (sT s' l' i):=by
 unfold sT
 rw [h.len]
 exact Sc h (JW h _ _) _ _
def Mj (p:List St×List ByteArray):List St×List ByteArray:=(St.ig p.1,p.2)
omit B in
theorem JX:∀ (k:Nat) (acc acc':List St) (ns:List ByteArray) (i:Int),St.ig acc'=St.ig acc->XS Mj (qi s l k acc ns i) (qi s' l' k acc' ns i)
 | 0,acc,acc',ns,i,ha=>eH _ (by unfold Mj;rw [ha]) _ _ rfl
 | k + 1, acc, acc', ns, i, ha => by
   have g:=df_sim (s:=s) (s':=s') h (bl:=bT s l) (JV:=bT s' l') (fun i=>bT_sim h i) ns (iA s l i) (iA s' l' i) (i+1)
   have g1:=sT_sim (s:=s) (s':=s') h i
   unfold qi
   rw [dK h,h.len,g.d,g.i,g1.d,g1.i,(h.tk _).2.1]
   cases decide (i<(l.length:Int)) with
   | false=>exact eB _ (by unfold Mj;rw [ha]) _
   | true =>
     simp only [cond_true]
     cases aL l i I6 with
     | true =>
       simp only [cond_true]
       cases (iL s l (bT s l) ns (iA s l i) (i+1)).die with
       | true=>exact lF g (by unfold Mj;rw [ha])
       | false=>exact JX k _ _ _ _ (by rw [St.pL,St.pL,ha,g.v])
     | false =>
       simp only [cond_false]
       cases (sT s l i).die with
       | true=>exact lF g1 (by unfold Mj;rw [ha])
       | false=>exact JX k _ _ _ _ (by rw [St.pL,St.pL,ha,g1.v])
omit B in
theorem YI:XS Mj (cU s l) (cU s' l'):=by
 unfold cU
 rw [h.len]
 exact JX h _ _ _ _ _ rfl
end
inductive Lx (s:ByteArray):Nat->List Tok->Prop where
 | done {i:Nat}:s.size<=i->Lx s i []
 | sp {i:Nat} {ts:List Tok}:i<s.size->(bn s i=32∨bn s i=10)->Lx s (i+1) ts->Lx s i ts
 | com {i:Nat} {ts:List Tok}:i<s.size->bn s i=35->Lx s (aQ gN s i) ts->Lx s i ts
 | tok {i n:Nat} {ts:List Tok}:i<s.size->¬ (bn s i=32∨bn s i=10)->bn s i≠35->(bS s i).er=0->(bS s i).e=(i+n:Nat)->0<n->i+n<=s.size->Lx s (i+n) ts->Lx s i ((bS s i).t::ts)
theorem FY {s : ByteArray} : ∀ (k i : Nat), s.size ≤ k + i → (bL s k i).2.1 = 0 → Lx s i (bL s k i).1
 | 0,i,hk,_=>.done (by omega)
 | k + 1, i, hk, h => by
   unfold bL at h ⊢
   by_cases h0:i<s.size
   . rw [if_pos h0] at h ⊢
     by_cases h1:bn s i=32∨bn s i=10
     . rw [if_pos h1] at h ⊢
       exact .sp h0 h1 (FY k (i+1) (by omega) h)
     . rw [if_neg h1] at h ⊢
       by_cases h2:bn s i=35
       . rw [if_pos h2] at h ⊢
         have hy:aQ gN s i=aQ gN s (i+1):=gA ⟨h0,by unfold gN;rw [decide_eq_false (by omega)];rfl⟩
         have hg:=jB gN s _ (i+1) rfl
         exact .com h0 h2 (FY k _ (by omega) h)
       . rw [if_neg h2] at h ⊢
         by_cases h3:(bS s i).er≠0
         . rw [if_pos h3] at h;exact absurd h h3
         . rw [if_neg h3] at h ⊢
           have h3:(bS s i).er=0:=by omega
           obtain ⟨e,he,h4,h5⟩:=Uo h0 h3
           rw [he,Int.toNat_natCast] at h ⊢
           have e1:e=i+(e-i):=by omega
           refine .tok (n:=e-i) h0 h1 h2 h3 (by rw [he,<-e1]) (by omega) (by omega) ?_
           rw [<-e1]
           exact FY k e (by omega) h
   . rw [if_neg h0];exact .done (by omega)
theorem all_of {s:ByteArray} {i:Nat} {ts:List Tok} (h:Lx s i ts):∀ k,s.size<=k+i->bL s k i=(ts,0,0):=by
 induction h with
 | done h0 =>
   intro k hk
   cases k with
   | zero=>rfl
   | succ k=>unfold bL;rw [if_neg (by omega)]
 | sp h0 h1 _ ih =>
   intro k hk
   cases k with
   | zero=>omega
   | succ k=>unfold bL;rw [if_pos h0,if_pos h1];exact ih k (by omega)
 | @com i ts h0 h1 _ ih =>
   intro k hk
   have hy:aQ gN s i=aQ gN s (i+1):=gA ⟨h0,by unfold gN;rw [decide_eq_false (by omega)];rfl⟩
   have hg:=jB gN s _ (i+1) rfl
   cases k with
   | zero=>omega
   | succ k=>unfold bL;rw [if_pos h0,if_neg (by omega),if_pos h1];exact ih k (by omega)
 | tok h0 h1 h2 h3 h4 h5 h6 _ ih =>
   intro k hk
   cases k with
   | zero=>omega
   | succ k =>
     unfold bL
     rw [if_pos h0,if_neg h1,if_neg h2,if_neg (by omega),h4,Int.toNat_natCast,ih k (by omega)]
theorem Mk (a b:ByteArray):(a++b).data.toList=a.data.toList++b.data.toList:=by simp
theorem BW {a b:ByteArray} {i:Nat} (h:i<a.size):bn (a++b) i=bn a i:=by
 have h':i<a.data.toList.length:=by simpa using h
 unfold bn
 rw [Mk,List.getD_eq_getElem?_getD,List.getElem?_append_left h',<-List.getD_eq_getElem?_getD]
theorem s9 {a b:ByteArray} {i:Nat}:bn (a++b) (a.size+i)=bn b i:=by
 have h':a.data.toList.length=a.size:=by simp
 unfold bn
 rw [Mk,List.getD_eq_getElem?_getD,List.getElem?_append_right (by omega),h',Nat.add_sub_cancel_left,<-List.getD_eq_getElem?_getD]
theorem Ae {s:ByteArray} {a b j:Nat} (h:a+j<b) (hb:b<=s.size):bn (s.extract a b) j=bn s (a+j):=by
 have h1:j<(s.extract a b).size:=by rw [ByteArray.size_extract];omega
 rw [Ac h1,Ac (by omega),ByteArray.getElem_extract]
theorem uR (s:ByteArray) (a:Nat):(bS s a).t.at_=a:=by
 unfold bS
 split
 . unfold j9;split
   . rfl
   . split <;> rfl
 . split
   . unfold l8;split
     . rfl
     . split <;> rfl
   . split
     . unfold nA;split
       . rfl
       . split <;> rfl
     . rw [JT];split
       . rfl
       . split <;> rfl
theorem Dl {s:ByteArray} {i:Nat} {l:List Tok} (h:Lx s i l):∀ t ts,l=t::ts->∃ a n,i<=a/\a<s.size/\0<n/\a+n<=s.size/\¬ (bn s a=32∨bn s a=10)/\bn s a≠35/\(bS s a).er=0/\(bS s a).e=(a+n:Nat)/\t=(bS s a).t/\Lx s (a+n) ts:=by
 induction h with
 | done h0=>intro t ts e;cases e
 | sp h0 h1 _ ih =>
   intro t ts e
   obtain ⟨a,n,h2,h3⟩:=ih t ts e
   exact ⟨a,n,by omega,h3⟩
 | @com i ts h0 h1 _ ih =>
   intro t ts e
   obtain ⟨a,n,h2,h3⟩:=ih t ts e
   have hg:=jB gN s _ i rfl
   exact ⟨a,n,by omega,h3⟩
 | tok h0 h1 h2 h3 h4 h5 h6 h7 _ =>
   intro t ts e
   cases e
   exact ⟨_,_,Nat.le_refl _,h0,h5,h6,h1,h2,h3,h4,rfl,h7⟩
def blk (c:Int):Bool:=decide (c=32)||decide (c=10)||decide (c=35)
def tO (s:ByteArray) (e:Nat) (txt:Bool) (uS:Int) (i:Nat):Nat:=if h:i<e/\(blk (bn s i)=false∨txt=true/\(i:Int)<=uS) then tO s e txt uS (i+1) else i
termination_by e-i
theorem JY {s:ByteArray} {e:Nat} {txt:Bool} {uS:Int} {i:Nat} (h:i<e/\(blk (bn s i)=false∨txt=true/\(i:Int)<=uS)):tO s e txt uS i=tO s e txt uS (i+1):=by rw [tO,dif_pos h]
theorem Ml {s:ByteArray} {e:Nat} {txt:Bool} {uS:Int} {i:Nat} (h:¬ (i<e/\(blk (bn s i)=false∨txt=true/\(i:Int)<=uS))):tO s e txt uS i=i:=by rw [tO,dif_neg h]
theorem Mn {s:ByteArray} {e:Nat} {txt:Bool} {uS:Int} {b:Nat} (hb:¬ (b<e/\(blk (bn s b)=false∨txt=true/\(b:Int)<=uS))):∀ (j a:Nat),j=b-a->a<=b->(∀ k,a<=k->k<b->k<e/\(blk (bn s k)=false∨txt=true/\(k:Int)<=uS))->tO s e txt uS a=b
 | j,a,hj,ha,h=>by
   by_cases hab:a=b
   . subst hab;exact Ml hb
   . rw [JY (h a (Nat.le_refl _) (by omega))]
     cases j with
     | zero=>omega
     | succ j=>exact Mn hb j (a+1) (by omega) (by omega) fun k h1 h2=>h k (by omega) h2
theorem ze {p:Int->Bool} {s:ByteArray}:∀ (j k:Nat),j=s.size-k->∀ i,k<=i->i<aQ p s k->p (bn s i)=true
 | j,k,hj,i,h1,h2=>by
   by_cases hp:k<s.size/\p (bn s k)=true
   . by_cases hik:i=k
     . rw [hik];exact hp.2
     . rw [gA hp] at h2
       cases j with
       | zero=>omega
       | succ j=>exact ze j (k+1) (by omega) i (by omega) h2
   . rw [jY hp] at h2;omega
theorem Ei {c:Int} (h:dB c=true):blk c=false:=by
 unfold dB gU cT at h
 simp only [Bool.or_eq_true,Bool.and_eq_true,decide_eq_true_eq] at h
 unfold blk
 rw [decide_eq_false (by omega),decide_eq_false (by omega),decide_eq_false (by omega)];rfl
theorem Mp {c:Int} (h:cT c=true):blk c=false:=Ei (by unfold dB;rw [h,Bool.or_true];rfl)
theorem YJ {c:Int} (h:gU c=true):blk c=false:=Ei (by unfold dB;rw [h];rfl)
theorem Ej:∀ x∈eW,∀ j,j<x.size->blk (bn x j)=false:=by decide
theorem BX {l:List ByteArray} {x:ByteArray} (h:fB l x=true):x∈l:=by
 unfold fB at h
 rw [List.any_eq_true] at h
 obtain ⟨y,hy,e⟩:=h
 rw [decide_eq_true_eq] at e
 exact e▸hy
theorem Fy {s:ByteArray} {a n:Nat} (hn:0<n) (hl:a+n<=s.size) (he:(bS s a).er=0) (hE:(bS s a).e=(a+n:Nat)) :
 (∀ k,a<=k->k<a+n->blk (bn s k)=false∨(decide ((bS s a).t.kind=4)=true/\(k:Int)<=a+((bS s a).t.text.size:Int)))/\(decide ((bS s a).t.kind=4)=true->(a:Int)+((bS s a).t.text.size:Int)<(a+n:Nat)):=by
 by_cases c1:gU (bn s a)=true
 . have q:bS s a=j9 s a (aQ dB s (a+1)):=by unfold bS;rw [if_pos c1]
   rw [q] at hE ⊢
   have hr:aQ dB s (a+1)=a+n:=by
    unfold j9 at hE
    split at hE
    . exact Int.ofNat.inj hE
    . split at hE <;> exact Int.ofNat.inj hE
   have hk:decide ((j9 s a (aQ dB s (a+1))).t.kind=4)=false:=by
    unfold j9
    split
    . rfl
    . split <;> rfl
   refine ⟨fun k h1 h2=>.inl ?_,fun h=>by rw [hk] at h;cases h⟩
   by_cases hka:k=a
   . rw [hka];exact YJ c1
   . exact Ei (ze _ (a+1) rfl k (by omega) (by omega))
 by_cases c2:cT (bn s a)=true
 . have q:bS s a=l8 s a (aQ cT s (a+1)):=by unfold bS;rw [if_neg c1,if_pos c2]
   rw [q] at hE ⊢
   have hr:aQ cT s (a+1)=a+n:=by
    unfold l8 at hE
    split at hE
    . exact Int.ofNat.inj hE
    . split at hE <;> exact Int.ofNat.inj hE
   have hk:decide ((l8 s a (aQ cT s (a+1))).t.kind=4)=false:=by
    unfold l8
    split
    . rfl
    . split <;> rfl
   refine ⟨fun k h1 h2=>.inl ?_,fun h=>by rw [hk] at h;cases h⟩
   by_cases hka:k=a
   . rw [hka];exact Mp c2
   . exact Mp (ze _ (a+1) rfl k (by omega) (by omega))
 by_cases c3:bn s a=34
 · have q : bS s a = nA s a (aQ cJ s (a + 1)) := by unfold bS; rw [if_neg c1, if_neg c2, if_pos c3]
   rw [q] at he hE ⊢
   have hge:=(jB cJ s _ (a+1) rfl)
   unfold nA at he hE ⊢
   by_cases g1:aQ cJ s (a+1)=s.size∨bn s (aQ cJ s (a+1))≠34
   . rw [if_pos g1] at he;cases he
   · rw [if_neg g1] at he hE ⊢
     by_cases g2:200<(s.extract (a+1) (aQ cJ s (a+1))).size
     . rw [if_pos g2] at he;cases he
     . rw [if_neg g2] at hE ⊢
       have hr:aQ cJ s (a+1)+1=a+n:=Int.ofNat.inj hE
       have hz:(s.extract (a+1) (aQ cJ s (a+1))).size=n-2:=by rw [ByteArray.size_extract];omega
       have hb:bn s (aQ cJ s (a+1))=34:=by
        by_cases g:bn s (aQ cJ s (a+1))=34
        . exact g
        . exact absurd (.inr g) g1
       refine ⟨fun k h1 h2=>?_,fun _=>by show (a:Int)+((s.extract (a+1) (aQ cJ s (a+1))).size:Int)<_;omega⟩
       show _∨(_/\(k:Int)<=a+((s.extract (a+1) (aQ cJ s (a+1))).size:Int))
       by_cases hk:k=aQ cJ s (a+1)
       . left;rw [hk,hb];rfl
       . right;exact ⟨rfl,by omega⟩
 . have q:bS s a=l9 s a 2:=by unfold bS;rw [if_neg c1,if_neg c2,if_neg c3]
   rw [q,JT] at he hE ⊢
   by_cases g2:a+2<=s.size/\fB eW (s.extract a (a+2))=true
   . rw [if_pos g2] at hE ⊢
     have hE:((a+2:Nat):Int)=(a+n:Nat):=hE
     refine ⟨fun k h1 h2=>.inl ?_,fun h=>by cases h⟩
     have:=Ej _ (BX g2.2) (k-a) (by rw [ByteArray.size_extract];omega)
     rw [Ae (by omega) (by omega)] at this
     rw [show a+(k-a)=k by omega] at this
     exact this
   . rw [if_neg g2] at he hE ⊢
     by_cases g1:a+1<=s.size/\fB eW (s.extract a (a+1))=true
     . rw [if_pos g1] at hE ⊢
       have hE:((a+1:Nat):Int)=(a+n:Nat):=hE
       refine ⟨fun k h1 h2=>.inl ?_,fun h=>by cases h⟩
       have:=Ej _ (BX g1.2) (k-a) (by rw [ByteArray.size_extract];omega)
       rw [Ae (by omega) (by omega)] at this
       rw [show a+(k-a)=k by omega] at this
       exact this
     . rw [if_neg g1] at he;cases he
def oJ (s:ByteArray):List Tok->Nat
 | []=>s.size
 | t::_=>t.at_.toNat
theorem VB {s:ByteArray} {a n:Nat} {ts:List Tok} (hn:0<n) (hl:a+n<=s.size) (he:(bS s a).er=0) (hE:(bS s a).e=(a+n:Nat)) (hx:Lx s (a+n) ts) :
 tO s (oJ s ts) (decide ((bS s a).t.kind=4)) (a+((bS s a).t.text.size:Int)) a=a+n:=by
 obtain ⟨b1,b2⟩:=Fy hn hl he hE
 have nO:a+n<=oJ s ts:=by
  cases ts with
  | nil=>exact hl
  | cons t ts =>
    obtain ⟨a',n',h1,_,_,_,_,_,_,_,h2,_⟩:=Dl hx t ts rfl
    show a+n<=t.at_.toNat
    rw [h2,uR];omega
 refine Mn ?_ n a (by omega) (by omega) fun k h1 h2=>⟨by omega,b1 k h1 h2⟩
 rintro ⟨h1,h2⟩
 have hb:blk (bn s (a+n))=true:=by
  cases hx with
  | done h0=>have:oJ s []=s.size:=rfl;omega
  | sp h0 h3 _=>unfold blk;rcases h3 with h3 | h3 <;> rw [h3] <;> rfl
  | com h0 h3 _=>unfold blk;rw [h3];rfl
  | @tok _ _ ts h0 h3 h4 h5 h6 h7 h8 h9 =>
    have:oJ s ((bS s (a+n)).t::ts)=(bS s (a+n)).t.at_.toNat:=rfl
    rw [this,uR] at h1
    omega
 rcases h2 with h2 | ⟨h2,h3⟩
 . rw [hb] at h2;cases h2
 . have:=b2 h2;omega
def jn (s:ByteArray) (bt:List ByteArray):Nat->List Tok->ByteArray
 | _,[]=>eS
 | i,t::ts=>s.extract t.at_.toNat (tO s (oJ s ts) (decide (t.kind=4)) (t.at_+(t.text.size:Int)) t.at_.toNat)++(bt.getD (i % bt.length) eS++jn s bt (i+1) ts)
structure qR (x:ByteArray):Prop where
 pos:0<x.size
 hd:bn x 0=32∨bn x 0=10
 go:∀ pre aK ts,Lx (pre++(x++aK)) (pre.size+x.size) ts->Lx (pre++(x++aK)) pre.size ts
theorem wD {pre x aK:ByteArray} {j:Nat} (h:j<x.size):bn (pre++(x++aK)) (pre.size+j)=bn x j:=by
 rw [s9,BW h]
theorem JZ {pre x aK:ByteArray} {j:Nat} (h:j<x.size):pre.size+j<(pre++(x++aK)).size:=by
 rw [aY,aY];omega
theorem Mq {p:Int->Bool} {s:ByteArray} {b:Nat} (hb:p (bn s b)=false):∀ (j a:Nat),j=b-a->a<=b->(∀ k,a<=k->k<b->k<s.size/\p (bn s k)=true)->aQ p s a=b
 | j,a,hj,ha,h=>by
   by_cases hab:a=b
   . subst hab;exact jY (by rintro ⟨_,h2⟩;rw [hb] at h2;cases h2)
   . rw [gA (h a (Nat.le_refl _) (by omega))]
     cases j with
     | zero=>omega
     | succ j=>exact Mq hb j (a+1) (by omega) (by omega) fun k h1 h2=>h k (by omega) h2
abbrev sep1:ByteArray:=⟨#[32]⟩
abbrev sep2:ByteArray:=⟨#[10]⟩
abbrev tP:ByteArray:=⟨#[32,35,32,120,32,59,32,125,32,34,10]⟩
abbrev Oy:ByteArray:=⟨#[32,32]⟩
abbrev Oz:ByteArray:=⟨#[10,10]⟩
theorem tf {pre x aK:ByteArray} {j:Nat} {ts:List Tok} (h:j<x.size) (hb:bn x j=32∨bn x j=10) (hl:Lx (pre++(x++aK)) (pre.size+(j+1)) ts):Lx (pre++(x++aK)) (pre.size+j) ts :=
 .sp (JZ h) (by rw [wD h];exact hb) hl
theorem YK:qR sep1:=⟨by decide,by decide,fun pre aK ts h=>tf (x:=sep1) (j:=0) (by decide) (by decide) h⟩
theorem YL:qR sep2:=⟨by decide,by decide,fun pre aK ts h=>tf (x:=sep2) (j:=0) (by decide) (by decide) h⟩
theorem YM:qR Oy:=⟨by decide,by decide,fun pre aK ts h=>tf (x:=Oy) (j:=0) (by decide) (by decide) (tf (x:=Oy) (j:=1) (by decide) (by decide) h)⟩
theorem YN:qR Oz:=⟨by decide,by decide,fun pre aK ts h=>tf (x:=Oz) (j:=0) (by decide) (by decide) (tf (x:=Oz) (j:=1) (by decide) (by decide) h)⟩
theorem YO:qR tP:=by
 refine ⟨by decide,by decide,fun pre aK ts h=>tf (x:=tP) (j:=0) (by decide) (by decide) ?_⟩
 have h10:=tf (x:=tP) (j:=10) (by decide) (by decide) h
 have hr:aQ gN (pre++(tP++aK)) (pre.size+1)=pre.size+10:=by
  refine Mq ?_ 9 (pre.size+1) (by omega) (by omega) fun k h1 h2=>?_
  . rw [wD (x:=tP) (j:=10) (by decide)];decide
  . obtain ⟨j,rfl⟩:∃ j,k=pre.size+j:=⟨k-pre.size,by omega⟩
    have hj:j<tP.size:=by show j<11;omega
    refine ⟨JZ hj,?_⟩
    rw [wD hj]
    have key:∀ j,j<11->1<=j->j<10->gN (bn tP j)=true:=by decide
    exact key j (by omega) (by omega) (by omega)
 refine .com (JZ (x:=tP) (j:=1) (by decide)) (by rw [wD (x:=tP) (j:=1) (by decide)];decide) ?_
 rw [show pre.size+(0+1)=pre.size+1 from rfl,hr]
 exact h10
def oU:List Tok->List Tok->Prop
 | [],[]=>True
 | a::l,b::m=>(b.kind=a.kind/\b.text=a.text/\b.n=a.n)/\oU l m
 | _,_=>False
theorem oU.len:∀ {l m:List Tok},oU l m->m.length=l.length
 | [],[],_=>rfl
 | a::l,b::m,h=>by rw [oU] at h;rw [List.length_cons,List.length_cons,oU.len h.2]
 | [],b::m,h=>by rw [oU] at h <;> first | exact h.elim | simp
 | a::l,[],h=>by rw [oU] at h <;> first | exact h.elim | simp
theorem oU.get:∀ {l m:List Tok} (_:oU l m) (n:Nat) (d:Tok),(m.getD n d).kind=(l.getD n d).kind/\(m.getD n d).text=(l.getD n d).text/\(m.getD n d).n=(l.getD n d).n
 | [],[],_,n,d=>⟨rfl,rfl,rfl⟩
 | a::l,b::m,h,0,d=>by rw [oU] at h;exact h.1
 | a::l,b::m,h,n+1,d=>by rw [oU] at h;exact oU.get h.2 n d
 | [],b::m,h,n,d=>by rw [oU] at h <;> first | exact h.elim | simp
 | a::l,[],h,n,d=>by rw [oU] at h <;> first | exact h.elim | simp
theorem oU.sim {l m:List Tok} (h:oU l m):R4 l m:=⟨h.len,fun i=>h.get i.toNat _⟩
theorem Ms {s : ByteArray} {bt : List ByteArray} (hb : ∀ x ∈ bt, qR x) (hne : bt ≠ []) : ∀ (ts : List Tok) (i0 i : Nat) (pre : ByteArray), Lx s i0 ts → ∃ ts', Lx (pre ++ jn s bt i ts) pre.size ts' ∧ oU ts ts'
 | [],i0,i,pre,_=>⟨[],.done (by rw [aY];exact Nat.le_refl _),trivial⟩
 | t :: ts, i0, i, pre, h => by
   obtain ⟨a,n,_,h0,hn,hl,h1,h2,he,hE,rfl,hx⟩:=Dl h t ts rfl
   have hsep:qR (bt.getD (i % bt.length) eS):=by
    have hlt:i % bt.length<bt.length:=Nat.mod_lt _ (by cases bt with | nil=>exact absurd rfl hne | cons _ _=>exact Nat.succ_pos _)
    rw [List.getD_eq_getElem?_getD,List.getElem?_eq_getElem hlt]
    exact hb _ (List.getElem_mem hlt)
   have hj:jn s bt i ((bS s a).t::ts)=s.extract a (a+n)++(bt.getD (i % bt.length) eS++jn s bt (i+1) ts):=by
    rw [jn,uR,Int.toNat_natCast,VB hn hl he hE hx]
   rw [hj]
   generalize bt.getD (i % bt.length) eS=sep at hsep ⊢
   have hz:(s.extract a (a+n)).size=n:=by rw [ByteArray.size_extract];omega
   obtain ⟨ts',hL,hT⟩:=Ms hb hne ts (a+n) (i+1) (pre++s.extract a (a+n)++sep) hx
   have e1:pre++(s.extract a (a+n)++(sep++jn s bt (i+1) ts))=pre++s.extract a (a+n)++(sep++jn s bt (i+1) ts):=by simp only [ByteArray.append_assoc]
   have e2:pre++s.extract a (a+n)++(sep++jn s bt (i+1) ts)=pre++s.extract a (a+n)++sep++jn s bt (i+1) ts:=by simp only [ByteArray.append_assoc]
   generalize hR:jn s bt (i+1) ts=aK at *
   rw [<-e2,aY] at hL
   have hL2:=hsep.go _ _ _ hL
   rw [<-e1,aY,hz] at hL2
   have hA:Ag s a (pre++(s.extract a (a+n)++(sep++aK))) pre.size n:=⟨hl,by rw [aY,aY,hz];omega,fun j hj=>by rw [s9,BW (by omega),Ae (by omega) hl]⟩
   have hnb:bn (pre++(s.extract a (a+n)++(sep++aK))) (pre.size+n)=bn sep 0:=by
    rw [s9]
    have:=s9 (a:=s.extract a (a+n)) (b:=sep++aK) (i:=0)
    rw [hz,Nat.add_zero] at this
    rw [this,BW hsep.pos]
   have hN : Nx s a (pre ++ (s.extract a (a + n) ++ (sep ++ aK))) pre.size n := by
    refine ⟨fun _=>.inr ?_,fun _=>.inr ?_,fun _ _ hn1 hs=>?_⟩
    . rw [hnb];rcases hsep.hd with g | g <;> rw [g] <;> decide
    . rw [hnb];rcases hsep.hd with g | g <;> rw [g] <;> decide
    . cases hh:fB eW ((pre++(s.extract a (a+n)++(sep++aK))).extract pre.size (pre.size+2)) with
      | false=>rfl
      | true =>
        have:=Ej _ (BX hh) 1 (by rw [ByteArray.size_extract];omega)
        rw [Ae (by omega) hs] at this
        rw [hn1] at hnb this
        rw [hn1] at hs
        rw [hnb] at this
        rcases hsep.hd with g | g <;> rw [g] at this <;> cases this
   have hM:=R3 hA hn hN he hE
   have hb0:=hA.eq 0 hn
   rw [Nat.add_zero,Nat.add_zero] at hb0
   refine ⟨(bS (pre++(s.extract a (a+n)++(sep++aK))) pre.size).t::ts',?_,?_⟩
   . exact .tok (by rw [aY,aY,hz];omega) (by rw [<-hb0];exact h1) (by rw [<-hb0];exact h2) (by rw [hM]) (by rw [hM]) hn hA.le' hL2
   . rw [hM,oU]
     exact ⟨⟨rfl,rfl,rfl⟩,hT⟩
mutual
theorem St.ns1_un:∀ (x:St) (p:Int×Int),x.un.lB p=x.lB p
 | .mk k li t ps e b c,p=>by rw [St.un,St.lB,St.lB,St.zf b,St.zf c]
theorem St.zf:∀ (l:List St) (p:Int×Int),St.jm (St.ig l) p=St.jm l p
 | [],p=>by rw [St.ig]
 | x::l,p=>by rw [St.ig,St.jm,St.jm,St.ns1_un x,St.zf l]
end
theorem YP {L M:List St} (h:St.ig M=St.ig L):kg M=kg L:=by
 unfold kg
 rw [<-St.zf M,<-St.zf L,h]
theorem uT {s:ByteArray} (h:(cg s).2.1=0):tks s=(cg s).1:=by
 show kI (cg s)=_
 unfold kI
 rw [if_pos h]
theorem J0 {s:ByteArray} (h:(cg s).2.1=0):Lx s 0 (cg s).1:=by
 unfold cg at h ⊢
 split at h
 . cases h
 . rename_i h0
   rw [if_neg h0]
   exact FY _ _ (by omega) h
theorem spl_lx {s:ByteArray} {ts:List Tok} (hs:s.size<=20000) (h:Lx s 0 ts):cg s=(ts,0,0):=by
 unfold cg
 rw [if_neg (by omega)]
 exact all_of h _ (by omega)
theorem rd_sim {s s':ByteArray} (h:(cg s).2.1=0) (h':(cg s').2.1=0) (hS:R4 (tks s) (tks s')):(eX s').2.1=(eX s).2.1/\St.ig (eX s').1=St.ig (eX s).1:=by
 have g:=YI (s:=s) (s':=s') hS
 have hv:St.ig (cU s' (tks s')).v.1=St.ig (cU s (tks s)).v.1:=congrArg Prod.fst g.v
 unfold eX
 rw [if_pos h,if_pos h',g.d,g.e,g.i,hS.len]
 cases (cU s (tks s)).die with
 | true=>exact ⟨rfl,rfl⟩
 | false =>
   cases decide ((cU s (tks s)).i<((tks s).length:Int)) with
   | true=>exact ⟨rfl,rfl⟩
   | false=>exact ⟨rfl,hv⟩
theorem YQ {s s':ByteArray} (h:(cg s).2.1=0) (h':(cg s').2.1=0) (hS:R4 (tks s) (tks s')):(gE s').2.1=(gE s).2.1/\St.ig (gE s').1=St.ig (gE s).1:=by
 obtain ⟨h1,h2⟩:=rd_sim h h' hS
 unfold gE
 rw [h1,YP h2]
 cases decide ((eX s).2.1=0)&&kg (eX s).1 with
 | true=>exact ⟨rfl,rfl⟩
 | false=>exact ⟨h1,h2⟩
theorem OA {s:ByteArray} {bt:List ByteArray} (hb:∀ x∈bt,qR x) (hne:bt≠[]) (h:(cg s).2.1=0) (hJ:(jn s bt 0 (cg s).1).size<=20000) :
 (gE (jn s bt 0 (cg s).1)).2.1=(gE s).2.1/\St.ig (gE (jn s bt 0 (cg s).1)).1=St.ig (gE s).1:=by
 obtain ⟨ts',hL,hT⟩:=Ms hb hne (cg s).1 0 0 eS (J0 h)
 have e:eS++jn s bt 0 (cg s).1=jn s bt 0 (cg s).1:=ByteArray.empty_append
 rw [e] at hL
 have hL:Lx (jn s bt 0 (cg s).1) 0 ts':=hL
 have h2:=spl_lx hJ hL
 have h':(cg (jn s bt 0 (cg s).1)).2.1=0:=by rw [h2]
 refine YQ h h' ?_
 rw [uT h,uT h',h2]
 exact hT.sim
end Go.Proofs.YtelpmhfdbdihfaaGreatDoor
namespace Go.Proofs.YtelpmhfdbdihfaaGreatDoor
open Go.aT
set_option maxRecDepth 100000
def OB (s:ByteArray) (i:Nat) (t:Tok):Prop:=t.at_=(i:Int)/\(t.kind=2->fB pG t.text=true)/\(t.kind=5->fB eW t.text=true)
theorem Sg (s:ByteArray) (a:Nat):∀ n,(l9 s a n).er=0->OB s a (l9 s a n).t
 | 0,h=>by cases h
 | n + 1, h => by
   unfold l9 at h ⊢
   split at h
   . rename_i h1
     rw [if_pos h1]
     exact ⟨rfl,fun h=>(by cases h),fun _=>h1.2⟩
   . rename_i h1
     rw [if_neg h1]
     exact Sg s a n h
theorem tokT_g (s:ByteArray) (a:Nat) (h:(bS s a).er=0):OB s a (bS s a).t:=by
 unfold bS at h ⊢
 split
 . unfold j9
   split
   . rename_i h2
     exact ⟨rfl,fun _=>h2,fun h=>(by cases h)⟩
   . split
     . exact ⟨rfl,fun h=>(by cases h),fun h=>(by cases h)⟩
     . exact ⟨rfl,fun h=>(by cases h),fun h=>(by cases h)⟩
 . rename_i h1
   rw [if_neg h1] at h
   split
   . unfold l8
     split
     . exact ⟨rfl,fun h=>(by cases h),fun h=>(by cases h)⟩
     . split
       . exact ⟨rfl,fun h=>(by cases h),fun h=>(by cases h)⟩
       . exact ⟨rfl,fun h=>(by cases h),fun h=>(by cases h)⟩
   . rename_i h2
     rw [if_neg h2] at h
     split
     . unfold nA
       split
       . exact ⟨rfl,fun h=>(by cases h),fun h=>(by cases h)⟩
       . split
         . exact ⟨rfl,fun h=>(by cases h),fun h=>(by cases h)⟩
         . exact ⟨rfl,fun h=>(by cases h),fun h=>(by cases h)⟩
     . rename_i h3
       rw [if_neg h3] at h
       exact Sg s a 2 h
theorem Dm (s : ByteArray) : ∀ (k i : Nat), ∀ t ∈ (bL s k i).1, ∃ j, j < s.size ∧ OB s j t
 | 0,i,t,ht=>by cases ht
 | k + 1, i, t, ht => by
   unfold bL at ht
   split at ht
   . rename_i hlt
     split at ht
     . exact Dm s k _ t ht
     . split at ht
       . exact Dm s k _ t ht
       . split at ht
         . cases ht
         . rename_i he
           have he:(bS s i).er=0:=by simpa using he
           rcases List.mem_cons.1 ht with rfl | h
           . exact ⟨i,hlt,tokT_g s i he⟩
           . exact Dm s k _ t h
   . cases ht
theorem tks_g (s:ByteArray):∀ t∈tks s,∃ j,j<s.size/\OB s j t:=by
 intro t ht
 have ht:t∈kI (cg s):=ht
 unfold kI cg at ht
 by_cases h:20000<s.size
 . rw [if_pos h] at ht
   split at ht
   . cases ht
   . cases ht
 . rw [if_neg h] at ht
   split at ht
   . exact Dm s _ _ t ht
   . cases ht
theorem Sh (s:ByteArray) (hs:s.size<=1000000):iB s (tks s):=by
 refine ⟨hs,fun t ht=>?_⟩
 obtain ⟨j,hj,h1,_⟩:=tks_g s t ht
 rw [h1]
 omega
end Go.Proofs.YtelpmhfdbdihfaaGreatDoor
