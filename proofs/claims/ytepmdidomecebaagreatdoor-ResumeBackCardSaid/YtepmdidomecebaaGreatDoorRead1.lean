/- Reading words: what the reader reads, in plain terms. -/
import Derived.Test.YtepmdidomecebaaGreatDoorWord0
import Derived.Test.YtepmdidomecebaaGreatDoorLoom4
namespace Go.Proofs.YtepmdidomecebaaGreatDoor
open Go.aJ Go.Words
set_option maxRecDepth 100000
theorem nk {l:List Int} {i:Nat} {x:Int} {r:List Int} (h:l.drop i=x::r):i<l.length/\l.getD i 0=x/\l.drop (i+1)=r:=by
 have hl:i<l.length:=by
  rcases Nat.lt_or_ge i l.length with h1 | h1
  . exact h1
  . rw [List.drop_eq_nil_of_le h1] at h;cases h
 rw [iA hl] at h;injection h with h1 h2
 exact ⟨hl,h1,h2⟩
theorem vK {l:List Int} {i:Nat} (h:l.drop i=[]):¬ i<l.length:=by
 have:=List.drop_eq_nil_iff.1 h;omega
def iB (c:Int):Bool:=decide (48<=c)&&decide (c<=57)
theorem Gn {c:Int} (h:48<=c/\c<=57):iB c=true:=by simp [iB,h]
theorem sG {c:Int} (h:iB c=true):48<=c/\c<=57:=by
 unfold iB at h;simpa using h
def bn (l:List Int) (i:Nat):Nat:=if i<l.length/\l.getD i 0=32 then bn l (i+1) else i
 termination_by l.length-i
 decreasing_by omega
def fk (l:List Int) (i:Nat):Nat:=if i<l.length/\iB (l.getD i 0)=true then fk l (i+1) else i
 termination_by l.length-i
 decreasing_by omega
theorem yc {l:List Int} {i:Nat} (h:i<l.length/\l.getD i 0=32):bn l i=bn l (i+1):=by rw [bn,if_pos h]
theorem mO {l:List Int} {i:Nat} (h:¬ (i<l.length/\l.getD i 0=32)):bn l i=i:=by rw [bn,if_neg h]
theorem oI {l:List Int} {i:Nat} (h:i<l.length/\iB (l.getD i 0)=true):fk l i=fk l (i+1):=by rw [fk,if_pos h]
theorem qQ {l:List Int} {i:Nat} (h:¬ (i<l.length/\iB (l.getD i 0)=true)):fk l i=i:=by rw [fk,if_neg h]
theorem mP (l:List Int):∀ (m i:Nat),m=l.length-i->i<=l.length->i<=bn l i/\bn l i<=l.length
 | m,i,hm,hi=>by
   by_cases h:i<l.length/\l.getD i 0=32
   . rw [yc h];cases m with
     | zero=>omega
     | succ m=>have:=mP l m (i+1) (by omega) (by omega);omega
   . rw [mO h];omega
theorem Cw (l:List Int):∀ (m i:Nat),m=l.length-i->¬ (bn l i<l.length/\l.getD (bn l i) 0=32)
 | m,i,hm=>by
   by_cases h:i<l.length/\l.getD i 0=32
   . rw [yc h];cases m with
     | zero=>omega
     | succ m=>exact Cw l m (i+1) (by omega)
   . rw [mO h];exact h
theorem mq (l:List Int) (i:Nat):bn l (bn l i)=bn l i:=mO (Cw l _ i rfl)
theorem D5 (l:List Int):∀ (m i:Nat),m=l.length-i->i<=l.length->i<=fk l i/\fk l i<=l.length
 | m,i,hm,hi=>by
   by_cases h:i<l.length/\iB (l.getD i 0)=true
   . rw [oI h];cases m with
     | zero=>omega
     | succ m=>have:=D5 l m (i+1) (by omega) (by omega);omega
   . rw [qQ h];omega
def bV (l:List Int) (c:Int) (i:Nat):Bool:=decide (bn l i<l.length/\l.getD (bn l i) 0=c)
def bR (l:List Int) (c:Int) (i:Nat):Nat:=if bV l c i=true then bn l i+1 else bn l i
def o8 (l:List Int) (k:Nat):Bool:=decide (k<fk l k/\fk l k<=k+4/\¬ (k+1<fk l k/\l.getD k 0=48))
def num (l:List Int):Int:=l.foldl (fun v c=>v*10+(c-48)) 0
def gN (l:List Int) (k:Nat):Int:=num ((l.drop k).take (fk l k-k))
abbrev nu:=Nat->Option (List Int×Nat)
def oJ (item:nu) (l:List Int):nu:=fun i=>match item i with
 | none=>none
 | some (w,j)=>if 4000<w.length then none else if bV l 94 j=true then
  (if o8 l (bR l 45 (bR l 94 j))=true then
   (if 4000<gN l (bR l 45 (bR l 94 j))*w.length then none else some (pw (if bV l 45 (bR l 94 j)=true then eH w else w) (gN l (bR l 45 (bR l 94 j))).toNat,fk l (bR l 45 (bR l 94 j)))) else none)
   else some (w,bR l 94 j)
def lP (Ro:nu) (l:List Int):Nat->List Int->nu
 | 0,_,_=>none
 | m+1,acc,i=>match Ro (bn l i) with
   | none=>none
   | some (w,j)=>if 4000<(acc++w).length then none else if bV l 42 j=true then lP Ro l m (acc++w) (bR l 42 j) else some (acc++w,bR l 42 j)
def endP (l:List Int) (c:Int) (r:Option (List Int×Nat)):Option (List Int×Nat):=match r with
 | none=>none
 | some (w,k)=>if bV l c k=true then some (w,bR l c k) else none
def rJ (word:nu) (l:List Int):nu:=fun i=>match endP l 44 (word i) with
 | none=>none
 | some (x,k)=>match word k with
   | none=>none
   | some (y,j)=>some (eH x++eH y++x++y,j)
def qk (g:Int) (l:List Int):nu:=fun i=>if bV l 49 i=true then some ([],bR l 49 i) else
 if bn l i<l.length/\97<=l.getD (bn l i) 0/\l.getD (bn l i) 0-97<g then some ([l.getD (bn l i) 0-96],bn l i+1) else none
def gY (g:Int) (l:List Int):Nat->nu
 | 0,i=>if bV l 40 i=true∨bV l 91 i=true then none else qk g l i
 | d+1,i=>if bV l 40 i=true then endP l 41 (lP (oJ (gY g l d) l) l (l.length+1) [] (bn l i+1))
  else if bV l 91 i=true then endP l 93 (rJ (lP (oJ (gY g l d) l) l (l.length+1) []) l (bn l i+1))
  else qk g l i
def dG (g:Int) (l:List Int) (d:Nat):nu:=lP (oJ (gY g l d) l) l (l.length+1) []
def gj (g:Int) (l:List Int):Option (List Int):=match dG g l 50 0 with
 | none=>none
 | some (w,j)=>if bn l j<l.length then none else some w
def Cx (r:List Int):Prop:=r.head?≠some 32/\r.head?≠some 94/\∀ t,r.head? = some t->iB t=false
theorem uq {l:List Int} {i:Nat} {r:List Int} (h:l.drop i=r) (hr:r.head?≠some 32):bn l i=i:=by
 cases r with
 | nil=>have h1:=vK h;exact mO (by omega)
 | cons t r =>
   obtain ⟨a1,a2,a3⟩:=nk h;exact mO (by rintro ⟨_,h4⟩;rw [a2] at h4;simp [h4] at hr)
theorem rK {l:List Int} {i:Nat} {c:Int} {r:List Int} (h:l.drop i=c::r) (hc:c≠32):bn l i=i/\bV l c i=true/\bR l c i=i+1/\l.drop (i+1)=r:=by
 obtain ⟨a1,a2,a3⟩:=nk h;have h2:=uq h (by simpa using hc);have h3:bV l c i=true:=by unfold bV;rw [h2,a2];simp [a1]
 exact ⟨h2,h3,by unfold bR;rw [h3,if_pos rfl,h2],a3⟩
theorem kL {l:List Int} {i:Nat} {r:List Int} (c:Int) (h:l.drop i=r) (hr:r.head?≠some 32) (hc:r.head?≠some c):bV l c i=false/\bR l c i=i:=by
 have h2:=uq h hr;have h3:bV l c i=false:=by
  unfold bV;rw [h2];cases r with
  | nil=>have:=vK h;simp [this]
  | cons t r =>
    obtain ⟨a1,a2,a3⟩:=nk h;rw [a2];simp only [decide_eq_false_iff_not,not_and];intro _ h4;simp [h4] at hc
 exact ⟨h3,by unfold bR;rw [h3,if_neg (by simp),h2]⟩
def oK (x:Nat):List Int:=if x<10 then [48+(x:Int)] else [48+((x / 10:Nat):Int),48+((x % 10:Nat):Int)]
theorem Rp (x:Nat) (hx:x<100) (r:List Int):∃ t,(oK x++r).head? = some t/\48<=t/\t<=57:=by
 unfold oK;split
 . exact ⟨_,rfl,by omega,by omega⟩
 . exact ⟨_,rfl,by omega,by omega⟩
theorem Im {l:List Int} {i:Nat} {r:List Int} (h:l.drop i=r) (hr:∀ t,r.head? = some t->iB t=false):fk l i=i:=by
 cases r with
 | nil=>have:=vK h;exact qQ (by omega)
 | cons t r =>
   obtain ⟨a1,a2,a3⟩:=nk h;exact qQ (by rw [a2,hr t rfl];simp)
theorem Io {l:List Int} {i x:Nat} {r:List Int} (hx:x<100) (hr:∀ t,r.head? = some t->iB t=false) (h:l.drop i=oK x++r) :
 fk l i=i+(oK x).length/\gN l i=x/\o8 l i=true/\l.drop (i+(oK x).length)=r:=by
 unfold o8 gN;unfold oK at h ⊢;split at h
 . rename_i h10;rw [if_pos h10];obtain ⟨a1,a2,a3⟩:=nk h;have d1:iB (l.getD i 0)=true:=by rw [a2];exact Gn (by omega)
   have e1:fk l i=i+1:=by rw [oI ⟨a1,d1⟩,Im a3 hr]
   refine ⟨e1,?_,by rw [e1];simp,a3⟩;rw [h,e1,show i+1-i=1 by omega];simp [num];omega
 . rename_i h10;rw [if_neg h10];obtain ⟨a1,a2,a3⟩:=nk h;obtain ⟨b1,b2,b3⟩:=nk a3;have d1:iB (l.getD i 0)=true:=by rw [a2];exact Gn (by omega)
   have d2:iB (l.getD (i+1) 0)=true:=by rw [b2];exact Gn (by omega)
   have e1:fk l i=i+2:=by rw [oI ⟨a1,d1⟩,oI ⟨b1,d2⟩,Im b3 hr]
   refine ⟨e1,?_,?_,b3⟩
   . rw [h,e1,show i+2-i=2 by omega];simp [num];omega
   . rw [e1,a2];simp;omega
def gC (x:Int):List Int->Nat
 | []=>0
 | y::l=>if y=x then gC x l+1 else 0
theorem yd (x:Int):∀ l:List Int,gC x l<=l.length
 | []=>Nat.le_refl _
 | y::l=>by
   have:=yd x l;unfold gC;split <;> simp <;> omega
theorem Aq (x:Int):∀ l:List Int,l.take (gC x l)=List.replicate (gC x l) x
 | []=>rfl
 | y :: l => by
   unfold gC;split
   . rename_i h;subst h;rw [List.take_succ_cons,Aq,List.replicate_succ]
   . rfl
def dD:List Int->List (List Int)
 | []=>[]
 | x::l=>[x,((gC x l+1:Nat):Int)]::dD (l.drop (gC x l))
 termination_by l=>l.length
 decreasing_by simp;omega
def jP (x:Int) (n:Nat):List Int:=(96+(x.natAbs:Int))::(if x<0 then 94::45::oK n else if 1<n then 94::oK n else [])
def pY (y:List Int):List Int:=jP (y.getD 0 0) (y.getD 1 0).toNat
def jH:List (List Int)->List Int
 | []=>[]
 | [p]=>p
 | p::q::r=>p++42::jH (q::r)
def o9 (a:List Int):List Int:=if a=[] then [49] else jH ((dD a).map pY)
def pq:List (List Int)->List Int
 | []=>[]
 | y::l=>List.replicate (y.getD 1 0).toNat (y.getD 0 0)++pq l
def Cy (g:Int) (y:List Int):Prop:=∃ (x:Int) (n:Nat),y=[x,(n:Int)]/\x≠0/\(x.natAbs:Int)<=g/\1<=n/\n<100
def gq (g:Int) (a:List Int):Prop:=∀ x∈a,x≠0/\(x.natAbs:Int)<=g
theorem ny {g:Int}:∀ (n:Nat) (a:List Int),a.length<=n->n<100->gq g a->∀ y∈dD a,Cy g y
 | _,[],_,_,_,y,hy=>by rw [dD] at hy;cases hy
 | 0,x::l,h,_,_,_,_=>by simp at h
 | n + 1, x :: l, h, hn, hg, y, hy => by
   have hl:=yd x l;simp only [List.length_cons] at h;rw [dD] at hy;rcases List.mem_cons.1 hy with rfl | hy
   . obtain ⟨h1,h2⟩:=hg x (by simp);exact ⟨x,_,rfl,h1,h2,by omega,by omega⟩
   . exact ny n _ (by simp;omega) (by omega) (fun z hz=>hg z (by simp [List.mem_of_mem_drop hz])) y hy
theorem Fo:∀ (n:Nat) (a:List Int),a.length<=n->pq (dD a)=a
 | _,[],_=>by rw [dD];rfl
 | 0,x::l,h=>by simp at h
 | n+1,x::l,h=>by
   simp only [List.length_cons] at h;rw [dD,pq,Fo n _ (by simp;omega)];show List.replicate ((gC x l+1:Nat):Int).toNat x++_=_;rw [Int.toNat_natCast,List.replicate_succ,List.cons_append,<-Aq,List.take_append_drop]
theorem LJ {a:List Int} (h:a≠[]):dD a≠[]:=by
 cases a with
 | nil=>exact absurd rfl h
 | cons x l=>rw [dD];simp
theorem jD:∀ ys:List (List Int),ys.length<=(jH (ys.map pY)).length
 | []=>Nat.le_refl _
 | [y]=>by simp [jH,pY,jP]
 | y::z::r=>by
   have:=jD (z::r);simp only [List.map_cons,jH,List.length_append,List.length_cons] at this ⊢;omega
theorem Ip (x:Int):∀ n:Nat,pw [x] n=List.replicate n x
 | 0=>rfl
 | n+1=>by rw [pw,Ip x n];rfl
theorem Rq {x:Int} (h:0<=x/\x<=1000):eH [x]=[-x]:=by
 simp only [eH,List.map_cons,List.map_nil,List.reverse_cons,List.reverse_nil,List.nil_append];rw [wrap64 (by omega) (by omega),Int.zero_sub]
theorem Vb {l:List Int} {i:Nat} {g x:Int} {r:List Int} (_hg:g<=16) (hx:x≠0/\(x.natAbs:Int)<=g) (h:l.drop i=(96+(x.natAbs:Int))::r) (d:Nat):gY g l d i=some ([(x.natAbs:Int)],i+1)/\l.drop (i+1)=r:=by
 obtain ⟨a1,a2,a3⟩:=nk h;have XH:96+(x.natAbs:Int)≠32:=by omega
 have s1:=uq h (by simpa using XH);have s4:=(kL 40 h (by simpa using XH) (by simp;omega)).1;have s5:=(kL 91 h (by simpa using XH) (by simp;omega)).1;have s6:=(kL 49 h (by simpa using XH) (by simp;omega)).1;have e:qk g l i=some ([(x.natAbs:Int)],i+1):=by
  unfold qk;rw [s6,if_neg (by simp),s1,a2,if_pos ⟨a1,by omega,by omega⟩,show 96+(x.natAbs:Int)-96=x.natAbs by omega]
 refine ⟨?_,a3⟩;cases d with
 | zero=>rw [gY,s4,s5,e];simp
 | succ d=>rw [gY,s4,s5,e];simp
theorem Iq {l:List Int} {i:Nat} {g x:Int} {n:Nat} {r:List Int} (hg:g<=16) (hx:x≠0/\(x.natAbs:Int)<=g) (hn:1<=n/\n<100) (hr:Cx r) (h:l.drop i=jP x n++r) (d:Nat):∃ j,oJ (gY g l d) l i=some (List.replicate n x,j)/\l.drop j=r:=by
 unfold jP at h;rw [List.cons_append] at h;obtain ⟨e1,e2⟩:=Vb hg hx h d;unfold oJ;rw [e1];dsimp only;rw [if_neg (by simp)];by_cases hneg:x<0
 . rw [if_pos hneg] at e2;simp only [List.cons_append] at e2;obtain ⟨_,b2,b3,c0⟩:=rK e2 (by decide);obtain ⟨_,c2,c3,d0⟩:=rK c0 (by decide);obtain ⟨f1,f2,f3,f4⟩:=Io hn.2 hr.2.2 d0;rw [b2,if_pos rfl,b3,c2,c3,f3,if_pos rfl,f2,if_neg (by simp;omega),if_pos rfl,f1,Rq (by omega),Ip,Int.toNat_natCast,show -(x.natAbs:Int)=x by omega];exact ⟨_,rfl,f4⟩
 . rw [if_neg hneg] at e2;have hxa:(x.natAbs:Int)=x:=by omega
   by_cases h1:1<n
   . rw [if_pos h1,List.cons_append] at e2;obtain ⟨_,b2,b3,c0⟩:=rK e2 (by decide);obtain ⟨t,ht,Lq,ht2⟩:=Rp n hn.2 r;obtain ⟨c2,c3⟩:=kL 45 c0 (by rw [ht];simp;omega) (by rw [ht];simp;omega);obtain ⟨f1,f2,f3,f4⟩:=Io hn.2 hr.2.2 c0;rw [b2,if_pos rfl,b3,c2,c3,f3,if_pos rfl,f2,if_neg (by simp;omega),if_neg (by simp),f1,Ip,Int.toNat_natCast,hxa];exact ⟨_,rfl,f4⟩
   . rw [if_neg h1,List.nil_append] at e2;obtain ⟨b2,b3⟩:=kL 94 e2 hr.1 hr.2.1;rw [b2,if_neg (by simp),b3,hxa,show n=1 by omega];exact ⟨_,rfl,e2⟩
theorem Cz (x:Int) (n:Nat) (r:List Int):(jP x n++r).head? = some (96+(x.natAbs:Int)):=rfl
theorem Fp {l:List Int} {g:Int} (hg:g<=16) (d:Nat):∀ (ys:List (List Int)) (m i:Nat) (acc r:List Int),ys≠[]->ys.length<=m->(∀ y∈ys,Cy g y)->(acc++pq ys).length<=4000->Cx r->r.head?≠some 42->l.drop i=jH (ys.map pY)++r->
 ∃ j,lP (oJ (gY g l d) l) l m acc i=some (acc++pq ys,j)/\l.drop j=r
 | [],_,_,_,_,h,_,_,_,_,_,_=>absurd rfl h
 | y::ys,0,_,_,_,_,h,_,_,_,_,_=>by simp at h
 | [y],m+1,i,acc,r,_,_,hy,hl,hr,Fq,h=>by
   obtain ⟨x,n,rfl,hx0,hxg,hn1,hn2⟩:=hy y (by simp);have h':l.drop i=jP x n++r:=h;have s1:=uq h' (by rw [Cz];simp;omega);obtain ⟨j,e1,e2⟩:=Iq hg ⟨hx0,hxg⟩ ⟨hn1,hn2⟩ hr h' d;obtain ⟨b2,b3⟩:=kL 42 e2 hr.1 Fq;have hf:pq [[x,(n:Int)]]=List.replicate n x:=by simp [pq]
   rw [hf] at hl ⊢;rw [lP,s1,e1];dsimp only;rw [if_neg (by omega),b2,if_neg (by simp),b3];exact ⟨_,rfl,e2⟩
 | y::z::ys,m+1,i,acc,r,_,hm,hy,hl,hr,Fq,h=>by
   obtain ⟨x,n,rfl,hx0,hxg,hn1,hn2⟩:=hy y (by simp);have h':l.drop i=jP x n++(42::(jH ((z::ys).map pY)++r)):=by
    rw [h];simp [jH,pY]
   have s1:=uq h' (by rw [Cz];simp;omega);obtain ⟨j,e1,e2⟩:=Iq hg ⟨hx0,hxg⟩ ⟨hn1,hn2⟩ ⟨by simp,by simp,by simp [iB]⟩ h' d;obtain ⟨_,b2,b3,e5⟩:=rK e2 (by decide);have hf:pq ([x,(n:Int)]::z::ys)=List.replicate n x++pq (z::ys):=by simp [pq]
   rw [hf,<-List.append_assoc] at hl ⊢;obtain ⟨k,k1,k2⟩:=Fp hg d (z::ys) m (j+1) (acc++List.replicate n x) r (by simp) (by simpa using hm) (fun y hy'=>hy y (by simp [hy'])) hl hr Fq e5;rw [lP,s1,e1];dsimp only;rw [if_neg (by rw [List.length_append] at hl;omega),b2,if_pos rfl,b3];exact ⟨k,k1,k2⟩
theorem Vc {l:List Int} {g:Int} (d m i:Nat) {r:List Int} (hr:Cx r) (Fq:r.head?≠some 42) (h:l.drop i=49::r):∃ j,lP (oJ (gY g l d) l) l (m+1) [] i=some ([],j)/\l.drop j=r:=by
 obtain ⟨s1,s2,s3,a3⟩:=rK h (by decide);have s4:=(kL 40 h (by simp) (by simp)).1;have s5:=(kL 91 h (by simp) (by simp)).1;have e:qk g l i=some ([],i+1):=by
  unfold qk;rw [s2,s3,if_pos rfl]
 have e2:gY g l d i=some ([],i+1):=by
  cases d with
  | zero=>rw [gY,s4,s5,e];simp
  | succ d=>rw [gY,s4,s5,e];simp
 obtain ⟨b2,b3⟩:=kL 94 a3 hr.1 hr.2.1;obtain ⟨c2,c3⟩:=kL 42 a3 hr.1 Fq;have e3:oJ (gY g l d) l i=some ([],i+1):=by
  unfold oJ;rw [e2];dsimp only;rw [if_neg (by simp),b2,if_neg (by simp),b3]
 rw [lP,s1,e3];dsimp only;rw [if_neg (by simp),c2,if_neg (by simp),c3];exact ⟨_,rfl,a3⟩
theorem Rt {l:List Int} {g:Int} (hg:g<=16) (d i:Nat) {a r:List Int} (ha:gq g a) (hl:a.length<100) (hr:Cx r) (Fq:r.head?≠some 42) (h:l.drop i=o9 a++r):∃ j,dG g l d i=some (a,j)/\l.drop j=r:=by
 unfold o9 at h;by_cases ha0:a=[]
 . rw [if_pos ha0] at h;subst ha0;exact Vc d _ i hr Fq h
 . rw [if_neg ha0] at h;have hf:=Fo _ a (Nat.le_refl _);have:=jD (dD a);have hll:(l.drop i).length=_:=congrArg List.length h;rw [List.length_drop,List.length_append] at hll;obtain ⟨j,e1,e2⟩:=Fp hg d (dD a) (l.length+1) i [] r (LJ ha0) (by omega) (ny _ a (Nat.le_refl _) hl ha) (by rw [hf];simp;omega) hr Fq h;rw [hf] at e1;exact ⟨j,e1,e2⟩
theorem Vd:Cx []:=⟨by simp,by simp,by simp⟩
theorem Ru {l:List Int} {j:Nat} (h:l.drop j=[]):¬ bn l j<l.length:=by
 have h1:=vK h;rw [mO (by omega)];omega
theorem N9 {g:Int} (hg:g<=16) {a:List Int} (ha:gq g a) (hl:a.length<100):gj g (o9 a)=some a:=by
 obtain ⟨j,e1,e2⟩:=Rt (l:=o9 a) hg 50 0 ha hl Vd (by simp) (by simp);unfold gj;rw [e1];dsimp only;rw [if_neg (Ru e2)]
theorem aW (s:ByteArray):(af s).length=s.size:=by simp [af]
theorem kM (s:ByteArray) (i:Nat):jK s i=(af s).getD i 0:=by
 unfold jK af;rw [List.getD_eq_getElem?_getD,List.getD_eq_getElem?_getD,List.getElem?_map];cases s.data.toList[i]? <;> rfl
theorem uQ (s:ByteArray) (i:Nat):0<=(af s).getD i 0/\(af s).getD i 0<256:=by
 rw [<-kM];unfold jK;have:=(s.data.toList.getD i 0).toNat_lt;omega
theorem Oa {n:Int} (h1:0<=n) (h2:n<=255):IntKind.u8.wrap n=n:=IntWalk.u8_in n ⟨h1,h2⟩
abbrev dw (s:ByteArray) (i o g:Int):Ob:=⟨223,[.c (.str s),.c (.int .i64 i),.c (.int .i64 o),.c (.int .i64 g)]⟩
def A9:Ob->Option (ByteArray×Int×Int×Int)
 | ⟨ty,[.c (.str s),.c (.int k i),.c (.int k' o),.c (.int k'' g)]⟩=>bif Nat.beq ty 223 then (if k=.i64/\k'=.i64/\k''=.i64 then some (s,i,o,g) else none) else none
 | _=>none
theorem ur {ob:Ob} {s:ByteArray} {i o g:Int} (e:A9 ob=some (s,i,o,g)):ob=dw s i o g:=by
 unfold A9 at e;split at e
 . obtain ⟨hb,e⟩:=ar.aD e;rw [Nat.beq_eq] at hb;subst hb;split at e
   . rename_i h;obtain ⟨rfl,rfl,rfl⟩:=h;cases e;rfl
   . cases e
 . cases e
abbrev qq:A:=.p (.c (.ptr 0 0))
abbrev LK (c:Int):A:=.p (.c (.int .u8 c))
def Ir (g:ByteArray->Int->Int->Int->Cd×A×List Ob):bw:={ refs:=[true],f:=fun args aj=>match args,aj with
 | [.p (.c (.ptr a b))],[o]=>bif Nat.beq a 0&&Nat.beq b 0 then (match A9 o with | some (s,i,o,n)=>some (g s i o n) | none=>none) else none
 | _,_=>none }
def CA (g:Int->ByteArray->Int->Int->Int->Cd×A×List Ob):bw:={ refs:=[true,false],f:=fun args aj=>match args,aj with
 | [.p (.c (.ptr a b)),.p (.c (.int .u8 c))],[o]=>bif Nat.beq a 0&&Nat.beq b 0 then (match A9 o with | some (s,i,o,n)=>some (g c s i o n) | none=>none) else none
 | _,_=>none }
theorem D6 {f:FuncId} {g:ByteArray->Int->Int->Int->Cd×A×List Ob} (he:enters Tryz.prog f=true) (h:∀ s i o n,(g s i o n).1->aT Tryz.prog f [qq] [dw s i o n] (g s i o n).2.1 (g s i o n).2.2):aH Tryz.prog f (Ir g):=by
 refine ⟨he,fun args aj c r aR e hc=>?_⟩;simp only [Ir] at e;split at e
 . obtain ⟨hb,e⟩:=ar.aD e;simp only [Bool.and_eq_true,Nat.beq_eq] at hb;obtain ⟨rfl,rfl⟩:=hb;split at e
   . rename_i s i o n hr;rw [ur hr];have:=h s i o n;injection e with e
     rw [e] at this;exact this hc
   . cases e
 . cases e
theorem Ba {f:FuncId} {g:Int->ByteArray->Int->Int->Int->Cd×A×List Ob} (he:enters Tryz.prog f=true) (h:∀ c s i o n,(g c s i o n).1->aT Tryz.prog f [qq,LK c] [dw s i o n] (g c s i o n).2.1 (g c s i o n).2.2):aH Tryz.prog f (CA g):=by
 refine ⟨he,fun args aj c r aR e hc=>?_⟩;simp only [CA] at e;split at e
 . rename_i c _;obtain ⟨hb,e⟩:=ar.aD e;simp only [Bool.and_eq_true,Nat.beq_eq] at hb;obtain ⟨rfl,rfl⟩:=hb;split at e
   . rename_i s i o n hr;rw [ur hr];have:=h c s i o n;injection e with e
     rw [e] at this;exact this hc
   . cases e
 . cases e
def At (s:ByteArray) (i:Int):Prop:=s.size<=1000000/\0<=i/\i<=s.size
abbrev vL (c:Int) (s:ByteArray) (i:Int):A:=bB (bV (af s) c i.toNat)
theorem toNat_cast {i:Int} (h:0<=i):((i.toNat:Nat):Int)=i:=by omega
noncomputable def sBl:Site:=eB Tryz.prog [] Tryz.f191 1 [([0],[0])]
theorem Ar (s:ByteArray) (hs:s.size<=1000000) (o n:Int):∀ (m i:Nat),m=s.size-i->i<=s.size->
 aq sBl (ax (.aF []) [dw s (bn (af s) i) o n]) [0] (fr [(0,qq)]) (.ofList [⟨223,[.c (.str s),.c (.int .i64 i),.c (.int .i64 o),.c (.int .i64 n)]⟩])
 | m,i,hm,hi=>by
   refine aK ay (by kernel_rfl) 100 ?_;apply of_eq (q:=let q1:=decide ((i:Int)<(s.size:Int));(q1=true->q1=true)/\(q1=true->q1=true)/\(q1=true->q1=true)/\(q1=true->q1=true)/\(q1=true->q1=true)/\(q1=true->q1=true)/\(q1=true->q1=true)/\(q1=true->q1=true)/\(q1=true->(0:Int)<=(i:Int)/\(i:Int)<(s.size:Int))/\(q1=true->q1=true)/\(q1=true->q1=true)/\((bif q1 then decide (jK s i=(32:Int)) else false)=true->aq sBl (ax (A.aF []) [dw s (↑(bn (af s) i):Int) o n]) [0] (fr [(0,A.p (V.c (W.ptr 0 0)))]) (ah.ofList [Ob.mk 223 [Fd.c (W.str s),Fd.c (W.int .i64 (IntKind.i64.wrap ((i:Int)+(1:Int)))),Fd.c (W.int .i64 o),Fd.c (W.int .i64 n)]]))/\((bif q1 then decide (jK s i=(32:Int)) else false)=false->ak []=A.aF []/\[Ob.mk 223 [Fd.c (W.str s),Fd.c (W.int .i64 (i:Int)),Fd.c (W.int .i64 o),Fd.c (W.int .i64 n)]]=[dw s (↑(bn (af s) i):Int) o n])) (by kernel_rfl)
   try simp only [imp_self,true_and,Bool.cond_false_right,Bool.and_eq_true,Bool.and_eq_false_imp,decide_eq_true_eq,decide_eq_false_iff_not]
   simp only [kM];have hl:=aW s;refine ⟨fun h=>by omega,fun h=>?_,fun h=>?_⟩
   . rw [wrap64 (by omega) (by omega),yc (by omega)];cases m with
     | zero=>omega
     | succ m=>exact Ar s hs o n m (i+1) (by omega) (by omega)
   . rw [mO (by omega)];exact ⟨rfl,rfl⟩
theorem Oc (s:ByteArray) (i:Int) (h:At s i) (o n:Int):aT Tryz.prog 191 [qq] [dw s i o n] (.aF []) [dw s (bn (af s) i.toNat) o n]:=by
 obtain ⟨h1,h2,h3⟩:=h;refine bI (live:=[([0],[0])]) ay Tryz.func191 (by kernel_rfl) (keep:=1) rfl (by kernel_rfl) 100 ?_;apply of_eq (q:=aq (eB Tryz.prog [] Tryz.f191 (1:Nat) [([0],[0])]) (ax (A.aF []) [dw s (↑(bn (af s) i.toNat):Int) o n]) [0] (fr [(0,A.p (V.c (W.ptr 0 0)))]) (ah.ofList [Ob.mk 223 [Fd.c (W.str s),Fd.c (W.int .i64 i),Fd.c (W.int .i64 o),Fd.c (W.int .i64 n)]])) (by kernel_rfl);have:=Ar s h1 o n _ i.toNat rfl (by omega);rw [toNat_cast h2] at this;exact this
def uw:bw:=Ir fun s i o n=>(.p (At s i),.aF [],[dw s (bn (af s) i.toNat) o n])
theorem qG:aH Tryz.prog 191 uw:=D6 (by kernel_rfl) fun s i o n h=>Oc s i h o n
theorem ux {s:ByteArray} {i:Int} (h:At s i):At s (bn (af s) i.toNat)/\i.toNat<=bn (af s) i.toNat:=by
 obtain ⟨h1,h2,h3⟩:=h;have:=mP (af s) _ i.toNat rfl (by rw [aW];omega);rw [aW] at this;exact ⟨⟨h1,by omega,by omega⟩,this.1⟩
noncomputable def gSe:bF:=[(191,uw)]
theorem gSe_ok:aS Tryz.prog gSe:=ai qG ay
theorem Ve (c:Int) (s:ByteArray) (i o n:Int) (h:At s i):aT Tryz.prog 220 [qq,LK c] [dw s i o n] (vL c s i) [dw s (bn (af s) i.toNat) o n]:=by
 refine bI (live:=[]) gSe_ok Tryz.func220 (by kernel_rfl) (keep:=1) rfl (by kernel_rfl) 100 ?_;apply of_eq (q:=let q2:=(↑(bn (af s) i.toNat):Int);let q1:=decide (q2<(s.size:Int));At s i/\(q1=true->q1=true)/\(q1=true->q1=true)/\(q1=true->q1=true)/\(q1=true->q1=true)/\(q1=true->q1=true)/\(q1=true->q1=true)/\(q1=true->q1=true)/\(q1=true->q1=true)/\(q1=true->(0:Int)<=q2/\q2<(s.size:Int))/\(q1=true->q1=true)/\(q1=true->q1=true)/\(q1=true->q1=true)/\ak [V.c (W.bool (bif q1 then decide (jK s (bn (af s) i.toNat)=c) else false))]=vL c s i/\[Ob.mk 223 [Fd.c (W.str s),Fd.c (W.int .i64 q2),Fd.c (W.int .i64 o),Fd.c (W.int .i64 n)]]=[dw s q2 o n]) (by kernel_rfl)
 try simp only [imp_self,true_and,and_true,Bool.cond_false_right,decide_eq_true_eq]
 obtain ⟨⟨h1,h2,h3⟩,_⟩:=ux h;refine ⟨h,fun h4=>by omega,?_⟩;show A.p (V.c (W.bool _))=A.p (V.c (W.bool _));congr 3;unfold bV;rw [aW,kM,Bool.eq_iff_iff];simp only [Bool.and_eq_true,decide_eq_true_eq];omega
def Gp:bw:=CA fun c s i o n=>(.p (At s i),vL c s i,[dw s (bn (af s) i.toNat) o n])
theorem Bb:aH Tryz.prog 220 Gp:=Ba (by kernel_rfl) fun c s i o n h=>Ve c s i o n h
noncomputable def gTk:bF:=[(220,Gp)]
theorem gTk_ok:aS Tryz.prog gTk:=ai Bb ay
theorem oL {l:List Int} {c:Int} {i:Nat} (h:bV l c i=true):bn l i<l.length/\l.getD (bn l i) 0=c:=by
 unfold bV at h;exact of_decide_eq_true h
theorem YN (c:Int) {s:ByteArray} {i:Int} (h:At s i):At s (bR (af s) c i.toNat):=by
 obtain ⟨⟨h1,h2,h3⟩,_⟩:=ux h;unfold bR;split
 . rename_i h4;have:=(oL h4).1;rw [aW] at this;exact ⟨h1,by omega,by omega⟩
 . exact ⟨h1,h2,h3⟩
theorem Rv (c:Int) (s:ByteArray) (i o n:Int) (h:At s i):aT Tryz.prog 211 [qq,LK c] [dw s i o n] (vL c s i) [dw s (bR (af s) c i.toNat) o n]:=by
 refine bI (live:=[]) gTk_ok Tryz.func211 (by kernel_rfl) (keep:=1) rfl (by kernel_rfl) 100 ?_;apply of_eq (q:=At s i/\(bV (af s) c i.toNat=true->ak [V.c (W.bool (bV (af s) c i.toNat))]=vL c s i/\[Ob.mk 223 [Fd.c (W.str s),Fd.c (W.int .i64 (IntKind.i64.wrap ((↑(bn (af s) i.toNat):Int)+(1:Int)))),Fd.c (W.int .i64 o),Fd.c (W.int .i64 n)]]=[dw s (↑(bR (af s) c i.toNat):Int) o n])/\(bV (af s) c i.toNat=false->ak [V.c (W.bool (bV (af s) c i.toNat))]=vL c s i/\[Ob.mk 223 [Fd.c (W.str s),Fd.c (W.int .i64 (↑(bn (af s) i.toNat):Int)),Fd.c (W.int .i64 o),Fd.c (W.int .i64 n)]]=[dw s (↑(bR (af s) c i.toNat):Int) o n])) (by kernel_rfl);obtain ⟨⟨h1,h2,h3⟩,_⟩:=ux h;have h5:=YN c h;unfold At at h5;unfold bR at h5 ⊢;refine ⟨h,fun h6=>⟨rfl,?_⟩,fun h6=>⟨rfl,?_⟩⟩
 . rw [if_pos h6] at h5 ⊢;rw [wrap64 (by omega) (by omega)];rfl
 . rw [if_neg (by rw [h6];simp)]
def uz:bw:=CA fun c s i o n=>(.p (At s i),vL c s i,[dw s (bR (af s) c i.toNat) o n])
theorem pZ:aH Tryz.prog 211 uz:=Ba (by kernel_rfl) fun c s i o n h=>Rv c s i o n h
noncomputable def gWa:bF:=[(211,uz)]
theorem gWa_ok:aS Tryz.prog gWa:=ai pZ ay
theorem Rx (c:Int) (s:ByteArray) (i o n:Int) (h:At s i) (hc:bV (af s) c i.toNat=true):aT Tryz.prog 223 [qq,LK c] [dw s i o n] (.aF []) [dw s (bR (af s) c i.toNat) o n]:=by
 refine bI (live:=[]) gWa_ok Tryz.func223 (by kernel_rfl) (keep:=1) rfl (by kernel_rfl) 100 ?_;apply of_eq (q:=At s i/\((!bV (af s) c i.toNat)=true->False)/\((!bV (af s) c i.toNat)=false->ak []=A.aF []/\[Ob.mk 223 [Fd.c (W.str s),Fd.c (W.int .i64 (↑(bR (af s) c i.toNat):Int)),Fd.c (W.int .i64 o),Fd.c (W.int .i64 n)]]=[dw s (↑(bR (af s) c i.toNat):Int) o n])) (by kernel_rfl)
 try simp only [and_true,Bool.not_eq_true',Bool.not_eq_false']
 exact ⟨h,(fun h1=>by rw [hc] at h1;cases h1),fun _=>rfl⟩
def Iu:bw:=CA fun c s i o n=>(.p (At s i/\bV (af s) c i.toNat=true),.aF [],[dw s (bR (af s) c i.toNat) o n])
theorem Fs:aH Tryz.prog 223 Iu:=Ba (by kernel_rfl) fun c s i o n h=>Rx c s i o n h.1 h.2
theorem Vf (w:List Int) (k:Int) (s:ByteArray) (i o n:Int) (h:w.length<=4000):aT Tryz.prog 209 [qq,aZ w,nI k] [dw s i o n] (aZ w) [dw s i o n]:=by
 refine bI (live:=[]) ay Tryz.func209 (by kernel_rfl) (keep:=1) rfl (by kernel_rfl) 100 ?_;apply of_eq (q:=(decide ((4000:Int)<(w.length:Int))=true->False)/\(decide ((4000:Int)<(w.length:Int))=false->ak [V.c (W.rd (D.int .i64) w)]=aZ w/\[Ob.mk 223 [Fd.c (W.str s),Fd.c (W.int .i64 i),Fd.c (W.int .i64 o),Fd.c (W.int .i64 n)]]=[dw s i o n])) (by kernel_rfl)
 try simp only [and_true,decide_eq_true_eq,decide_eq_false_iff_not,Int.not_lt]
 exact ⟨fun h1=>by omega,fun _=>rfl⟩
theorem Ry (w:List Int) (m:Nat) (k:Int) (s:ByteArray) (i o n:Int) (h:m<=4000/\m<=w.length):aT Tryz.prog 209 [qq,gi 1 m,nI k] [dw s i o n,bp w] (gi 1 m) [dw s i o n,bp w]:=by
 refine bI (live:=[]) ay Tryz.func209 (by kernel_rfl) (keep:=2) rfl (by kernel_rfl) 100 ?_;apply of_eq (q:=(decide ((4000:Int)<(m:Int))=true->False)/\(decide ((4000:Int)<(m:Int))=false->ak [V.c (W.sl ((0:Nat)+(1:Nat)) (0:Nat) m (1:Nat))]=gi (1:Nat) m/\[Ob.mk 223 [Fd.c (W.str s),Fd.c (W.int .i64 i),Fd.c (W.int .i64 o),Fd.c (W.int .i64 n)],Ob.mk 3 [Fd.a 0 (D.int .i64) w]]=[dw s i o n,bp w])) (by kernel_rfl)
 try simp only [and_true,Nat.zero_add,decide_eq_true_eq,decide_eq_false_iff_not,Int.not_lt]
 exact ⟨fun h1=>by omega,fun _=>rfl⟩
def asI:Ob->Option (List Int)
 | ⟨ty,[.a k d l]⟩=>bif Nat.beq ty 3&&Nat.beq k 0 then (if h:d=.int .i64 then some (h▸l:List (D.int .i64).ty) else none) else none
 | _=>none
theorem asI_eq {o:Ob} {l:List Int} (e:asI o=some l):o=bp l:=by
 unfold asI at e;split at e
 . obtain ⟨hb,e⟩:=ar.aD e;simp only [Bool.and_eq_true,Nat.beq_eq] at hb;obtain ⟨rfl,rfl⟩:=hb;split at e
   . rename_i h;subst h;cases e;rfl
   . cases e
 . cases e
def zB:bw:={ refs:=[true,true,false],f:=fun args aj=>match args,aj with
 | [.p (.c (.ptr a b)),.p (.c (.rd (.int .i64) w)),.p (.c (.int .i64 _))],[o]=>bif Nat.beq a 0&&Nat.beq b 0 then (match A9 o with | some (s,i,o,n)=>some (.p (List.length (α:=Int) w<=4000),aZ w,[dw s i o n]) | none=>none) else none
 | [.p (.c (.ptr a b)),.p (.c (.sl x y m z)),.p (.c (.int .i64 _))],[o,o2]=>bif Nat.beq a 0&&(Nat.beq b 0&&(Nat.beq x 1&&(Nat.beq y 0&&Nat.beq z 1))) then (match A9 o,asI o2 with | some (s,i,o,n),some w=>some (.p (m<=4000/\m<=List.length (α:=Int) w),gi 1 m,[dw s i o n,bp w]) | _,_=>none) else none
 | _,_=>none }
theorem CB:aH Tryz.prog 209 zB:=by
 refine ⟨by kernel_rfl,fun args aj c r aR e hc=>?_⟩;simp only [zB] at e;split at e
 . obtain ⟨hb,e⟩:=ar.aD e;simp only [Bool.and_eq_true,Nat.beq_eq] at hb;obtain ⟨rfl,rfl⟩:=hb;split at e
   . rename_i s i o n hr;rw [ur hr];cases e;exact Vf _ _ s i o n hc
   . cases e
 . obtain ⟨hb,e⟩:=ar.aD e;simp only [Bool.and_eq_true,Nat.beq_eq] at hb;obtain ⟨rfl,rfl,rfl,rfl,rfl⟩:=hb;split at e
   . rename_i s i o n w hr hw;rw [ur hr,asI_eq hw];cases e;exact Ry _ _ _ s i o n hc
   . cases e
 . cases e
theorem Bc (l:List Int) (c:Int):num (l++[c])=num l*10+(c-48):=by simp [num]
theorem ye:∀ (k:Nat) (l:List Int),l.length=k->k<=10->(∀ c∈l,iB c=true)->0<=num l/\num l<10 ^ k
 | 0,l,hl,_,_=>by
   have:=List.length_eq_zero_iff.1 hl;subst this;simp [num]
 | k+1,l,hl,hk,hd=>by
   obtain ⟨m,y,rfl⟩:∃ m y,l=m++[y]:=by
    rcases YM (v:=l) with h | h
    . subst h;simp at hl
    . exact h
   have h1:=sG (hd y (by simp));have h2:=ye k m (by simpa using hl) (by omega) fun c hc=>hd c (by simp [hc]);rw [Bc,Int.pow_succ];omega
theorem Iv {s:ByteArray} (hd:∀ c∈af s,iB c=true) {i:Nat} (h:i<s.size):48<=(af s).getD i 0/\(af s).getD i 0<=57:=by
 refine sG (hd _ ?_);have hi:i<(af s).length:=by rw [aW];exact h
 rw [List.getD_eq_getElem?_getD,List.getElem?_eq_getElem hi];exact List.getElem_mem hi
theorem Rz {s:ByteArray} (hd:∀ c∈af s,iB c=true) (hs:s.size<=10) {i:Nat} (h:i<=s.size):0<=num ((af s).take i)/\num ((af s).take i)<10000000000:=by
 have hl:=aW s;have:=ye i ((af s).take i) (by rw [List.length_take];omega) (by omega) fun c hc=>hd c (List.mem_of_mem_take hc);have h2:(10:Int) ^ i<=10 ^ 10:=by
  have:i=0∨i=1∨i=2∨i=3∨i=4∨i=5∨i=6∨i=7∨i=8∨i=9∨i=10:=by omega
  rcases this with rfl | rfl | rfl | rfl | rfl | rfl | rfl | rfl | rfl | rfl | rfl <;> decide
 omega
noncomputable def sAt:Site:=eB Tryz.prog [] Tryz.f162 0 [([0,1,0,1,1,1,0,1,0,1,1],[5,6,47,48,49])]
theorem Ft (s:ByteArray) (hd:∀ c∈af s,iB c=true) (hs:1<=s.size/\s.size<=10):∀ (k i:Nat),k=s.size-i->i<=s.size->
 aq sAt (ax (.aF [.c (.int .i64 (num (af s))),.c .cT]) []) [0,1,0,1,1,1,0,1,0,1,1] (fr [(5,.p (.c (.str s))),(6,nI (num ((af s).take i))),(47,.p (.c (.rd (.int .u8) (af s)))),(48,nI s.size),(49,nI i)]) (.ofList [])
 | k,i,hk,hi=>by
   refine aK ay (by kernel_rfl) 100 ?_;apply of_eq (q:=let q0:=IntKind.i64.wrap;let q1:=(W.int .i64 (num (af s)));let q2:=((af s).getD i (0:Int)-(48:Int));(decide ((i:Int)<(s.size:Int))=true->((0:Int)<=(i:Int)/\(i:Int)<(↑(af s).length:Int))/\i<(af s).length/\(decide ((9:Int)<IntKind.u8.wrap q2)=true->ak [V.c (W.int .i64 (0)),V.c (W.val (Value.iface (212:Nat) (Value.int .i64 (2:Int))))]=A.aF [V.c q1,V.c W.cT]/\([]:List Ob)=[])/\(decide ((9:Int)<IntKind.u8.wrap q2)=false->aq sAt (ax (A.aF [V.c q1,V.c W.cT]) []) [0,1,0,1,1,1,0,1,0,1,1] (fr [(5,A.p (V.c (W.str s))),(6,nI (q0 (q0 (num (List.take i (af s))*(10:Int))+q0 (IntKind.u8.wrap q2)))),(47,A.p (V.c (W.rd (D.int .u8) (af s)))),(48,nI (s.size:Int)),(49,nI (q0 ((i:Int)+(1:Int))))]) (ah.ofList [])))/\(decide ((i:Int)<(s.size:Int))=false->((0:Int)<=(0:Int)/\(0:Int)<(s.size:Int))/\(decide (jK s (0:Nat)=(45:Int))=true->ak [V.c (W.int .i64 (q0 ((0:Int)-num (List.take i (af s))))),V.c W.cT]=A.aF [V.c q1,V.c W.cT]/\([]:List Ob)=[])/\(decide (jK s (0:Nat)=(45:Int))=false->ak [V.c (W.int .i64 (num (List.take i (af s)))),V.c W.cT]=A.aF [V.c q1,V.c W.cT]/\([]:List Ob)=[]))) (by kernel_rfl)
   try simp only [true_and,and_true,decide_eq_true_eq,decide_eq_false_iff_not,Int.not_lt,Int.le_refl]
   have hl:=aW s;have h0:=Iv hd (i:=0) (by omega);rw [kM];refine ⟨fun h=>?_,fun h=>⟨by omega,fun h1=>by omega,fun _=>?_⟩⟩
   . have h1:=Iv hd (i:=i) (by omega);have h2:=Rz hd hs.2 hi;rw [Oa (by omega) (by omega)];refine ⟨by omega,by omega,fun h3=>by omega,fun _=>?_⟩;rw [wrap64 (n:=(af s).getD i 0-48) (by omega) (by omega),wrap64 (n:=num (List.take i (af s))*10) (by omega) (by omega),wrap64 (n:=num (List.take i (af s))*10+_) (by omega) (by omega),wrap64 (n:=(i:Int)+1) (by omega) (by omega),<-Bc,<-x7 (by omega)];cases k with
     | zero=>omega
     | succ k=>exact Ft s hd hs k (i+1) (by omega) (by omega)
   . rw [List.take_of_length_le (by omega)];rfl
theorem Vg (s:ByteArray) (hd:∀ c∈af s,iB c=true) (hs:1<=s.size/\s.size<=10):aT Tryz.prog 162 [.p (.c (.str s))] [] (.aF [.c (.int .i64 (num (af s))),.c .cT]) []:=by
 refine bI (live:=[([0,1,0,1,1,1,0,1,0,1,1],[5,6,47,48,49])]) ay Tryz.func162 (by kernel_rfl) (keep:=0) rfl (by kernel_rfl) 100 ?_;apply of_eq (q:=let q1:=decide (jK s (0:Nat)=(45:Int));let q3:=(s.extract (1:Nat) s.size);let q4:=(W.int .i64 (num (af s)));let q5:=(s.size:Int);let q6:=([0,1,0,1,1,1,0,1,0,1,1],[5,6,47,48,49]);let q2:=decide ((0:Int)<q5);(q2=true->q2=true)/\(q2=true->q2=true)/\((bif q2 then decide (q5<(19:Int)) else false)=true->((0:Int)<=(0:Int)/\(0:Int)<q5)/\(q1=false->q1=false)/\(q1=false->(0:Int)<=(0:Int)/\(0:Int)<q5)/\(q1=false->q1=false)/\(q1=false->q1=false)/\((bif q1 then true else decide (jK s (0:Nat)=(43:Int)))=true->((0:Int)<=(1:Int)/\(1:Int)<=q5/\q5<=q5)/\(decide ((↑q3.size:Int)<(1:Int))=true->ak [V.c (W.int .i64 (0)),V.c (W.val (Value.iface (212:Nat) (Value.int .i64 (2:Int))))]=A.aF [V.c q4,V.c W.cT]/\([]:List Ob)=[])/\(decide ((↑q3.size:Int)<(1:Int))=false->aq (eB Tryz.prog [] Tryz.f162 (0:Nat) [q6]) (ax (A.aF [V.c q4,V.c W.cT]) []) [0,1,0,1,1,1,0,1,0,1,1] (fr [(5,A.p (V.c (W.str s))),(6,nI (0)),(47,A.p (V.c (W.rd (D.int .u8) (af q3)))),(48,nI (↑(af q3).length:Int)),(49,nI (0))]) (ah.ofList [])))/\((bif q1 then true else decide (jK s (0:Nat)=(43:Int)))=false->aq (eB Tryz.prog [] Tryz.f162 (0:Nat) [q6]) (ax (A.aF [V.c q4,V.c W.cT]) []) [0,1,0,1,1,1,0,1,0,1,1] (fr [(5,A.p (V.c (W.str s))),(6,nI (0)),(47,A.p (V.c (W.rd (D.int .u8) (af s)))),(48,nI (↑(af s).length:Int)),(49,nI (0))]) (ah.ofList [])))/\((bif q2 then decide (q5<(19:Int)) else false)=false->False)) (by kernel_rfl)
 try simp only [imp_self,true_and,and_true,Bool.cond_true_left,Bool.cond_false_right,Bool.or_eq_true,Bool.or_eq_false_iff,Bool.and_eq_true,Bool.and_eq_false_imp,decide_eq_true_eq,decide_eq_false_iff_not,Int.not_lt,Int.le_refl]
 have h0:=Iv hd (i:=0) (by omega);rw [kM];refine ⟨fun _=>⟨by omega,fun _=>by omega,fun h=>by omega,fun _=>?_⟩,fun h=>by omega⟩;simp only [aW];have:=Ft s hd hs s.size 0 (by omega) (by omega);exact this
abbrev Iw (s:ByteArray):Prop:=(∀ c∈af s,iB c=true)/\1<=s.size/\s.size<=10
def RB:bw:=jC .str fun s=>(.p (Iw s),.aF [.c (.int .i64 (num (af s))),.c .cT],[])
theorem RD:aH Tryz.prog 162 RB:=fD (by kernel_rfl) fun s h=>Vg s h.1 h.2
noncomputable def gAto:bF:=[(162,RB)]
theorem YO:aS Tryz.prog gAto:=ai RD ay
theorem RE (s:ByteArray) (h:Iw s):aT Tryz.prog 139 [.p (.c (.str s))] [] (.aF [.c (.int .i64 (num (af s))),.c .cT]) []:=by
 refine bI (live:=[]) YO Tryz.func139 (by kernel_rfl) (keep:=0) rfl (by kernel_rfl) 100 ?_;apply of_eq (q:=Iw s/\((!true)=true->False)/\((!true)=false->ak [V.c (W.int .i64 (num (af s))),V.c W.cT]=A.aF [V.c (W.int .i64 (num (af s))),V.c W.cT]/\([]:List Ob)=[])) (by kernel_rfl)
 try simp only [and_true,Bool.not_eq_true',Bool.not_eq_false']
 exact ⟨h,by simp,fun _=>rfl⟩
def Od:bw:=jC .str fun s=>(.p (Iw s),.aF [.c (.int .i64 (num (af s))),.c .cT],[])
theorem Iy:aH Tryz.prog 139 Od:=fD (by kernel_rfl) fun s h=>RE s h
noncomputable def gEx:bF:=[(139,Od)]
theorem RF:aS Tryz.prog gEx:=ai Iy ay
theorem Bd (l:List Int):∀ (m i:Nat),m=l.length-i->∀ k,i<=k->k<fk l i->iB (l.getD k 0)=true
 | m,i,hm,k,hk,hk2=>by
   by_cases h:i<l.length/\iB (l.getD i 0)=true
   . rw [oI h] at hk2;rcases Nat.eq_or_lt_of_le hk with rfl | h3
     . exact h.2
     . cases m with
       | zero=>omega
       | succ m=>exact Bd l m (i+1) (by omega) k (by omega) hk2
   . rw [qQ h] at hk2;omega
noncomputable def sEx:Site:=eB Tryz.prog gEx Tryz.f218 1 [([0,0,1,1],[0,3])]
theorem Iz (s:ByteArray) (hs:s.size<=1000000) (o n:Int) (f:Nat) (hok:o8 (af s) f=true):∀ (m i:Nat),m=s.size-i->i<=s.size->f<=i->fk (af s) i=fk (af s) f->
 aq sEx (ax (nI (gN (af s) f)) [dw s (fk (af s) f) o n]) [0,0,1,1] (fr [(0,qq),(3,nI f)]) (.ofList [⟨223,[.c (.str s),.c (.int .i64 i),.c (.int .i64 o),.c (.int .i64 n)]⟩])
 | m, i, hm, hi, hf, hj => by
   refine aK RF (by kernel_rfl) 100 ?_;apply of_eq (q:=let q1:=(↑(s.extract f i).size:Int);let q2:=decide ((i:Int)<(s.size:Int));let q3:=decide ((48:Int)<=jK s i);let q4:=decide (q1<(1:Int));let q5:=decide ((4:Int)<q1);let q6:=decide ((1:Int)<q1);(q2=true->q2=true)/\(q2=true->q2=true)/\(q2=true->q2=true)/\(q2=true->q2=true)/\(q2=true->q2=true)/\(q2=true->q2=true)/\(q2=true->q2=true)/\(q2=true->q2=true)/\(q2=true->(0:Int)<=(i:Int)/\(i:Int)<(s.size:Int))/\(q2=true->q2=true)/\(q2=true->q2=true)/\((bif q2 then q3 else false)=true->(bif q2 then q3 else false)=true)/\((bif q2 then q3 else false)=true->(bif q2 then q3 else false)=true)/\((bif q2 then q3 else false)=true->(bif q2 then q3 else false)=true)/\((bif q2 then q3 else false)=true->(bif q2 then q3 else false)=true)/\((bif q2 then q3 else false)=true->(bif q2 then q3 else false)=true)/\((bif q2 then q3 else false)=true->(bif q2 then q3 else false)=true)/\((bif q2 then q3 else false)=true->(bif q2 then q3 else false)=true)/\((bif q2 then q3 else false)=true->(bif q2 then q3 else false)=true)/\((bif q2 then q3 else false)=true->(0:Int)<=(i:Int)/\(i:Int)<(s.size:Int))/\((bif q2 then q3 else false)=true->(bif q2 then q3 else false)=true)/\((bif q2 then q3 else false)=true->(bif q2 then q3 else false)=true)/\((bif bif q2 then q3 else false then decide (jK s i<=(57:Int)) else false)=true->aq sEx (ax (nI (gN (af s) f)) [dw s (↑(fk (af s) f):Int) o n]) [0,0,1,1] (fr [(0,A.p (V.c (W.ptr 0 0))),(3,nI (f:Int))]) (ah.ofList [Ob.mk 223 [Fd.c (W.str s),Fd.c (W.int .i64 (IntKind.i64.wrap ((i:Int)+(1:Int)))),Fd.c (W.int .i64 o),Fd.c (W.int .i64 n)]]))/\((bif bif q2 then q3 else false then decide (jK s i<=(57:Int)) else false)=false->((0:Int)<=(f:Int)/\(f:Int)<=(i:Int)/\(i:Int)<=(s.size:Int))/\(q4=false->q4=false)/\(q4=false->q4=false)/\(q4=false->q4=false)/\((bif q4 then true else q5)=false->(bif q4 then true else q5)=false)/\((bif q4 then true else q5)=false->(bif q4 then true else q5)=false)/\((bif q4 then true else q5)=false->(bif q4 then true else q5)=false)/\((bif q4 then true else q5)=false/\q6=true->(bif q4 then true else q5)=false/\q6=true)/\((bif q4 then true else q5)=false/\q6=true->(0:Int)<=(0:Int)/\(0:Int)<q1)/\((bif q4 then true else q5)=false/\q6=true->(bif q4 then true else q5)=false/\q6=true)/\((bif q4 then true else q5)=false->(bif q4 then true else q5)=false)/\((bif q4 then true else q5)=false->q6=true->(bif q4 then true else q5)=false/\q6=true)/\((bif q4 then true else q5)=false->(bif q4 then true else q5)=false)/\((bif bif q4 then true else q5 then true else bif q6 then decide (jK (s.extract f i) (0:Nat)=(48:Int)) else false)=true->False)/\((bif bif q4 then true else q5 then true else bif q6 then decide (jK (s.extract f i) (0:Nat)=(48:Int)) else false)=false->Iw (s.extract f i)/\ak [V.c (W.int .i64 (num (af (s.extract f i))))]=nI (gN (af s) f)/\[Ob.mk 223 [Fd.c (W.str s),Fd.c (W.int .i64 (i:Int)),Fd.c (W.int .i64 o),Fd.c (W.int .i64 n)]]=[dw s (↑(fk (af s) f):Int) o n]))) (by kernel_rfl)
   try simp only [imp_self,true_and,Bool.cond_true_left,Bool.cond_false_right,Bool.or_eq_true,Bool.or_eq_false_iff,Bool.and_eq_true,Bool.and_eq_false_imp,decide_eq_true_eq,decide_eq_false_iff_not,Int.not_lt,Int.not_le,Int.le_refl]
   simp only [kM];have hl:=aW s;refine ⟨fun h=>by omega,fun h=>by omega,fun h=>?_,fun h=>?_⟩
   . have hd:iB ((af s).getD i 0)=true:=Gn ⟨h.1.2,h.2⟩;rw [wrap64 (by omega) (by omega)];cases m with
     | zero=>omega
     | succ m=>exact Iz s hs o n f hok m (i+1) (by omega) (by omega) (by omega) (by rw [<-oI ⟨by omega,hd⟩];exact hj)
   . have hnd:¬ (i<(af s).length/\iB ((af s).getD i 0)=true):=by
      rintro ⟨h1,h2⟩;have:=sG h2;have:=h ⟨by omega,this.1⟩;omega
     rw [qQ hnd] at hj;have hok':=hok;unfold o8 at hok';have ho:=of_decide_eq_true hok';rw [<-hj] at ho;have hsz:(s.extract f i).size=i-f:=by rw [ByteArray.size_extract];omega
     have hby:af (s.extract f i)=((af s).drop f).take (i-f):=by
      unfold af;rw [ByteArray.data_extract,Array.toList_extract,List.extract_eq_take_drop,List.map_take,List.map_drop]
     have QK:∀ c∈af (s.extract f i),iB c=true:=by
      rw [hby];intro c hc;obtain ⟨k,hk,rfl⟩:=List.mem_iff_getElem.1 hc;rw [List.length_take,List.length_drop] at hk;rw [List.getElem_take,List.getElem_drop];have:=Bd (af s) _ f rfl (f+k) (by omega) (by rw [<-hj];omega);rw [List.getD_eq_getElem?_getD,List.getElem?_eq_getElem (by omega)] at this;exact this
     have h0:1<i-f->(af (s.extract f i)).getD 0 0≠48:=by
      intro h1 h2;rw [hby,List.getD_eq_getElem?_getD,List.getElem?_take_of_lt (by omega),List.getElem?_drop,Nat.add_zero,<-List.getD_eq_getElem?_getD] at h2;exact ho.2.2 ⟨by omega,h2⟩
     rw [hsz];refine ⟨by omega,fun _=>by omega,fun _ _=>by omega,fun h1=>?_,fun h1=>⟨⟨QK,by omega,by omega⟩,?_,?_⟩⟩
     . rcases h1 with h1 | h1
       . omega
       . exact h0 (by omega) h1.2
     . unfold gN;rw [<-hj,hby];rfl
     . rw [<-hj]
theorem IB (s:ByteArray) (i o n:Int) (h:At s i) (hok:o8 (af s) i.toNat=true):aT Tryz.prog 218 [qq] [dw s i o n] (nI (gN (af s) i.toNat)) [dw s (fk (af s) i.toNat) o n]:=by
 refine bI (live:=[([0,0,1,1],[0,3])]) RF Tryz.func218 (by kernel_rfl) (keep:=1) rfl (by kernel_rfl) 100 ?_;apply of_eq (q:=aq (eB Tryz.prog gEx Tryz.f218 (1:Nat) [([0,0,1,1],[0,3])]) (ax (nI (gN (af s) i.toNat)) [dw s (↑(fk (af s) i.toNat):Int) o n]) [0,0,1,1] (fr [(0,A.p (V.c (W.ptr 0 0))),(3,nI i)]) (ah.ofList [Ob.mk 223 [Fd.c (W.str s),Fd.c (W.int .i64 i),Fd.c (W.int .i64 o),Fd.c (W.int .i64 n)]])) (by kernel_rfl);obtain ⟨h1,h2,h3⟩:=h;have:=Iz s h1 o n i.toNat hok _ i.toNat rfl (by omega) (Nat.le_refl _) rfl;rw [toNat_cast h2] at this;exact this
def XI:bw:=Ir fun s i o n=>(.p (At s i/\o8 (af s) i.toNat=true),nI (gN (af s) i.toNat),[dw s (fk (af s) i.toNat) o n])
theorem Vh:aH Tryz.prog 218 XI:=D6 (by kernel_rfl) fun s i o n h=>IB s i o n h.1 h.2
end Go.Proofs.YtepmdidomecebaaGreatDoor
