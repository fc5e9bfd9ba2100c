/- Tokens elsewhere: what is read at a place depends on the bytes there. -/
import Derived.Test.YtnbjjocbncblaaaGreatDoorText2
namespace Go.Proofs.YtnbjjocbncblaaaGreatDoor
open Go.aN Go.RowKit
set_option maxRecDepth 100000
structure Ag(s:ByteArray)(a:Nat)(s':ByteArray)(a' n:Nat):Prop where
 le:a+n<=s.size
 le':a'+n<=s'.size
 eq:∀ j,j<n->aY s (a+j)=aY s' (a'+j)
theorem ux{s:ByteArray}{i:Nat}(h:i<s.size):aY s i=(s[i].toNat:Int):=by
 unfold aY;have h1:i<s.data.toList.length:=by simpa using h
 rw[List.getD_eq_getElem?_getD,List.getElem?_eq_getElem h1];rfl
theorem Ag.ext{s s':ByteArray}{a a' n:Nat}(h:Ag s a s' a' n):s.extract a (a+n)=s'.extract a' (a'+n):=by
 apply ByteArray.ext_getElem;rw[ByteArray.size_extract,ByteArray.size_extract];have:=h.le;have:=h.le';omega;intro i h1 h2;rw[ByteArray.size_extract] at h1;have l1:=h.le;have l2:=h.le';rw[ByteArray.getElem_extract,ByteArray.getElem_extract];have e:=h.eq i (by omega);rw[ux (by omega),ux (by omega)] at e;exact UInt8.toNat_inj.1 (by omega)
theorem wC{p:Int->Bool}{s s':ByteArray}{a a' n:Nat}(h:Ag s a s' a' n)(hx:a'+n=s'.size∨p (aY s' (a'+n))=false):∀(j k:Nat),j=n-k->k<=n->aO p s (a+k)=a+n->aO p s' (a'+k)=a'+n
 | j, k, hj, hk, hr => by
   by_cases hkn:k=n;subst hkn;exact kP (by rintro⟨h1,h2⟩;rcases hx with hx|hx;omega;rw[hx] at h2;cases h2);have hp:a+k<s.size/\p (aY s (a+k))=true:=by
    by_cases hp:a+k<s.size/\p (aY s (a+k))=true;exact hp;rw[kP hp] at hr;omega
   rw[gA hp] at hr;have e:=h.eq k (by omega);have l:=h.le';rw[gA ⟨by omega,by rw[<-e];exact hp.2⟩];cases j with
   | zero=>omega
   | succ j=>exact wC h hx j (k+1) (by omega) (by omega) hr
def Tok.mv(t:Tok)(a:Int):Tok:=⟨t.kind,t.text,t.n,a⟩
theorem JI{s s':ByteArray}{a a' n:Nat}(h:Ag s a s' a' n):∀(j k:Nat)(x:Int),j=n-k->k<=n->kU s' (a'+n) (a'+k) x=kU s (a+n) (a+k) x
 | j,k,x,hj,hk=>by
   conv=>lhs;rw[kU]
   conv=>rhs;rw[kU]
   by_cases hkn:k<n;rw[dif_pos (by omega),dif_pos (by omega),h.eq k hkn];split;rfl
   . cases j with
     | zero=>omega
     | succ j=>exact JI h j (k+1) _ (by omega) (by omega)
   rw[dif_neg (by omega),dif_neg (by omega)]
structure Nx(s:ByteArray)(a:Nat)(s':ByteArray)(a' n:Nat):Prop where
 w:gu (aY s a)=true->a'+n=s'.size∨cB (aY s' (a'+n))=false
 d:cx (aY s a)=true->a'+n=s'.size∨cx (aY s' (a'+n))=false
 s:gu (aY s a)=false->cx (aY s a)=false->n=1->a'+2<=s'.size->eF fw (s'.extract a' (a'+2))=false
theorem Sy(s:ByteArray)(a:Nat):oD s a 2=if a+2<=s.size/\eF fw (s.extract a (a+2))=true then ⟨⟨5,s.extract a (a+2),0,a⟩,(a+2:Nat),0,0⟩ else
 if a+1<=s.size/\eF fw (s.extract a (a+1))=true then ⟨⟨5,s.extract a (a+1),0,a⟩,(a+1:Nat),0,0⟩ else ⟨⟨5,eS,0,a⟩,(a+1:Nat),11,a⟩:=rfl
theorem Wd{s s':ByteArray}{a a' n:Nat}(h:Ag s a s' a' n)(hn:0<n)(hx:Nx s a s' a' n)(he:(bU s a).er=0)(hE:(bU s a).e=(a+n:Nat)) :
 bU s' a'=⟨(bU s a).t.mv a',(a'+n:Nat),0,0⟩:=by
 have e0:=h.eq 0 hn;rw[Nat.add_zero,Nat.add_zero] at e0;have lx:=h.ext;have l1:=h.le;have l2:=h.le';by_cases c1:gu (aY s a)=true;have q:bU s a=nr s a (aO cB s (a+1)):=by unfold bU;rw[if_pos c1]
 have q':bU s' a'=nr s' a' (aO cB s' (a'+1)):=by unfold bU;rw[<-e0,if_pos c1]
 rw[q] at he hE ⊢;rw[q'];have hr:aO cB s (a+1)=a+n:=by
  unfold nr at hE;split at hE;exact Int.ofNat.inj hE;split at hE<;>exact Int.ofNat.inj hE
 have hr':=wC h (hx.w c1) (n-1) 1 rfl (by omega) hr;rw[hr] at he ⊢;rw[hr'];unfold nr at he ⊢;rw[<-lx];by_cases g1:eF rC (s.extract a (a+n))=true;rw[if_pos g1,if_pos g1];rfl;rw[if_neg g1] at he;by_cases g2:20<(s.extract a (a+n)).size;rw[if_pos g2] at he;cases he;rw[if_neg g1,if_neg g1,if_neg g2,if_neg g2];rfl;have c1':gu (aY s a)=false:=by simpa using c1
 by_cases c2:cx (aY s a)=true;have q:bU s a=qh s a (aO cx s (a+1)):=by unfold bU;rw[if_neg c1,if_pos c2]
 have q':bU s' a'=qh s' a' (aO cx s' (a'+1)):=by unfold bU;rw[<-e0,if_neg c1,if_pos c2]
 rw[q] at he hE ⊢;rw[q'];have hr:aO cx s (a+1)=a+n:=by
  unfold qh at hE;split at hE;exact Int.ofNat.inj hE;split at hE<;>exact Int.ofNat.inj hE
 have hr':=wC h (hx.d c2) (n-1) 1 rfl (by omega) hr;have hN:=JI h n 0 0 rfl (by omega);rw[Nat.add_zero,Nat.add_zero] at hN;rw[hr] at he ⊢;rw[hr'];unfold qh at he ⊢;rw[hN,<-e0];by_cases g1:aY s a=48/\a+1<a+n;rw[if_pos g1] at he;cases he;rw[if_neg g1] at he;by_cases g2:(kU s (a+n) a 0).2=true;rw[if_pos g2] at he;cases he;rw[if_neg (fun g=>g1 ⟨g.1,by omega⟩),if_neg g1,if_neg g2,if_neg g2];rfl;have c2':cx (aY s a)=false:=by simpa using c2
 by_cases c3:aY s a=34
 · have q : bU s a = qi s a (aO cJ s (a + 1)) := by unfold bU; rw[if_neg c1, if_neg c2, if_pos c3]
   have q':bU s' a'=qi s' a' (aO cJ s' (a'+1)):=by unfold bU;rw[<-e0,if_neg c1,if_neg c2,if_pos c3]
   rw[q] at he hE ⊢;rw[q'];unfold qi at he hE;by_cases g1:aO cJ s (a+1)=s.size∨aY s (aO cJ s (a+1))≠34;rw[if_pos g1] at he;cases he
   · rw[if_neg g1] at he hE
     by_cases g2:200<(s.extract (a+1) (aO cJ s (a+1))).size;rw[if_pos g2] at he;cases he;rw[if_neg g2] at hE;have hr:aO cJ s (a+1)+1=a+n:=Int.ofNat.inj hE;have hge:=(j6 cJ s _ (a+1) rfl).1;have h2:Ag s a s' a' (n-1):=⟨by omega,by omega,fun j hj=>h.eq j (by omega)⟩;have e9:=h.eq (n-1) (by omega);have hb:aY s (aO cJ s (a+1))=34:=by
      by_cases g:aY s (aO cJ s (a+1))=34;exact g;exact absurd (.inr g) g1
     have hq:aO cJ s (a+1)=a+(n-1):=by omega
     rw[hq] at hb;have hr':=wC h2 (p:=cJ) (.inr (by rw[<-e9,hb];rfl)) (n-1-1) 1 rfl (by omega) hq;have h3:Ag s (a+1) s' (a'+1) (n-2):=⟨by omega,by omega,fun j hj=>by have:=h.eq (j+1) (by omega);rw[show a+1+j=a+(j+1) by omega,show a'+1+j=a'+(j+1) by omega];exact this⟩;have lx3:=h3.ext;rw[show a+1+(n-2)=a+(n-1) by omega,show a'+1+(n-2)=a'+(n-1) by omega] at lx3;rw[hq] at g2;unfold qi;rw[hr',hq,<-lx3];rw[if_neg (by rintro (g|g);omega;rw[<-e9] at g;exact g hb),if_neg g2,if_neg (by rintro (g|g);omega;exact g hb),if_neg g2];show _=(⟨_,_,0,0⟩:OV);rw[show a'+(n-1)+1=a'+n by omega];rfl
 have q:bU s a=oD s a 2:=by unfold bU;rw[if_neg c1,if_neg c2,if_neg c3]
 have q':bU s' a'=oD s' a' 2:=by unfold bU;rw[<-e0,if_neg c1,if_neg c2,if_neg c3]
 rw[q] at he hE ⊢;rw[q'];rw[Sy] at he hE ⊢;rw[Sy];by_cases g2:a+2<=s.size/\eF fw (s.extract a (a+2))=true;rw[if_pos g2] at hE;have hE:((a+2:Nat):Int)=(a+n:Nat):=hE;obtain rfl:n=2:=by omega
 rw[if_pos g2,if_pos ⟨l2,by rw[<-lx];exact g2.2⟩,<-lx];rfl;rw[if_neg g2] at he hE;by_cases g1:a+1<=s.size/\eF fw (s.extract a (a+1))=true;rw[if_pos g1] at hE;have hE:((a+1:Nat):Int)=(a+n:Nat):=hE;obtain rfl:n=1:=by omega
 rw[if_neg g2,if_pos g1,if_neg (fun g=>by have:=hx.s c1' c2' rfl g.1;rw[this] at g;cases g.2),if_pos ⟨l2,by rw[<-lx];exact g1.2⟩,<-lx];rfl;rw[if_neg g1] at he;cases he
mutual
def St.un:St->St
 | .mk k _ t p e b c=>.mk k 0 t p e (St.fO b) (St.fO c)
def St.fO:List St->List St
 | []=>[]
 | x::l=>x.un::St.fO l
end
theorem St.C6(l:List St):St.fO l=l.map St.un:=by
 induction l with
 | nil=>rw[St.fO];rfl
 | cons x l ih=>rw[St.fO,ih];rfl
inductive Lx(s:ByteArray):Nat->List Tok->Prop where
 | done {i:Nat}:s.size<=i->Lx s i []
 | sp {i:Nat} {ts:List Tok}:i<s.size->(aY s i=32∨aY s i=10)->Lx s (i+1) ts->Lx s i ts
 | com {i:Nat} {ts:List Tok}:i<s.size->aY s i=35->Lx s (aO jl s i) ts->Lx s i ts
 | tok {i n:Nat} {ts:List Tok}:i<s.size->¬(aY s i=32∨aY s i=10)->aY s i≠35->(bU s i).er=0->(bU s i).e=(i+n:Nat)->0<n->i+n<=s.size->Lx s (i+n) ts->Lx s i ((bU s i).t::ts)
theorem Kb{s : ByteArray} : ∀(k i : Nat), s.size ≤ k + i → (bF s k i).2.1 = 0 → Lx s i (bF s k i).1
 | 0,i,hk,_=>.done (by omega)
 | k + 1, i, hk, h => by
   unfold bF at h ⊢;by_cases h0:i<s.size;rw[if_pos h0] at h ⊢;by_cases h1:aY s i=32∨aY s i=10;rw[if_pos h1] at h ⊢;exact .sp h0 h1 (Kb k (i+1) (by omega) h);rw[if_neg h1] at h ⊢;by_cases h2:aY s i=35;rw[if_pos h2] at h ⊢;have hy:aO jl s i=aO jl s (i+1):=gA ⟨h0,by unfold jl;rw[decide_eq_false (by omega)];rfl⟩;have hg:=j6 jl s _ (i+1) rfl;exact .com h0 h2 (Kb k _ (by omega) h);rw[if_neg h2] at h ⊢;by_cases h3:(bU s i).er≠0;rw[if_pos h3] at h;exact absurd h h3;rw[if_neg h3] at h ⊢;have h3:(bU s i).er=0:=by omega
   obtain⟨e,he,h4,h5⟩:=Yd h0 h3;rw[he,Int.toNat_natCast] at h ⊢;have e1:e=i+(e-i):=by omega
   refine .tok (n:=e-i) h0 h1 h2 h3 (by rw[he,<-e1]) (by omega) (by omega) ?_;rw[<-e1];exact Kb k e (by omega) h
   . rw[if_neg h0];exact .done (by omega)
theorem all_of{s:ByteArray}{i:Nat}{ts:List Tok}(h:Lx s i ts):∀ k,s.size<=k+i->bF s k i=(ts,0,0):=by
 induction h with
 | done h0 =>
   intro k hk;cases k with
   | zero=>rfl
   | succ k=>unfold bF;rw[if_neg (by omega)]
 | sp h0 h1 _ ih =>
   intro k hk;cases k with
   | zero=>omega
   | succ k=>unfold bF;rw[if_pos h0,if_pos h1];exact ih k (by omega)
 | @com i ts h0 h1 _ ih =>
   intro k hk;have hy:aO jl s i=aO jl s (i+1):=gA ⟨h0,by unfold jl;rw[decide_eq_false (by omega)];rfl⟩;have hg:=j6 jl s _ (i+1) rfl;cases k with
   | zero=>omega
   | succ k=>unfold bF;rw[if_pos h0,if_neg (by omega),if_pos h1];exact ih k (by omega)
 | tok h0 h1 h2 h3 h4 h5 h6 _ ih =>
   intro k hk;cases k with
   | zero=>omega
   | succ k =>
     unfold bF;rw[if_pos h0,if_neg h1,if_neg h2,if_neg (by omega),h4,Int.toNat_natCast,ih k (by omega)]
theorem P7(a b:ByteArray):(a++b).data.toList=a.data.toList++b.data.toList:=by simp
theorem lg{a b:ByteArray}{i:Nat}(h:i<a.size):aY (a++b) i=aY a i:=by
 have h':i<a.data.toList.length:=by simpa using h
 unfold aY;rw[P7,List.getD_eq_getElem?_getD,List.getElem?_append_left h',<-List.getD_eq_getElem?_getD]
theorem mU{a b:ByteArray}{i:Nat}:aY (a++b) (a.size+i)=aY b i:=by
 have h':a.data.toList.length=a.size:=by simp
 unfold aY;rw[P7,List.getD_eq_getElem?_getD,List.getElem?_append_right (by omega),h',Nat.add_sub_cancel_left,<-List.getD_eq_getElem?_getD]
theorem C8{s:ByteArray}{a b j:Nat}(h:a+j<b)(hb:b<=s.size):aY (s.extract a b) j=aY s (a+j):=by
 have h1:j<(s.extract a b).size:=by rw[ByteArray.size_extract];omega
 rw[ux h1,ux (by omega),ByteArray.getElem_extract]
def blk(c:Int):Bool:=decide (c=32)||decide (c=10)||decide (c=35)
theorem tC{p:Int->Bool}{s:ByteArray}:∀(j k:Nat),j=s.size-k->∀ i,k<=i->i<aO p s k->p (aY s i)=true
 | j,k,hj,i,h1,h2=>by
   by_cases hp:k<s.size/\p (aY s k)=true;by_cases hik:i=k;rw[hik];exact hp.2
   . rw[gA hp] at h2;cases j with
     | zero=>omega
     | succ j=>exact tC j (k+1) (by omega) i (by omega) h2
   rw[kP hp] at h2;omega
theorem blk_wrd{c:Int}(h:cB c=true):blk c=false:=by
 unfold cB gu cx at h;simp only[Bool.or_eq_true,Bool.and_eq_true,decide_eq_true_eq] at h;unfold blk;rw[decide_eq_false (by omega),decide_eq_false (by omega),decide_eq_false (by omega)];rfl
theorem sig_blk:∀ x∈fw,∀ j,j<x.size->blk (aY x j)=false:=by decide
theorem zS{l:List ByteArray}{x:ByteArray}(h:eF l x=true):x∈l:=by
 unfold eF at h;rw[List.any_eq_true] at h;obtain⟨y,hy,e⟩:=h;rw[decide_eq_true_eq] at e;exact e▸hy
theorem Zg{pre x aL:ByteArray}{j:Nat}(h:j<x.size):aY (pre++(x++aL)) (pre.size+j)=aY x j:=by
 rw[mU,lg h]
theorem sep_in{pre x aL:ByteArray}{j:Nat}(h:j<x.size):pre.size+j<(pre++(x++aL)).size:=by
 rw[aX,aX];omega
theorem P8{p:Int->Bool}{s:ByteArray}{b:Nat}(hb:p (aY s b)=false):∀(j a:Nat),j=b-a->a<=b->(∀ k,a<=k->k<b->k<s.size/\p (aY s k)=true)->aO p s a=b
 | j,a,hj,ha,h=>by
   by_cases hab:a=b;subst hab;exact kP (by rintro⟨_,h2⟩;rw[hb] at h2;cases h2);rw[gA (h a (Nat.le_refl _) (by omega))];cases j with
   | zero=>omega
   | succ j=>exact P8 hb j (a+1) (by omega) (by omega) fun k h1 h2=>h k (by omega) h2
theorem lx_sp{pre x aL:ByteArray}{j:Nat}{ts:List Tok}(h:j<x.size)(hb:aY x j=32∨aY x j=10)(hl:Lx (pre++(x++aL)) (pre.size+(j+1)) ts):Lx (pre++(x++aL)) (pre.size+j) ts :=
 .sp (sep_in h) (by rw[Zg h];exact hb) hl
def pF:List Tok->List Tok->Prop
 | [],[]=>True
 | a::l,b::m=>(b.kind=a.kind/\b.text=a.text/\b.n=a.n)/\pF l m
 | _,_=>False
theorem pF.len:∀{l m:List Tok},pF l m->m.length=l.length
 | [],[],_=>rfl
 | a::l,b::m,h=>by rw[pF] at h;rw[List.length_cons,List.length_cons,pF.len h.2]
 | [],b::m,h=>by rw[pF] at h<;>first|exact h.elim|simp
 | a::l,[],h=>by rw[pF] at h<;>first|exact h.elim|simp
mutual
theorem St.ns1_un:∀(x:St)(p:Int×Int),x.un.nE p=x.nE p
 | .mk k li t ps e b c,p=>by rw[St.un,St.nE,St.nE,St.Cm b,St.Cm c]
theorem St.Cm:∀(l:List St)(p:Int×Int),St.kA (St.fO l) p=St.kA l p
 | [],p=>by rw[St.fO]
 | x::l,p=>by rw[St.fO,St.kA,St.kA,St.ns1_un x,St.Cm l]
end
theorem over_un{L M:List St}(h:St.fO M=St.fO L):jS M=jS L:=by
 unfold jS;rw[<-St.Cm M,<-St.Cm L,h]
theorem Wf{s:ByteArray}(h:(dZ s).2.1=0):tks s=(dZ s).1:=by
 show nA (dZ s)=_;unfold nA;rw[if_pos h]
theorem lx_spl{s:ByteArray}(h:(dZ s).2.1=0):Lx s 0 (dZ s).1:=by
 unfold dZ at h ⊢;split at h;cases h;rename_i h0;rw[if_neg h0];exact Kb _ _ (by omega) h
theorem spl_lx{s:ByteArray}{ts:List Tok}(hs:s.size<=20000)(h:Lx s 0 ts):dZ s=(ts,0,0):=by
 unfold dZ;rw[if_neg (by omega)];exact all_of h _ (by omega)
end Go.Proofs.YtnbjjocbncblaaaGreatDoor
namespace Go.Proofs.YtnbjjocbncblaaaGreatDoor
open Go.aN
set_option maxRecDepth 100000
def Sz(s:ByteArray)(i:Nat)(t:Tok):Prop:=t.at_=(i:Int)/\(t.kind=2->eF rC t.text=true)/\(t.kind=5->eF fw t.text=true)
theorem Wg(s:ByteArray)(a:Nat):∀ n,(oD s a n).er=0->Sz s a (oD s a n).t
 | 0,h=>by cases h
 | n + 1, h => by
   unfold oD at h ⊢;split at h;rename_i h1;rw[if_pos h1];exact⟨rfl,fun h=>(by cases h),fun _=>h1.2⟩;rename_i h1;rw[if_neg h1];exact Wg s a n h
theorem tokT_g(s:ByteArray)(a:Nat)(h:(bU s a).er=0):Sz s a (bU s a).t:=by
 unfold bU at h ⊢;split;unfold nr;split;rename_i h2;exact⟨rfl,fun _=>h2,fun h=>(by cases h)⟩;split;exact⟨rfl,fun h=>(by cases h),fun h=>(by cases h)⟩;exact⟨rfl,fun h=>(by cases h),fun h=>(by cases h)⟩;rename_i h1;rw[if_neg h1] at h;split;unfold qh;split;exact⟨rfl,fun h=>(by cases h),fun h=>(by cases h)⟩;split;exact⟨rfl,fun h=>(by cases h),fun h=>(by cases h)⟩;exact⟨rfl,fun h=>(by cases h),fun h=>(by cases h)⟩;rename_i h2;rw[if_neg h2] at h;split;unfold qi;split;exact⟨rfl,fun h=>(by cases h),fun h=>(by cases h)⟩;split;exact⟨rfl,fun h=>(by cases h),fun h=>(by cases h)⟩;exact⟨rfl,fun h=>(by cases h),fun h=>(by cases h)⟩;rename_i h3;rw[if_neg h3] at h;exact Wg s a 2 h
theorem FY(s : ByteArray) : ∀(k i : Nat), ∀ t ∈ (bF s k i).1, ∃ j, j < s.size ∧ Sz s j t
 | 0,i,t,ht=>by cases ht
 | k + 1, i, t, ht => by
   unfold bF at ht;split at ht;rename_i hlt;split at ht;exact FY s k _ t ht;split at ht;exact FY s k _ t ht;split at ht;cases ht;rename_i he;have he:(bU s i).er=0:=by simpa using he
   rcases List.mem_cons.1 ht with rfl|h;exact⟨i,hlt,tokT_g s i he⟩;exact FY s k _ t h;cases ht
theorem tks_g(s:ByteArray):∀ t∈tks s,∃ j,j<s.size/\Sz s j t:=by
 intro t ht;have ht:t∈nA (dZ s):=ht;unfold nA dZ at ht;by_cases h:20000<s.size;rw[if_pos h] at ht;split at ht;cases ht;cases ht;rw[if_neg h] at ht;split at ht;exact FY s _ _ t ht;cases ht
theorem FZ(s:ByteArray)(hs:s.size<=1000000):jm s (tks s):=by
 refine⟨hs,fun t ht=>?_⟩;obtain⟨j,hj,h1,_⟩:=tks_g s t ht;rw[h1];omega
end Go.Proofs.YtnbjjocbncblaaaGreatDoor
