/- Tokens elsewhere: what is read at a place depends on the bytes there. -/
import Derived.Test.YtcimgfhfpiapaaaGreatDoorText2
namespace Go.Proofs.YtcimgfhfpiapaaaGreatDoor
open Go.aU Go.RowKit
set_option maxRecDepth 100000
structure Ag(s:ByteArray)(a:Nat)(s':ByteArray)(a' n:Nat):Prop where
 le:a+n<=s.size
 le':a'+n<=s'.size
 eq:∀ j,j<n->aT s (a+j)=aT s' (a'+j)
theorem sM{s:ByteArray}{i:Nat}(h:i<s.size):aT s i=(s[i].toNat:Int):=by
 unfold aT;have h1:i<s.data.toList.length:=by simpa using h
 rw[List.getD_eq_getElem?_getD,List.getElem?_eq_getElem h1];rfl
theorem Ag.ext{s s':ByteArray}{a a' n:Nat}(h:Ag s a s' a' n):s.extract a (a+n)=s'.extract a' (a'+n):=by
 apply ByteArray.ext_getElem;rw[ByteArray.size_extract,ByteArray.size_extract];have:=h.le;have:=h.le';omega;intro i h1 h2;rw[ByteArray.size_extract] at h1;have l1:=h.le;have l2:=h.le';rw[ByteArray.getElem_extract,ByteArray.getElem_extract];have e:=h.eq i (by omega);rw[sM (by omega),sM (by omega)] at e;exact UInt8.toNat_inj.1 (by omega)
theorem uK{p:Int->Bool}{s s':ByteArray}{a a' n:Nat}(h:Ag s a s' a' n)(hx:a'+n=s'.size∨p (aT s' (a'+n))=false):∀(j k:Nat),j=n-k->k<=n->aN p s (a+k)=a+n->aN p s' (a'+k)=a'+n
 | j, k, hj, hk, hr => by
   by_cases hkn:k=n;subst hkn;exact js (by rintro⟨h1,h2⟩;rcases hx with hx|hx;omega;rw[hx] at h2;cases h2);have hp:a+k<s.size/\p (aT s (a+k))=true:=by
    by_cases hp:a+k<s.size/\p (aT s (a+k))=true;exact hp;rw[js hp] at hr;omega
   rw[fD hp] at hr;have e:=h.eq k (by omega);have l:=h.le';rw[fD ⟨by omega,by rw[<-e];exact hp.2⟩];cases j with
   | zero=>omega
   | succ j=>exact uK h hx j (k+1) (by omega) (by omega) hr
def Tok.mv(t:Tok)(a:Int):Tok:=⟨t.kind,t.text,t.n,a⟩
theorem HL{s s':ByteArray}{a a' n:Nat}(h:Ag s a s' a' n):∀(j k:Nat)(x:Int),j=n-k->k<=n->jY s' (a'+n) (a'+k) x=jY s (a+n) (a+k) x
 | j,k,x,hj,hk=>by
   conv=>lhs;rw[jY]
   conv=>rhs;rw[jY]
   by_cases hkn:k<n;rw[dif_pos (by omega),dif_pos (by omega),h.eq k hkn];split;rfl
   . cases j with
     | zero=>omega
     | succ j=>exact HL h j (k+1) _ (by omega) (by omega)
   rw[dif_neg (by omega),dif_neg (by omega)]
structure Nx(s:ByteArray)(a:Nat)(s':ByteArray)(a' n:Nat):Prop where
 w:fu (aT s a)=true->a'+n=s'.size∨cu (aT s' (a'+n))=false
 d:ck (aT s a)=true->a'+n=s'.size∨ck (aT s' (a'+n))=false
 s:fu (aT s a)=false->ck (aT s a)=false->n=1->a'+2<=s'.size->eB ep (s'.extract a' (a'+2))=false
theorem AW(s:ByteArray)(a:Nat):mW s a 2=if a+2<=s.size/\eB ep (s.extract a (a+2))=true then ⟨⟨5,s.extract a (a+2),0,a⟩,(a+2:Nat),0,0⟩ else
 if a+1<=s.size/\eB ep (s.extract a (a+1))=true then ⟨⟨5,s.extract a (a+1),0,a⟩,(a+1:Nat),0,0⟩ else ⟨⟨5,eS,0,a⟩,(a+1:Nat),11,a⟩:=rfl
theorem HO{s s':ByteArray}{a a' n:Nat}(h:Ag s a s' a' n)(hn:0<n)(hx:Nx s a s' a' n)(he:(bN s a).er=0)(hE:(bN s a).e=(a+n:Nat)) :
 bN s' a'=⟨(bN s a).t.mv a',(a'+n:Nat),0,0⟩:=by
 have e0:=h.eq 0 hn;rw[Nat.add_zero,Nat.add_zero] at e0;have lx:=h.ext;have l1:=h.le;have l2:=h.le';by_cases c1:fu (aT s a)=true;have q:bN s a=j9 s a (aN cu s (a+1)):=by unfold bN;rw[if_pos c1]
 have q':bN s' a'=j9 s' a' (aN cu s' (a'+1)):=by unfold bN;rw[<-e0,if_pos c1]
 rw[q] at he hE ⊢;rw[q'];have hr:aN cu s (a+1)=a+n:=by
  unfold j9 at hE;split at hE;exact Int.ofNat.inj hE;split at hE<;>exact Int.ofNat.inj hE
 have hr':=uK h (hx.w c1) (n-1) 1 rfl (by omega) hr;rw[hr] at he ⊢;rw[hr'];unfold j9 at he ⊢;rw[<-lx];by_cases g1:eB pN (s.extract a (a+n))=true;rw[if_pos g1,if_pos g1];rfl;rw[if_neg g1] at he;by_cases g2:20<(s.extract a (a+n)).size;rw[if_pos g2] at he;cases he;rw[if_neg g1,if_neg g1,if_neg g2,if_neg g2];rfl;have c1':fu (aT s a)=false:=by simpa using c1
 by_cases c2:ck (aT s a)=true;have q:bN s a=mE s a (aN ck s (a+1)):=by unfold bN;rw[if_neg c1,if_pos c2]
 have q':bN s' a'=mE s' a' (aN ck s' (a'+1)):=by unfold bN;rw[<-e0,if_neg c1,if_pos c2]
 rw[q] at he hE ⊢;rw[q'];have hr:aN ck s (a+1)=a+n:=by
  unfold mE at hE;split at hE;exact Int.ofNat.inj hE;split at hE<;>exact Int.ofNat.inj hE
 have hr':=uK h (hx.d c2) (n-1) 1 rfl (by omega) hr;have hN:=HL h n 0 0 rfl (by omega);rw[Nat.add_zero,Nat.add_zero] at hN;rw[hr] at he ⊢;rw[hr'];unfold mE at he ⊢;rw[hN,<-e0];by_cases g1:aT s a=48/\a+1<a+n;rw[if_pos g1] at he;cases he;rw[if_neg g1] at he;by_cases g2:(jY s (a+n) a 0).2=true;rw[if_pos g2] at he;cases he;rw[if_neg (fun g=>g1 ⟨g.1,by omega⟩),if_neg g1,if_neg g2,if_neg g2];rfl;have c2':ck (aT s a)=false:=by simpa using c2
 by_cases c3:aT s a=34
 · have q : bN s a = mF s a (aN cD s (a + 1)) := by unfold bN; rw[if_neg c1, if_neg c2, if_pos c3]
   have q':bN s' a'=mF s' a' (aN cD s' (a'+1)):=by unfold bN;rw[<-e0,if_neg c1,if_neg c2,if_pos c3]
   rw[q] at he hE ⊢;rw[q'];unfold mF at he hE;by_cases g1:aN cD s (a+1)=s.size∨aT s (aN cD s (a+1))≠34;rw[if_pos g1] at he;cases he
   · rw[if_neg g1] at he hE
     by_cases g2:200<(s.extract (a+1) (aN cD s (a+1))).size;rw[if_pos g2] at he;cases he;rw[if_neg g2] at hE;have hr:aN cD s (a+1)+1=a+n:=Int.ofNat.inj hE;have hge:=(ig cD s _ (a+1) rfl).1;have h2:Ag s a s' a' (n-1):=⟨by omega,by omega,fun j hj=>h.eq j (by omega)⟩;have e9:=h.eq (n-1) (by omega);have hb:aT s (aN cD s (a+1))=34:=by
      by_cases g:aT s (aN cD s (a+1))=34;exact g;exact absurd (.inr g) g1
     have hq:aN cD s (a+1)=a+(n-1):=by omega
     rw[hq] at hb;have hr':=uK h2 (p:=cD) (.inr (by rw[<-e9,hb];rfl)) (n-1-1) 1 rfl (by omega) hq;have h3:Ag s (a+1) s' (a'+1) (n-2):=⟨by omega,by omega,fun j hj=>by have:=h.eq (j+1) (by omega);rw[show a+1+j=a+(j+1) by omega,show a'+1+j=a'+(j+1) by omega];exact this⟩;have lx3:=h3.ext;rw[show a+1+(n-2)=a+(n-1) by omega,show a'+1+(n-2)=a'+(n-1) by omega] at lx3;rw[hq] at g2;unfold mF;rw[hr',hq,<-lx3];rw[if_neg (by rintro (g|g);omega;rw[<-e9] at g;exact g hb),if_neg g2,if_neg (by rintro (g|g);omega;exact g hb),if_neg g2];show _=(⟨_,_,0,0⟩:Na);rw[show a'+(n-1)+1=a'+n by omega];rfl
 have q:bN s a=mW s a 2:=by unfold bN;rw[if_neg c1,if_neg c2,if_neg c3]
 have q':bN s' a'=mW s' a' 2:=by unfold bN;rw[<-e0,if_neg c1,if_neg c2,if_neg c3]
 rw[q] at he hE ⊢;rw[q'];rw[AW] at he hE ⊢;rw[AW];by_cases g2:a+2<=s.size/\eB ep (s.extract a (a+2))=true;rw[if_pos g2] at hE;have hE:((a+2:Nat):Int)=(a+n:Nat):=hE;obtain rfl:n=2:=by omega
 rw[if_pos g2,if_pos ⟨l2,by rw[<-lx];exact g2.2⟩,<-lx];rfl;rw[if_neg g2] at he hE;by_cases g1:a+1<=s.size/\eB ep (s.extract a (a+1))=true;rw[if_pos g1] at hE;have hE:((a+1:Nat):Int)=(a+n:Nat):=hE;obtain rfl:n=1:=by omega
 rw[if_neg g2,if_pos g1,if_neg (fun g=>by have:=hx.s c1' c2' rfl g.1;rw[this] at g;cases g.2),if_pos ⟨l2,by rw[<-lx];exact g1.2⟩,<-lx];rfl;rw[if_neg g1] at he;cases he
mutual
def St.un:St->St
 | .mk k _ t p e b c=>.mk k 0 t p e (St.tO b) (St.tO c)
def St.tO:List St->List St
 | []=>[]
 | x::l=>x.un::St.tO l
end
inductive Lx(s:ByteArray):Nat->List Tok->Prop where
 | done {i:Nat}:s.size<=i->Lx s i []
 | sp {i:Nat} {ts:List Tok}:i<s.size->(aT s i=32∨aT s i=10)->Lx s (i+1) ts->Lx s i ts
 | com {i:Nat} {ts:List Tok}:i<s.size->aT s i=35->Lx s (aN fw s i) ts->Lx s i ts
 | tok {i n:Nat} {ts:List Tok}:i<s.size->¬(aT s i=32∨aT s i=10)->aT s i≠35->(bN s i).er=0->(bN s i).e=(i+n:Nat)->0<n->i+n<=s.size->Lx s (i+n) ts->Lx s i ((bN s i).t::ts)
theorem Iw{s : ByteArray} : ∀(k i : Nat), s.size ≤ k + i → (bK s k i).2.1 = 0 → Lx s i (bK s k i).1
 | 0,i,hk,_=>.done (by omega)
 | k + 1, i, hk, h => by
   unfold bK at h ⊢;by_cases h0:i<s.size;rw[if_pos h0] at h ⊢;by_cases h1:aT s i=32∨aT s i=10;rw[if_pos h1] at h ⊢;exact .sp h0 h1 (Iw k (i+1) (by omega) h);rw[if_neg h1] at h ⊢;by_cases h2:aT s i=35;rw[if_pos h2] at h ⊢;have hy:aN fw s i=aN fw s (i+1):=fD ⟨h0,by unfold fw;rw[decide_eq_false (by omega)];rfl⟩;have hg:=ig fw s _ (i+1) rfl;exact .com h0 h2 (Iw k _ (by omega) h);rw[if_neg h2] at h ⊢;by_cases h3:(bN s i).er≠0;rw[if_pos h3] at h;exact absurd h h3;rw[if_neg h3] at h ⊢;have h3:(bN s i).er=0:=by omega
   obtain⟨e,he,h4,h5⟩:=Wy h0 h3;rw[he,Int.toNat_natCast] at h ⊢;have e1:e=i+(e-i):=by omega
   refine .tok (n:=e-i) h0 h1 h2 h3 (by rw[he,<-e1]) (by omega) (by omega) ?_;rw[<-e1];exact Iw k e (by omega) h
   . rw[if_neg h0];exact .done (by omega)
theorem all_of{s:ByteArray}{i:Nat}{ts:List Tok}(h:Lx s i ts):∀ k,s.size<=k+i->bK s k i=(ts,0,0):=by
 induction h with
 | done h0 =>
   intro k hk;cases k with
   | zero=>rfl
   | succ k=>unfold bK;rw[if_neg (by omega)]
 | sp h0 h1 _ ih =>
   intro k hk;cases k with
   | zero=>omega
   | succ k=>unfold bK;rw[if_pos h0,if_pos h1];exact ih k (by omega)
 | @com i ts h0 h1 _ ih =>
   intro k hk;have hy:aN fw s i=aN fw s (i+1):=fD ⟨h0,by unfold fw;rw[decide_eq_false (by omega)];rfl⟩;have hg:=ig fw s _ (i+1) rfl;cases k with
   | zero=>omega
   | succ k=>unfold bK;rw[if_pos h0,if_neg (by omega),if_pos h1];exact ih k (by omega)
 | tok h0 h1 h2 h3 h4 h5 h6 _ ih =>
   intro k hk;cases k with
   | zero=>omega
   | succ k =>
     unfold bK;rw[if_pos h0,if_neg h1,if_neg h2,if_neg (by omega),h4,Int.toNat_natCast,ih k (by omega)]
theorem Oo(a b:ByteArray):(a++b).data.toList=a.data.toList++b.data.toList:=by simp
theorem j7{a b:ByteArray}{i:Nat}(h:i<a.size):aT (a++b) i=aT a i:=by
 have h':i<a.data.toList.length:=by simpa using h
 unfold aT;rw[Oo,List.getD_eq_getElem?_getD,List.getElem?_append_left h',<-List.getD_eq_getElem?_getD]
theorem kP{a b:ByteArray}{i:Nat}:aT (a++b) (a.size+i)=aT b i:=by
 have h':a.data.toList.length=a.size:=by simp
 unfold aT;rw[Oo,List.getD_eq_getElem?_getD,List.getElem?_append_right (by omega),h',Nat.add_sub_cancel_left,<-List.getD_eq_getElem?_getD]
theorem nG{s:ByteArray}{a b j:Nat}(h:a+j<b)(hb:b<=s.size):aT (s.extract a b) j=aT s (a+j):=by
 have h1:j<(s.extract a b).size:=by rw[ByteArray.size_extract];omega
 rw[sM h1,sM (by omega),ByteArray.getElem_extract]
theorem ER(s:ByteArray)(a:Nat):(bN s a).t.at_=a:=by
 unfold bN;split;unfold j9;split;rfl;split<;>rfl;split;unfold mE;split;rfl;split<;>rfl;split;unfold mF;split;rfl;split<;>rfl;rw[AW];split;rfl;split<;>rfl
def blk(c:Int):Bool:=decide (c=32)||decide (c=10)||decide (c=35)
theorem lK{p:Int->Bool}{s:ByteArray}:∀(j k:Nat),j=s.size-k->∀ i,k<=i->i<aN p s k->p (aT s i)=true
 | j,k,hj,i,h1,h2=>by
   by_cases hp:k<s.size/\p (aT s k)=true;by_cases hik:i=k;rw[hik];exact hp.2
   . rw[fD hp] at h2;cases j with
     | zero=>omega
     | succ j=>exact lK j (k+1) (by omega) i (by omega) h2
   rw[js hp] at h2;omega
theorem abk{c:Int}(h:cu c=true):blk c=false:=by
 unfold cu fu ck at h;simp only[Bool.or_eq_true,Bool.and_eq_true,decide_eq_true_eq] at h;unfold blk;rw[decide_eq_false (by omega),decide_eq_false (by omega),decide_eq_false (by omega)];rfl
theorem Oq:∀ x∈ep,∀ j,j<x.size->blk (aT x j)=false:=by decide
theorem tP{l:List ByteArray}{x:ByteArray}(h:eB l x=true):x∈l:=by
 unfold eB at h;rw[List.any_eq_true] at h;obtain⟨y,hy,e⟩:=h;rw[decide_eq_true_eq] at e;exact e▸hy
theorem XL{pre x aO:ByteArray}{j:Nat}(h:j<x.size):aT (pre++(x++aO)) (pre.size+j)=aT x j:=by
 rw[kP,j7 h]
theorem sep_in{pre x aO:ByteArray}{j:Nat}(h:j<x.size):pre.size+j<(pre++(x++aO)).size:=by
 rw[aD,aD];omega
theorem BI{p:Int->Bool}{s:ByteArray}{b:Nat}(hb:p (aT s b)=false):∀(j a:Nat),j=b-a->a<=b->(∀ k,a<=k->k<b->k<s.size/\p (aT s k)=true)->aN p s a=b
 | j,a,hj,ha,h=>by
   by_cases hab:a=b;subst hab;exact js (by rintro⟨_,h2⟩;rw[hb] at h2;cases h2);rw[fD (h a (Nat.le_refl _) (by omega))];cases j with
   | zero=>omega
   | succ j=>exact BI hb j (a+1) (by omega) (by omega) fun k h1 h2=>h k (by omega) h2
theorem lx_sp{pre x aO:ByteArray}{j:Nat}{ts:List Tok}(h:j<x.size)(hb:aT x j=32∨aT x j=10)(hl:Lx (pre++(x++aO)) (pre.size+(j+1)) ts):Lx (pre++(x++aO)) (pre.size+j) ts :=
 .sp (sep_in h) (by rw[XL h];exact hb) hl
def kU:List Tok->List Tok->Prop
 | [],[]=>True
 | a::l,b::m=>(b.kind=a.kind/\b.text=a.text/\b.n=a.n)/\kU l m
 | _,_=>False
theorem kU.len:∀{l m:List Tok},kU l m->m.length=l.length
 | [],[],_=>rfl
 | a::l,b::m,h=>by rw[kU] at h;rw[List.length_cons,List.length_cons,kU.len h.2]
 | [],b::m,h=>by rw[kU] at h<;>first|exact h.elim|simp
 | a::l,[],h=>by rw[kU] at h<;>first|exact h.elim|simp
theorem LD{s:ByteArray}(h:(cQ s).2.1=0):tks s=(cQ s).1:=by
 show kr (cQ s)=_;unfold kr;rw[if_pos h]
theorem lx_spl{s:ByteArray}(h:(cQ s).2.1=0):Lx s 0 (cQ s).1:=by
 unfold cQ at h ⊢;split at h;cases h;rename_i h0;rw[if_neg h0];exact Iw _ _ (by omega) h
theorem Uw{s:ByteArray}{ts:List Tok}(hs:s.size<=20000)(h:Lx s 0 ts):cQ s=(ts,0,0):=by
 unfold cQ;rw[if_neg (by omega)];exact all_of h _ (by omega)
end Go.Proofs.YtcimgfhfpiapaaaGreatDoor
namespace Go.Proofs.YtcimgfhfpiapaaaGreatDoor
open Go.aU
set_option maxRecDepth 100000
def QL(s:ByteArray)(i:Nat)(t:Tok):Prop:=t.at_=(i:Int)/\(t.kind=2->eB pN t.text=true)/\(t.kind=5->eB ep t.text=true)
theorem Ux(s:ByteArray)(a:Nat):∀ n,(mW s a n).er=0->QL s a (mW s a n).t
 | 0,h=>by cases h
 | n + 1, h => by
   unfold mW at h ⊢;split at h;rename_i h1;rw[if_pos h1];exact⟨rfl,fun h=>(by cases h),fun _=>h1.2⟩;rename_i h1;rw[if_neg h1];exact Ux s a n h
theorem tokT_g(s:ByteArray)(a:Nat)(h:(bN s a).er=0):QL s a (bN s a).t:=by
 unfold bN at h ⊢;split;unfold j9;split;rename_i h2;exact⟨rfl,fun _=>h2,fun h=>(by cases h)⟩;split;exact⟨rfl,fun h=>(by cases h),fun h=>(by cases h)⟩;exact⟨rfl,fun h=>(by cases h),fun h=>(by cases h)⟩;rename_i h1;rw[if_neg h1] at h;split;unfold mE;split;exact⟨rfl,fun h=>(by cases h),fun h=>(by cases h)⟩;split;exact⟨rfl,fun h=>(by cases h),fun h=>(by cases h)⟩;exact⟨rfl,fun h=>(by cases h),fun h=>(by cases h)⟩;rename_i h2;rw[if_neg h2] at h;split;unfold mF;split;exact⟨rfl,fun h=>(by cases h),fun h=>(by cases h)⟩;split;exact⟨rfl,fun h=>(by cases h),fun h=>(by cases h)⟩;exact⟨rfl,fun h=>(by cases h),fun h=>(by cases h)⟩;rename_i h3;rw[if_neg h3] at h;exact Ux s a 2 h
theorem ES(s : ByteArray) : ∀(k i : Nat), ∀ t ∈ (bK s k i).1, ∃ j, j < s.size ∧ QL s j t
 | 0,i,t,ht=>by cases ht
 | k + 1, i, t, ht => by
   unfold bK at ht;split at ht;rename_i hlt;split at ht;exact ES s k _ t ht;split at ht;exact ES s k _ t ht;split at ht;cases ht;rename_i he;have he:(bN s i).er=0:=by simpa using he
   rcases List.mem_cons.1 ht with rfl|h;exact⟨i,hlt,tokT_g s i he⟩;exact ES s k _ t h;cases ht
theorem tks_g(s:ByteArray):∀ t∈tks s,∃ j,j<s.size/\QL s j t:=by
 intro t ht;have ht:t∈kr (cQ s):=ht;unfold kr cQ at ht;by_cases h:20000<s.size;rw[if_pos h] at ht;split at ht;cases ht;cases ht;rw[if_neg h] at ht;split at ht;exact ES s _ _ t ht;cases ht
theorem tks_in(s:ByteArray)(hs:s.size<=1000000):iO s (tks s):=by
 refine⟨hs,fun t ht=>?_⟩;obtain⟨j,hj,h1,_⟩:=tks_g s t ht;rw[h1];omega
end Go.Proofs.YtcimgfhfpiapaaaGreatDoor
