/- An expression is read from its text again. -/
import Derived.Test.YtcimgfhfpiapaaaGreatDoorFew2
import Derived.Test.YtcimgfhfpiapaaaGreatDoorBlank1
namespace Go.Proofs.YtcimgfhfpiapaaaGreatDoor
open Go.aU Go.RowKit
set_option maxRecDepth 100000
def uO{α:Type}(r:XR α):Prop:=r.die=true->r.e=11
theorem fA{α:Type}{b:Bool}{r q:XR α}(h1:b=true->uO r)(h2:b=false->uO q):uO (bif b then r else q):=by
 cases b;exact h2 rfl;exact h1 rfl
section
variable {s:ByteArray} {l:List Tok}
theorem yC{α:Type}(v:α)(i:Int):uO (jJ s l v i):=fun _=>rfl
theorem p4{α:Type}(v:α)(i:Int):uO (eW v i):=fun h=>by cases h
variable {ex:jm} (H:∀ lv i,uO (ex lv i))
include H
theorem lp11(lv:Int):∀(k:Nat)(x:Ex)(i:Int),uO (kS s l ex lv k x i)
 | 0,_,_=>yC _ _
 | k+1,x,i=>by
   unfold kS;exact fA (fun _=>fA (fun _=>H _ _) fun _=>fA (fun _=>p4 _ _) fun _=>lp11 lv k _ _) fun _=>p4 _ _
theorem ix11:∀(k:Nat)(x:Ex)(i:Int),uO (oe s l ex k x i)
 | 0,_,_=>yC _ _
 | k+1,x,i=>by
   unfold oe;exact fA (fun _=>fA (fun _=>H _ _) fun _=>fA (fun _=>ix11 k _ _) fun _=>yC _ _) fun _=>p4 _ _
theorem ls11(t:ByteArray):∀(k:Nat)(acc:List Ex)(i:Int),uO (mK s l ex t k acc i)
 | 0,_,_=>yC _ _
 | k+1,x,i=>by
   unfold mK;exact fA (fun h _=>H 1 i h) fun _=>fA (fun _=>p4 _ _) fun _=>fA (fun _=>ls11 t k _ _) fun _=>yC _ _
theorem UJ(t:ByteArray)(i:Int):uO (dG s l ex t i):=by
 unfold dG;exact fA (fun _=>p4 _ _) fun _=>ls11 H t _ _ _
theorem atom11(i:Int):uO (fY s l ex i):=by
 unfold fY;exact fA (fun _=>fA (fun _=>H _ _) fun _=>fA (fun _=>p4 _ _) fun _=>yC _ _) fun _=>fA (fun _ h=>UJ (s:=s) (l:=l) H gK (i+1) h) fun _=>fA (fun _=>p4 _ _) fun _=>fA (fun _=>p4 _ _) fun _=>fA (fun _=>yC _ _) fun _=>fA (fun _=>p4 _ _) fun _=>fA (fun _=>p4 _ _) fun _=>fA (fun _=>fA (fun _ h=>UJ (s:=s) (l:=l) H dU (i+1+1) h) fun _=>p4 _ _) fun _=>yC _ _
theorem ex11(lv i:Int):uO (su s l ex lv i):=by
 have un:∀ t,uO (mL l ex t lv i):=fun t=>by
  unfold mL;exact fA (fun _=>fA (fun _=>H _ _) fun _=>p4 _ _) fun _=>H _ _
 unfold su;refine fA (fun _=>un _) fun _=>fA (fun _=>un _) fun _=>fA (fun _=>?_) fun _=>fA (fun _=>fA (fun _=>H _ _) fun _=>ix11 H _ _ _) fun _=>fA (fun _=>atom11 H i) fun _=>fA (fun _=>H _ _) fun _=>lp11 H _ _ _ _;unfold vk;exact fA (fun _=>H _ _) fun _=>fA (fun _=>fA (fun _=>H _ _) fun _=>p4 _ _) fun _=>p4 _ _
omit H in
theorem px11:∀(n:Nat)(lv i:Int),uO (bP s l n lv i)
 | 0,_,_=>yC _ _
 | n+1,lv,i=>ex11 (px11 n) lv i
end
structure LR(s:ByteArray)(e:Ex):Prop where
 spl:(cQ s).2.1=0
 die:(eP s (tks s)).die=false
 i:(eP s (tks s)).i=(tks s).length
 v:(eP s (tks s)).v=e
 deep:e.deep<=200
theorem UK{s:ByteArray}(h:(eF s).2.1=0):LR s (eF s).1:=by
 unfold eF at h ⊢;cases hc:decide ((eE s).2.1=0)&&decide (200<(eE s).1.deep) with
 | true=>rw[hc] at h;cases h
 | false =>
   rw[hc] at h;simp only[cond_false] at h ⊢;have hd:(eE s).1.deep<=200:=by
    rw[decide_eq_true h,Bool.true_and,decide_eq_false_iff_not] at hc;omega
   unfold eE at h hd ⊢;by_cases hs:(cQ s).2.1=0
   . rw[if_pos hs] at h hd ⊢;cases hx:(eP s (tks s)).die with
     | true =>
       rw[hx] at h;have:=px11 (s:=s) (l:=tks s) (12*(tks s).length+12) 1 0 hx;have h:(eP s (tks s)).e=0:=h;have e2:(eP s (tks s)).e=11:=this;omega
     | false =>
       rw[hx] at h hd;simp only[cond_false] at h hd ⊢;have ha:=(lu (s:=s) (l:=tks s) _ 1 0 hx (Int.le_refl _)).2;have ha:(eP s (tks s)).i<=(tks s).length:=ha;by_cases hi:(eP s (tks s)).i<(tks s).length;rw[decide_eq_true hi] at h;cases h;rw[decide_eq_false hi] at hd ⊢;exact⟨hs,hx,by omega,rfl,hd⟩
   rw[if_neg hs] at h;exact absurd h hs
theorem abA{s:ByteArray}{e:Ex}(h:LR s e):eF s=(e,0,0):=by
 have e1:eE s=(e,0,0):=by
  unfold eE;rw[if_pos h.spl,h.die,h.i,decide_eq_false (by omega),h.v];rfl
 unfold eF;rw[e1];have:decide (200<e.deep)=false:=decide_eq_false (by have:=h.deep;omega);show (bif _&&decide (200<e.deep) then _ else _)=_;rw[this,Bool.and_false];rfl
theorem ZA:∀(ts pre q:List Tok),kU ts q->At (pre++q) pre.length ts
 | [],_,_,_=>trivial
 | t::ts,pre,u::q,h=>by
   rw[kU] at h;have hg:ay (pre++u::q) pre.length=u:=by
    unfold ay;rw[Int.toNat_natCast,List.getD_eq_getElem?_getD,List.getElem?_append_right (Nat.le_refl _),Nat.sub_self];rfl
   refine⟨⟨by rw[List.length_append,List.length_cons];omega,by rw[hg];exact h.1⟩,?_⟩;have:=ZA ts (pre++[u]) q h.2;rw[List.append_assoc,List.length_append,List.length_singleton] at this;have e1:((pre.length+1:Nat):Int)=(pre.length:Int)+1:=by omega
   rw[e1] at this;exact this
 | t::ts,_,[],h=>by rw[kU] at h<;>first|exact h.elim|simp
theorem abB{s:ByteArray}{e:Ex}(hf:e.fin=true){q:List Tok}(h:kU (e.tk 1) q):EX s q 1 0=eW e q.length:=by
 have ha:=ZA (e.tk 1) [] q h;have hl:=h.len;have W:=(UD (s:=s) (l:=q) e hf).rd 1 0 q.length (Int.le_refl _) (by omega) (Int.le_refl _) ha (by omega) (abv q 1);exact W.go _ (by omega)
theorem HV{e:Ex}(hf:e.fin=true)(hd:e.deep<=200)(hz:(e.wr 1).size<=20000):LR (e.wr 1) e/\kU (e.tk 1) (tks (e.wr 1))/\Lx (e.wr 1) 0 (tks (e.wr 1)):=by
 obtain⟨q,h1,h2⟩:=lx_wr e hf;have h3:=Uw hz h2;have h4:(cQ (e.wr 1)).2.1=0:=by rw[h3]
 have h5:tks (e.wr 1)=q:=by rw[LD h4,h3]
 have h6:=abB (s:=e.wr 1) hf h1;rw[<-h5] at h1 h2 h6;have h6:eP (e.wr 1) (tks (e.wr 1))=eW e (tks (e.wr 1)).length:=h6;exact⟨⟨h4,by rw[h6];rfl,by rw[h6];rfl,by rw[h6];rfl,hd⟩,h1,h2⟩
theorem LS{s:ByteArray}{e:Ex}(h:LR s e):Lx s 0 (tks s):=by
 have:=lx_spl h.spl
 rwa [<-LD h.spl] at this
theorem abC{s:ByteArray}{e:Ex}(h:LR s e):e.fin=true:=by
 have:=Iy (gr_fin (Zt (LS h))) (s:=s) _ 1 0 (by omega) (by omega) h.die;rw[<-h.v];exact this
theorem xok_pc{s:ByteArray}{e:Ex}(h:LR s e):pc (e.tk 1)<=pc (tks s):=by
 have:=(Iy (gr_pc (l:=tks s)) (s:=s) _ 1 0 (by omega) (by omega) h.die (Int.le_refl _)).2;have e1:(bP s (tks s) (12*(tks s).length+12) 1 0).v=e:=h.v;have e2:(bP s (tks s) (12*(tks s).length+12) 1 0).i=(tks s).length:=h.i;rw[e1,e2] at this;unfold wS at this;rw[Int.toNat_natCast,UE] at this;have h0:sw w1 (tks s) (0:Int).toNat=0:=rfl;rw[h0] at this;unfold pc at this ⊢;omega
theorem xok_sz{s:ByteArray}{e:Ex}(h:LR s e):(e.wr 1).size<=26*s.size:=by
 have:=(Iy (gr_sz (Zt (LS h))) (s:=s) _ 1 0 (by omega) (by omega) h.die (Int.le_refl _)).2;have e1:(bP s (tks s) (12*(tks s).length+12) 1 0).v=e:=h.v;have e2:(bP s (tks s) (12*(tks s).length+12) 1 0).i=(tks s).length:=h.i;rw[e1,e2] at this;unfold wS at this;rw[Int.toNat_natCast,UE] at this;have h0:sw w2 (tks s) (0:Int).toNat=0:=rfl;rw[h0] at this;have:=lx_w2 (LS h);omega
theorem rK{p:Int->Bool}{s:ByteArray}:∀(j i:Nat),j=s.size-i->i<=s.size->aN p s i=s.size∨p (aT s (aN p s i))=false
 | j,i,hj,hi=>by
   by_cases h:i<s.size/\p (aT s i)=true
   . rw[fD h];cases j with
     | zero=>omega
     | succ j=>exact rK j (i+1) (by omega) (by omega)
   rw[js h];by_cases hs:i=s.size;exact .inl hs;right;cases hp:p (aT s i) with
   | false=>rfl
   | true=>exact absurd ⟨by omega,hp⟩ h
structure Bl(s s':ByteArray)(a:Nat):Prop where
 sz:s'.size=s.size
 lt:a<s.size
 eq:∀ k,k≠a->aT s' k=aT s k
 sp:aT s' a=32
 pr:aT s a=40∨aT s a=41
theorem UL{s s':ByteArray}{a:Nat}(B:Bl s s' a){k:Nat}{p:Int->Bool}(hp:p 32=false)(h:p (aT s k)=false):p (aT s' k)=false:=by
 by_cases hk:k=a;rw[hk,B.sp];exact hp;rw[B.eq k hk];exact h
theorem sig_n{s:ByteArray}{i n:Nat}(h1:fu (aT s i)=false)(h2:ck (aT s i)=false)(hn:n=1)(he:(bN s i).er=0)(hE:(bN s i).e=(i+n:Nat)):¬(i+2<=s.size/\eB ep (s.extract i (i+2))=true):=by
 intro g;unfold bN at he hE;rw[if_neg (by rw[h1];simp),if_neg (by rw[h2];simp)] at he hE;by_cases c3:aT s i=34;rw[if_pos c3] at he hE;have hg:=(ig cD s _ (i+1) rfl).1;unfold mF at he hE;split at hE;rename_i g;rw[if_pos g] at he;cases he;rename_i g;rw[if_neg g] at he;split at hE;rename_i g2;rw[if_pos g2] at he;cases he;have hE:((aN cD s (i+1)+1:Nat):Int)=(i+n:Nat):=hE;omega;rw[if_neg c3,AW,if_pos g] at hE;have hE:((i+2:Nat):Int)=(i+n:Nat):=hE;omega
theorem LU{s s' : ByteArray}{a i n : Nat}(B : Bl s s' a)(hn : 0 < n)(hl : i + n ≤ s.size)(ha : i + n ≤ a ∨ a < i)(he : (bN s i).er = 0)(hE : (bN s i).e = (i + n : Nat)) : bN s' i = ⟨(bN s i).t, (i + n : Nat), 0, 0⟩ := by
 have hz:=B.sz;have hA:Ag s i s' i n:=⟨hl,by omega,fun j hj=>(B.eq (i+j) (by omega)).symm⟩;have hN : Nx s i s' i n := by
  refine⟨fun h=>?_,fun h=>?_,fun h1 h2 h3 h4=>?_⟩;have hr:aN cu s (i+1)=i+n:=by
   unfold bN at hE;rw[if_pos h] at hE;unfold j9 at hE;split at hE;exact Int.ofNat.inj hE;split at hE<;>exact Int.ofNat.inj hE
  have hs:=rK (p:=cu) (s:=s) _ (i+1) rfl (by omega);rw[hr] at hs;rcases hs with hs|hs;left;omega;right;exact UL B (by decide) hs;have hr:aN ck s (i+1)=i+n:=by
   unfold bN at hE;have hnl:=UI h;rw[if_neg (by rw[hnl];simp),if_pos h] at hE;unfold mE at hE;split at hE;exact Int.ofNat.inj hE;split at hE<;>exact Int.ofNat.inj hE
  have hs:=rK (p:=ck) (s:=s) _ (i+1) rfl (by omega);rw[hr] at hs;rcases hs with hs|hs;left;omega;right;exact UL B (by decide) hs;have hno:=sig_n h1 h2 h3 he hE;cases hh:eB ep (s'.extract i (i+2)) with
  | false=>rfl
  | true =>
    exfalso;by_cases hk:i+1=a;have hb:=Oq _ (tP hh) 1 (by rw[ByteArray.size_extract];omega);rw[nG (by omega) h4,hk,B.sp] at hb;cases hb;have ZB:Ag s i s' i 2:=⟨by omega,by omega,fun j hj=>(B.eq (i+j) (by omega)).symm⟩;exact hno ⟨by omega,by rw[ZB.ext];exact hh⟩
 have hM:=HO hA hn hN he hE;rw[hM];have:(bN s i).t.mv i=(bN s i).t:=by
  have:=ER s i;unfold Tok.mv;rw[<-this]
 rw[this]
theorem abD{s s':ByteArray}{a:Nat}(B:Bl s s' a){i:Nat}{l:List Tok}(h:Lx s i l):a<i->Lx s' i l:=by
 have hz:=B.sz
 induction h with
 | done h0=>intro _;exact .done (by omega)
 | sp h0 h1 _ ih=>intro ha;exact .sp (by omega) (by rw[B.eq _ (by omega)];exact h1) (ih (by omega))
 | @com i ts h0 h1 _ ih =>
   intro ha;have hg:=ig fw s _ i rfl;have hle:=hg.2 (by omega);have hr:aN fw s' i=aN fw s i:=by
    by_cases he:aN fw s i=s.size;rw[he,<-hz];exact uN _ i rfl (by omega) fun k h1 h2=>by rw[B.eq k (by omega)];exact lK _ i rfl k h1 (by omega)
    have hs:=rK (p:=fw) (s:=s) _ i rfl (by omega);refine BI ?_ _ i rfl hg.1 fun k h1 h2=>⟨by omega,by rw[B.eq k (by omega)];exact lK _ i rfl k h1 h2⟩;rw[B.eq _ (by omega)];rcases hs with hs|hs;exact absurd hs he;exact hs
   exact .com (by omega) (by rw[B.eq _ (by omega)];exact h1) (by rw[hr];exact ih (by omega))
 | @tok i n ts h0 h1 h2 h3 h4 h5 h6 _ ih =>
   intro ha;have hk:=LU B h5 h6 (.inr ha) h3 h4;have:=Lx.tok (s:=s') (i:=i) (n:=n) (ts:=ts) (by omega) (by rw[B.eq _ (by omega)];exact h1) (by rw[B.eq _ (by omega)];exact h2) (by rw[hk]) (by rw[hk]) h5 (by omega) (ih (by omega));rw[hk] at this;exact this
theorem ZC{s:ByteArray}{i:Nat}{l:List Tok}(h:Lx s i l):∀ t∈l,(i:Int)<=t.at_:=by
 induction h with
 | done _=>intro t ht;cases ht
 | sp _ _ _ ih=>intro t ht;have:=ih t ht;omega
 | @com i ts _ _ _ ih=>intro t ht;have:=ih t ht;have:=(ig fw s _ i rfl).1;omega
 | @tok i n ts _ _ _ _ _ _ _ _ ih =>
   intro t ht;rcases List.mem_cons.1 ht with rfl|ht;rw[ER];exact Int.le_refl _;have:=ih t ht;omega
theorem UM{s s':ByteArray}{a:Nat}(B:Bl s s' a){i:Nat}{l:List Tok}(h:Lx s i l):∀(l1:List Tok)(T:Tok)(l2:List Tok),l=l1++T::l2->T.at_=a->Lx s' i (l1++l2):=by
 have hz:=B.sz;have hp:=B.pr
 induction h with
 | done h0=>intro l1 T l2 e;cases l1<;>cases e
 | @sp i ts h0 h1 hl ih =>
   intro l1 T l2 e ha;have hia:i≠a:=fun he=>by rw[he] at h1;omega
   exact .sp (by omega) (by rw[B.eq _ hia];exact h1) (ih l1 T l2 e ha)
 | @com i ts h0 h1 hl ih =>
   intro l1 T l2 e ha;have hg:=ig fw s _ i rfl;have hle:=hg.2 (by omega);have hT:=ZC hl T (by rw[e];simp);have hlt:=B.lt;have hs:=rK (p:=fw) (s:=s) _ i rfl (by omega);have hne:aN fw s i≠a:=fun he=>by
    rw[he] at hs;rcases hs with hs|hs;omega;rcases hp with hp|hp<;>rw[hp] at hs<;>cases hs
   have hr:aN fw s' i=aN fw s i:=by
    refine BI ?_ _ i rfl hg.1 fun k h1 h2=>⟨by omega,by rw[B.eq k (by omega)];exact lK _ i rfl k h1 h2⟩;rw[B.eq _ hne];rcases hs with hs|hs;omega;exact hs
   exact .com (by omega) (by rw[B.eq _ (by omega)];exact h1) (by rw[hr];exact ih l1 T l2 e ha)
 | @tok i n ts h0 h1 h2 h3 h4 h5 h6 hl ih =>
   intro l1 T l2 e ha;cases l1 with
   | nil =>
     cases e;rw[ER] at ha;obtain rfl:i=a:=by omega
     have hn : n = 1 := by
      have c1:fu (aT s i)=false:=by rcases hp with hp|hp<;>rw[hp]<;>decide
      have c2:ck (aT s i)=false:=by rcases hp with hp|hp<;>rw[hp]<;>decide
      have c3:aT s i≠34:=by omega
      unfold bN at h3 h4;rw[if_neg (by rw[c1];simp),if_neg (by rw[c2];simp),if_neg c3,AW] at h3 h4;by_cases g2:i+2<=s.size/\eB ep (s.extract i (i+2))=true;exfalso;have:=OO _ (tP g2.2) (by rw[ByteArray.size_extract];omega);rw[nG (by omega) g2.1,Nat.add_zero] at this;omega;rw[if_neg g2] at h3 h4;by_cases g1:i+1<=s.size/\eB ep (s.extract i (i+1))=true;rw[if_pos g1] at h4;have h4:((i+1:Nat):Int)=(i+n:Nat):=h4;omega;rw[if_neg g1] at h3;cases h3
     subst hn;exact .sp (by omega) (.inl B.sp) (abD B hl (by omega))
   | cons t0 l1 =>
     have e0:(bN s i).t=t0:=by cases e;rfl
     have e1:ts=l1++T::l2:=by cases e;rfl
     have hT:=ZC hl T (by rw[e1];simp);have hk:=LU B h5 h6 (.inl (by omega)) h3 h4;have:=Lx.tok (s:=s') (i:=i) (n:=n) (ts:=l1++l2) (by omega) (by rw[B.eq _ (by omega)];exact h1) (by rw[B.eq _ (by omega)];exact h2) (by rw[hk]) (by rw[hk]) h5 (by omega) (ih l1 T l2 e1 ha);rw[hk] at this;rw[List.cons_append,<-e0];exact this
theorem OQ{s : ByteArray}{i : Nat}{l : List Tok}(h : Lx s i l) : ∀ t ∈ l, ∃ a : Nat, t.at_ = a ∧ a < s.size ∧ (t.kind = 5 → 0 < t.text.size ∧ aT t.text 0 = aT s a) := by
 induction h with
 | done _=>intro t ht;cases ht
 | sp _ _ _ ih=>exact ih
 | com _ _ _ ih=>exact ih
 | @tok i n ts h0 h1 h2 h3 h4 h5 h6 _ ih =>
   intro t ht;rcases List.mem_cons.1 ht with rfl|ht;refine⟨i,ER s i,h0,fun hk=>?_⟩;unfold bN at h3 hk ⊢;split at hk;unfold j9 at hk;split at hk;cases hk;split at hk<;>cases hk;rename_i c1;rw[if_neg c1] at h3 ⊢;split at hk;unfold mE at hk;split at hk;cases hk;split at hk<;>cases hk;rename_i c2;rw[if_neg c2] at h3 ⊢;split at hk;unfold mF at hk;split at hk;cases hk;split at hk<;>cases hk;rename_i c3;rw[if_neg c3] at h3 ⊢;rw[AW] at h3 ⊢;by_cases g2:i+2<=s.size/\eB ep (s.extract i (i+2))=true;rw[if_pos g2];exact⟨by show 0<(s.extract i (i+2)).size;rw[ByteArray.size_extract];omega,by show aT (s.extract i (i+2)) 0=_;rw[nG (by omega) g2.1,Nat.add_zero]⟩;rw[if_neg g2] at h3 ⊢;by_cases g1:i+1<=s.size/\eB ep (s.extract i (i+1))=true;rw[if_pos g1];exact⟨by show 0<(s.extract i (i+1)).size;rw[ByteArray.size_extract];omega,by show aT (s.extract i (i+1)) 0=_;rw[nG (by omega) g1.1,Nat.add_zero]⟩;rw[if_neg g1] at h3;cases h3;exact ih t ht
def OT(t:ByteArray)(a:Nat):ByteArray:=t.extract 0 a++rD++t.extract (a+1) t.size
def qg(t:ByteArray)(a b:Nat):ByteArray:=t.extract 0 a++rD++t.extract (a+1) b++rD++t.extract (b+1) t.size
theorem DE{t:ByteArray}{a:Nat}(h:a<t.size):(OT t a).size=t.size:=by
 unfold OT;rw[aD,aD,ByteArray.size_extract,ByteArray.size_extract];show min a t.size-0+1+(min t.size t.size-(a+1))=t.size;omega
theorem LV{t:ByteArray}{a b:Nat}(h:a<b)(hb:b<t.size):(qg t a b).size=t.size:=by
 unfold qg;rw[aD,aD,aD,aD,ByteArray.size_extract,ByteArray.size_extract,ByteArray.size_extract];show min a t.size-0+1+(min b t.size-(a+1))+1+(min t.size t.size-(b+1))=t.size;omega
theorem F8{s:ByteArray}{i:Nat}(h:s.size<=i):aT s i=0:=by
 unfold aT;have h1:s.data.toList.length<=i:=by simpa using h
 rw[List.getD_eq_getElem?_getD,List.getElem?_eq_none h1];rfl
theorem sP{x y:ByteArray}{k:Nat}:aT (x++y) k=if k<x.size then aT x k else aT y (k-x.size):=by
 by_cases h:k<x.size;rw[if_pos h,j7 h];rw[if_neg h];obtain⟨j,rfl⟩:∃ j,k=x.size+j:=⟨k-x.size,by omega⟩;rw[kP,Nat.add_sub_cancel_left]
theorem wY{t:ByteArray}{a b k:Nat}(hb:b<=t.size):aT (t.extract a b) k=if a+k<b then aT t (a+k) else 0:=by
 by_cases h:a+k<b;rw[if_pos h,nG h hb];rw[if_neg h];exact F8 (by rw[ByteArray.size_extract];omega)
theorem E2{t:ByteArray}{a:Nat}(h:a<t.size)(k:Nat):aT (OT t a) k=if k=a then 32 else aT t k:=by
 have z1:(t.extract 0 a).size=a:=by rw[ByteArray.size_extract];omega
 have z2:rD.size=1:=rfl;unfold OT;rw[sP,sP,wY (by omega),wY (Nat.le_refl _),aD,z1,z2];by_cases h1:k<a;rw[if_pos (by omega),if_pos h1,if_pos (by omega),if_neg (by omega),Nat.zero_add];by_cases h2:k=a;subst h2;rw[if_pos (by omega),if_neg (by omega),if_pos rfl,Nat.sub_self];decide;rw[if_neg (by omega),if_neg h2];by_cases h3:k<t.size;rw[if_pos (by omega),show a+1+(k-(a+1))=k by omega];rw[if_neg (by omega),F8 (by omega)]
theorem UN{t:ByteArray}{a b:Nat}(h:a<b)(hb:b<t.size)(k:Nat):aT (qg t a b) k=if k=b then 32 else if k=a then 32 else aT t k:=by
 have z1:(t.extract 0 a).size=a:=by rw[ByteArray.size_extract];omega
 have z3:(t.extract (a+1) b).size=b-(a+1):=by rw[ByteArray.size_extract];omega
 have z2:rD.size=1:=rfl;unfold qg;rw[sP,sP,sP,sP,wY (by omega),wY (by omega),wY (Nat.le_refl _),aD,aD,aD,z1,z2,z3];by_cases h1:k<a;rw[if_pos (by omega),if_pos (by omega),if_pos (by omega),if_pos h1,if_pos (by omega),if_neg (by omega),if_neg (by omega),Nat.zero_add];by_cases h2:k=a;subst h2;rw[if_pos (by omega),if_pos (by omega),if_pos (by omega),if_neg (by omega),if_neg (by omega),if_pos rfl,Nat.sub_self];decide;by_cases h3:k<b;rw[if_pos (by omega),if_pos (by omega),if_neg (by omega),if_pos (by omega),if_neg (by omega),if_neg h2,show a+1+(k-(a+1))=k by omega];by_cases h4:k=b;subst h4;rw[if_pos (by omega),if_neg (by omega),if_pos rfl,show k-(a+1+(k-(a+1)))=0 by omega];decide;rw[if_neg (by omega),if_neg h4,if_neg h2];by_cases h5:k<t.size;rw[if_pos (by omega),show b+1+(k-(a+1+(b-(a+1))+1))=k by omega];rw[if_neg (by omega),F8 (by omega)]
theorem bl_one{t:ByteArray}{a:Nat}(h:a<t.size)(hp:aT t a=40∨aT t a=41):Bl t (OT t a) a :=
 ⟨DE h,h,fun k hk=>by rw[E2 h,if_neg hk],by rw[E2 h,if_pos rfl],hp⟩
theorem bl_two{t:ByteArray}{a b:Nat}(h:a<b)(hb:b<t.size)(hp:aT t b=40∨aT t b=41):Bl (OT t a) (qg t a b) b:=by
 refine⟨by rw[LV h hb,DE (by omega)],by rw[DE (by omega)];exact hb,fun k hk=>?_,by rw[UN h hb,if_pos rfl],by rw[E2 (by omega),if_neg (by omega)];exact hp⟩;rw[UN h hb,if_neg hk,E2 (by omega)]
structure Pair(l:List Tok)(a b:Int):Prop where
 ex:∃ l1 A l2 B l3,l=l1++A::(l2++B::l3)/\A.kind=5/\A.text=dP/\A.at_=a/\B.kind=5/\B.text=dU/\B.at_=b
theorem UO{t:ByteArray}{l:List Tok}(hl:Lx t 0 l){a b:Nat}(h:a<b)(hb:b<t.size)(hP:Pair l a b):∃ l',Lx (qg t a b) 0 l'/\pc l'+1=pc l:=by
 obtain⟨l1,A,l2,B,l3,e,hA1,ZB,hA3,hB1,hB2,hB3⟩:=hP;obtain⟨a',ha1,ha2,ha3⟩:=OQ hl A (by rw[e];simp);obtain⟨b',hb1,hb2,hb3⟩:=OQ hl B (by rw[e];simp);obtain rfl:a'=a:=by omega
 obtain rfl:b'=b:=by omega
 have hpa:aT t a'=40:=by rw[<-(ha3 hA1).2,ZB];decide
 have hpb:aT t b'=41:=by rw[<-(hb3 hB1).2,hB2];decide
 have h1:=UM (bl_one ha2 (.inl hpa)) hl l1 A (l2++B::l3) e hA3;have h2:=UM (bl_two h hb (.inr hpb)) h1 (l1++l2) B l3 (by rw[List.append_assoc]) hB3;refine⟨_,h2,?_⟩;have wA:w1 A=1:=by unfold w1 wT;rw[hA1,ZB];rfl
 have wB:w1 B=0:=by unfold w1 wT;rw[hB1,hB2];decide
 rw[e,lD,lD,lD,fF,lD,fF,wA,wB];omega
theorem UQ:∀{a b:List Tok},kU a b->pc b=pc a
 | [],[],_=>rfl
 | x::a,y::b,h=>by
   rw[kU] at h;rw[fF,fF,UQ h.2];have:w1 y=w1 x:=by unfold w1 wT;rw[h.1.1,h.1.2.1]
   omega
 | [],_::_,h=>by rw[kU] at h<;>first|exact h.elim|simp
 | _::_,[],h=>by rw[kU] at h<;>first|exact h.elim|simp
theorem fewest{e:Ex}(hf:e.fin=true)(hd:e.deep<=200)(hz:(e.wr 1).size<=20000){a b:Nat}(h:a<b)(hb:b<(e.wr 1).size)(hP:Pair (tks (e.wr 1)) a b)(h0:(eF (qg (e.wr 1) a b)).2.1=0):(eF (qg (e.wr 1) a b)).1≠e:=by
 intro he;obtain⟨h1,h2,h3⟩:=HV hf hd hz;have h4:=UK h0;rw[he] at h4;have h5:=xok_pc h4;obtain⟨l',h6,h7⟩:=UO h3 h hb hP;have h8:=Uw (by rw[LV h hb];exact hz) h6;have h9:tks (qg (e.wr 1) a b)=l':=by rw[LD h4.spl,h8]
 rw[h9] at h5;have:=UQ h2;omega
def dl(t:Tok):Int:=bif decide (t.kind=5)&&decide (t.text=dP) then 1 else bif decide (t.kind=5)&&decide (t.text=dU) then -1 else 0
def qh(l:List Tok):Nat->Nat->Int->Option Nat
 | 0,_,_=>none
 | j+1,k,o=>bif decide (o+dl (ay l k)=0) then some k else qh l j (k+1) (o+dl (ay l k))
def AZ(s:ByteArray)(a b:Int):List (Int×Int):=bif decide (0<=a)&&decide (a<b)&&decide (b<s.size) then [(a,b)] else []
def toP(s:ByteArray)(l:List Tok)(i:Nat):Option Nat->List (Int×Int)
 | none=>[]
 | some k=>AZ s (ay l i).at_ (ay l k).at_
def tR(l:List Tok)(i:Nat):Bool:=decide ((ay l i).kind=5)&&decide ((ay l i).text=dP)&&!(decide (0<i)&&decide ((ay l ((i:Int)-1)).kind=1))
def tS(s:ByteArray)(l:List Tok):Nat->Nat->List (Int×Int)
 | 0,_=>[]
 | j+1,i=>(bif tR l i then toP s l i (qh l (l.length-i) i 0) else [])++tS s l j (i+1)
theorem dl_rp{t:Tok}(h:dl t=-1):t.kind=5/\t.text=dU:=by
 unfold dl at h;cases h1:decide (t.kind=5)&&decide (t.text=dP) with
 | true=>rw[h1] at h;cases h
 | false =>
   rw[h1] at h;cases h2:decide (t.kind=5)&&decide (t.text=dU) with
   | false=>rw[h2] at h;cases h
   | true=>simpa only[Bool.and_eq_true,decide_eq_true_eq] using h2
theorem LW(t:Tok):dl t=1∨dl t=-1∨dl t=0:=by
 unfold dl;cases decide (t.kind=5)&&decide (t.text=dP) with
 | true=>exact .inl rfl
 | false =>
   cases decide (t.kind=5)&&decide (t.text=dU) with
   | true=>exact .inr (.inl rfl)
   | false=>exact .inr (.inr rfl)
theorem UR{l:List Tok}{q:Nat}:∀(j k:Nat)(o:Int),1<=o->qh l j k o=some q->k<=q/\q<k+j/\dl (ay l q)=-1
 | 0,k,o,_,h=>by cases h
 | j + 1, k, o, ho, h => by
   unfold qh at h;have h3:=LW (ay l k);by_cases h0:o+dl (ay l k)=0;rw[decide_eq_true h0] at h;obtain rfl:k=q:=Option.some.inj h;exact⟨Nat.le_refl _,by omega,by omega⟩;rw[decide_eq_false h0] at h;obtain⟨a,b,c⟩:=UR j (k+1) _ (by omega) h;exact⟨by omega,by omega,c⟩
theorem DF{l:List Tok}{i:Nat}(h:i<l.length):ay l (i:Int)=l[i]:=by
 unfold ay;rw[Int.toNat_natCast,List.getD_eq_getElem?_getD,List.getElem?_eq_getElem h];rfl
theorem XQ{s : ByteArray}{l : List Tok}{i : Nat}(hi : i < l.length)(ho : tR l i = true) : ∀ p ∈ toP s l i (qh l (l.length - i) i 0), Pair l p.1 p.2 ∧ 0 ≤ p.1 ∧ p.1 < p.2 ∧ p.2 < s.size := by
 intro p hp;unfold tR at ho;rw[Bool.and_eq_true,Bool.and_eq_true,decide_eq_true_eq,decide_eq_true_eq] at ho;obtain⟨⟨h1,h2⟩,_⟩:=ho;have hd:dl (ay l i)=1:=by unfold dl;rw[decide_eq_true h1,decide_eq_true h2];rfl
 obtain⟨j,hj⟩:∃ j,l.length-i=j+1:=⟨l.length-i-1,by omega⟩;rw[hj,qh,hd,decide_eq_false (by omega),cond_false] at hp;cases hc:qh l j (i+1) (0+1) with
 | none=>rw[hc] at hp;cases hp
 | some q =>
   rw[hc] at hp;obtain⟨a,b,c⟩:=UR j (i+1) _ (by omega) hc;obtain⟨c1,c2⟩:=dl_rp c;have hp:p∈AZ s (ay l i).at_ (ay l q).at_:=hp
   unfold AZ at hp;cases hk:decide (0<=(ay l i).at_)&&decide ((ay l i).at_<(ay l q).at_)&&decide ((ay l q).at_<s.size) with
   | false=>rw[hk] at hp;cases hp
   | true =>
     rw[hk] at hp;simp only[Bool.and_eq_true,decide_eq_true_eq] at hk;obtain rfl:p=_:=List.mem_singleton.1 hp;have hq:q<l.length:=by omega
     refine⟨⟨l.take i,l[i],(l.drop (i+1)).take (q-(i+1)),l[q],l.drop (q+1),?_,?_⟩,hk.1.1,hk.1.2,hk.2⟩;have e1:l=l.take i++l.drop i:=(List.take_append_drop i l).symm;have e2:l.drop i=l[i]::l.drop (i+1):=List.drop_eq_getElem_cons hi;have e3:l.drop (i+1)=(l.drop (i+1)).take (q-(i+1))++(l.drop (i+1)).drop (q-(i+1)):=(List.take_append_drop _ _).symm;have e4:(l.drop (i+1)).drop (q-(i+1))=l[q]::l.drop (q+1):=by
      rw[List.drop_drop,show i+1+(q-(i+1))=q by omega];exact List.drop_eq_getElem_cons hq
     rw[e4] at e3;rw[<-e3,<-e2];exact e1;rw[<-DF hi,<-DF hq];exact⟨h1,h2,rfl,c1,c2,rfl⟩
theorem DH{s:ByteArray}{l:List Tok}:∀(j i:Nat),i+j<=l.length->∀ p∈tS s l j i,Pair l p.1 p.2/\0<=p.1/\p.1<p.2/\p.2<s.size
 | 0,i,_,p,hp=>by cases hp
 | j + 1, i, h, p, hp => by
   rw[tS] at hp;rcases List.mem_append.1 hp with hp|hp
   . cases ho:tR l i with
     | false=>rw[ho] at hp;cases hp
     | true=>rw[ho] at hp;exact XQ (by omega) ho p hp
   exact DH j (i+1) (by omega) p hp
theorem QX{e:Ex}(hf:e.fin=true)(hd:e.deep<=200)(hz:(e.wr 1).size<=20000){p:Int×Int}(hp:p∈tS (e.wr 1) (tks (e.wr 1)) (tks (e.wr 1)).length 0)(h0:(eF (qg (e.wr 1) p.1.toNat p.2.toNat)).2.1=0):(eF (qg (e.wr 1) p.1.toNat p.2.toNat)).1.jb e=false:=by
 obtain⟨h1,h2,h3,h4⟩:=DH _ 0 (by omega) p hp;cases he:(eF (qg (e.wr 1) p.1.toNat p.2.toNat)).1.jb e with
 | false=>rfl
 | true =>
   refine absurd ((Ex.nF _ _).1 he) (fewest hf hd hz (by omega) (by omega) ?_ h0);rw[show ((p.1.toNat:Nat):Int)=p.1 by omega,show ((p.2.toNat:Nat):Int)=p.2 by omega];exact h1
theorem prS_in{s:ByteArray}{l:List Tok}{p:Int×Int}(hp:p∈tS s l l.length 0):0<=p.1/\p.1<p.2/\p.2<s.size:=(DH _ 0 (by omega) p hp).2
theorem F9{s : ByteArray}{l : List Tok} : ∀ j i, (tS s l j i).length ≤ j
 | 0,i=>Nat.le_refl _
 | j+1,i=>by
   have:=F9 (s:=s) (l:=l) j (i+1);rw[tS,List.length_append];have h1 : (bif tR l i then toP s l i (qh l (l.length - i) i 0) else []).length ≤ 1 := by
    cases tR l i with
    | false=>exact Nat.zero_le _
    | true =>
      cases qh l (l.length-i) i 0 with
      | none=>exact Nat.zero_le _
      | some k =>
        show (AZ _ _ _).length<=1;unfold AZ;cases decide (0<=(ay l i).at_)&&decide ((ay l i).at_<(ay l k).at_)&&decide ((ay l k).at_<s.size) with
        | false=>exact Nat.zero_le _
        | true=>exact Nat.le_refl _
   omega
theorem XS(s:ByteArray):bt Tryz.prog 22 [sS s] [] (.bF [.c (.rs 4 (aB (tks s))),fV (cQ s).2.1 (cQ s).2.2]) []:=by
 by_cases hs:s.size<=1000000;exact Hx s hs;refine oR (aQ:=[]) (eV:=[]) (fz:=[some .pv,none]) Ng Tryz.func22 (by kernel_rfl) (ak:=0) rfl (by kernel_rfl) 100 ?_;apply of_eq (q:=let q1:=(bK s s.size (0:Nat));let q2:=V.c (W.rs (4:Nat) (List.take ((0:Nat)*4) (List.drop (0:Nat) [])));let q3:=V.c (W.rs (4:Nat) (aB (tks s)));(decide ((20000:Int)<(s.size:Int))=true->(0:Nat)+0*4<=0/\ax [q2,V.agg [wI (4),wI (20000)]]=A.bF [q3,fV (cQ s).snd.fst (cQ s).snd.snd]/\([]:List Ob)=[])/\(decide ((20000:Int)<(s.size:Int))=false->s.size<=20000/\((!decide (q1.snd.fst=0))=true->(0:Nat)+0*4<=0/\ax [q2,V.agg [wI q1.snd.fst,wI q1.snd.snd]]=A.bF [q3,fV (cQ s).snd.fst (cQ s).snd.snd]/\([]:List Ob)=[])/\((!decide (q1.snd.fst=0))=false->(0:Nat)+q1.fst.length*4<=(aB q1.fst).length/\ax [V.c (W.rs (4:Nat) (List.take (q1.fst.length*4) (List.drop (0:Nat) (aB q1.fst)))),V.agg [wI q1.snd.fst,wI q1.snd.snd]]=A.bF [q3,fV (cQ s).snd.fst (cQ s).snd.snd]/\([]:List Ob)=[]))) (by kernel_rfl)
 try simp only[sL]
 have e:cQ s=([],4,20000):=by unfold cQ;rw[if_pos (by omega)]
 have et:tks s=[]:=by show kr (cQ s)=_;rw[e];rfl
 rw[e,et];exact⟨fun _=>rfl,fun h=>by omega⟩
def UU:cT:=jk .str fun s=>(.t,.bF [.c (.rs 4 (aB (tks s))),fV (cQ s).2.1 (cQ s).2.2],[])
theorem UW:bE Tryz.prog 22 UU:=eZ (by kernel_rfl) fun s _=>XS s
def eD(l:List (Int×Int)):List PV:=l.flatMap fun p=>[.int p.1,.int p.2]
theorem rL(l:List (Int×Int)):(eD l).length=l.length*2:=by
 induction l with
 | nil=>rfl
 | cons p l ih=>show (_::_::eD l).length=_;simp only[List.length_cons,ih];omega
theorem UX(l m:List (Int×Int)):eD (l++m)=eD l++eD m:=by unfold eD;exact List.flatMap_append
noncomputable def gPr:cg:=[(22,UU)]
theorem LX:bp Tryz.prog gPr:=aq UW aK
abbrev prL:List (List Nat×List Nat):=[([0,1,1,1,0,0,1,0,0,1,0,1,1,1,1],[0,3,4,6,7,8]),([0,1,0,1,1,1,1],[0,3,4,6])]
noncomputable def qi:bh:=ez Tryz.prog gPr Tryz.f9 0 prL [] [some .pv]
abbrev vA(out:List (Int×Int)):Ob:=⟨38,[.a 0 .pv (eD out)]⟩
abbrev CU(out:List (Int×Int)):A:=.p (.c (.sl 0 0 out.length 2))
theorem tkn{l:List Tok}{k:Nat}(h:k<l.length):(aB l).getD (k*4+0) (.bool false)=.int (ay l k).kind/\(aB l).getD (k*4+1) (.bool false)=.str (ay l k).text/\(aB l).getD (k*4+3) (.bool false)=.int (ay l k).at_:=by
 rw[DF h];exact⟨mU h 0 (by omega),mU h 1 (by omega),mU h 3 (by omega)⟩
theorem UY(l:List (Int×Int)):List.take (l.length*2) (eD l)=eD l:=List.take_of_length_le (by rw[rL];omega)
abbrev HY:List Nat:=[0,1,0,1,1,1,1]
abbrev plI:List Nat:=[0,1,1,1,0,0,1,0,0,1,0,1,1,1,1]
theorem abE{s:ByteArray}{l:List Tok}{R:A}{i:Nat}{out:List (Int×Int)}{a b:Int}(hO:aF qi (aX R []) HY (fr [(0,sS s),(3,CU (out++AZ s a b)),(4,vg l),(6,nI ((i+1:Nat):Int))]) (.ofList [vA (out++AZ s a b)])) :
 ((0<=a/\a<b)/\b<s.size->aF qi (aX R []) HY (fr [(0,sS s),(3,.p (.c (.sl 0 0 (out.length+1) 2))),(4,vg l),(6,nI ((i:Int)+1))]) (.ofList [⟨38,[.a 0 .pv (List.take (out.length*2) (eD out)++[.int a,.int b])]⟩]))/\
 ((0<=a/\a<b->s.size<=b)->aF qi (aX R []) HY (fr [(0,sS s),(3,CU out),(4,vg l),(6,nI ((i:Int)+1))]) (.ofList [vA out])):=by
 refine⟨fun h=>?_,fun h=>?_⟩;have e:AZ s a b=[(a,b)]:=by unfold AZ;rw[decide_eq_true h.1.1,decide_eq_true h.1.2,decide_eq_true h.2];rfl
 rw[e] at hO;have e1:CU (out++[(a,b)])=.p (.c (.sl 0 0 (out.length+1) 2)):=by unfold CU;rw[show (out++[(a,b)]).length=out.length+1 by simp]
 have e2:vA (out++[(a,b)])=⟨38,[.a 0 .pv (eD out++[.int a,.int b])]⟩:=by unfold vA;rw[UX];rfl
 rw[UY];rw[e1,e2] at hO;exact hO;have e:AZ s a b=[]:=by
  unfold AZ;by_cases h1:0<=a;by_cases h2:a<b;rw[decide_eq_false (p:=b<s.size) (by have:=h ⟨h1,h2⟩;omega),Bool.and_false];rfl;rw[decide_eq_false h2,Bool.and_false];rfl;rw[decide_eq_false h1];rfl
 rw[e,List.append_nil] at hO;exact hO
theorem ZE(s : ByteArray)(l : List Tok)(hl : l.length ≤ 20000)(R : A)(i : Nat)(hi : i < l.length)(out : List (Int × Int))(hz : out.length ≤ 20000) : ∀(j k : Nat)(o : Int), j = l.length - k → k ≤ l.length → -(k : Int) ≤ o → o ≤ k →
 aF qi (aX R []) HY (fr [(0,sS s),(3,CU (out++toP s l i (qh l j k o))),(4,vg l),(6,nI ((i+1:Nat):Int))]) (.ofList [vA (out++toP s l i (qh l j k o))])->
 aF qi (aX R []) plI (fr [(0,sS s),(3,CU out),(4,vg l),(6,nI i),(7,nI o),(8,nI k)]) (.ofList [vA out])
 | j, k, o, hj, hk, jW, Cb, hO => by
   refine cj LX (by kernel_rfl) 400 ?_;apply of_eq (q:=let q0:=IntKind.i64.wrap;let q5:=(aB l);let q6:=decide ((q5.getD (k*4+1) (PV.bool false)).bL=ByteArray.mk #[(41:UInt8)]);let q7:=(af.ofList [Ob.mk 38 [Fd.a 0 D.pv (eD out)]]);let q9:=decide ((q5.getD (i*4+3) (PV.bool false)).asInt<(q5.getD (k*4+3) (PV.bool false)).asInt);let aJ:=(PV.str (ByteArray.mk #[])).like (q5.getD (k*4+1) (PV.bool false))=true;let bn:=(PV.int (0:Int)).like (q5.getD (k*4+0) (PV.bool false))=true;let bS:=[0,1,1,1,0,0,1,0,0,1,0,1,1,1,1];let bX:=(8,nI (q0 ((k:Int)+1)));let dx:=(0:Int)<=(k:Int);let dX:=aP (W.rs (4:Nat) q5);let bV:=aP (W.sl 0 0 out.length 2);let cU:=decide ((q5.getD (k*4+1) (PV.bool false)).bL=ByteArray.mk #[(40:UInt8)]);let dR:=k*4<q5.length;let eI:=decide ((q5.getD (k*4+3) (PV.bool false)).asInt<(s.size:Int));let dL:=(0:Int)<=(i:Int);let bQ:=decide (q0 (q0 (o+1)-1)=0);let q2:=decide ((q5.getD (k*4+0) (PV.bool false)).asInt=5);let q4:=decide ((0:Int)<=(q5.getD (i*4+3) (PV.bool false)).asInt);let q8:=q2=true;let bg:=aF qi (aX R []) [0,1,0,1,1,1,1] (fr [(0,aP (W.str s)),(3,bV),(4,dX),(6,nI (q0 ((i:Int)+1)))]) q7;let q3:=(bif q4 then q9 else false)=true;let q1:=i*4+3<q5.length/\(PV.int (0:Int)).like (q5.getD (i*4+3) (PV.bool false))=true/\(dx/\dR)/\k*4+3<q5.length/\(PV.int (0:Int)).like (q5.getD (k*4+3) (PV.bool false))=true/\(q4=true->q4=true)/\(q4=true->q4=true)/\(q4=true->q4=true)/\(q3->q3)/\(q3->q3)/\(q3->q3)/\(q3->q3)/\((bif bif q4 then q9 else false then eI else false)=true->((0:Nat)+out.length*2<=(eD out).length/\(out.length+1)*16<=140737488355328)/\aF qi (aX R []) [0,1,0,1,1,1,1] (fr [(0,aP (W.str s)),(3,aP (W.sl 0 0 (out.length+1) 2)),(4,dX),(6,nI (q0 ((i:Int)+1)))]) (af.ofList [Ob.mk 38 [Fd.a 0 D.pv (List.take (out.length*2) (List.drop (0:Nat) (eD out))++[PV.int (q5.getD (i*4+3) (PV.bool false)).asInt,PV.int (q5.getD (k*4+3) (PV.bool false)).asInt])]]))/\((bif bif q4 then q9 else false then eI else false)=false->bg);(decide ((k:Int)<(↑(q5.length/4):Int))=true->(dx/\dR)/\k*4+0<q5.length/\bn/\(q8->q8)/\(q8->q8)/\(q8->dx/\dR)/\(q8->q8)/\(q8->q8)/\(q8->k*4+1<q5.length)/\(q8->aJ)/\(q8->q8)/\(q8->q8)/\((bif q2 then cU else false)=true->(dx/\dR)/\k*4+0<q5.length/\bn/\(q8->q8)/\(q8->q8)/\(q8->dx/\dR)/\(q8->q8)/\(q8->q8)/\(q8->k*4+1<q5.length)/\(q8->aJ)/\(q8->q8)/\(q8->q8)/\((bif q2 then q6 else false)=true->(bQ=true->(dL/\i*4<q5.length)/\q1)/\(bQ=false->aF qi (aX R []) bS (fr [(0,aP (W.str s)),(3,bV),(4,dX),(6,nI (i:Int)),(7,nI (q0 (q0 (o+1)-1))),bX]) q7))/\((bif q2 then q6 else false)=false->(decide (q0 (o+1)=0)=true->(dL/\i*4<q5.length)/\q1)/\(decide (q0 (o+1)=0)=false->aF qi (aX R []) bS (fr [(0,aP (W.str s)),(3,bV),(4,dX),(6,nI (i:Int)),(7,nI (q0 (o+1))),bX]) q7)))/\((bif q2 then cU else false)=false->(dx/\dR)/\k*4+0<q5.length/\bn/\(q8->q8)/\(q8->q8)/\(q8->dx/\dR)/\(q8->q8)/\(q8->q8)/\(q8->k*4+1<q5.length)/\(q8->aJ)/\(q8->q8)/\(q8->q8)/\((bif q2 then q6 else false)=true->(decide (q0 (o-1)=0)=true->(dL/\i*4<q5.length)/\q1)/\(decide (q0 (o-1)=0)=false->aF qi (aX R []) bS (fr [(0,aP (W.str s)),(3,bV),(4,dX),(6,nI (i:Int)),(7,nI (q0 (o-1))),bX]) q7))/\((bif q2 then q6 else false)=false->(decide (o=0)=true->(dL/\i*4<q5.length)/\q1)/\(decide (o=0)=false->aF qi (aX R []) bS (fr [(0,aP (W.str s)),(3,bV),(4,dX),(6,nI (i:Int)),(7,nI o),bX]) q7))))/\(decide ((k:Int)<(↑(q5.length/4):Int))=false->bg)) (by kernel_rfl)
   try simp only[sL]
   have hl4:(aB l).length=l.length*4:=lH l;have hp2:(eD out).length=out.length*2:=rL out;rw[CA,wrap64 (n:=(i:Int)+1) (by omega) (by omega),wrap64 (n:=(k:Int)+1) (by omega) (by omega),wrap64 (n:=o+1) (by omega) (by omega),wrap64 (n:=o-1) (by omega) (by omega)];refine⟨fun h1=>?_,fun h1=>?_⟩
   · have h1 : k < l.length := by omega
     obtain⟨g0,g1,g3⟩:=tkn h1;obtain⟨_,_,f3⟩:=tkn hi;rw[g0,g1,g3,f3];cases j with
     | zero=>omega
     | succ j =>
       have leaf:∀ o',o'=o+dl (ay l k)->
        (o'=0->(0<=(i:Int)/\i*4<(aB l).length)/\i*4+3<(aB l).length/\(PV.int 0).like (.int (ay l i).at_)=true/\(0<=(k:Int)/\k*4<(aB l).length)/\k*4+3<(aB l).length/\(PV.int 0).like (.int (ay l k).at_)=true/\
         ((0<=(ay l i).at_/\(ay l i).at_<(ay l k).at_)/\(ay l k).at_<s.size->(out.length*2<=(eD out).length/\(out.length+1)*16<=140737488355328)/\aF qi (aX R []) HY (fr [(0,sS s),(3,.p (.c (.sl 0 0 (out.length+1) 2))),(4,vg l),(6,nI ((i:Int)+1))]) (.ofList [⟨38,[.a 0 .pv (List.take (out.length*2) (eD out)++[.int (ay l i).at_,.int (ay l k).at_])]⟩]))/\
         ((0<=(ay l i).at_/\(ay l i).at_<(ay l k).at_->s.size<=(ay l k).at_)->aF qi (aX R []) HY (fr [(0,sS s),(3,CU out),(4,vg l),(6,nI ((i:Int)+1))]) (.ofList [vA out])))/\
        (¬o'=0->aF qi (aX R []) plI (fr [(0,sS s),(3,CU out),(4,vg l),(6,nI i),(7,nI o'),(8,nI ((k:Int)+1))]) (.ofList [vA out])):=by
        rintro o' rfl;have h3:=LW (ay l k);refine⟨fun h0=>?_,fun h0=>?_⟩;have e:qh l (j+1) k o=some k:=by rw[qh,decide_eq_true h0];rfl
        rw[e] at hO;obtain⟨a1,a2⟩:=abE hO;exact⟨⟨by omega,by omega⟩,by omega,rfl,⟨by omega,by omega⟩,by omega,rfl,fun h=>⟨⟨by omega,by omega⟩,a1 h⟩,a2⟩;have e:qh l (j+1) k o=qh l j (k+1) (o+dl (ay l k)):=by rw[qh,decide_eq_false h0];rfl
        rw[e] at hO;exact ZE s l hl R i hi out hz j (k+1) _ (by omega) (by omega) (by omega) (by omega) hO
       have d1:(ay l k).kind=5/\(ay l k).text=dP->dl (ay l k)=1:=fun h=>by unfold dl;rw[decide_eq_true h.1,decide_eq_true h.2];rfl
       have b0:k*4<(aB l).length:=by omega
       have b1:k*4+1<(aB l).length:=by omega
       refine⟨⟨by omega,b0⟩,by omega,rfl,fun _=>⟨by omega,b0⟩,fun _=>b1,fun _=>rfl,fun hp=>?_,fun hp=>?_⟩;refine⟨⟨by omega,b0⟩,by omega,rfl,fun _=>⟨by omega,b0⟩,fun _=>b1,fun _=>rfl,fun hq=>?_,fun _=>?_⟩;exfalso;have:=hp.2.symm.trans hq.2;exact absurd this (by decide);exact leaf _ (by rw[d1 hp]);have hp':(decide ((ay l k).kind=5)&&decide ((ay l k).text=dP))=false:=by
        by_cases h5:(ay l k).kind=5;rw[decide_eq_false (p:=(ay l k).text=dP) (hp h5),Bool.and_false];rw[decide_eq_false h5];rfl
       refine⟨⟨by omega,b0⟩,by omega,rfl,fun _=>⟨by omega,b0⟩,fun _=>b1,fun _=>rfl,fun hq=>?_,fun hq=>?_⟩;refine leaf _ ?_;have:dl (ay l k)=-1:=by unfold dl;rw[hp',decide_eq_true (p:=(ay l k).kind=5) hq.1,decide_eq_true (p:=(ay l k).text=dU) hq.2];rfl
       rw[this];rfl;refine leaf _ ?_;have:dl (ay l k)=0:=by
        unfold dl;rw[hp'];by_cases h5:(ay l k).kind=5;rw[decide_eq_false (p:=(ay l k).text=dU) (hq h5),Bool.and_false];rfl;rw[decide_eq_false h5];rfl
       rw[this,Int.add_zero]
   obtain rfl:j=0:=by omega
   have e:toP s l i (qh l 0 k o)=[]:=rfl;rw[e,List.append_nil] at hO;exact hO
theorem UZ(s : ByteArray)(l : List Tok)(hl : l.length ≤ 20000)(R : A) : ∀(j i : Nat)(out : List (Int × Int)), j = l.length - i → i ≤ l.length → out.length ≤ i → (R = .p (.c (.rs 2 (eD (out ++ tS s l j i))))) →
 aF qi (aX R []) HY (fr [(0,sS s),(3,CU out),(4,vg l),(6,nI i)]) (.ofList [vA out])
 | j, i, out, hj, hi, hz, hR => by
   refine cj LX (by kernel_rfl) 400 ?_;apply of_eq (q:=let q7:=(aB l);let q9:=(i:Int);let q2:=decide ((q7.getD (i*4+0) (PV.bool false)).asInt=5);let q3:=decide ((0:Int)<q9)=true;let q4:=decide ((q7.getD (i*4+1) (PV.bool false)).bL=ByteArray.mk #[(40:UInt8)]);let q5:=(!q2)=false;let q6:=(IntKind.i64.wrap (q9-1));let q8:=decide ((q7.getD (q6.toNat*4+0) (PV.bool false)).asInt=1);let q1:=(bif !q2 then true else !q4)=false;(decide (q9<(↑(q7.length/4):Int))=true->((0:Int)<=q9/\i*4<q7.length)/\i*4+0<q7.length/\(PV.int (0:Int)).like (q7.getD (i*4+0) (PV.bool false))=true/\(q5->q5)/\(q5->q5)/\(q5->(0:Int)<=q9/\i*4<q7.length)/\(q5->q5)/\(q5->q5)/\(q5->i*4+1<q7.length)/\(q5->(PV.str (ByteArray.mk #[])).like (q7.getD (i*4+1) (PV.bool false))=true)/\(q5->q5)/\(q5->q5)/\(q1->q1)/\(q1->q1)/\(q1/\q3->q1/\q3)/\(q1/\q3->q1/\q3)/\(q1/\q3->q1/\q3)/\(q1/\q3->(0:Int)<=IntKind.i64.wrap (q9-1)/\q6.toNat*4<q7.length)/\(q1/\q3->q1/\q3)/\(q1/\q3->q1/\q3)/\(q1/\q3->q6.toNat*4+0<q7.length)/\(q1/\q3->(PV.int (0:Int)).like (q7.getD (q6.toNat*4+0) (PV.bool false))=true)/\(q1/\q3->q1/\q3)/\(q1->q1)/\(q1->q3->q1/\q3)/\(q1->q1)/\((bif bif !q2 then true else !q4 then true else bif decide ((0:Int)<q9) then q8 else false)=true->aF qi (aX R []) [0,1,0,1,1,1,1] (fr [(0,aP (W.str s)),(3,aP (W.sl 0 0 out.length 2)),(4,aP (W.rs (4:Nat) q7)),(6,nI (IntKind.i64.wrap (q9+1)))]) (af.ofList [Ob.mk 38 [Fd.a 0 D.pv (eD out)]]))/\((bif bif !q2 then true else !q4 then true else bif decide ((0:Int)<q9) then q8 else false)=false->aF qi (aX R []) [0,1,1,1,0,0,1,0,0,1,0,1,1,1,1] (fr [(0,aP (W.str s)),(3,aP (W.sl 0 0 out.length 2)),(4,aP (W.rs (4:Nat) q7)),(6,nI q9),(7,nI (0)),(8,nI q9)]) (af.ofList [Ob.mk 38 [Fd.a 0 D.pv (eD out)]])))/\(decide (q9<(↑(q7.length/4):Int))=false->(0:Nat)+out.length*2<=(eD out).length/\ax [V.c (W.rs (2:Nat) (List.take (out.length*2) (List.drop (0:Nat) (eD out))))]=R/\([]:List Ob)=[])) (by kernel_rfl)
   try simp only[sL]
   have hl4:(aB l).length=l.length*4:=lH l;have hp2:(eD out).length=out.length*2:=rL out;rw[CA,wrap64 (n:=(i:Int)+1) (by omega) (by omega)];refine⟨fun h1=>?_,fun h1=>?_⟩
   · have h1 : i < l.length := by omega
     obtain⟨g0,g1,_⟩:=tkn h1;cases j with
     | zero=>omega
     | succ j =>
       have b0:i*4<(aB l).length:=by omega
       have b1:i*4+1<(aB l).length:=by omega
       have hw:0<(i:Int)->IntKind.i64.wrap ((i:Int)-1)=(i:Int)-1:=fun h=>wrap64 (by omega) (by omega);have ZF:0<(i:Int)->(IntKind.i64.wrap ((i:Int)-1)).toNat=i-1/\(aB l).getD ((IntKind.i64.wrap ((i:Int)-1)).toNat*4+0) (.bool false)=.int (ay l ((i:Int)-1)).kind:=fun h=>by
        have e1:(IntKind.i64.wrap ((i:Int)-1)).toNat=i-1:=by rw[hw h];omega
        have e2:=(tkn (l:=l) (k:=i-1) (by omega)).1;rw[e1];rw[show ((i-1:Nat):Int)=(i:Int)-1 by omega] at e2;exact⟨rfl,e2⟩
       have go:∀ out':List (Int×Int),out'=(bif tR l i then toP s l i (qh l (l.length-i) i 0) else [])->aF qi (aX R []) HY (fr [(0,sS s),(3,CU (out++out')),(4,vg l),(6,nI ((i+1:Nat):Int))]) (.ofList [vA (out++out')]):=by
        intro out' ho;have hz1:out'.length<=1:=by
         have:=F9 (s:=s) (l:=l) 1 i;rw[tS,List.length_append,<-ho] at this;omega
        refine UZ s l hl R j (i+1) _ (by omega) (by omega) (by rw[List.length_append];omega) ?_;rw[hR,tS,<-ho,List.append_assoc]
       rw[g0,g1];refine⟨⟨by omega,b0⟩,by omega,rfl,fun _=>⟨by omega,b0⟩,fun _=>b1,fun _=>rfl,fun h=>?_,fun h=>?_,fun h=>?_,fun a b=>⟨a,b⟩,fun h=>?_,fun h=>?_⟩;have:=hw h.2;rw[this];omega;rw[(ZF h.2).1];omega;rw[(ZF h.2).2];rfl;have:tR l i=false:=by
        unfold tR;rcases h with (h|h)|h;rw[decide_eq_false (p:=(ay l i).kind=5) h];rfl;rw[decide_eq_false (p:=(ay l i).text=dP) h,Bool.and_false];rfl;have hk:=h.2;rw[(ZF h.1).2] at hk;rw[decide_eq_true (p:=0<i) (by omega),decide_eq_true (p:=(ay l ((i:Int)-1)).kind=1) hk,Bool.and_self,Bool.not_true,Bool.and_false]
       have:=go [] (by rw[this];rfl);rw[List.append_nil] at this;exact this;have:tR l i=true:=by
        unfold tR;rw[decide_eq_true (p:=(ay l i).kind=5) h.1.1,decide_eq_true (p:=(ay l i).text=dP) h.1.2];by_cases h0:0<i;have hk:=h.2 (by omega);rw[(ZF (by omega)).2] at hk;rw[decide_eq_false (p:=(ay l ((i:Int)-1)).kind=1) hk,Bool.and_false];rfl;rw[decide_eq_false h0];rfl
       exact ZE s l hl R i h1 out (by omega) (l.length-i) i 0 rfl hi (by omega) (by omega) (go _ (by rw[this];rfl))
   obtain rfl:j=0:=by omega
   rw[UY];rw[tS,List.append_nil] at hR;exact⟨by omega,hR.symm⟩
theorem U0(s:ByteArray):bt Tryz.prog 9 [sS s] [] (.p (.c (.rs 2 (eD (tS s (tks s) (tks s).length 0))))) []:=by
 refine oR (aQ:=prL) (eV:=[]) (fz:=[some .pv]) LX Tryz.func9 (by kernel_rfl) (ak:=0) rfl (by kernel_rfl) 200 ?_;apply of_eq (q:=let q1:=(W.rs (2:Nat) (eD (tS s (tks s) (tks s).length (0:Nat))));((!decide ((cQ s).snd.fst=0))=true->(0:Nat)+0*2<=0/\ax [V.c (W.rs (2:Nat) (List.take ((0:Nat)*2) (List.drop (0:Nat) [])))]=aP q1/\([]:List Ob)=[])/\((!decide ((cQ s).snd.fst=0))=false->aF (ez Tryz.prog gPr Tryz.f9 (0:Nat) prL [] [some D.pv]) (aX (aP q1) []) [0,1,0,1,1,1,1] (fr [(0,aP (W.str s)),(3,aP (W.sl 0 0 0 2)),(4,aP (W.rs (4:Nat) (aB (tks s)))),(6,nI (0))]) (af.ofList [Ob.mk 38 [Fd.a 0 D.pv []]]))) (by kernel_rfl)
 try simp only[sL]
 have hl:(tks s).length<=20000:=lW s;refine⟨fun h=>?_,fun h=>?_⟩;have:tks s=[]:=by show kr (cQ s)=[];unfold kr;rw[if_neg h]
 rw[this];rfl;exact UZ s (tks s) hl _ _ 0 [] rfl (Nat.zero_le _) (Nat.le_refl _) rfl
def cPrs:cT:=jk .str fun s=>(.t,.p (.c (.rs 2 (eD (tS s (tks s) (tks s).length 0)))),[])
theorem abF:bE Tryz.prog 9 cPrs:=eZ (by kernel_rfl) fun s _=>U0 s
noncomputable def sEq:bh:=dD Tryz.prog [] Tryz.f45 0 [([0,1,0,1,1],[0,1,12,13])]
theorem LY(l m:List ByteArray)(hl:l.length<=1000000/\m.length=l.length):∀(k i:Nat),k=l.length-i->i<=l.length->aF sEq (aX (bB (decide (l.drop i=m.drop i))) []) [0,1,0,1,1] (fr [(0,nY l),(1,nY m),(12,nI l.length),(13,nI i)]) (.ofList [])
 | k, i, hk, hi => by
   refine cj aK (by kernel_rfl) 100 ?_;apply of_eq (q:=let q1:=decide (List.drop i l=List.drop i m);let q2:=decide (l.getD i (ByteArray.mk #[])=m.getD i (ByteArray.mk #[]));(decide ((i:Int)<(l.length:Int))=true->((0:Int)<=(i:Int)/\(i:Int)<(l.length:Int))/\i<l.length/\((0:Int)<=(i:Int)/\(i:Int)<(m.length:Int))/\i<m.length/\((!q2)=true->ax [vB false]=bB (q1)/\([]:List Ob)=[])/\((!q2)=false->aF sEq (aX (bB (q1)) []) [0,1,0,1,1] (fr [(0,aP (W.rd D.str l)),(1,aP (W.rd D.str m)),(12,nI (l.length:Int)),(13,nI (IntKind.i64.wrap ((i:Int)+1)))]) (af.ofList [])))/\(decide ((i:Int)<(l.length:Int))=false->ax [vB true]=bB (q1)/\([]:List Ob)=[])) (by kernel_rfl)
   try simp only[sL]
   obtain⟨hl1,hl2⟩:=hl;refine⟨fun h=>⟨by omega,by omega,by omega,by omega,fun h1=>?_,fun h1=>?_⟩,fun h=>?_⟩;rw[decide_eq_false];rfl;intro e;rw[List.drop_eq_getElem_cons (l:=l) (i:=i) (by omega),List.drop_eq_getElem_cons (l:=m) (i:=i) (by omega)] at e;apply h1;rw[List.getD_eq_getElem?_getD,List.getElem?_eq_getElem (by omega),List.getD_eq_getElem?_getD,List.getElem?_eq_getElem (by omega)];exact(List.cons.inj e).1
   . rw[wrap64 (by omega) (by omega)];have e:decide (l.drop i=m.drop i)=decide (l.drop (i+1)=m.drop (i+1)):=by
      rw[List.drop_eq_getElem_cons (l:=l) (i:=i) (by omega),List.drop_eq_getElem_cons (l:=m) (i:=i) (by omega)];rw[List.getD_eq_getElem?_getD,List.getElem?_eq_getElem (by omega),List.getD_eq_getElem?_getD,List.getElem?_eq_getElem (by omega)] at h1;have h1:l[i]=m[i]:=h1;rw[h1];exact decide_eq_decide.2 ⟨fun e=>(List.cons.inj e).2,fun e=>by rw[e]⟩
     rw[e];cases k with
     | zero=>omega
     | succ k=>exact LY l m ⟨hl1,hl2⟩ k (i+1) (by omega) (by omega)
   rw[List.drop_eq_nil_of_le (by omega),List.drop_eq_nil_of_le (by omega)];rfl
theorem abG(l m:List ByteArray)(hl:l.length<=1000000/\m.length<=1000000):bt Tryz.prog 45 [nY l,nY m] [] (bB (decide (l=m))) []:=by
 refine bq (aQ:=[([0,1,0,1,1],[0,1,12,13])]) aK Tryz.func45 (by kernel_rfl) (ak:=0) rfl (by kernel_rfl) 100 ?_;apply of_eq (q:=((!decide ((l.length:Int)=(m.length:Int)))=true->ax [vB false]=bB (decide (l=m))/\([]:List Ob)=[])/\((!decide ((l.length:Int)=(m.length:Int)))=false->aF (dD Tryz.prog [] Tryz.f45 (0:Nat) [([0,1,0,1,1],[0,1,12,13])]) (aX (bB (decide (l=m))) []) [0,1,0,1,1] (fr [(0,aP (W.rd D.str l)),(1,aP (W.rd D.str m)),(12,nI (l.length:Int)),(13,nI (0))]) (af.ofList []))) (by kernel_rfl)
 try simp only[sL]
 refine⟨fun h=>?_,fun h=>?_⟩;rw[decide_eq_false (by rintro rfl;exact h rfl)];rfl;have:=LY l m ⟨hl.1,by omega⟩ _ 0 rfl (by omega);rw[List.drop_zero,List.drop_zero] at this;exact this
def ZG:cT:=xY dS dS fun l m=>(.p (List.length (α:=ByteArray) l<=1000000/\List.length (α:=ByteArray) m<=1000000),bB (decide ((show List ByteArray from l)=m)),[])
theorem XT:bE Tryz.prog 45 ZG:=qx (by kernel_rfl) fun l m h=>abG l m h
mutual
def St.jb:St->St->Bool
 | .mk k _ t p e b c,.mk k' _ t' p' e' b' c'=>decide (k=k')&&decide (t=t')&&decide (p=p')&&e.jb e'&&St.fM b b'&&St.fM c c'
def St.fM:List St->List St->Bool
 | [],[]=>true
 | a::l,b::m=>a.jb b&&St.fM l m
 | _,_=>false
end
theorem St.U1(a b:St):a.jb b=(decide (a.k=b.k)&&decide (a.name=b.name)&&decide (a.params=b.params)&&a.e.jb b.e&&St.fM a.body b.body&&St.fM a.els b.els):=by cases a;cases b;rw[St.jb];rfl
theorem St.wH:St.fM [] []=true:=by rw[St.fM]
theorem St.oF(a b:St)(l m:List St):St.fM (a::l) (b::m)=(a.jb b&&St.fM l m):=by rw[St.fM]
theorem St.wJ:∀(l m:List St),l.length≠m.length->St.fM l m=false
 | [],[],h=>absurd rfl h
 | [],b::m,_=>by rw[St.fM]<;>simp
 | a::l,[],_=>by rw[St.fM]<;>simp
 | a::l,b::m,h=>by
   rw[St.oF,St.wJ l m (fun e=>h (by simp[e])),Bool.and_false]
mutual
theorem St.nF:∀(a b:St),a.jb b=true↔a.un=b.un
 | .mk k n t p e b c,.mk k' n' t' p' e' b' c'=>by
   rw[St.jb,Bool.and_eq_true,Bool.and_eq_true,Bool.and_eq_true,Bool.and_eq_true,Bool.and_eq_true,St.qD b b',St.qD c c',Ex.nF,decide_eq_true_eq,decide_eq_true_eq,decide_eq_true_eq,St.un,St.un,St.mk.injEq];simp[and_assoc]
theorem St.qD:∀(l m:List St),St.fM l m=true↔St.tO l=St.tO m
 | [],[]=>by simp[St.wH]
 | [],b::m=>by rw[St.fM,St.tO,St.tO]<;>simp
 | a::l,[]=>by rw[St.fM,St.tO,St.tO]<;>simp
 | a::l,b::m=>by rw[St.oF,Bool.and_eq_true,St.nF a b,St.qD l m,St.tO,St.tO,List.cons.injEq]
end
def yV(l m:List PV)(n:Nat):Prop:=(∃ L,l=St.ai L)/\(∃ M,m=St.ai M)/\St.j6 (cM l)/\St.j6 (cM m)/\St.aM (cM l)<n/\St.aM (cM l)<=1000000/\St.aM (cM m)<=1000000
theorem E3{L M:List St}{n:Nat}(p1:St.j6 L)(p2:St.j6 M)(h1:St.aM L<n)(h2:St.aM L<=1000000)(h3:St.aM M<=1000000):yV (St.ai L) (St.ai M) n:=by
 unfold yV;rw[cY,cY];exact⟨⟨_,rfl⟩,⟨_,rfl⟩,p1,p2,h1,h2,h3⟩
noncomputable def ZH(n:Nat):cT:={ cB:=[],f:=fun args aj=>match args,aj with
 | [.p (.c (.rs q l)),.p (.c (.rs q' l'))],[]=>bif Nat.beq q 10&&Nat.beq q' 10 then some (.p (yV l l' n),bB (St.fM (cM l) (cM l')),[]) else none
 | _,_=>none }
def E4(n:Nat):Prop:=∀(L M:List St),St.j6 L->St.j6 M->St.aM L<n->St.aM L<=1000000->St.aM M<=1000000->bt Tryz.prog 7 [mM L,mM M] [] (bB (St.fM L M)) []
theorem U2{n:Nat}(h:E4 n):bE Tryz.prog 7 (ZH n):=by
 refine⟨by kernel_rfl,fun args aj c r aY e hc=>?_⟩;simp only[ZH] at e;split at e;obtain⟨hb,e1⟩:=ah.aA e;clear e;simp only[Bool.and_eq_true,Nat.beq_eq] at hb;obtain⟨rfl,rfl⟩:=hb;cases e1;obtain⟨⟨L,rfl⟩,⟨M,rfl⟩,p1,p2,h2,h3,h4⟩:=hc;rw[cY] at p1 p2 h2 h3 h4;rw[cY,cY];exact h _ _ p1 p2 h2 h3 h4;cases e
noncomputable def yX(k:Int)(t:ByteArray)(p:List ByteArray)(ek en:Int)(et:ByteArray)(el b c:List PV):St:=.mk k 0 t p (.mk ek en et (bW el)) (cM b) (cM c)
def ST2(p p':List ByteArray)(el HZ b b' c c':List PV)(n:Nat):Prop:=(p.length<=1000000/\p'.length<=1000000)/\CJ el HZ 1000001/\yV b b' n/\yV c c' n
noncomputable def cSs(n:Nat):cT:={ cB:=[],f:=fun args aj=>match args,aj with
 | [.p (.agg [.int .i64 k,.int .i64 _,.str t,.rd .str p,.int .i64 ek,.int .i64 en,.str et,.rs q el,.rs qb b,.rs qc c]),.p (.agg [.int .i64 k',.int .i64 _,.str t',.rd .str p',.int .i64 ZI,.int .i64 en',.str ZJ,.rs q' HZ,.rs qb' b',.rs qc' c'])],[] =>
   bif Nat.beq q 4&&Nat.beq q' 4&&(Nat.beq qb 10&&Nat.beq qb' 10&&(Nat.beq qc 10&&Nat.beq qc' 10)) then some (.p (ST2 p p' el HZ b b' c c' n),bB ((yX k t p ek en et el b c).jb (yX k' t' p' ZI en' ZJ HZ b' c')),[]) else none
 | _,_=>none }
noncomputable def gSs(n:Nat):cg:=[(45,ZG),(46,Y3 1000001),(7,ZH n)]
theorem gSs_ok{n:Nat}(h:E4 n):bp Tryz.prog (gSs n):=aq XT (aq (TX (Lf _)) (aq (U2 h) aK))
theorem cSs_ok{n:Nat}(h:E4 n):bE Tryz.prog 21 (cSs n):=by
 refine⟨by kernel_rfl,fun args aj c r aY e hc=>?_⟩;simp only[cSs] at e;split at e;rename_i k ln t p ek en et q el qb b qc cc k' ln' t' p' ZI en' ZJ q' HZ qb' b' qc' cc';obtain⟨hb,e1⟩:=ah.aA e;clear e;simp only[Bool.and_eq_true,Nat.beq_eq] at hb;obtain⟨⟨rfl,rfl⟩,⟨rfl,rfl⟩,rfl,rfl⟩:=hb;cases e1;obtain⟨⟨hp,hp'⟩,hX,hB,hC⟩:=hc;refine bq (aQ:=[]) (gSs_ok h) Tryz.func21 (by kernel_rfl) (ak:=0) rfl (by kernel_rfl) 400 ?_;apply of_eq (q:=let q6:=decide (k=k');let q7:=(Ex.mk ZI en' ZJ (bW HZ));let q1:=(bif bif bif bif q6 then decide (t=t') else false then decide (p=p') else false then(Ex.mk ek en et (bW el)).jb q7 else false then St.fM (cM b) (cM b') else false)=true;let q2:=(bif bif bif q6 then decide (t=t') else false then decide (p=p') else false then(Ex.mk ek en et (bW el)).jb q7 else false)=true;let q3:=(bif bif q6 then decide (t=t') else false then decide (p=p') else false)=true;let q4:=(bif q6 then decide (t=t') else false)=true;let q5:=q6=true;(q5->q5)/\(q5->q5)/\(q5->q5)/\(q5->q5)/\(q5->q5)/\(q4->q4)/\(q4->q4)/\(q4->q4)/\(q4->q4)/\(q4->p.length<=1000000/\p'.length<=1000000)/\(q4->q4)/\(q3->q3)/\(q3->q3)/\(q3->q3)/\(q3->q3)/\(q3->CJ el HZ (1000001:Nat))/\(q3->q3)/\(q2->q2)/\(q2->q2)/\(q2->q2)/\(q2->q2)/\(q2->yV b b' n)/\(q2->q2)/\(q1->q1)/\(q1->q1)/\(q1->q1)/\(q1->q1)/\(q1->yV cc cc' n)/\(q1->q1)/\ax [vB (bif bif bif bif bif q6 then decide (t=t') else false then decide (p=p') else false then(Ex.mk ek en et (bW el)).jb q7 else false then St.fM (cM b) (cM b') else false then St.fM (cM cc) (cM cc') else false)]=bB ((yX k t p ek en et el b cc).jb (yX k' t' p' ZI en' ZJ HZ b' cc'))/\([]:List Ob)=[]) (by kernel_rfl)
 try simp only[sL]
 exact⟨fun _=>⟨hp,hp'⟩,fun _=>hX,fun _=>hB,fun _=>hC,by rw[yX,yX,St.jb];rfl⟩;cases e
noncomputable def gSq(n:Nat):cg:=[(21,cSs n)]
theorem U3{n:Nat}(h:E4 n):bp Tryz.prog (gSq n):=aq (cSs_ok h) aK
abbrev fnSs:A:=.p (.c (.func 21 []))
noncomputable def sSq(n:Nat):bh:=ez Tryz.prog (gSq n) Tryz.f20 0 [([0,1,0,1,1],[1,2,15,16,17])] [] []
theorem OU(x:St):yX (PV.asInt (.int x.k)) (PV.bL (.str x.name)) (PV.iX (.strs x.params)) (PV.asInt (.int x.e.k)) (PV.asInt (.int x.e.n)) (PV.bL (.str x.e.t)) (PV.aI (.aZ 4 (Ex.ai x.e.l))) (PV.aI (.aZ 10 (St.ai x.body))) (PV.aI (.aZ 10 (St.ai x.els)))=.mk x.k 0 x.name x.params x.e x.body x.els:=by
 have h1:bW (PV.aI (.aZ 4 (Ex.ai x.e.l)))=x.e.l:=cN _;have h2:cM (PV.aI (.aZ 10 (St.ai x.body)))=x.body:=cY _;have h3:cM (PV.aI (.aZ 10 (St.ai x.els)))=x.els:=cY _;rw[yX,h1,h2,h3];have:Ex.mk (PV.asInt (.int x.e.k)) (PV.asInt (.int x.e.n)) (PV.bL (.str x.e.t)) x.e.l=x.e:=x.e.eta;rw[this];rfl
theorem XU(a b:St):(St.mk a.k 0 a.name a.params a.e a.body a.els).jb (.mk b.k 0 b.name b.params b.e b.body b.els)=a.jb b:=by rw[St.U1,St.U1 a b];rfl
theorem OV(n:Nat)(h:E4 n)(L M:List St)(he:L.length=M.length)(p1:St.j6 L)(p2:St.j6 M)(hL:St.aM L<=n)(hl:St.aM L<=1000000)(hm:St.aM M<=1000000):∀(j i:Nat),j=L.length-i->i<=L.length->
 aF (sSq n) (aX (bB (St.fM (L.drop i) (M.drop i))) []) [0,1,0,1,1] (fr [(1,mM M),(2,fnSs),(15,mM L),(16,nI L.length),(17,nI i)]) (.ofList [])
 | j, i, hj, hi => by
   refine cj (U3 h) (by kernel_rfl) 400 ?_;apply of_eq (q:=let q1:=(i*10+1+1+1+1+1+1+1+1+1);let q2:=(i*10+1+1+1+1+1+1+1+1);let q3:=(i*10+1+1+1+1+1+1+1);let q4:=(St.ai L);let q5:=(St.ai M);let q6:=(i*10+1+1+1+1+1+1);let q7:=(i*10+1+1+1+1+1);let q8:=(i*10+1+1+1);let q9:=(i*10+1+1+1+1);let bg:=(St.fM (List.drop i L) (List.drop i M));let aJ:=(i*10+1+1);(decide ((i:Int)<(L.length:Int))=true->((0:Int)<=(i:Int)/\i*10<q4.length)/\i*10+10<=q4.length/\(PV.int (0:Int)).like (q4.getD (i*10) (PV.bool false))=true/\(PV.int (0:Int)).like (q4.getD (i*10+1) (PV.bool false))=true/\(PV.str (ByteArray.mk #[])).like (q4.getD aJ (PV.bool false))=true/\(PV.strs []).like (q4.getD q8 (PV.bool false))=true/\(PV.int (0:Int)).like (q4.getD q9 (PV.bool false))=true/\(PV.int (0:Int)).like (q4.getD q7 (PV.bool false))=true/\(PV.str (ByteArray.mk #[])).like (q4.getD q6 (PV.bool false))=true/\(PV.aZ (4:Nat) []).like (q4.getD q3 (PV.bool false))=true/\(PV.aZ (10:Nat) []).like (q4.getD q2 (PV.bool false))=true/\(PV.aZ (10:Nat) []).like (q4.getD q1 (PV.bool false))=true/\((0:Int)<=(i:Int)/\i*10<q5.length)/\i*10+10<=q5.length/\(PV.int (0:Int)).like (q5.getD (i*10) (PV.bool false))=true/\(PV.int (0:Int)).like (q5.getD (i*10+1) (PV.bool false))=true/\(PV.str (ByteArray.mk #[])).like (q5.getD aJ (PV.bool false))=true/\(PV.strs []).like (q5.getD q8 (PV.bool false))=true/\(PV.int (0:Int)).like (q5.getD q9 (PV.bool false))=true/\(PV.int (0:Int)).like (q5.getD q7 (PV.bool false))=true/\(PV.str (ByteArray.mk #[])).like (q5.getD q6 (PV.bool false))=true/\(PV.aZ (4:Nat) []).like (q5.getD q3 (PV.bool false))=true/\(PV.aZ (10:Nat) []).like (q5.getD q2 (PV.bool false))=true/\(PV.aZ (10:Nat) []).like (q5.getD q1 (PV.bool false))=true/\ST2 (q4.getD q8 (PV.bool false)).iX (q5.getD q8 (PV.bool false)).iX (q4.getD q3 (PV.bool false)).aI (q5.getD q3 (PV.bool false)).aI (q4.getD q2 (PV.bool false)).aI (q5.getD q2 (PV.bool false)).aI (q4.getD q1 (PV.bool false)).aI (q5.getD q1 (PV.bool false)).aI n/\((!(yX (q4.getD (i*10) (PV.bool false)).asInt (q4.getD aJ (PV.bool false)).bL (q4.getD q8 (PV.bool false)).iX (q4.getD q9 (PV.bool false)).asInt (q4.getD q7 (PV.bool false)).asInt (q4.getD q6 (PV.bool false)).bL (q4.getD q3 (PV.bool false)).aI (q4.getD q2 (PV.bool false)).aI (q4.getD q1 (PV.bool false)).aI).jb (yX (q5.getD (i*10) (PV.bool false)).asInt (q5.getD aJ (PV.bool false)).bL (q5.getD q8 (PV.bool false)).iX (q5.getD q9 (PV.bool false)).asInt (q5.getD q7 (PV.bool false)).asInt (q5.getD q6 (PV.bool false)).bL (q5.getD q3 (PV.bool false)).aI (q5.getD q2 (PV.bool false)).aI (q5.getD q1 (PV.bool false)).aI))=true->ax [vB false]=bB bg/\([]:List Ob)=[])/\((!(yX (q4.getD (i*10) (PV.bool false)).asInt (q4.getD aJ (PV.bool false)).bL (q4.getD q8 (PV.bool false)).iX (q4.getD q9 (PV.bool false)).asInt (q4.getD q7 (PV.bool false)).asInt (q4.getD q6 (PV.bool false)).bL (q4.getD q3 (PV.bool false)).aI (q4.getD q2 (PV.bool false)).aI (q4.getD q1 (PV.bool false)).aI).jb (yX (q5.getD (i*10) (PV.bool false)).asInt (q5.getD aJ (PV.bool false)).bL (q5.getD q8 (PV.bool false)).iX (q5.getD q9 (PV.bool false)).asInt (q5.getD q7 (PV.bool false)).asInt (q5.getD q6 (PV.bool false)).bL (q5.getD q3 (PV.bool false)).aI (q5.getD q2 (PV.bool false)).aI (q5.getD q1 (PV.bool false)).aI))=false->aF (sSq n) (aX (bB bg) []) [0,1,0,1,1] (fr [(1,aP (W.rs (10:Nat) q5)),(2,aP (W.func 21 [])),(15,aP (W.rs (10:Nat) q4)),(16,nI (L.length:Int)),(17,nI (IntKind.i64.wrap ((i:Int)+1)))]) (af.ofList [])))/\(decide ((i:Int)<(L.length:Int))=false->ax [vB true]=bB bg/\([]:List Ob)=[])) (by kernel_rfl)
   try simp only[sL]
   have bO:=St.jv L;refine⟨fun h1=>?_,fun h1=>?_⟩;have h1:i<L.length:=by omega
   have h2:i<M.length:=by omega
   obtain⟨e0,e1,e2,e3,e4,e5,e6,e7,e8,e9⟩:=EQ h1;obtain⟨f0,f1,f2,f3,f4,f5,f6,f7,f8,f9⟩:=EQ h2;rw[e0,e1,e2,e3,e4,e5,e6,e7,e8,e9,f0,f1,f2,f3,f4,f5,f6,f7,f8,f9,OU,OU,XU,wrap64 (n:=(i:Int)+1) (by omega) (by omega),List.drop_eq_getElem_cons h1,List.drop_eq_getElem_cons h2,St.oF];have m1:=St.iY (List.getElem_mem h1);have m2:=St.iY (List.getElem_mem h2);obtain⟨a1,a2,a3⟩:=(St.Iv _).1 (St.EN p1 (List.getElem_mem h1));obtain⟨b1,b2,b3⟩:=(St.Iv _).1 (St.EN p2 (List.getElem_mem h2));have z1:=St.eT L[i];have z2:=St.eT M[i];have y1:=Ex.eT L[i].e;have y2:=Ex.eT M[i].e;have g1:i*10+10<=(St.ai L).length:=by rw[St.dJ];omega
   have g2:i*10+10<=(St.ai M).length:=by rw[St.dJ];omega
   have hS:ST2 (PV.iX (.strs L[i].params)) (PV.iX (.strs M[i].params)) (PV.aI (.aZ 4 (Ex.ai L[i].e.l))) (PV.aI (.aZ 4 (Ex.ai M[i].e.l))) (PV.aI (.aZ 10 (St.ai L[i].body))) (PV.aI (.aZ 10 (St.ai M[i].body))) (PV.aI (.aZ 10 (St.ai L[i].els))) (PV.aI (.aZ 10 (St.ai M[i].els))) n :=
    ⟨⟨by show L[i].params.length<=_;omega,by show M[i].params.length<=_;omega⟩,EI (by omega) (by omega) (by omega),E3 a2 b2 (by omega) (by omega) (by omega),E3 a3 b3 (by omega) (by omega) (by omega)⟩
   refine⟨⟨by omega,by omega⟩,g1,rfl,rfl,rfl,rfl,rfl,rfl,rfl,rfl,rfl,rfl,⟨by omega,by omega⟩,g2,rfl,rfl,rfl,rfl,rfl,rfl,rfl,rfl,rfl,rfl,hS,fun hf=>?_,fun ht=>?_⟩;rw[hf];rfl
   . rw[ht,Bool.true_and];cases j with
     | zero=>omega
     | succ j=>exact OV n h L M he p1 p2 hL hl hm j (i+1) (by omega) (by omega)
   rw[List.drop_eq_nil_of_le (by omega),List.drop_eq_nil_of_le (by omega),St.wH];rfl
noncomputable def cSq(n:Nat):cT:={ cB:=[],f:=fun args aj=>match args,aj with
 | [.p (.c (.rs q l)),.p (.c (.rs q' l')),.p (.c (.func f []))],[]=>bif Nat.beq q 10&&Nat.beq q' 10&&Nat.beq f 21 then some (.p (yV l l' (n+1)),bB (St.fM (cM l) (cM l')),[]) else none
 | _,_=>none }
theorem cSq_ok{n:Nat}(h:E4 n):bE Tryz.prog 20 (cSq n):=by
 refine⟨by kernel_rfl,fun args aj c r aY e hc=>?_⟩;simp only[cSq] at e;split at e;obtain⟨hb,e1⟩:=ah.aA e;clear e;simp only[Bool.and_eq_true,Nat.beq_eq] at hb;obtain⟨⟨rfl,rfl⟩,rfl⟩:=hb;cases e1;obtain⟨⟨L,rfl⟩,⟨M,rfl⟩,p1,p2,h2,h3,h4⟩:=hc;rw[cY] at p1 p2 h2 h3 h4;rw[cY,cY];refine bq (aQ:=[([0,1,0,1,1],[1,2,15,16,17])]) (U3 h) Tryz.func20 (by kernel_rfl) (ak:=0) rfl (by kernel_rfl) 200 ?_;apply of_eq (q:=let q1:=decide ((↑((St.ai L).length/10):Int)=(↑((St.ai M).length/10):Int));((!q1)=true->ax [vB false]=bB (St.fM L M)/\([]:List Ob)=[])/\((!q1)=false->aF (dD Tryz.prog (gSq n) Tryz.f20 (0:Nat) [([0,1,0,1,1],[1,2,15,16,17])]) (aX (bB (St.fM L M)) []) [0,1,0,1,1] (fr [(1,aP (W.rs (10:Nat) (St.ai M))),(2,aP (W.func 21 [])),(15,aP (W.rs (10:Nat) (St.ai L))),(16,nI (↑((St.ai L).length/10):Int)),(17,nI (0))]) (af.ofList []))) (by kernel_rfl)
 try simp only[sL]
 rw[ED,ED];refine⟨fun hn=>?_,fun hn=>?_⟩;rw[St.wJ _ _ (by omega)];rfl;exact OV n h L M (by omega) p1 p2 (by omega) h3 h4 (L.length-0) 0 rfl (by omega);cases e
theorem abH(n:Nat)(h:E4 n):E4 (n+1):=by
 intro L M p1 p2 hL hl hm;refine bq (aQ:=[]) (aq (cSq_ok h) aK) Tryz.func7 (by kernel_rfl) (ak:=0) rfl (by kernel_rfl) 200 ?_;apply of_eq (q:=yV (St.ai L) (St.ai M) (n+1)/\ax [vB (St.fM (cM (St.ai L)) (cM (St.ai M)))]=bB (St.fM L M)/\([]:List Ob)=[]) (by kernel_rfl)
 try simp only[sL]
 rw[cY,cY];exact⟨E3 p1 p2 hL hl hm,rfl⟩
theorem U4:∀ n,E4 n
 | 0=>fun L M _ _ h=>by omega
 | n+1=>abH n (U4 n)
end Go.Proofs.YtcimgfhfpiapaaaGreatDoor
