/- Where the first fault of a program is: within its text. -/
import Derived.Test.YtnbjjocbncblaaaGreatDoorFew2
namespace Go.Proofs.YtnbjjocbncblaaaGreatDoor
open Go.aN Go.RowKit
set_option maxRecDepth 100000
def FA{α:Type}(s:ByteArray)(r:XR α):Prop:=r.die=true->(0<=r.a/\r.a<=s.size)/\r.e≠0
theorem cX{α:Type}{s:ByteArray}{b:Bool}{r q:XR α}(h1:b=true->FA s r)(h2:b=false->FA s q):FA s (bif b then r else q):=by
 cases b;exact h2 rfl;exact h1 rfl
theorem toA{α β:Type}{s:ByteArray}{r:XR α}(h:FA s r)(hd:r.die=true)(v:β):FA s (r.to v):=fun _=>h hd
section
variable {s:ByteArray} {l:List Tok} (ht:jm s l)
include ht
theorem Ia(i:Int):0<=dn s l i/\dn s l i<=s.size:=by
 unfold dn;split
 . unfold aM;rw[List.getD_eq_getElem?_getD];cases hg:l[i.toNat]? with
   | none=>exact⟨Int.le_refl _,by show (0:Int)<=_;omega⟩
   | some t=>exact ht.2 t (List.mem_of_getElem? hg)
 exact⟨by omega,Int.le_refl _⟩
theorem p5{α:Type}(v:α)(i:Int):FA s (kI s l v i):=fun _=>⟨Ia ht i,by show (11:Int)≠0;decide⟩
omit ht in
theorem nG{α:Type}(v:α)(i:Int):FA s (cA v i):=fun h=>by cases h
section
variable {ex:jY} (H:∀ lv i,FA s (ex lv i))
include H
theorem lpA(lv:Int):∀(k:Nat)(x:Ex)(i:Int),FA s (mq s l ex lv k x i)
 | 0,_,_=>p5 ht _ _
 | k+1,x,i=>by
   unfold mq;exact cX (fun _=>cX (fun _=>H _ _) fun _=>cX (fun _=>nG _ _) fun _=>lpA lv k _ _) fun _=>nG _ _
theorem ixA:∀(k:Nat)(x:Ex)(i:Int),FA s (pW s l ex k x i)
 | 0,_,_=>p5 ht _ _
 | k+1,x,i=>by
   unfold pW;exact cX (fun _=>cX (fun _=>H _ _) fun _=>cX (fun _=>ixA k _ _) fun _=>p5 ht _ _) fun _=>nG _ _
theorem lsA(t:ByteArray):∀(k:Nat)(acc:List Ex)(i:Int),FA s (oe s l ex t k acc i)
 | 0,_,_=>p5 ht _ _
 | k+1,x,i=>by
   unfold oe;exact cX (fun h _=>H 1 i h) fun _=>cX (fun _=>nG _ _) fun _=>cX (fun _=>lsA t k _ _) fun _=>p5 ht _ _
theorem listA(t:ByteArray)(i:Int):FA s (dM s l ex t i):=by
 unfold dM;exact cX (fun _=>nG _ _) fun _=>lsA ht H t _ _ _
theorem atomA(i:Int):FA s (gB s l ex i):=by
 unfold gB;exact cX (fun _=>cX (fun _=>H _ _) fun _=>cX (fun _=>nG _ _) fun _=>p5 ht _ _) fun _=>cX (fun _ h=>listA ht H ji (i+1) h) fun _=>cX (fun _=>nG _ _) fun _=>cX (fun _=>nG _ _) fun _=>cX (fun _=>p5 ht _ _) fun _=>cX (fun _=>nG _ _) fun _=>cX (fun _=>nG _ _) fun _=>cX (fun _=>cX (fun _ h=>listA ht H dx (i+1+1) h) fun _=>nG _ _) fun _=>p5 ht _ _
theorem exA'(lv i:Int):FA s (tZ s l ex lv i):=by
 have un:∀ t,FA s (og l ex t lv i):=fun t=>by
  unfold og;exact cX (fun _=>cX (fun _=>H _ _) fun _=>nG _ _) fun _=>H _ _
 unfold tZ;refine cX (fun _=>un _) fun _=>cX (fun _=>un _) fun _=>cX (fun _=>?_) fun _=>cX (fun _=>cX (fun _=>H _ _) fun _=>ixA ht H _ _ _) fun _=>cX (fun _=>atomA ht H i) fun _=>cX (fun _=>H _ _) fun _=>lpA ht H _ _ _ _;unfold wY;exact cX (fun _=>H _ _) fun _=>cX (fun _=>cX (fun _=>H _ _) fun _=>nG _ _) fun _=>nG _ _
omit H in
theorem Wp:∀(n:Nat)(lv i:Int),FA s (bQ s l n lv i)
 | 0,_,_=>p5 ht _ _
 | n+1,lv,i=>exA' ht (Wp n) lv i
end
theorem Ib(i:Int):FA s (dW s l i):=by
 unfold dW;exact cX (fun _=>Wp ht _ _ _) fun _=>cX (fun _=>nG _ _) fun _=>p5 ht _ _
omit ht in
theorem prA'{k line:Int}{q:XR Ex}(h:FA s q):FA s (qG k line q):=by
 unfold qG;exact cX (fun hd=>toA h hd _) fun _=>nG _ _
omit ht in
theorem setA{line:Int}{t:ByteArray}{q:XR Ex}(h:FA s q):FA s (ny line t q):=by
 unfold ny;exact cX (fun hd=>toA h hd _) fun _=>nG _ _
section
variable {bl:oH} (B:∀ i,FA s (bl i))
include B
omit ht in
theorem whA{k line:Int}{t:ByteArray}{q:XR Ex}(h:FA s q):FA s (oh bl k line t q):=by
 unfold oh;exact cX (fun hd=>toA h hd _) fun _=>cX (fun hd=>toA (B _) hd _) fun _=>nG _ _
omit ht in
theorem ifA{line:Int}{q:XR Ex}(h:FA s q):FA s (pE l bl line q):=by
 unfold pE;exact cX (fun hd=>toA h hd _) fun _=>cX (fun hd=>toA (B _) hd _) fun _=>cX (fun _=>cX (fun hd=>toA (B _) hd _) fun _=>nG _ _) fun _=>nG _ _
theorem stA(ins:Bool)(i:Int):FA s (iZ s l bl ins i):=by
 unfold iZ;exact cX (fun _=>prA' (Ib ht _)) fun _=>cX (fun _=>ifA B (Wp ht _ _ _)) fun _=>cX (fun _=>whA B (Wp ht _ _ _)) fun _=>cX (fun _=>cX (fun _=>cX (fun _=>whA B (Wp ht _ _ _)) fun _=>p5 ht _ _) fun _=>p5 ht _ _) fun _=>cX (fun _=>prA' (Ib ht _)) fun _=>cX (fun _=>cX (fun _=>setA (Ib ht _)) fun _=>p5 ht _ _) fun _=>p5 ht _ _
end
theorem blLA{st:Int->XR St}(S:∀ i,FA s (st i)):∀(k:Nat)(acc:List St)(i:Int),FA s (ol s l st k acc i)
 | 0,_,_=>p5 ht _ _
 | k+1,acc,i=>by
   unfold ol;exact cX (fun _=>nG _ _) fun _=>cX (fun hd=>toA (S _) hd _) fun _=>blLA S k _ _
theorem blFA{st:Int->XR St}(S:∀ i,FA s (st i))(i:Int):FA s (t6 s l st i):=by
 unfold t6;exact cX (fun _=>blLA ht S _ _ _) fun _=>p5 ht _ _
theorem bmA(ins:Bool):∀(n:Nat)(i:Int),FA s (gM s l ins n i)
 | 0,_=>p5 ht _ _
 | n+1,i=>blFA ht (fun i=>stA ht (bmA ins n) ins i) i
theorem frA(xs:List ByteArray)(i e a:Int)(h:lH s l xs i=some (e,a)):(0<=a/\a<=s.size)/\e≠0:=by
 have:=Ia ht i;unfold lH at h;cases hn:eY l i with
 | true =>
   rw[hn] at h;cases hh:eF xs (aM l i).text with
   | true=>rw[hh] at h;cases h;exact⟨this,by decide⟩
   | false=>rw[hh] at h;cases h
 | false=>rw[hn] at h;cases h;exact⟨this,by decide⟩
theorem paA:∀(k:Nat)(acc:List ByteArray)(i:Int),FA s (mr s l k acc i)
 | 0,_,_=>p5 ht _ _
 | k+1,acc,i=>by
   unfold mr;cases hf:lH s l acc i with
   | some q=>obtain⟨e,a⟩:=q;exact fun _=>frA ht _ _ _ _ hf
   | none=>exact cX (fun _=>nG _ _) fun _=>cX (fun _=>paA k _ _) fun _=>p5 ht _ _
theorem dfA(ns:List ByteArray)(line i:Int):FA s (iM s l (bT s l) ns line i):=by
 unfold iM;cases hf:lH s l ns i with
 | some q=>obtain⟨e,a⟩:=q;exact fun _=>frA ht _ _ _ _ hf
 | none =>
   have key:∀ q:XR (List ByteArray),FA s q->FA s (l6 (bT s l) line (aM l i).text q):=fun q h=>by
    unfold l6;exact cX (fun hd=>toA h hd _) fun _=>cX (fun hd=>toA (bmA ht _ _ _) hd _) fun _=>nG _ _
   exact cX (fun _=>key _ (cX (fun _=>nG _ _) fun _=>paA ht _ _ _)) fun _=>p5 ht _ _
theorem pgA:∀(k:Nat)(acc:List St)(ns:List ByteArray)(i:Int),FA s (mK s l k acc ns i)
 | 0,_,_,_=>p5 ht _ _
 | k+1,acc,ns,i=>by
   unfold mK;exact cX (fun _=>cX (fun _=>cX (fun hd=>toA (dfA ht _ _ _) hd _) fun _=>pgA k _ _ _) fun _=>cX (fun hd=>toA (stA ht (bmA ht _ _) _ _) hd _) fun _=>pgA k _ _ _) fun _=>nG _ _
end
theorem tokT_ea{s:ByteArray}{a:Nat}(ha:a<s.size):(bU s a).er≠0->0<=(bU s a).ea/\(bU s a).ea<=s.size:=by
 intro h;have h1:(0:Int)<=a/\(a:Int)<=s.size:=⟨by omega,by omega⟩;unfold bU at h ⊢;split;unfold nr;split;exact⟨Int.le_refl _,by show (0:Int)<=_;omega⟩;split;exact h1;exact⟨Int.le_refl _,by show (0:Int)<=_;omega⟩;split;unfold qh;split;exact h1;split;exact h1;exact⟨Int.le_refl _,by show (0:Int)<=_;omega⟩;split;have hle:=(j6 cJ s _ (a+1) rfl).2 (by omega);unfold qi;split;exact⟨by show (0:Int)<=(aO cJ s (a+1):Nat);omega,by show ((aO cJ s (a+1):Nat):Int)<=_;omega⟩;split;exact h1;exact⟨Int.le_refl _,by show (0:Int)<=_;omega⟩;rw[Sy];split;exact⟨Int.le_refl _,by show (0:Int)<=_;omega⟩;split;exact⟨Int.le_refl _,by show (0:Int)<=_;omega⟩;exact h1
theorem Da{s:ByteArray}:∀(k i:Nat),(bF s k i).2.1≠0->0<=(bF s k i).2.2/\(bF s k i).2.2<=s.size
 | 0,i,h=>absurd rfl h
 | k + 1, i, h => by
   unfold bF at h ⊢;by_cases h0:i<s.size;rw[if_pos h0] at h ⊢;split at h;rename_i h1;rw[if_pos h1];exact Da k _ h;rename_i h1;rw[if_neg h1];split at h;rename_i h2;rw[if_pos h2];exact Da k _ h;rename_i h2;rw[if_neg h2];split at h;rename_i h3;rw[if_pos h3];exact tokT_ea h0 h3;rename_i h3;rw[if_neg h3];exact Da k _ h;rw[if_neg h0] at h;exact absurd rfl h
theorem paS_bad{s:ByteArray}(hs:s.size<=20000)(h:(iC s).2.1≠0):(iC s).1=[]/\0<=(iC s).2.2/\(iC s).2.2<=s.size:=by
 have ht:=FZ s (by omega);unfold iC at h ⊢;cases hc:decide ((fD s).2.1=0)&&jS (fD s).1 with
 | true=>exact⟨rfl,Int.le_refl _,by show (0:Int)<=_;omega⟩
 | false =>
   rw[hc] at h;simp only[cond_false] at h ⊢;unfold fD at h ⊢;by_cases h1:(dZ s).2.1=0
   . rw[if_pos h1] at h ⊢;cases hd:(dr s (tks s)).die with
     | true=>exact⟨rfl,(pgA ht _ _ _ _ hd).1⟩
     | false =>
       rw[hd] at h;simp only[cond_false] at h ⊢;cases hi:decide ((dr s (tks s)).i<(tks s).length) with
       | true=>exact⟨rfl,Ia ht _⟩
       | false=>rw[hi] at h;exact absurd rfl h
   rw[if_neg h1];refine⟨rfl,?_⟩;unfold dZ at h1 ⊢;rw[if_neg (by omega)] at h1 ⊢;exact Da _ _ h1
theorem hasS_no{l:List ByteArray}{x:ByteArray}(h:eF l x=false):x ∉ l:=by
 intro hm;unfold eF at h;rw[List.any_eq_false] at h;have:=h x hm;rw[decide_eq_true rfl] at this;exact this rfl
theorem Ic(l m:List St)(ins top:Bool):St.gE (l++m) ins top=(St.gE l ins top&&St.gE m ins top):=by
 induction l with
 | nil=>rw[St.j8];rfl
 | cons x l ih=>rw[List.cons_append,St.nB,St.nB,ih,Bool.and_assoc]
structure VS(ins:Bool)(x:St):Prop where
 k7:x.k≠7
 ps:x.params=[]
 fa:∀ top,x.fa ins top=true
def VB(ins:Bool)(b:List St):Prop:=St.gE b ins false=true
theorem wG:bR eS=false:=by kernel_rfl
theorem vs_pr{line:Int}{e:Ex}(he:e.fin=true)(ins:Bool):VS ins (.mk 2 line eS [] e [] []):=by
 refine⟨by show (2:Int)≠7;decide,rfl,fun top=>?_⟩;rw[St.fa,St.j8];unfold rS wv wz;rw[wG,he];cases ins<;>cases top<;>rfl
theorem vs_re{line:Int}{e:Ex}(he:e.fin=true):VS true (.mk 6 line eS [] e [] []):=by
 refine⟨by show (6:Int)≠7;decide,rfl,fun top=>?_⟩;rw[St.fa,St.j8];unfold rS wv wz;rw[wG,he];cases top<;>rfl
theorem Wq{line:Int}{t:ByteArray}{e:Ex}(ht:bR t=true)(he:e.fin=true)(ins:Bool):VS ins (.mk 1 line t [] e [] []):=by
 refine⟨by show (1:Int)≠7;decide,rfl,fun top=>?_⟩;rw[St.fa,St.j8];unfold rS wv wz;rw[ht,he];cases ins<;>cases top<;>rfl
theorem vs_wh{line:Int}{e:Ex}{b:List St}(he:e.fin=true){ins:Bool}(hb:VB ins b):VS ins (.mk 4 line eS [] e b []):=by
 refine⟨by show (4:Int)≠7;decide,rfl,fun top=>?_⟩;rw[St.fa,St.j8,show (ins||decide ((4:Int)=7))=ins by cases ins<;>rfl,hb];unfold rS wv wz;rw[wG,he];cases ins<;>cases top<;>rfl
theorem Wr{line:Int}{t:ByteArray}{e:Ex}{b:List St}(ht:bR t=true)(he:e.fin=true){ins:Bool}(hb:VB ins b):VS ins (.mk 5 line t [] e b []):=by
 refine⟨by show (5:Int)≠7;decide,rfl,fun top=>?_⟩;rw[St.fa,St.j8,show (ins||decide ((5:Int)=7))=ins by cases ins<;>rfl,hb];unfold rS wv wz;rw[ht,he];cases ins<;>cases top<;>rfl
theorem vs_if{line:Int}{e:Ex}{b c:List St}(he:e.fin=true){ins:Bool}(hb:VB ins b)(hc:VB ins c):VS ins (.mk 3 line eS [] e b c):=by
 refine⟨by show (3:Int)≠7;decide,rfl,fun top=>?_⟩;rw[St.fa,show (ins||decide ((3:Int)=7))=ins by cases ins<;>rfl,hb,hc];unfold rS wv wz;rw[wG,he];cases ins<;>cases top<;>rfl
theorem vs_def{line:Int}{t:ByteArray}{ps:List ByteArray}{b:List St}(ht:bR t=true)(hp:kg ps=false)(hb:VB true b):(St.mk 7 line t ps iY b []).fa false true=true:=by
 rw[St.fa,St.j8,show (false||decide ((7:Int)=7))=true by decide,hb];unfold rS wv wz;rw[ht,hp,show oo iY=true from(Ex.uw _ _).2 rfl];rfl
section
variable {s:ByteArray} {l:List Tok} (H:∀ t∈l,SB t)
include H
theorem F9{lv i:Int}(h1:1<=lv)(h2:lv<=10)(hd:(EX s l lv i).die=false):(EX s l lv i).v.fin=true:=px_gr (gr_fin H) (s:=s) _ lv i h1 h2 hd
theorem SL{i:Int}(h:eY l i=true):bR (aM l i).text=true:=(H _ (sC (by rw[qK h];decide))).DZ (qK h)
theorem zV(i:Int)(hd:(dW s l i).die=false):(dW s l i).v.fin=true:=by
 unfold dW at hd ⊢;cases hx:(EX s l 1 i).die with
 | true=>rw[hx] at hd;simp only[cond_true] at hd;rw[hx] at hd;cases hd
 | false =>
   rw[hx] at hd;simp only[cond_false] at hd ⊢;cases h1:aA l (EX s l 1 i).i kX with
   | false=>rw[h1] at hd;cases hd
   | true=>exact F9 H (by omega) (by omega) hx
omit H in
theorem pr_vs{k line:Int}{q:XR Ex}{P:St->Prop}(hq:q.die=false->P (.mk k line eS [] q.v [] []))(hd:(qG k line q).die=false):P (qG k line q).v:=by
 unfold qG at hd ⊢;cases hx:q.die with
 | true=>rw[hx] at hd;cases hd
 | false=>exact hq hx
omit H in
theorem set_vs{line:Int}{t:ByteArray}{q:XR Ex}{P:St->Prop}(hq:q.die=false->P (.mk 1 line t [] q.v [] []))(hd:(ny line t q).die=false):P (ny line t q).v:=by
 unfold ny at hd ⊢;cases hx:q.die with
 | true=>rw[hx] at hd;cases hd
 | false=>exact hq hx
section
variable {bl:oH} {ins:Bool} (B:∀ i,(bl i).die=false->VB ins (bl i).v)
include B
omit H in
theorem wh_vs{k line:Int}{t:ByteArray}{q:XR Ex}{P:St->Prop}(hq:q.die=false->∀ b,VB ins b->P (.mk k line t [] q.v b []))(hd:(oh bl k line t q).die=false):P (oh bl k line t q).v:=by
 unfold oh at hd ⊢;cases hx:q.die with
 | true=>rw[hx] at hd;cases hd
 | false =>
   rw[hx] at hd;simp only[cond_false] at hd ⊢;cases hy:(bl q.i).die with
   | true=>rw[hy] at hd;cases hd
   | false=>exact hq hx _ (B _ hy)
omit H in
theorem if_vs{line:Int}{q:XR Ex}{P:St->Prop}(hq:q.die=false->∀ b c,VB ins b->VB ins c->P (.mk 3 line eS [] q.v b c))(hd:(pE l bl line q).die=false):P (pE l bl line q).v:=by
 unfold pE at hd ⊢;cases hx:q.die with
 | true=>rw[hx] at hd;cases hd
 | false =>
   rw[hx] at hd;simp only[cond_false] at hd ⊢;cases hy:(bl q.i).die with
   | true=>rw[hy] at hd;cases hd
   | false =>
     rw[hy] at hd;simp only[cond_false] at hd ⊢;cases h1:aA l (bl q.i).i mH with
     | false=>exact hq hx _ _ (B _ hy) (St.j8 _ _)
     | true =>
       rw[h1] at hd;simp only[cond_true] at hd ⊢;cases hz:(bl ((bl q.i).i+1)).die with
       | true=>rw[hz] at hd;cases hd
       | false=>exact hq hx _ _ (B _ hy) (B _ hz)
theorem st_vs(i:Int)(hd:(iZ s l bl ins i).die=false):VS ins (iZ s l bl ins i).v:=by
 unfold iZ at hd ⊢;cases h1:aA l i oG with
 | true=>rw[h1] at hd;exact pr_vs (P:=VS ins) (fun h=>vs_pr (zV H _ h) ins) hd
 | false =>
 cases h2:aA l i vk with
 | true=>rw[h1,h2] at hd;exact if_vs (l:=l) B (P:=VS ins) (fun h b c hb hc=>vs_if (F9 H (by omega) (by omega) h) hb hc) hd
 | false =>
 cases h3:aA l i rD with
 | true=>rw[h1,h2,h3] at hd;exact wh_vs B (P:=VS ins) (fun h b hb=>vs_wh (F9 H (by omega) (by omega) h) hb) hd
 | false =>
 rw[h1,h2,h3] at hd;simp only[cond_false] at hd ⊢;cases h4:aA l i sw with
 | true =>
   rw[h4] at hd;simp only[cond_true] at hd ⊢;cases h5:eY l (i+1) with
   | false=>rw[h5] at hd;cases hd
   | true =>
     rw[h5] at hd;simp only[cond_true] at hd ⊢;cases h6:aA l (i+1+1) wm with
     | false=>rw[h6] at hd;cases hd
     | true=>rw[h6] at hd;exact wh_vs B (P:=VS ins) (fun h b hb=>Wr (SL H h5) (F9 H (by omega) (by omega) h) hb) hd
 | false =>
 rw[h4] at hd;simp only[cond_false] at hd ⊢;cases h7:ins&&aA l i tP with
 | true =>
   rw[h7] at hd;rw[Bool.and_eq_true] at h7;obtain⟨rfl,_⟩:=h7;exact pr_vs (P:=VS true) (fun h=>vs_re (zV H _ h)) hd
 | false =>
 rw[h7] at hd;simp only[cond_false] at hd ⊢;cases h8:eY l i with
 | false=>rw[h8] at hd;cases hd
 | true =>
   rw[h8] at hd;simp only[cond_true] at hd ⊢;cases h9:aA l (i+1) yd with
   | false=>rw[h9] at hd;cases hd
   | true=>rw[h9] at hd;exact set_vs (P:=VS ins) (fun h=>Wq (SL H h8) (zV H _ h) ins) hd
end
omit H in
theorem Ws{st:Int->XR St}{ins:Bool}(S:∀ i,(st i).die=false->VS ins (st i).v):∀(k:Nat)(acc:List St)(i:Int),VB ins acc->(ol s l st k acc i).die=false->VB ins (ol s l st k acc i).v
 | 0,_,_,_,hd=>by cases hd
 | k + 1, acc, i, ha, hd => by
   unfold ol at hd ⊢;cases h1:aA l i mI with
   | true=>exact ha
   | false =>
     rw[h1] at hd;simp only[cond_false] at hd ⊢;cases hx:(st i).die with
     | true=>rw[hx] at hd;cases hd
     | false =>
       rw[hx] at hd;refine Ws S k _ _ ?_ hd;unfold VB at ha ⊢;rw[Ic,ha,St.nB,(S i hx).fa,St.j8];rfl
theorem SN(ins:Bool):∀(n:Nat)(i:Int),(gM s l ins n i).die=false->VB ins (gM s l ins n i).v
 | 0,i,hd=>by cases hd
 | n+1,i,hd=>by
   have hd':(t6 s l (iZ s l (gM s l ins n) ins) i).die=false:=hd;show VB ins (t6 s l (iZ s l (gM s l ins n) ins) i).v;unfold t6 at hd' ⊢;cases h1:aA l i pX with
   | false=>rw[h1] at hd';cases hd'
   | true=>rw[h1] at hd';exact Ws (fun i h=>st_vs H (SN ins n) i h) _ _ _ (St.j8 _ _) hd'
theorem fr_ok{xs:List ByteArray}{i:Int}(h:lH s l xs i=none):bR (aM l i).text=true/\(aM l i).text ∉ xs:=by
 unfold lH at h;cases hn:eY l i with
 | false=>rw[hn] at h;cases h
 | true =>
   rw[hn] at h;cases hh:eF xs (aM l i).text with
   | true=>rw[hh] at h;cases h
   | false=>exact⟨SL H hn,hasS_no hh⟩
omit H in
theorem Ga{l:List ByteArray}{x:ByteArray}(h:l.Nodup)(hx:x ∉ l):(l++[x]).Nodup:=by
 rw[List.nodup_append];exact⟨h,by simp,fun a ha b hb=>by rw[List.mem_singleton] at hb;rintro rfl;rw[hb] at ha;exact hx ha⟩
omit H in
theorem Wt{l:List ByteArray}{x:ByteArray}(h:kg l=false)(hx:bR x=true):kg (l++[x])=false:=by
 unfold kg at h ⊢;rw[List.any_append,h];simp[hx]
theorem pa_ok:∀(k:Nat)(acc:List ByteArray)(i:Int),acc.Nodup->kg acc=false->(mr s l k acc i).die=false->(mr s l k acc i).v.Nodup/\kg (mr s l k acc i).v=false
 | 0,_,_,_,_,hd=>by cases hd
 | k + 1, acc, i, h1, h2, hd => by
   unfold mr at hd ⊢;cases hf:lH s l acc i with
   | some q=>obtain⟨e,a⟩:=q;rw[hf] at hd;cases hd
   | none =>
     rw[hf] at hd;obtain⟨a,b⟩:=fr_ok H hf;have n1:=Ga h1 b;have n2:=Wt h2 a;simp only at hd ⊢;cases h3:aA l (i+1) dx with
     | true=>exact⟨n1,n2⟩
     | false =>
       rw[h3] at hd;simp only[cond_false] at hd ⊢;cases h4:aA l (i+1) jL with
       | false=>rw[h4] at hd;cases hd
       | true=>rw[h4] at hd;exact pa_ok k _ _ n1 n2 hd
theorem df_ok{ns : List ByteArray}{line i : Int}(hd : (iM s l (bT s l) ns line i).die = false) :
 (iM s l (bT s l) ns line i).v.fa false true=true/\(iM s l (bT s l) ns line i).v.params.Nodup/\(iM s l (bT s l) ns line i).v.k=7/\(iM s l (bT s l) ns line i).v.name=(aM l i).text/\(aM l i).text ∉ ns:=by
 unfold iM at hd ⊢;cases hf:lH s l ns i with
 | some q=>obtain⟨e,a⟩:=q;rw[hf] at hd;cases hd
 | none =>
   rw[hf] at hd;obtain⟨a,b⟩:=fr_ok H hf;simp only at hd ⊢;cases h1:aA l (i+1) eH with
   | false=>rw[h1] at hd;cases hd
   | true =>
     rw[h1] at hd;simp only[cond_true] at hd ⊢
     have key : ∀ q : XR (List ByteArray), (q.die = false → q.v.Nodup ∧ kg q.v = false) → (l6 (bT s l) line (aM l i).text q).die = false →
      (l6 (bT s l) line (aM l i).text q).v.fa false true=true/\(l6 (bT s l) line (aM l i).text q).v.params.Nodup/\(l6 (bT s l) line (aM l i).text q).v.k=7/\(l6 (bT s l) line (aM l i).text q).v.name=(aM l i).text/\(aM l i).text ∉ ns:=by
      intro q hq hd;unfold l6 at hd ⊢;cases hx:q.die with
      | true=>rw[hx] at hd;cases hd
      | false =>
        rw[hx] at hd;simp only[cond_false] at hd ⊢;cases hy:(bT s l q.i).die with
        | true=>rw[hy] at hd;cases hd
        | false =>
          obtain⟨n1,n2⟩:=hq hx;exact⟨vs_def a n2 (SN H true _ _ hy),n1,rfl,rfl,b⟩
     refine key _ ?_ hd;cases h2:aA l (i+1+1) dx with
     | true=>exact fun _=>⟨List.nodup_nil,rfl⟩
     | false=>exact fun h=>pa_ok H _ _ _ List.nodup_nil rfl h
structure PgI(acc:List St)(ns:List ByteArray):Prop where
 fa:St.gE acc false true=true
 dp:zQ acc=false
 df:eO acc=ns
 nd:ns.Nodup
omit H in
theorem JK{acc:List St}{x:St}(h:zQ acc=false)(hx:x.params.Nodup):zQ (acc++[x])=false:=by
 unfold zQ at h ⊢;rw[List.any_append,h];have:lf x.params=false:=by unfold lf;rw[decide_eq_true hx];rfl
 simp[this]
theorem SQ : ∀(k : Nat)(acc : List St)(ns : List ByteArray)(i : Int), PgI acc ns → (mK s l k acc ns i).die = false → PgI (mK s l k acc ns i).v.1 (mK s l k acc ns i).v.2
 | 0,_,_,_,_,hd=>by cases hd
 | k + 1, acc, ns, i, I, hd => by
   unfold mK at hd ⊢;cases h0:decide (i<(l.length:Int)) with
   | false=>exact I
   | true =>
     rw[h0] at hd;simp only[cond_true] at hd ⊢;cases h1:aA l i qk with
     | true =>
       rw[h1] at hd;simp only[cond_true] at hd ⊢;cases hx:(iM s l (bT s l) ns (fG s l i) (i+1)).die with
       | true=>rw[hx] at hd;cases hd
       | false =>
         rw[hx] at hd;obtain⟨d1,d2,d3,d4,d5⟩:=df_ok H hx;refine SQ k _ _ _ ⟨?_,JK I.dp d2,?_,Ga I.nd d5⟩ hd;rw[Ic,I.fa,St.nB,d1,St.j8];rfl;rw[zR,I.df,d3,d4];rfl
     | false =>
       rw[h1] at hd;simp only[cond_false] at hd ⊢;cases hx:(sT s l i).die with
       | true=>rw[hx] at hd;cases hd
       | false =>
         rw[hx] at hd;have v:VS false (sT s l i).v:=st_vs H (SN H false _) i hx;refine SQ k _ _ _ ⟨?_,JK I.dp (by rw[v.ps];exact List.nodup_nil),?_,I.nd⟩ hd;rw[Ic,I.fa,St.nB,v.fa,St.j8];rfl;rw[zR,I.df,decide_eq_false v.k7];exact List.append_nil _
end
structure Qj(s:ByteArray)(L:List St):Prop where
 spl:(dZ s).2.1=0
 die:(dr s (tks s)).die=false
 i:¬(dr s (tks s)).i<(tks s).length
 v:(dr s (tks s)).v.1=L
 ov:jS L=false
theorem pok_pax{s:ByteArray}{L:List St}(h:Qj s L):iC s=(L,0,0):=by
 have e1:fD s=(L,0,0):=by
  unfold fD;rw[if_pos h.spl,h.die,decide_eq_false h.i,h.v];rfl
 unfold iC;rw[e1];show (bif _&&jS L then _ else _)=_;rw[h.ov,Bool.and_false];rfl
theorem qp{α:Type}{l:List α}(h:¬0<((l.length:Nat):Int)):l=[]:=List.eq_nil_of_length_eq_zero (by omega)
theorem ED{k line:Int}{name:ByteArray}{ps:List ByteArray}{e:Ex}{b c:List St}{ins top:Bool}(h:(St.mk k line name ps e b c).fa ins top=true) :
 (k=1/\bR name=true/\e.fin=true/\ps=[]/\b=[]/\c=[])∨(k=2/\name=eS/\e.fin=true/\ps=[]/\b=[]/\c=[])∨
 (k=3/\name=eS/\e.fin=true/\ps=[]/\St.gE b ins false=true/\St.gE c ins false=true)∨(k=4/\name=eS/\e.fin=true/\ps=[]/\St.gE b ins false=true/\c=[])∨
 (k=5/\bR name=true/\e.fin=true/\ps=[]/\St.gE b ins false=true/\c=[])∨(k=6/\ins=true/\name=eS/\e.fin=true/\ps=[]/\b=[]/\c=[])∨
 (k=7/\top=true/\bR name=true/\e=iY/\kg ps=false/\St.gE b true false=true/\c=[]):=by
 rw[St.fa,Bool.and_eq_true,Bool.and_eq_true] at h;obtain⟨⟨h1,h2⟩,h3⟩:=h;unfold rS at h1;rw[Bool.and_eq_true,Bool.and_eq_true,Bool.not_eq_true',Bool.not_eq_true'] at h1;obtain⟨⟨a,f1⟩,f2⟩:=h1;unfold wv at f1;unfold wz at f2;simp only[Bool.or_eq_false_iff] at f1 f2;obtain⟨⟨⟨n1,n2⟩,n3⟩,n4⟩:=f1;obtain⟨⟨⟨m1,m2⟩,m3⟩,m4⟩:=f2;unfold PU at a;simp only[Bool.or_eq_true,Bool.and_eq_true,decide_eq_true_eq] at a;rcases a with ((((((rfl|rfl)|rfl)|rfl)|rfl)|⟨rfl,hi⟩)|⟨rfl,hi⟩);refine .inl ⟨rfl,?_,?_,?_,?_,?_⟩;simpa[Ck] using n1;simpa using n3;exact qp (by simpa using m3);exact qp (by simpa[PS] using m1);exact qp (by simpa using m2);refine .inr (.inl ⟨rfl,?_,?_,?_,?_,?_⟩);simpa[Ck] using n2;simpa using n3;exact qp (by simpa using m3);exact qp (by simpa[PS] using m1);exact qp (by simpa using m2);rw[show (ins||decide ((3:Int)=7))=ins by cases ins<;>rfl] at h2 h3;refine .inr (.inr (.inl ⟨rfl,?_,?_,?_,h2,h3⟩));simpa[Ck] using n2;simpa using n3;exact qp (by simpa using m3);rw[show (ins||decide ((4:Int)=7))=ins by cases ins<;>rfl] at h2;refine .inr (.inr (.inr (.inl ⟨rfl,?_,?_,?_,h2,?_⟩)));simpa[Ck] using n2;simpa using n3;exact qp (by simpa using m3);exact qp (by simpa using m2);rw[show (ins||decide ((5:Int)=7))=ins by cases ins<;>rfl] at h2;refine .inr (.inr (.inr (.inr (.inl ⟨rfl,?_,?_,?_,h2,?_⟩))));simpa[Ck] using n1;simpa using n3;exact qp (by simpa using m3);exact qp (by simpa using m2);refine .inr (.inr (.inr (.inr (.inr (.inl ⟨rfl,hi,?_,?_,?_,?_,?_⟩)))));simpa[Ck] using n2;simpa using n3;exact qp (by simpa using m3);exact qp (by simpa[PS] using m1);exact qp (by simpa using m2);rw[show (ins||decide ((7:Int)=7))=true by cases ins<;>rfl] at h2;refine .inr (.inr (.inr (.inr (.inr (.inr ⟨rfl,hi,?_,?_,m4,h2,?_⟩)))));simpa[Ck] using n1;have:oo e=true:=by simpa using n4
 exact(Ex.uw _ _).1 this;exact qp (by simpa using m2)
theorem o7{ins top:Bool}{x:St}:∀{l:List St},St.gE l ins top=true->x∈l->x.fa ins top=true
 | y::l,h,hm=>by
   rw[St.nB,Bool.and_eq_true] at h;rcases List.mem_cons.1 hm with rfl|hm;exact h.1;exact o7 h.2 hm
theorem JL(x:St):x.cr=x.e.cr+St.aH x.body+St.aH x.els+1:=St.fE x
theorem Gb{x:St}:∀{l:List St},x∈l->x.cr<=St.aH l
 | y::l,hm=>by
   rw[St.ef];rcases List.mem_cons.1 hm with rfl|hm;omega;have:=Gb hm;omega
theorem Gc{M:Bool->St->Prop}(set:∀ ins line t e,bR t=true->e.fin=true->M ins (.mk 1 line t [] e [] []))(pri:∀ ins line e,e.fin=true->M ins (.mk 2 line eS [] e [] []))
 (iff:∀ ins line e b c,e.fin=true->(∀ x∈b,x.fa ins false=true/\M ins x)->(∀ x∈c,x.fa ins false=true/\M ins x)->M ins (.mk 3 line eS [] e b c))
 (whi:∀ ins line e b,e.fin=true->(∀ x∈b,x.fa ins false=true/\M ins x)->M ins (.mk 4 line eS [] e b []))
 (fr:∀ ins line t e b,bR t=true->e.fin=true->(∀ x∈b,x.fa ins false=true/\M ins x)->M ins (.mk 5 line t [] e b []))
 (ret:∀ line e,e.fin=true->M true (.mk 6 line eS [] e [] [])):∀(n:Nat)(ins:Bool)(x:St),x.cr<=n->x.fa ins false=true->M ins x
 | 0,ins,x,hs,_=>by have:=JL x;omega
 | n+1,ins,.mk k line t ps e b c,hs,h=>by
   have hz:=JL (.mk k line t ps e b c);have hz:(St.mk k line t ps e b c).cr=e.cr+St.aH b+St.aH c+1:=hz;have ih:∀(l:List St),St.aH l<=n->St.gE l ins false=true->∀ x∈l,x.fa ins false=true/\M ins x:=fun l hl hf x hx=>by
    have h1:=o7 hf hx;have h2:=Gb hx;exact⟨h1,Gc set pri iff whi fr ret n ins x (by omega) h1⟩
   rcases ED h with g|g|g|g|g|g|g;obtain⟨rfl,a,f,rfl,rfl,rfl⟩:=g;exact set _ _ _ _ a f;obtain⟨rfl,rfl,f,rfl,rfl,rfl⟩:=g;exact pri _ _ _ f;obtain⟨rfl,rfl,f,rfl,hb,hc⟩:=g;exact iff _ _ _ _ _ f (ih b (by omega) hb) (ih c (by omega) hc);obtain⟨rfl,rfl,f,rfl,hb,rfl⟩:=g;exact whi _ _ _ _ f (ih b (by omega) hb);obtain⟨rfl,a,f,rfl,hb,rfl⟩:=g;exact fr _ _ _ _ _ a f (ih b (by omega) hb);obtain⟨rfl,rfl,rfl,f,rfl,rfl,rfl⟩:=g;exact ret _ _ f;obtain⟨_,g,_⟩:=g;cases g
theorem Nr{x:St}(h:x.fa false true=true):x.fa false false=true∨∃ line t ps b,x=.mk 7 line t ps iY b []/\bR t=true/\kg ps=false/\St.gE b true false=true:=by
 cases x with
 | mk k line t ps e b c =>
 rcases ED h with g|g|g|g|g|g|g;obtain⟨rfl,a,f,rfl,rfl,rfl⟩:=g;exact .inl ((Wq a f false).fa false);obtain⟨rfl,rfl,f,rfl,rfl,rfl⟩:=g;exact .inl ((vs_pr f false).fa false);obtain⟨rfl,rfl,f,rfl,hb,hc⟩:=g;exact .inl ((vs_if f hb hc).fa false);obtain⟨rfl,rfl,f,rfl,hb,rfl⟩:=g;exact .inl ((vs_wh f hb).fa false);obtain⟨rfl,a,f,rfl,hb,rfl⟩:=g;exact .inl ((Wr a f hb).fa false);obtain⟨_,g,_⟩:=g;cases g;obtain⟨rfl,_,a,rfl,p,hb,rfl⟩:=g;exact .inr ⟨_,_,_,_,rfl,a,p,hb⟩
def jq(t:ByteArray):Tok:=⟨1,t,0,0⟩
def jJ(b:List Tok):List Tok:=bS pX::(b++[bS mI])
mutual
def St.tk:St->List Tok
 | .mk k _ name ps e b c =>
   bif decide (k=1) then jq name::bS yd::(e.tk 1++[bS kX]) else
   bif decide (k=2) then ia oG::(e.tk 1++[bS kX]) else
   bif decide (k=6) then ia tP::(e.tk 1++[bS kX]) else
   bif decide (k=3) then ia vk::(e.tk 1++(jJ (St.cT b)++(bif decide (c.length=0) then [] else ia mH::jJ (St.cT c)))) else
   bif decide (k=4) then ia rD::(e.tk 1++jJ (St.cT b)) else
   bif decide (k=5) then ia sw::jq name::ia wm::(e.tk 1++jJ (St.cT b)) else
   ia qk::jq name::bS eH::(iU (ps.map fun p=>[jq p])++(bS dx::jJ (St.cT b)))
def St.cT:List St->List Tok
 | []=>[]
 | x::l=>x.tk++St.cT l
end
theorem yD:St.cT []=[]:=by rw[St.cT]
theorem oO(x:St)(l:List St):St.cT (x::l)=x.tk++St.cT l:=by rw[St.cT]
def Ie(c:List St):List Tok:=bif decide (c.length=0) then [] else ia mH::jJ (St.cT c)
theorem Ge(line:Int)(t:ByteArray)(e:Ex):(St.mk 1 line t [] e [] []).tk=jq t::bS yd::(e.tk 1++[bS kX]):=by rw[St.tk];rfl
theorem Gf(line:Int)(e:Ex):(St.mk 2 line eS [] e [] []).tk=ia oG::(e.tk 1++[bS kX]):=by rw[St.tk];rfl
theorem Gg(line:Int)(e:Ex):(St.mk 6 line eS [] e [] []).tk=ia tP::(e.tk 1++[bS kX]):=by rw[St.tk];rfl
theorem Kf(line:Int)(e:Ex)(b c:List St):(St.mk 3 line eS [] e b c).tk=ia vk::(e.tk 1++(jJ (St.cT b)++Ie c)):=by rw[St.tk];rfl
theorem Gi(line:Int)(e:Ex)(b:List St):(St.mk 4 line eS [] e b []).tk=ia rD::(e.tk 1++jJ (St.cT b)):=by rw[St.tk];rfl
theorem Gj(line:Int)(t:ByteArray)(e:Ex)(b:List St):(St.mk 5 line t [] e b []).tk=ia sw::jq t::ia wm::(e.tk 1++jJ (St.cT b)):=by rw[St.tk];rfl
theorem yE(line:Int)(t:ByteArray)(ps:List ByteArray)(b:List St):(St.mk 7 line t ps iY b []).tk=ia qk::jq t::bS eH::(iU (ps.map fun p=>[jq p])++(bS dx::jJ (St.cT b))):=by rw[St.tk];rfl
def jd:List ByteArray->ByteArray
 | []=>eS
 | x::l=>x++(oK++jd l)
theorem vD(l m:List ByteArray):jd (l++m)=jd l++jd m:=by
 induction l with
 | nil=>exact(ByteArray.empty_append).symm
 | cons x l ih=>rw[List.cons_append,jd,jd,ih];simp only[ByteArray.append_assoc]
theorem Ns(x:ByteArray):jd [x]=x++oK:=by
 show x++(oK++eS)=_;rw[show oK++eS=oK from ByteArray.append_empty]
theorem JM:∀ l:List ByteArray,l≠[]->cn l oK++oK=jd l
 | [],h=>absurd rfl h
 | [x],_=>by rw[wq,Ns]
 | x::y::l,_=>by
   have ih:=JM (y::l) (by simp);rw[zN,jd,<-ih];simp only[ByteArray.append_assoc]
theorem Zi(L:List St):fF L=jd (St.cH L eS):=by
 unfold fF;by_cases h:St.cH L eS=[];rw[h];rfl;rw[decide_eq_true (by
  have:0<(St.cH L eS).length:=List.length_pos_iff.2 h;omega)]
 exact JM _ h
theorem lx_nl:LxF dh oK []:=by
 intro pre aL ts' _ hL;exact⟨[],trivial,lx_sp (x:=oK) (j:=0) (by decide) (by decide) hL⟩
theorem sg_lc:Sg pX (bS pX):=jy (n:=1) (by decide) (by decide) (by decide) (by kernel_rfl) rfl
theorem sg_rc:Sg mI (bS mI):=jy (n:=1) (by decide) (by decide) (by decide) (by kernel_rfl) rfl
theorem sg_sem:Sg kX (bS kX):=jy (n:=1) (by decide) (by decide) (by decide) (by kernel_rfl) rfl
theorem sg_eq:Sg yd (bS yd):=jy (n:=1) (by decide) (by decide) (by decide) (by kernel_rfl) rfl
theorem lx_lc:LxF dh pX [bS pX]:=p4 sg_lc (by decide) (by decide) (by decide)
theorem lx_rc:LxF dh mI [bS mI]:=p4 sg_rc (by decide) (by decide) (by decide)
theorem Nt:LxF dh kX [bS kX]:=p4 sg_sem (by decide) (by decide) (by decide)
theorem rM{x:ByteArray}{t:Tok}(g:Sg x t):LxF dh (x++mL) [t]:=LxF.eq (iV (SH g) oN (by decide) (by decide)) (List.append_nil _)
theorem sg_pri:Sg oG (ia oG):=jy (n:=5) (by decide) (by decide) (by decide) (by kernel_rfl) rfl
theorem sg_ret:Sg tP (ia tP):=jy (n:=6) (by decide) (by decide) (by decide) (by kernel_rfl) rfl
theorem sg_if:Sg vk (ia vk):=jy (n:=2) (by decide) (by decide) (by decide) (by kernel_rfl) rfl
theorem sg_whi:Sg rD (ia rD):=jy (n:=5) (by decide) (by decide) (by decide) (by kernel_rfl) rfl
theorem sg_for:Sg sw (ia sw):=jy (n:=3) (by decide) (by decide) (by decide) (by kernel_rfl) rfl
theorem sg_in:Sg wm (ia wm):=jy (n:=2) (by decide) (by decide) (by decide) (by kernel_rfl) rfl
theorem sg_def:Sg qk (ia qk):=jy (n:=3) (by decide) (by decide) (by decide) (by kernel_rfl) rfl
theorem sg_els:Sg mH (ia mH):=jy (n:=4) (by decide) (by decide) (by decide) (by kernel_rfl) rfl
theorem lx_ass:LxF dh M7 [bS yd]:=by
 rw[show M7=mL++(yd++mL) by decide];exact dR oN (rM sg_eq)
theorem lx_prs:LxF dh Sk [ia oG]:=by rw[show Sk=oG++mL by decide];exact rM sg_pri
theorem lx_res:LxF dh Sl [ia tP]:=by rw[show Sl=tP++mL by decide];exact rM sg_ret
theorem lx_ifs:LxF dh Sm [ia vk]:=by rw[show Sm=vk++mL by decide];exact rM sg_if
theorem lx_whs:LxF dh Sn [ia rD]:=by rw[show Sn=rD++mL by decide];exact rM sg_whi
theorem lx_fos:LxF dh Sq [ia sw]:=by rw[show Sq=sw++mL by decide];exact rM sg_for
theorem lx_des:LxF dh Sv [ia qk]:=by rw[show Sv=qk++mL by decide];exact rM sg_def
theorem lx_ins:LxF dh Sr [ia wm]:=by rw[show Sr=mL++(wm++mL) by decide];exact dR oN (rM sg_in)
theorem lx_opn:LxF dh jx [bS pX]:=by rw[show jx=mL++pX by decide];exact dR oN lx_lc
theorem lx_elo:LxF dh tS [bS mI,ia mH,bS pX]:=by
 rw[show tS=mI++(mL++((mH++mL)++pX)) by decide];exact dR lx_rc (dR oN (dR (rM sg_els) lx_lc))
theorem Co{ind:ByteArray}(h:LxF dh ind []):LxF dh (ind++fX) []:=by
 rw[show fX=mL++mL by decide];exact dR h (dR oN oN)
theorem Qk:∀ ps:List ByteArray,kg ps=false->LxF F7 (cn ps jo) (iU (ps.map fun p=>[jq p]))
 | [],_=>by rw[Cc];exact tE
 | [p],h=>by
   have hp:bR p=true:=by simpa[kg] using h
   rw[wq];exact o6 (mg hp).1 (.inl (mg hp).2)
 | p::q::l,h=>by
   have hp:bR p=true/\kg (q::l)=false:=by
    unfold kg at h ⊢;rw[List.any_cons,Bool.or_eq_false_iff,Bool.not_eq_false'] at h;exact h
   have ih:=Qk (q::l) hp.2;rw[zN];exact iV (o6 (mg hp.1).1 (.inl (mg hp.1).2)) (dR lx_cs ih) (by rw[aX];exact Nat.lt_of_lt_of_le (by decide:0<jo.size) (Nat.le_add_right _ _)) (by show cB _=false;rw[lg (by decide)];decide)
theorem uE{L:List St}{ind:ByteArray}(h:∀ x∈L,LxF dh (jd (x.rH ind)) x.tk):LxF dh (jd (St.cH L ind)) (St.cT L):=by
 induction L with
 | nil=>rw[St.zP,yD];exact tE
 | cons x L ih =>
   rw[St.qJ,vD,oO];exact dR (h x (by simp)) (ih fun y hy=>h y (List.mem_cons_of_mem _ hy))
theorem uF{ind x:ByteArray}{ts:List Tok}(hi:LxF dh ind [])(hx:LxF dh x ts):LxF dh (jd [ind++x]) ts:=by
 rw[Ns];exact LxF.eq (dR (dR hi hx) lx_nl) (List.append_nil _)
theorem zW{ind hd:ByteArray}{ts tb te:List Tok}{lb le:List ByteArray}(hi:LxF dh ind [])(hh:LxF F7 hd ts)(hb:LxF dh (jd lb) tb)(he:LxF dh (jd le) te) :
 LxF dh (jd ((ind++hd++jx)::(lb++(le++[ind++pN])))) (ts++(bS pX::(tb++(te++[bS mI])))):=by
 rw[show (ind++hd++jx)::(lb++(le++[ind++pN]))=[ind++(hd++jx)]++(lb++(le++[ind++pN])) by rw[ByteArray.append_assoc];rfl,vD,vD,vD];have h1:LxF dh (hd++jx) (ts++[bS pX]):=iV hh lx_opn (by decide) (by decide);refine LxF.eq (dR (uF hi h1) (dR hb (dR he (uF hi lx_rc)))) ?_;simp
theorem Zj{c:List St}{ind:ByteArray}{tc:List Tok}(hi:LxF dh ind [])(h:LxF dh (jd (St.cH c (ind++fX))) tc):LxF dh (jd (tT c ind)) (bif decide (c.length=0) then [] else bS mI::ia mH::bS pX::tc):=by
 unfold tT;by_cases hc:c.length=0;rw[decide_eq_true hc];exact tE;rw[decide_eq_false hc];show LxF dh (jd ([ind++tS]++St.cH c (ind++fX))) _;rw[vD];exact dR (uF hi lx_elo) h
theorem lx_st(ins:Bool)(x:St)(hf:x.fa ins false=true):∀ ind,LxF dh ind []->LxF dh (jd (x.rH ind)) x.tk:=by
 refine Gc (M:=fun _ x=>∀ ind,LxF dh ind []->LxF dh (jd (x.rH ind)) x.tk) ?_ ?_ ?_ ?_ ?_ ?_ x.cr ins x (Nat.le_refl _) hf;intro ins line t e ht he ind hi;rw[St.tB,Ge];show LxF dh (jd [ind++(t++M7++e.wr 1++kX)]) _;refine uF hi (LxF.eq (iV (dR (iV (o6 (mg ht).1 (.inl (mg ht).2)) lx_ass (by decide) (by decide)) (uD e he 1)) Nt (by decide) (by decide)) ?_);rfl;intro ins line e he ind hi;rw[St.tB,Gf];show LxF dh (jd [ind++(Sk++e.wr 1++kX)]) _;exact uF hi (iV (dR lx_prs (uD e he 1)) Nt (by decide) (by decide));intro ins line e b c he hb hc ind hi;rw[St.tB,Kf];show LxF dh (jd ((ind++(Sm++e.wr 1)++jx)::(St.cH b (ind++fX)++(tT c ind++[ind++pN])))) _;refine LxF.eq (zW hi (dR lx_ifs (uD e he 1)) (uE fun x hx=>(hb x hx).2 _ (Co hi)) (Zj hi (uE fun x hx=>(hc x hx).2 _ (Co hi)))) ?_;unfold Ie jJ;cases decide (c.length=0)<;>simp;intro ins line e b he hb ind hi;rw[St.tB,Gi];show LxF dh (jd ((ind++(Sn++e.wr 1)++jx)::(St.cH b (ind++fX)++([]++[ind++pN])))) _;refine LxF.eq (zW hi (dR lx_whs (uD e he 1)) (uE fun x hx=>(hb x hx).2 _ (Co hi)) (tE (F:=dh))) ?_;unfold jJ;simp;intro ins line t e b ht he hb ind hi;rw[St.tB,Gj];show LxF dh (jd ((ind++(Sq++t++Sr++e.wr 1)++jx)::(St.cH b (ind++fX)++([]++[ind++pN])))) _;refine LxF.eq (zW hi (dR (iV (dR lx_fos (o6 (mg ht).1 (.inl (mg ht).2))) lx_ins (by decide) (by decide)) (uD e he 1)) (uE fun x hx=>(hb x hx).2 _ (Co hi)) (tE (F:=dh))) ?_;unfold jJ;simp;rfl;intro line e he ind hi;rw[St.tB,Gg];show LxF dh (jd [ind++(Sl++e.wr 1++kX)]) _;exact uF hi (iV (dR lx_res (uD e he 1)) Nt (by decide) (by decide))
theorem lx_def{line:Int}{t:ByteArray}{ps:List ByteArray}{b:List St}(ht:bR t=true)(hp:kg ps=false)(hb:St.gE b true false=true){ind:ByteArray}(hi:LxF dh ind []):LxF dh (jd ((St.mk 7 line t ps iY b []).rH ind)) (St.mk 7 line t ps iY b []).tk:=by
 rw[St.tB,yE];show LxF dh (jd ((ind++(Sv++t++eH++cn ps jo++dx)++jx)::(St.cH b (ind++fX)++([]++[ind++pN])))) _;refine LxF.eq (zW hi (iV (dR (iV (dR lx_des (o6 (mg ht).1 (.inl (mg ht).2))) SI (by decide) (by decide)) (Qk ps hp)) SJ.weak (by decide) (by decide)) (uE fun x hx=>lx_st true x (o7 hb hx) _ (Co hi)) (tE (F:=dh))) ?_;unfold jJ;simp;rfl
theorem lx_top{x:St}(h:x.fa false true=true){ind:ByteArray}(hi:LxF dh ind []):LxF dh (jd (x.rH ind)) x.tk:=by
 rcases Nr h with h|⟨line,t,ps,b,rfl,ht,hp,hb⟩;exact lx_st false x h ind hi;exact lx_def ht hp hb hi
theorem lx_prog{L:List St}(h:St.gE L false true=true):∃ q,pF (St.cT L) q/\Lx (fF L) 0 q:=by
 have key:LxF dh (jd (St.cH L eS)) (St.cT L):=uE fun x hx=>lx_top (o7 h hx) tE;have e1:eS++(fF L++eS)=fF L:=by
  have a:fF L++eS=fF L:=ByteArray.append_empty;have b:eS++fF L=fF L:=ByteArray.empty_append;rw[a,b]
 rw[<-Zi] at key;obtain⟨q,h1,h2⟩:=key eS eS [] (.inl rfl) (.done (by rw[e1];show _<=0+_;omega));rw[e1,List.append_nil] at h2;exact⟨q,h1,h2⟩
end Go.Proofs.YtnbjjocbncblaaaGreatDoor
