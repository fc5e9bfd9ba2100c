/- The parser reads a valid expression from its tokens. -/
import Derived.Test.YtnbjjocbncblaaaGreatDoorFew1
namespace Go.Proofs.YtnbjjocbncblaaaGreatDoor
open Go.aN Go.RowKit
set_option maxRecDepth 100000
def At(l:List Tok):Int->List Tok->Prop
 | _,[]=>True
 | i,t::ts=>(i<l.length/\(aM l i).kind=t.kind/\(aM l i).text=t.text/\(aM l i).n=t.n)/\At l (i+1) ts
theorem At.app{l:List Tok}:∀{a b:List Tok}{i:Int},At l i (a++b)->At l i a/\At l (i+a.length) b
 | [],b,i,h=>⟨trivial,by simpa using h⟩
 | t::a,b,i,h=>by
   obtain⟨h1,h2⟩:=h;obtain⟨h3,h4⟩:=At.app h2;refine⟨⟨h1,h3⟩,?_⟩;rw[List.length_cons,show i+((a.length+1:Nat):Int)=i+1+a.length by omega];exact h4
theorem At.le{l:List Tok}:∀{a:List Tok}{i:Int},At l i a->a≠[]->i+a.length<=l.length
 | [],i,_,h=>absurd rfl h
 | [t],i,h,_=>by have:=h.1.1;show i+1<=_;omega
 | t::u::a,i,h,_=>by
   have:=At.le h.2 (by simp);rw[List.length_cons] at this ⊢;rw[List.length_cons];omega
def tD(t:Tok)(x:ByteArray):Bool:=decide (t.text=x)&&(decide (t.kind=5)||decide (t.kind=2))
theorem dV{l:List Tok}{i:Int}{t:Tok}{ts:List Tok}(h:At l i (t::ts))(x:ByteArray):aA l i x=tD t x:=by
 obtain⟨⟨h1,h2,h3,_⟩,_⟩:=h;unfold aA tD;rw[decide_eq_true h1,h2,h3];rfl
theorem j9(x:ByteArray):tD (bS x) x=true:=by unfold tD;rw[decide_eq_true (show (bS x).text=x from rfl)];rfl
theorem sM(x:ByteArray):tD (ia x) x=true:=by unfold tD;rw[decide_eq_true (show (ia x).text=x from rfl)];rfl
theorem wF{t:Tok}(h:t.kind≠5)(h':t.kind≠2)(x:ByteArray):tD t x=false:=by unfold tD;rw[decide_eq_false h,decide_eq_false h'];simp
structure af(l:List Tok)(j lv:Int):Prop where
 lp:aA l j eH=false
 lb:lv<=9->aA l j jh=false
 op:∀ m,lv<=m->m<=8->cY l j m=false
theorem af.mono{l:List Tok}{j a b:Int}(h:af l j a)(hab:a<=b):af l j b:=⟨h.lp,fun hb=>h.lb (by omega),fun m h1 h2=>h.op m (by omega) h2⟩
theorem af.s7{l:List Tok}{j:Int}(h:af l j 8):af l j 7:=by
 refine⟨h.lp,fun _=>h.lb (by omega),fun m h1 h2=>?_⟩;by_cases hm:m=8;exact h.op m (by omega) h2;cases ho:cY l j m with
 | false=>rfl
 | true =>
   have:=(zU ho).1;have:=rL (aM l j).text;omega
theorem Ni{l:List Tok}{j lv a:Int}(ho:cY l j lv=true)(h1:1<=lv)(ha:lv<a):af l j a:=by
 obtain⟨h2,h3⟩:=zU ho;have ne:∀ x,dU x=0->(aM l j).text≠x:=fun x hx e=>by rw[e,hx] at h2;omega
 refine⟨ic h3 (ne _ (by decide)),fun _=>ic h3 (ne _ (by decide)),fun m h4 _=>?_⟩;cases hm:cY l j m with
 | false=>rfl
 | true=>have:=(zU hm).1;omega
theorem yB{l:List Tok}{j a:Int}{x:ByteArray}(h:aA l j x=true)(h0:dU x=0)(h1:x≠eH)(h2:x≠jh∨a=10)(ha:1<=a):af l j a:=by
 refine⟨ic h h1,fun h9=>ic h (by rcases h2 with h2|h2;exact h2;omega),fun m h4 _=>?_⟩;cases hm:cY l j m with
 | false=>rfl
 | true =>
   have:=(zU hm).1;rw[(Ke h).1,h0] at this;omega
structure xk(pl:Int)(t:Tok):Prop where
 rb:tD t ji=false
 rp:tD t dx=false
 nt:4<=pl->tD t jK=false
 mn:8<=pl->tD t gJ=false
theorem xk.mono{a b:Int}{t:Tok}(h:xk b t)(hab:a<=b):xk a t:=⟨h.rb,h.rp,fun g=>h.nt (by omega),fun g=>h.mn (by omega)⟩
theorem hd_k{pl:Int}{t:Tok}(h:t.kind≠5)(h':t.kind≠2):xk pl t:=⟨wF h h' _,wF h h' _,fun _=>wF h h' _,fun _=>wF h h' _⟩
theorem plL_ge(t:ByteArray):dU t<=wD (dU t):=by
 rcases rL t with h|h|h|h|h|h|h<;>rw[h]<;>decide
theorem H8{e:Ex}(h:e.fin=true):∀ pl,∃ t ts,e.tk pl=t::ts/\xk pl t:=by
 have lpOk:∀ pl,xk pl (bS eH):=fun pl=>⟨by decide,by decide,fun _=>by decide,fun _=>by decide⟩;have key:∀(e:Ex),(∃ t ts,e.jj=t::ts/\xk e.lv t)->∀ pl,∃ t ts,e.tk pl=t::ts/\xk pl t:=by
  rintro e ⟨t,ts,h1,h2⟩ pl;by_cases hl:e.lv<pl;exact⟨_,_,SA hl,lpOk pl⟩;rw[Kc (by omega:pl<=e.lv)];exact⟨t,ts,h1,h2.mono (by omega)⟩
 refine uz (M:=fun e=>∀ pl,∃ t ts,e.tk pl=t::ts/\xk pl t) ?_ ?_ ?_ ?_ ?_ ?_ ?_ ?_ ?_ ?_ e.cr e (Nat.le_refl _) h;intro n _ _;exact key _ ⟨_,_,Hy n,hd_k (by show (3:Int)≠5;decide) (by show (3:Int)≠2;decide)⟩;intro n _ _;exact key _ ⟨_,_,Hz n,hd_k (by show (4:Int)≠5;decide) (by show (4:Int)≠2;decide)⟩;intro n _;refine key _ ⟨_,_,HE n,?_⟩;cases decide (n=1)<;>exact⟨by decide,by decide,fun _=>by decide,fun _=>by decide⟩;intro n _;exact key _ ⟨_,_,HF n,hd_k (by show (1:Int)≠5;decide) (by show (1:Int)≠2;decide)⟩;intro L _;exact key _ ⟨_,_,HL L,⟨by decide,by decide,fun _=>by decide,fun _=>by decide⟩⟩;intro t L _ _;exact key _ ⟨_,_,HV t L,hd_k (by show (1:Int)≠5;decide) (by show (1:Int)≠2;decide)⟩;intro x y _ _ hx _;obtain⟨t,ts,h1,h2⟩:=hx 9;exact key _ ⟨_,_,by rw[Ng,h1];rfl,h2⟩;intro x _ _;exact key _ ⟨_,_,HY x,by rw[yx];exact⟨by decide,by decide,fun h=>by omega,fun h=>by omega⟩⟩;intro x _ _;exact key _ ⟨_,_,HZ x,by rw[yA];exact⟨by decide,by decide,fun h=>by decide,fun h=>by omega⟩⟩;intro t x y _ _ _ hx _;obtain⟨u,ts,h1,h2⟩:=hx (wD (dU t));exact key _ ⟨_,_,by rw[H6,h1];rfl,h2.mono (by rw[yu];exact plL_ge t)⟩
theorem Nj{e:Ex}:e.tk e.lv=e.jj:=Kc (Int.le_refl _)
section
variable {s:ByteArray} {l:List Tok}
theorem H9{i:Int}{e:Ex}{j:Int}:∀(n:Nat)(pl hi:Int),hi=pl+n->1<=pl->hi<=10->Rd s l hi i e j->af l j pl->(pl<=3->4<=hi->aA l i jK=false)->(pl<=7->8<=hi->aA l i gJ=false)->Rd s l pl i e j
 | 0, pl, hi, h, _, _, hr, _, _, _ => by obtain rfl : hi = pl := by omega
                                         exact hr
 | n+1,pl,hi,h,h1,h2,hr,hs,hn,hm=>by
   have ih:=H9 n (pl+1) hi (by omega) (by omega) h2 hr (hs.mono (by omega)) (fun a b=>hn (by omega) b) (fun a b=>hm (by omega) b);have hc:(pl=1∨pl=2∨pl=4∨pl=5∨pl=6)∨pl=3∨pl=7∨pl=8∨pl=9:=by omega
   rcases hc with hc|rfl|rfl|rfl|rfl;exact lp_rd (by omega) (rd_lp hc ih) (hs.op pl (by omega) (by omega));exact rd_up3 ih (hn (by omega) (by omega));exact rd_up7 ih (hm (by omega) (by omega));exact rd_up8 ih (hs.op 8 (by omega) (by omega));exact ix_rd (rd_ix ih) (hs.lb (by omega))
variable (s l)
structure Core(e:Ex):Prop where
 lp:∀ i j,0<=i->At l i e.jj->j=i+e.jj.length->(e.lv=1∨e.lv=2∨e.lv=5∨e.lv=6)->af l j (e.lv+1)->Lp s l e.lv i e j
 ix:∀ i j,0<=i->At l i e.jj->j=i+e.jj.length->e.lv=9->af l j 10->Ix s l i e j
 rd:∀ i j,0<=i->At l i e.jj->j=i+e.jj.length->(e.lv=3∨e.lv=4∨e.lv=7∨e.lv=8∨e.lv=10)->af l j e.lv->Rd s l e.lv i e j
structure Whole(e:Ex):Prop where
 rd:∀ pl i j,1<=pl->pl<=10->0<=i->At l i (e.tk pl)->j=i+(e.tk pl).length->af l j pl->Rd s l pl i e j
 lp:∀ pl i j,(pl=1∨pl=2∨pl=5∨pl=6)->0<=i->At l i (e.tk pl)->j=i+(e.tk pl).length->af l j (pl+1)->Lp s l pl i e j
 ix:∀ i j,0<=i->At l i (e.tk 9)->j=i+(e.tk 9).length->af l j 10->Ix s l i e j
variable {s l}
theorem Nk{e:Ex}(h:e.fin=true):(e.lv=1∨e.lv=2∨e.lv=5∨e.lv=6)∨e.lv=9∨(e.lv=3∨e.lv=4∨e.lv=7∨e.lv=8∨e.lv=10):=by
 refine uz (M:=fun e=>(e.lv=1∨e.lv=2∨e.lv=5∨e.lv=6)∨e.lv=9∨(e.lv=3∨e.lv=4∨e.lv=7∨e.lv=8∨e.lv=10)) ?_ ?_ ?_ ?_ ?_ ?_ ?_ ?_ ?_ ?_ e.cr e (Nat.le_refl _) h;intro n _ _;exact .inr (.inr (.inr (.inr (.inr (.inr rfl)))));intro n _ _;exact .inr (.inr (.inr (.inr (.inr (.inr rfl)))));intro n _;exact .inr (.inr (.inr (.inr (.inr (.inr rfl)))));intro n _;exact .inr (.inr (.inr (.inr (.inr (.inr rfl)))));intro n _;exact .inr (.inr (.inr (.inr (.inr (.inr rfl)))));intro n L _ _;exact .inr (.inr (.inr (.inr (.inr (.inr rfl)))));intro x y _ _ _ _;exact .inr (.inl rfl);intro x _ _;rw[yx];omega;intro x _ _;rw[yA];omega;intro t x y ht _ _ _ _;rw[yu];have:=rL t;omega
theorem Core.own{e:Ex}(hc:Core s l e)(hf:e.fin=true){i j:Int}(hi:0<=i)(ha:At l i e.jj)(hj:j=i+e.jj.length)(hs:af l j e.lv):Rd s l e.lv i e j:=by
 rcases Nk hf with h|h|h;exact lp_rd (by omega) (hc.lp i j hi ha hj h (hs.mono (by omega))) (hs.op _ (Int.le_refl _) (by omega));have:=ix_rd (hc.ix i j hi ha hj h (hs.mono (by omega))) (hs.lb (by omega));rw[h];exact this;exact hc.rd i j hi ha hj h hs
theorem Core.low{e:Ex}(hc:Core s l e)(hf:e.fin=true){pl i j:Int}(h1:1<=pl)(hp:pl<=e.lv)(hi:0<=i)(ha:At l i e.jj)(hj:j=i+e.jj.length)(hs:af l j pl):Rd s l pl i e j:=by
 obtain⟨t,ts,h2,h3⟩:=H8 hf e.lv;rw[Nj] at h2;have hl:=Nk hf;have ha':=ha;rw[h2] at ha';refine H9 (e.lv-pl).toNat pl e.lv (by omega) h1 (by omega) (hc.own hf hi ha hj (hs.mono hp)) hs (fun _ h=>?_) (fun _ h=>?_);rw[dV ha'];exact h3.nt h;rw[dV ha'];exact h3.mn h
theorem Core.jB{e:Ex}(hc:Core s l e)(hf:e.fin=true){i j:Int}(hi:0<=i)(ha:At l i (bS eH::(e.jj++[bS dx])))(hj:j=i+(bS eH::(e.jj++[bS dx])).length):Rd s l 10 i e j:=by
 have h1:aA l i eH=true:=by rw[dV ha];exact j9 _
 obtain⟨h2,h3⟩:=At.app ha.2;have h4:aA l (i+1+e.jj.length) dx=true:=by rw[dV h3];exact j9 _
 have hp:=Wj hf;have h5:Rd s l 1 (i+1) e (i+1+e.jj.length):=hc.low hf (Int.le_refl _) hp (by omega) h2 rfl (yB h4 (by decide) (by decide) (.inl (by decide)) (Int.le_refl _));have h6:=rd_par hi h1 h5 h4;have:j=i+1+e.jj.length+1:=by
  rw[hj,List.length_cons,List.length_append,List.length_singleton];omega
 rw[this];exact h6
theorem Core.whole{e:Ex}(hc:Core s l e)(hf:e.fin=true):Whole s l e:=by
 have hl:=Nk hf;have hp:=Wj hf;have hR:∀ pl i j,1<=pl->pl<=10->0<=i->At l i (e.tk pl)->j=i+(e.tk pl).length->∀ a,pl<=a->a<=10->(e.lv<pl∨a<=e.lv)->af l j a->Rd s l a i e j:=by
  intro pl i j h1 h2 hi ha hj a hpa ha10 hor hs;by_cases hlt:e.lv<pl;rw[SA hlt] at ha hj;have h3:=hc.jB hf hi ha hj;refine H9 (10-a).toNat a 10 (by omega) (by omega) (by omega) h3 hs (fun _ _=>?_) (fun _ _=>?_);rw[dV ha];decide;rw[dV ha];decide;rw[Kc (by omega:pl<=e.lv)] at ha hj;exact hc.low hf (by omega) (by omega) hi ha hj hs
 refine⟨fun pl i j h1 h2 hi ha hj hs=>hR pl i j h1 h2 hi ha hj pl (Int.le_refl _) h2 (by omega) hs,fun pl i j h1 hi ha hj hs=>?_,fun i j hi ha hj hs=>?_⟩;by_cases he:e.lv=pl;subst he;rw[Nj] at ha hj;exact hc.lp i j hi ha hj h1 hs;exact rd_lp (by omega) (hR pl i j (by omega) (by omega) hi ha hj (pl+1) (by omega) (by omega) (by omega) hs);by_cases he:e.lv=9;have:=Nj (e:=e);rw[he] at this;rw[this] at ha hj;exact hc.ix i j hi ha hj he hs;exact rd_ix (hR 9 i j (by omega) (by omega) hi ha hj 10 (by omega) (by omega) (by omega) hs)
theorem at_op{i:Int}{t:ByteArray}{ts:List Tok}(h:At l i (F4 t::ts)):cY l i (dU t)=true/\(aM l i).text=t:=by
 have e1:(F4 t).text=t:=by unfold F4;cases gu (aY t 0)<;>rfl
 have h2:tD (F4 t) t=true:=by unfold F4;cases gu (aY t 0);exact j9 t;exact sM t
 have h3:(aM l i).text=t:=h.1.2.2.1.trans e1;refine⟨?_,h3⟩;unfold cY;rw[decide_eq_true h.1.1,h3,dV h,h2,decide_eq_true rfl];rfl
theorem SE{t:ByteArray}(ht:t=ji∨t=dx):∀(L:List Ex)(i:Int),L≠[]->(∀ e∈L,e.fin=true/\Whole s l e)->0<=i->At l i (iU (L.map fun e=>e.tk 1)++[bS t])->Ls s l t L i (i+(iU (L.map fun e=>e.tk 1)).length+1)
 | [],i,h,_,_,_=>absurd rfl h
 | [e],i,_,hw,hi,ha=>by
   obtain⟨h1,h2⟩:=At.app ha;have h3:aA l (i+(e.tk 1).length) t=true:=by
    have:=dV h2 t;rw[j9] at this;exact this
   exact .one ((hw e (by simp)).2.rd 1 i _ (Int.le_refl _) (by omega) hi h1 rfl (yB h3 (by rcases ht with rfl|rfl<;>decide) (by rcases ht with rfl|rfl<;>decide) (.inl (by rcases ht with rfl|rfl<;>decide)) (Int.le_refl _))) h3
 | e::f::L,i,_,hw,hi,ha=>by
   have e1:iU ((e::f::L).map fun e=>e.tk 1)=e.tk 1++(bS jL::iU ((f::L).map fun e=>e.tk 1)):=rfl;rw[e1,List.append_assoc] at ha;obtain⟨h1,h2⟩:=At.app ha;have h3:aA l (i+(e.tk 1).length) jL=true:=by rw[dV h2];exact j9 _
   have h4:aA l (i+(e.tk 1).length) t=false:=ic h3 (by rcases ht with rfl|rfl<;>decide);have ih:=SE ht (f::L) (i+(e.tk 1).length+1) (by simp) (fun x hx=>hw x (List.mem_cons_of_mem _ hx)) (by omega) h2.2;have:=Ls.cons ((hw e (by simp)).2.rd 1 i _ (Int.le_refl _) (by omega) hi h1 rfl (yB h3 (by decide) (by decide) (.inl (by decide)) (Int.le_refl _))) h4 h3 ih;rw[e1,List.length_append,List.length_cons];rw[show i+(((e.tk 1).length+((iU ((f::L).map fun e=>e.tk 1)).length+1):Nat):Int)+1=i+(e.tk 1).length+1+(iU ((f::L).map fun e=>e.tk 1)).length+1 by omega];exact this
theorem jn_hd{L:List Ex}(hne:L≠[])(hf:∀ e∈L,e.fin=true):∃ t ts,iU (L.map fun e=>e.tk 1)=t::ts/\xk 1 t:=by
 match L,hne with
 | [e],_ =>
   obtain⟨t,ts,h1,h2⟩:=H8 (hf e (by simp)) 1;exact⟨t,ts,h1,h2⟩
 | e::f::L,_ =>
   obtain⟨t,ts,h1,h2⟩:=H8 (hf e (by simp)) 1;exact⟨t,ts++(bS jL::iU ((f::L).map fun e=>e.tk 1)),by show e.tk 1++(bS jL::iU ((f::L).map fun e=>e.tk 1))=_;rw[h1];rfl,h2⟩
theorem yC{e:Ex}(he:e.lv=10)(h:∀ i j,0<=i->At l i e.jj->j=i+e.jj.length->af l j 10->Rd s l 10 i e j):Core s l e :=
 ⟨fun _ _ _ _ _ h=>by omega,fun _ _ _ _ _ h=>by omega,fun i j hi ha hj _ hs=>by rw[he] at hs ⊢;exact h i j hi ha hj hs⟩
theorem Wl(e:Ex)(hf:e.fin=true):Whole s l e:=by
 refine uz (M:=fun e=>Whole s l e) ?_ ?_ ?_ ?_ ?_ ?_ ?_ ?_ ?_ ?_ e.cr e (Nat.le_refl _) hf;intro n h1 h2;refine(yC rfl fun i j hi ha hj _=>?_).whole ?_;rw[Hy] at ha hj;have:=rd_num (s:=s) hi ha.1.1 ha.1.2.1;rw[show (aM l i).n=n from ha.1.2.2.2] at this;rw[hj];exact this;exact iK Ex.iL (by show (decide _&&decide _&&_&&_)=true;rw[decide_eq_true h1,decide_eq_true h2];rfl);intro t h1 h2;refine(yC rfl fun i j hi ha hj _=>?_).whole ?_;rw[Hz] at ha hj;have:=rd_txt (s:=s) hi ha.1.1 ha.1.2.1;rw[show (aM l i).text=t from ha.1.2.2.1] at this;rw[hj];exact this;exact iK Ex.iL (by show (decide _&&decide _&&_&&_)=true;rw[decide_eq_true (p:=(t.size:Int)<=200) (by omega),decide_eq_true (p:=(aO cJ t 0:Int)=t.size) (by omega)];rfl);intro n hn;refine(yC rfl fun i j hi ha hj _=>?_).whole ?_;rw[HE] at ha hj;rcases hn with rfl|rfl;rw[hj];exact rd_fal hi (by rw[dV ha];decide);rw[hj];exact rd_tru hi (by rw[dV ha];decide);rcases hn with rfl|rfl<;>exact iK Ex.iL rfl;intro t h1;refine(yC rfl fun i j hi ha hj hs=>?_).whole ?_;rw[HF] at ha hj;have hj:j=i+1:=hj;have:=rd_nam (s:=s) hi ha.1.1 ha.1.2.1 (by rw[<-hj];exact hs.lp);rw[show (aM l i).text=t from ha.1.2.2.1] at this;rw[hj];exact this;exact iK Ex.iL (by show (bR _&&_&&_)=true;rw[h1];rfl);intro L hL;have Nl:Ex.iT L=true:=by
  clear hf
  induction L with
  | nil=>exact Ex.iL
  | cons a L ih=>rw[Ex.l7,(hL a (by simp)).1,ih fun e he=>hL e (List.mem_cons_of_mem _ he)];rfl
 refine(yC rfl fun i j hi ha hj _=>?_).whole (iK Nl rfl);rw[HL] at ha hj;have h1:aA l i jh=true:=by rw[dV ha];exact j9 _
 by_cases hne:L=[];subst hne;have h2:aA l (i+1) ji=true:=by rw[dV (t:=bS ji) (ts:=[]) ha.2];exact j9 _
 have hj:j=i+1+1:=by rw[hj];show i+2=_;omega
 rw[hj];exact rd_lst0 hi h1 h2;obtain⟨t,ts,h2,h3⟩:=jn_hd hne fun e he=>(hL e he).1;have h4:aA l (i+1) ji=false:=by
  have:=ha.2;rw[h2] at this;rw[dV (t:=t) (ts:=ts++[bS ji]) this];exact h3.rb
 have:=rd_lst hi h1 h4 (SE (s:=s) (.inl rfl) L (i+1) hne hL (by omega) ha.2);have hj:j=i+1+(iU (L.map fun e=>e.tk 1)).length+1:=by
  rw[hj,List.length_cons,List.length_append,List.length_singleton];omega
 rw[hj];exact this;intro t L ht hL;have Nl:Ex.iT L=true:=by
  clear hf
  induction L with
  | nil=>exact Ex.iL
  | cons a L ih=>rw[Ex.l7,(hL a (by simp)).1,ih fun e he=>hL e (List.mem_cons_of_mem _ he)];rfl
 refine(yC rfl fun i j hi ha hj _=>?_).whole (iK Nl (by show (bR _&&_)=true;rw[ht];rfl));rw[HV] at ha hj;have hk:(aM l i).kind=1:=ha.1.2.1;have hx:(aM l i).text=t:=ha.1.2.2.1;have h1:aA l (i+1) eH=true:=by rw[dV ha.2];exact j9 _
 by_cases hne:L=[];subst hne;have h2:aA l (i+1+1) dx=true:=by rw[dV (t:=bS dx) (ts:=[]) ha.2.2];exact j9 _
 have:=rd_cal0 (s:=s) hi hk h1 h2;rw[hx] at this;have hj:j=i+1+1+1:=by rw[hj];show i+3=_;omega
 rw[hj];exact this;obtain⟨u,ts,h2,h3⟩:=jn_hd hne fun e he=>(hL e he).1;have h4:aA l (i+1+1) dx=false:=by
  have:=ha.2.2;rw[h2] at this;rw[dV (t:=u) (ts:=ts++[bS dx]) this];exact h3.rp
 have:=rd_cal hi hk h1 h4 (SE (s:=s) (.inr rfl) L (i+1+1) hne hL (by omega) ha.2.2);rw[hx] at this;have hj:j=i+1+1+(iU (L.map fun e=>e.tk 1)).length+1:=by
  rw[hj,List.length_cons,List.length_cons,List.length_append,List.length_singleton];omega
 rw[hj];exact this;intro x y hfx hfy hx hy;refine Core.whole ⟨fun _ _ _ _ _ h=>by rw[lv_ix] at h;omega,fun i j hi ha hj _ hs=>?_,fun _ _ _ _ _ h=>by rw[lv_ix] at h;omega⟩ (iK (EB hfx hfy) rfl);rw[Ng] at ha hj;obtain⟨h1,h2⟩:=At.app ha;have h3:aA l (i+(x.tk 9).length) jh=true:=by rw[dV h2];exact j9 _
 obtain⟨h4,h5⟩:=At.app h2.2;have h6:aA l (i+(x.tk 9).length+1+(y.tk 1).length) ji=true:=by rw[dV h5];exact j9 _
 have:=ix_step (hx.ix i _ hi h1 rfl (yB h3 (by decide) (by decide) (.inr rfl) (by omega))) h3 (hy.rd 1 _ _ (Int.le_refl _) (by omega) (by omega) h4 rfl (yB h6 (by decide) (by decide) (.inl (by decide)) (Int.le_refl _))) h6;have hj:j=i+(x.tk 9).length+1+(y.tk 1).length+1:=by
  rw[hj,List.length_append,List.length_cons,List.length_append,List.length_singleton];omega
 rw[hj];exact this;intro x hfx hx;refine Core.whole ⟨fun _ _ _ _ _ h=>by rw[yx] at h;omega,fun _ _ _ _ _ h=>by rw[yx] at h;omega,fun i j hi ha hj _ hs=>?_⟩ (iK (sD hfx) rfl);rw[yx] at hs ⊢;rw[HY] at ha hj;have h1:aA l i jK=true:=by rw[dV ha];exact sM _
 have hj:j=i+1+(x.tk 3).length:=by rw[hj,List.length_cons];omega
 exact rd_not hi h1 (hx.rd 3 _ _ (by omega) (by omega) (by omega) ha.2 hj hs);intro x hfx hx;refine Core.whole ⟨fun _ _ _ _ _ h=>by rw[yA] at h;omega,fun _ _ _ _ _ h=>by rw[yA] at h;omega,fun i j hi ha hj _ hs=>?_⟩ (iK (sD hfx) rfl);rw[yA] at hs ⊢;rw[HZ] at ha hj;have h1:aA l i gJ=true:=by rw[dV ha];exact j9 _
 have hj:j=i+1+(x.tk 7).length:=by rw[hj,List.length_cons];omega
 exact rd_neg hi h1 (hx.rd 7 _ _ (by omega) (by omega) (by omega) ha.2 hj hs);intro t x y ht hfx hfy hx hy;have hfb:=C9 ht hfx hfy;have cut:∀ i j,At l i (iX t x y).jj->j=i+(iX t x y).jj.length->At l i (x.tk (wD (dU t)))/\cY l (i+(x.tk (wD (dU t))).length) (dU t)=true/\(aM l (i+(x.tk (wD (dU t))).length)).text=t/\At l (i+(x.tk (wD (dU t))).length+1) (y.tk (Nf (dU t)))/\j=i+(x.tk (wD (dU t))).length+1+(y.tk (Nf (dU t))).length:=by
  intro i j ha hj;rw[H6] at ha hj;obtain⟨h1,h2⟩:=At.app ha;obtain⟨h3,h4⟩:=at_op h2;refine⟨h1,h3,h4,h2.2,?_⟩;rw[hj,List.length_append,List.length_cons];omega
 refine Core.whole ⟨fun i j hi ha hj hl hs=>?_,fun _ _ _ _ _ h=>?_,fun i j hi ha hj hl hs=>?_⟩ hfb;obtain⟨h1,h2,h3,h4,h5⟩:=cut i j ha hj;rw[yu] at hl hs ⊢;generalize hv:dU t=lv at *;have eL:wD lv=lv:=by rcases hl with rfl|rfl|rfl|rfl<;>rfl
 have eR:Nf lv=lv+1:=by rcases hl with rfl|rfl|rfl|rfl<;>rfl
 rw[eL] at h1 h2 h3 h4 h5;rw[eR] at h4 h5;have:=lp_step hl (hx.lp lv i _ hl hi h1 rfl (Ni h2 (by omega) (by omega))) h2 (hy.rd (lv+1) _ _ (by omega) (by omega) (by omega) h4 h5 hs);rw[h3] at this;exact this;rw[yu] at h;have:=rL t;omega;obtain⟨h1,h2,h3,h4,h5⟩:=cut i j ha hj;rw[yu] at hl hs ⊢;have hc:=rL t;generalize hv:dU t=lv at *;have hc:lv=4∨lv=8:=by omega
 rcases hc with rfl|rfl;have:=rd_cmp (hx.rd 5 i _ (by omega) (by omega) hi h1 rfl (Ni h2 (by omega) (by omega))) h2 (hy.rd 5 _ _ (by omega) (by omega) (by omega) h4 h5 (hs.mono (by omega)));rw[show wD 4=5 from rfl] at h3;rw[h3] at this;exact this;have:=rd_pow (hx.rd 9 i _ (by omega) (by omega) hi h1 rfl (Ni h2 (by omega) (by omega))) h2 (hy.rd 7 _ _ (by omega) (by omega) (by omega) h4 h5 hs.s7);rw[show wD 8=9 from rfl] at h3;rw[h3] at this;exact this
end
theorem Cn{p:Int->Bool}{s:ByteArray}:∀(j i:Nat),j=s.size-i->i<=s.size->(∀ k,i<=k->k<s.size->p (aY s k)=true)->aO p s i=s.size
 | j,i,hj,hi,h=>by
   by_cases hs:i=s.size;subst hs;exact kP (by omega);rw[gA ⟨by omega,h i (Nat.le_refl _) (by omega)⟩];cases j with
   | zero=>omega
   | succ j=>exact Cn j (i+1) (by omega) (by omega) fun k a b=>h k (by omega) b
theorem Qe{p:Int->Bool}{s:ByteArray}{a b:Nat}(hb:b<=s.size)(h:∀ k,a<=k->k<b->p (aY s k)=true):aO p (s.extract a b) 0=(s.extract a b).size:=by
 have hz:(s.extract a b).size=b-a:=by rw[ByteArray.size_extract];omega
 refine Cn _ 0 rfl (Nat.zero_le _) fun k _ hk=>?_;rw[hz] at hk;rw[C8 (by omega) hb];exact h _ (by omega) (by omega)
theorem Qf(s:ByteArray)(e:Nat):∀(j i:Nat)(n:Int),j=e-i->(∀ k,i<=k->k<e->cx (aY s k)=true)->0<=n->n<=1000000000000000->(kU s e i n).2=false->0<=(kU s e i n).1/\(kU s e i n).1<=1000000000000000
 | j,i,n,hj,hd,h0,h1,hf=>by
   rw[kU] at hf ⊢;by_cases hi:i<e;rw[dif_pos hi] at hf ⊢;have hd1:=hd i (Nat.le_refl _) hi;unfold cx at hd1;simp only[Bool.and_eq_true,decide_eq_true_eq] at hd1;by_cases hb:1000000000000000<n*10+(aY s i-48);rw[if_pos hb] at hf;cases hf
   . rw[if_neg hb] at hf ⊢;cases j with
     | zero=>omega
     | succ j=>exact Qf s e j (i+1) _ (by omega) (fun k a b=>hd k (by omega) b) (by omega) (by omega) hf
   rw[dif_neg hi];exact⟨h0,h1⟩
theorem tokT_ok{s : ByteArray}{a : Nat}(ha : a < s.size)(h : (bU s a).er = 0) : SB (bU s a).t := by
 by_cases c1:gu (aY s a)=true
 · have q : bU s a = nr s a (aO cB s (a + 1)) := by unfold bU; rw[if_pos c1]
   rw[q] at h ⊢;have hge:=j6 cB s _ (a+1) rfl;have hle:=hge.2 (by omega);unfold nr at h ⊢;by_cases g1:eF rC (s.extract a (aO cB s (a+1)))=true;rw[if_pos g1];exact⟨fun h=>(by cases h),fun h=>(by cases h),fun h=>by cases h⟩
   · rw[if_neg g1] at h ⊢
     by_cases g2:20<(s.extract a (aO cB s (a+1))).size;rw[if_pos g2] at h;cases h;rw[if_neg g2];refine⟨fun h=>(by cases h),fun h=>(by cases h),fun _=>?_⟩;show bR (s.extract a (aO cB s (a+1)))=true;have hz:(s.extract a (aO cB s (a+1))).size=aO cB s (a+1)-a:=by rw[ByteArray.size_extract];omega
     have hr:=Qe (p:=cB) (s:=s) (a:=a) (b:=aO cB s (a+1)) hle fun k h1 h2=>by
      by_cases hk:k=a;rw[hk];unfold cB;rw[c1];rfl;exact tC _ (a+1) rfl k (by omega) h2
     have hb0:aY (s.extract a (aO cB s (a+1))) 0=aY s a:=C8 (by omega) hle;unfold bR;rw[hb0,c1,decide_eq_false (p:=s.extract a (aO cB s (a+1))=eS) (fun e=>by
      have:=congrArg ByteArray.size e;have h0:eS.size=0:=rfl;omega),decide_eq_true (p:=((s.extract a (aO cB s (a+1))).size:Int)<=20) (by omega),decide_eq_true (p:=(aO cB (s.extract a (aO cB s (a+1))) 0:Int)=(s.extract a (aO cB s (a+1))).size) (by omega)]
     rw[Bool.not_eq_true] at g1;rw[g1];rfl
 by_cases c2:cx (aY s a)=true;have q:bU s a=qh s a (aO cx s (a+1)):=by unfold bU;rw[if_neg c1,if_pos c2]
 rw[q] at h ⊢;have hd:∀ k,a<=k->k<aO cx s (a+1)->cx (aY s k)=true:=fun k h1 h2=>by
  by_cases hk:k=a;rw[hk];exact c2;exact tC _ (a+1) rfl k (by omega) h2
 unfold qh at h ⊢;by_cases g1:aY s a=48/\a+1<aO cx s (a+1);rw[if_pos g1] at h;cases h;rw[if_neg g1] at h ⊢;by_cases g2:(kU s (aO cx s (a+1)) a 0).2=true;rw[if_pos g2] at h;cases h;rw[if_neg g2];refine⟨fun _=>?_,fun h=>(by cases h),fun h=>by cases h⟩;exact Qf s _ _ a 0 rfl hd (by omega) (by omega) (by simpa using g2);by_cases c3:aY s a=34;have q:bU s a=qi s a (aO cJ s (a+1)):=by unfold bU;rw[if_neg c1,if_neg c2,if_pos c3]
 rw[q] at h ⊢;have hle:=(j6 cJ s _ (a+1) rfl).2 (by omega);unfold qi at h ⊢;by_cases g1:aO cJ s (a+1)=s.size∨aY s (aO cJ s (a+1))≠34;rw[if_pos g1] at h;cases h;rw[if_neg g1] at h ⊢;by_cases g2:200<(s.extract (a+1) (aO cJ s (a+1))).size;rw[if_pos g2] at h;cases h;rw[if_neg g2];exact⟨fun h=>(by cases h),fun _=>⟨by show (s.extract (a+1) (aO cJ s (a+1))).size<=200;omega,Qe hle fun k h1 h2=>tC _ (a+1) rfl k h1 h2⟩,fun h=>by cases h⟩;have q:bU s a=oD s a 2:=by unfold bU;rw[if_neg c1,if_neg c2,if_neg c3]
 rw[q,Sy] at h ⊢;by_cases g2:a+2<=s.size/\eF fw (s.extract a (a+2))=true;rw[if_pos g2];exact⟨fun h=>(by cases h),fun h=>(by cases h),fun h=>by cases h⟩;rw[if_neg g2] at h ⊢;by_cases g1:a+1<=s.size/\eF fw (s.extract a (a+1))=true;rw[if_pos g1];exact⟨fun h=>(by cases h),fun h=>(by cases h),fun h=>by cases h⟩;rw[if_neg g1] at h;cases h
theorem lx_ok{s:ByteArray}{i:Nat}{l:List Tok}(h:Lx s i l):∀ t∈l,SB t:=by
 induction h with
 | done _=>intro t ht;cases ht
 | sp _ _ _ ih=>exact ih
 | com _ _ _ ih=>exact ih
 | tok h0 _ _ h3 _ _ _ _ ih =>
   intro t ht;rcases List.mem_cons.1 ht with rfl|ht;exact tokT_ok h0 h3;exact ih t ht
def oL(s:ByteArray)(e i:Nat)(n:Int):Int:=if h:i<e then oL s e (i+1) (n*10+(aY s i-48)) else n
termination_by e-i
theorem Qg{s:ByteArray}{e:Nat}:∀(j i:Nat)(n:Int),j=e-i->(∀ k,i<=k->k<e->cx (aY s k)=true)->0<=n->n<=oL s e i n
 | j,i,n,hj,hd,h0=>by
   rw[oL];by_cases hi:i<e
   . rw[dif_pos hi];have hd1:=hd i (Nat.le_refl _) hi;unfold cx at hd1;simp only[Bool.and_eq_true,decide_eq_true_eq] at hd1;cases j with
     | zero=>omega
     | succ j =>
       have:=Qg j (i+1) (n*10+(aY s i-48)) (by omega) (fun k a b=>hd k (by omega) b) (by omega);omega
   rw[dif_neg hi];exact Int.le_refl _
theorem Nn{s:ByteArray}{e:Nat}:∀(j i:Nat)(n:Int),j=e-i->(∀ k,i<=k->k<e->cx (aY s k)=true)->0<=n->oL s e i n<=1000000000000000->kU s e i n=(oL s e i n,false)
 | j,i,n,hj,hd,h0,hv=>by
   rw[oL] at hv ⊢;rw[kU];by_cases hi:i<e
   . rw[dif_pos hi] at hv ⊢;rw[dif_pos hi];have hd1:=hd i (Nat.le_refl _) hi;unfold cx at hd1;simp only[Bool.and_eq_true,decide_eq_true_eq] at hd1;have:=Qg (s:=s) (e:=e) _ (i+1) (n*10+(aY s i-48)) rfl (fun k a b=>hd k (by omega) b) (by omega);rw[if_neg (by omega)];cases j with
     | zero=>omega
     | succ j=>exact Nn j (i+1) _ (by omega) (fun k a b=>hd k (by omega) b) (by omega) hv
   rw[dif_neg hi,dif_neg hi]
theorem JJ{a b:ByteArray}:∀(j i:Nat)(n:Int),j=a.size-i->i<=a.size->oL (a++b) (a.size+1) i n=oL a a.size i n*10+(aY b 0-48)
 | j,i,n,hj,hi=>by
   by_cases hs:i=a.size
   . subst hs;have h0:aY (a++b) a.size=aY b 0:=by have:=mU (a:=a) (b:=b) (i:=0);rwa [Nat.add_zero] at this
     rw[oL,dif_pos (by omega),oL,dif_neg (by omega),h0]
     conv=>rhs;rw[oL,dif_neg (by omega)]
   . conv=>lhs;rw[oL,dif_pos (by omega),lg (by omega)]
     conv=>rhs;rw[oL,dif_pos (by omega)]
     cases j with
     | zero=>omega
     | succ j=>exact JJ j (i+1) _ (by omega) (by omega)
def mV(u:Nat):ByteArray:=⟨(Lib.decDigits u).toArray⟩
def Np(u:Nat):ByteArray:=⟨#[UInt8.ofNat (48+u)]⟩
theorem Nq{u:Nat}(h:u<10):mV u=Np u:=by unfold mV;rw[Lib.decDigits,dif_pos h];rfl
theorem dg_big{u:Nat}(h:¬u<10):mV u=mV (u/10)++Np (u%10):=by
 unfold mV;rw[Lib.decDigits,dif_neg h];apply ByteArray.ext;simp[Np]
theorem Wm{u:Nat}(h:u<10):aY (Np u) 0=48+u:=by
 have key:∀ u,u<10->aY (Np u) 0=48+u:=by decide
 exact key u h
structure Zh(u:Nat):Prop where
 pos:0<(mV u).size
 Wn:∀ k,k<(mV u).size->cx (aY (mV u) k)=true
 val:oL (mV u) (mV u).size 0 0=u
 hd:aY (mV u) 0=48->u=0
theorem dig_1{u:Nat}(h:u<10):cx (48+(u:Int))=true:=by unfold cx;rw[decide_eq_true (by omega),decide_eq_true (by omega)];rfl
theorem SF : ∀(n u : Nat), u ≤ n → Zh u
 | n, u, hn => by
   by_cases h:u<10;rw[show Zh u↔Zh u from Iff.rfl];have e:=Nq h;have hz:(Np u).size=1:=rfl;have h1:=Wm h;refine⟨by rw[e,hz];omega,fun k hk=>?_,?_,fun h0=>?_⟩;rw[e,hz] at hk;obtain rfl:k=0:=by omega
   rw[e,h1];exact dig_1 h;rw[e,hz,oL,dif_pos (by omega),oL,dif_neg (by omega),h1];omega;rw[e,h1] at h0;omega;have e:=dg_big h;have hm:u%10<10:=Nat.mod_lt _ (by omega);have hz:(Np (u%10)).size=1:=rfl;have h1:=Wm hm;cases n with
   | zero=>omega
   | succ n =>
     have ih:=SF n (u/10) (by omega);have hs:(mV u).size=(mV (u/10)).size+1:=by rw[e,aX,hz]
     refine⟨by omega,fun k hk=>?_,?_,fun h0=>?_⟩;rw[hs] at hk;by_cases hk1:k<(mV (u/10)).size;rw[e,lg hk1];exact ih.Wn k hk1;obtain rfl:k=(mV (u/10)).size+0:=by omega
     rw[e,mU,h1];exact dig_1 hm;rw[hs,e,JJ _ 0 0 rfl (Nat.zero_le _),ih.val,h1];omega;rw[e,lg ih.pos] at h0;have:=ih.hd h0;omega
theorem Wo(n:Int)(h:0<=n):Cb n=mV n.toNat:=by unfold Cb Lib.itoa mV;rw[if_neg (by omega)]
theorem no_let{c:Int}(h:cx c=true):gu c=false:=by
 unfold cx at h;simp only[Bool.and_eq_true,decide_eq_true_eq] at h;unfold gu;rw[decide_eq_false (p:=97<=c) (by omega),decide_eq_false (p:=65<=c) (by omega)];rfl
structure Sg(x:ByteArray)(t:Tok):Prop where
 pos:0<x.size
 b0:¬(aY x 0=32∨aY x 0=10)
 b1:aY x 0≠35
 er:(bU x 0).er=0
 e:(bU x 0).e=(x.size:Nat)
 k:(bU x 0).t.kind=t.kind/\(bU x 0).t.text=t.text/\(bU x 0).t.n=t.n
theorem F6{c:Int}(h:cB c=true):¬(c=32∨c=10)/\c≠35:=by
 have:=blk_wrd h;unfold blk at this;simp only[Bool.or_eq_false_iff,decide_eq_false_iff_not] at this;exact⟨by omega,this.2⟩
theorem sg_num(n:Int)(h0:0<=n)(h1:n<=1000000000000000):Sg (Cb n) ⟨3,eS,n,0⟩:=by
 rw[Wo n h0];have D:=SF _ n.toNat (Nat.le_refl _);have hd0:=D.Wn 0 D.pos;have hw:cB (aY (mV n.toNat) 0)=true:=by unfold cB;rw[hd0,Bool.or_true];rfl
 have hr:aO cx (mV n.toNat) (0+1)=(mV n.toNat).size:=Cn _ (0+1) rfl (by have:=D.pos;omega) fun k _ hk=>D.Wn k hk;have hN:=Nn (s:=mV n.toNat) (e:=(mV n.toNat).size) _ 0 0 rfl (fun k _ hk=>D.Wn k hk) (by omega) (by rw[D.val];omega);have hv:oL (mV n.toNat) (mV n.toNat).size 0 0=n:=by rw[D.val];omega
 have q:bU (mV n.toNat) 0=⟨⟨3,eS,n,0⟩,(mV n.toNat).size,0,0⟩:=by
  unfold bU;rw[no_let hd0,if_neg (by simp),if_pos hd0,hr];unfold qh;rw[if_neg (by
   rintro⟨a,b⟩;have:=D.hd a;rw[this,Nq (by omega)] at b;exact absurd b (by decide)),hN,hv,if_neg (by simp)]
  rfl
 exact⟨D.pos,(F6 hw).1,(F6 hw).2,by rw[q],by rw[q],by rw[q];exact⟨rfl,rfl,rfl⟩⟩
theorem mg{t:ByteArray}(h:bR t=true):Sg t ⟨1,t,0,0⟩/\gu (aY t 0)=true:=by
 unfold bR at h;simp only[Bool.and_eq_true,decide_eq_true_eq,Bool.not_eq_true',decide_eq_false_iff_not] at h;obtain⟨⟨⟨⟨h1,h2⟩,h3⟩,h4⟩,h5⟩:=h;have hpos:0<t.size:=by
  by_cases h0:t.size=0;exfalso;apply h1;obtain⟨d⟩:=t;have:d=#[]:=Array.eq_empty_of_size_eq_zero h0;rw[this];omega
 have hw:cB (aY t 0)=true:=by unfold cB;rw[h3];rfl
 have hr:aO cB t (0+1)=t.size:=by rw[<-gA ⟨hpos,hw⟩];omega
 have q:bU t 0=⟨⟨1,t,0,0⟩,t.size,0,0⟩:=by
  unfold bU;rw[if_pos h3,hr];unfold nr;rw[ByteArray.extract_zero_size,if_neg (by rw[h4];simp),if_neg (by omega)];rfl
 exact⟨⟨hpos,(F6 hw).1,(F6 hw).2,by rw[q],by rw[q],by rw[q];exact⟨rfl,rfl,rfl⟩⟩,h3⟩
theorem sg_txt{t:ByteArray}(h2:t.size<=200)(h:aO cJ t 0=t.size):Sg (mw++t++mw) ⟨4,t,0,0⟩:=by
 have hz:(mw++t++mw).size=t.size+2:=by rw[aX,aX];show 1+t.size+1=_;omega
 have b0:aY (mw++t++mw) 0=34:=by rw[ByteArray.append_assoc,lg (by decide)];decide
 have bm:∀ k,k<t.size->aY (mw++t++mw) (1+k)=aY t k:=fun k hk=>by
  rw[ByteArray.append_assoc];have:=mU (a:=mw) (b:=t++mw) (i:=k);rw[show mw.size=1 from rfl] at this;rw[this,lg hk]
 have be:aY (mw++t++mw) (1+t.size)=34:=by
  have:=mU (a:=mw++t) (b:=mw) (i:=0);rw[aX,show mw.size=1 from rfl,Nat.add_zero] at this;rw[this];decide
 have hr:aO cJ (mw++t++mw) (0+1)=1+t.size:=by
  refine P8 (by rw[be];decide) _ (0+1) rfl (by omega) fun k h1 h3=>⟨by omega,?_⟩;obtain⟨j,rfl⟩:∃ j,k=1+j:=⟨k-1,by omega⟩;rw[bm j (by omega)];exact tC _ 0 rfl j (Nat.zero_le _) (by omega)
 have hx:(mw++t++mw).extract 1 (1+t.size)=t:=by
  apply ByteArray.ext_getElem;rw[ByteArray.size_extract,hz];omega;intro i h3 h4;have e1:=bm i h4;rw[ux (by omega),ux h4] at e1;rw[ByteArray.getElem_extract];exact UInt8.toNat_inj.1 (by omega)
 have q:bU (mw++t++mw) 0=⟨⟨4,t,0,0⟩,(1+t.size+1:Nat),0,0⟩:=by
  unfold bU;rw[b0,if_neg (by decide),if_neg (by decide),if_pos rfl,hr];unfold qi;rw[if_neg (by rintro (g|g);omega;exact g be),show (0:Nat)+1=1 from rfl,hx,if_neg (by omega)];rfl
 refine⟨by omega,by rw[b0];decide,by rw[b0];decide,by rw[q],?_,by rw[q];exact⟨rfl,rfl,rfl⟩⟩;rw[q,hz];show ((1+t.size+1:Nat):Int)=_;omega
theorem jy{x:ByteArray}{t:Tok}{n:Int}(h0:0<x.size)(h1:¬(aY x 0=32∨aY x 0=10))(h2:aY x 0≠35)(h3:bU x 0=⟨t,n,0,0⟩)(h4:n=(x.size:Nat)):Sg x t:=⟨h0,h1,h2,by rw[h3],by rw[h3];exact h4,by rw[h3];exact⟨rfl,rfl,rfl⟩⟩
theorem sg_boo(b:Bool):Sg (tR b) (ia (tR b)):=by
 cases b with
 | true=>exact jy (x:=su) (t:=ia su) (n:=4) (by decide) (by decide) (by decide) (by kernel_rfl) rfl
 | false=>exact jy (x:=tO) (t:=ia tO) (n:=5) (by decide) (by decide) (by decide) (by kernel_rfl) rfl
theorem sg_not:Sg jK (ia jK):=jy (n:=3) (by decide) (by decide) (by decide) (by kernel_rfl) rfl
theorem sg_min:Sg gJ (bS gJ):=jy (n:=1) (by decide) (by decide) (by decide) (by kernel_rfl) rfl
theorem sg_lp:Sg eH (bS eH):=jy (n:=1) (by decide) (by decide) (by decide) (by kernel_rfl) rfl
theorem sg_rp:Sg dx (bS dx):=jy (n:=1) (by decide) (by decide) (by decide) (by kernel_rfl) rfl
theorem sg_lb:Sg jh (bS jh):=jy (n:=1) (by decide) (by decide) (by decide) (by kernel_rfl) rfl
theorem sg_rb:Sg ji (bS ji):=jy (n:=1) (by decide) (by decide) (by decide) (by kernel_rfl) rfl
theorem sg_com:Sg jL (bS jL):=jy (n:=1) (by decide) (by decide) (by decide) (by kernel_rfl) rfl
theorem sg_car:Sg vz (bS vz):=jy (n:=1) (by decide) (by decide) (by decide) (by kernel_rfl) rfl
def LxF(F:Int->Prop)(x:ByteArray)(ts:List Tok):Prop:=∀(pre aL:ByteArray)(ts':List Tok),(aL.size=0∨F (aY aL 0))->Lx (pre++(x++aL)) (pre.size+x.size) ts'->∃ q,pF ts q/\Lx (pre++(x++aL)) pre.size (q++ts')
abbrev dh:Int->Prop:=fun _=>True
abbrev F7:Int->Prop:=fun c=>cB c=false
abbrev FSp:Int->Prop:=fun c=>c=32
theorem pF.app:∀{a b q r:List Tok},pF a q->pF b r->pF (a++b) (q++r)
 | [],_,[],_,_,h=>h
 | x::a,b,y::q,r,h,h'=>by
   rw[pF] at h;rw[List.cons_append,List.cons_append,pF];exact⟨h.1,pF.app h.2 h'⟩
 | [],_,_::_,_,h,_=>by rw[pF] at h<;>first|exact h.elim|simp
 | _::_,_,[],_,h,_=>by rw[pF] at h<;>first|exact h.elim|simp
theorem LxF.eq{F:Int->Prop}{x:ByteArray}{a b:List Tok}(h:LxF F x a)(e:a=b):LxF F x b:=e▸h
theorem Qh{F G:Int->Prop}{x y:ByteArray}{a b:List Tok}(hx:LxF F x a)(hy:LxF G y b)(h:∀ aL:ByteArray,(y++aL).size=0∨F (aY (y++aL) 0)):LxF G (x++y) (a++b):=by
 intro pre aL ts' hr hL;have e1:pre++(x++y++aL)=pre++(x++(y++aL)):=by simp only[ByteArray.append_assoc]
 have e2:pre++(x++(y++aL))=pre++x++(y++aL):=by simp only[ByteArray.append_assoc]
 rw[e1] at hL ⊢;rw[aX,<-Nat.add_assoc] at hL;obtain⟨r,hr1,hr2⟩:=hy (pre++x) aL ts' hr (by rw[<-e2,aX];exact hL);rw[<-e2,aX] at hr2;obtain⟨q,hq1,hq2⟩:=hx pre (y++aL) (r++ts') (h aL) hr2;exact⟨q++r,hq1.app hr1,by rw[List.append_assoc];exact hq2⟩
theorem iV{F G:Int->Prop}{x y:ByteArray}{a b:List Tok}(hx:LxF F x a)(hy:LxF G y b)(h0:0<y.size)(h:F (aY y 0)):LxF G (x++y) (a++b) :=
 Qh hx hy fun aL=>.inr (by rw[lg h0];exact h)
theorem dR{G:Int->Prop}{x y:ByteArray}{a b:List Tok}(hx:LxF dh x a)(hy:LxF G y b):LxF G (x++y) (a++b):=Qh hx hy fun _=>.inr trivial
theorem LxF.weak{F:Int->Prop}{x:ByteArray}{a:List Tok}(h:LxF dh x a):LxF F x a:=fun pre aL ts' _ hL=>h pre aL ts' (.inr trivial) hL
theorem tE{F:Int->Prop}:LxF F eS []:=by
 intro pre aL ts' _ hL;exact⟨[],trivial,hL⟩
theorem oN:LxF dh mL []:=by
 intro pre aL ts' _ hL;exact⟨[],trivial,lx_sp (x:=mL) (j:=0) (by decide) (by decide) hL⟩
theorem F8{F:Int->Prop}{x:ByteArray}{t:Tok}(g:Sg x t)(hN:∀(s':ByteArray)(a':Nat),Ag x 0 s' a' x.size->(a'+x.size=s'.size∨F (aY s' (a'+x.size)))->Nx x 0 s' a' x.size):LxF F x [t]:=by
 intro pre aL ts' hr hL;have hA:Ag x 0 (pre++(x++aL)) pre.size x.size:=⟨by omega,by rw[aX,aX];omega,fun j hj=>by rw[mU,lg hj,Nat.zero_add]⟩;have hF:pre.size+x.size=(pre++(x++aL)).size∨F (aY (pre++(x++aL)) (pre.size+x.size)):=by
  rcases hr with hr|hr;left;rw[aX,aX];omega;right;rw[mU];have:=mU (a:=x) (b:=aL) (i:=0);rw[Nat.add_zero] at this;rw[this];exact hr
 have hM:=Wd hA g.pos (hN _ _ hA hF) g.er (by rw[Nat.zero_add];exact g.e);have hb0:=hA.eq 0 g.pos;rw[Nat.add_zero,Nat.add_zero] at hb0;refine⟨[(bU (pre++(x++aL)) pre.size).t],?_,?_⟩;rw[hM,pF];exact⟨g.k,trivial⟩;exact .tok (n:=x.size) (by rw[aX,aX];have:=g.pos;omega) (by rw[<-hb0];exact g.b0) (by rw[<-hb0];exact g.b1) (by rw[hM]) (by rw[hM]) g.pos hA.le' hL
theorem nw_dig{c:Int}(h:cB c=false):cx c=false:=by
 unfold cB at h;simp only[Bool.or_eq_false_iff] at h;exact h.1.2
theorem o6{x:ByteArray}{t:Tok}(g:Sg x t)(h:gu (aY x 0)=true∨cx (aY x 0)=true):LxF F7 x [t] :=
 F8 g fun s' a' _ hF=>⟨fun _=>hF,fun _=>hF.imp id nw_dig,fun h1 h2=>by rcases h with h|h<;>simp_all⟩
theorem lx_quo{x:ByteArray}{t:Tok}(g:Sg x t)(h:aY x 0=34)(h2:x.size≠1):LxF dh x [t] :=
 F8 g fun s' a' _ _=>⟨fun h1=>(by rw[h] at h1;cases h1),fun h1=>(by rw[h] at h1;cases h1),fun _ _ h1=>absurd h1 h2⟩
theorem sig_two:∀ x∈fw,x.size=2->aY x 0=61∨aY x 0=33∨aY x 0=60∨aY x 0=62:=by decide
theorem p4{x:ByteArray}{t:Tok}(g:Sg x t)(h:gu (aY x 0)=false)(h1:cx (aY x 0)=false)(h2:¬(aY x 0=61∨aY x 0=33∨aY x 0=60∨aY x 0=62)):LxF dh x [t] :=
 F8 g fun s' a' hA _ => ⟨fun h3 => (by rw[h] at h3; cases h3), fun h3 => (by rw[h1] at h3; cases h3), fun _ _ h3 h4 => by
  cases hh:eF fw (s'.extract a' (a'+2)) with
  | false=>rfl
  | true =>
    have:=sig_two _ (zS hh) (by rw[ByteArray.size_extract];omega);rw[C8 (by omega) h4] at this;have e:=hA.eq 0 (by omega);rw[Nat.zero_add] at e;rw[<-e] at this;exact absurd this h2⟩
theorem SH{x:ByteArray}{t:Tok}(g:Sg x t):LxF FSp x [t] :=
 F8 g fun s' a' _ hF => ⟨fun _ => hF.imp id fun h => by rw[h]; decide, fun _ => hF.imp id fun h => by rw[h]; decide, fun _ _ h3 h4 => by
  cases hh:eF fw (s'.extract a' (a'+2)) with
  | false=>rfl
  | true =>
    have hb:=sig_blk _ (zS hh) 1 (by rw[ByteArray.size_extract];omega);rw[C8 (by omega) h4] at hb;rw[h3] at hF;rcases hF with hF|hF;omega;rw[hF] at hb;cases hb⟩
theorem SI:LxF dh eH [bS eH]:=p4 sg_lp (by decide) (by decide) (by decide)
theorem SJ:LxF dh dx [bS dx]:=p4 sg_rp (by decide) (by decide) (by decide)
theorem lx_lb:LxF dh jh [bS jh]:=p4 sg_lb (by decide) (by decide) (by decide)
theorem lx_rb:LxF dh ji [bS ji]:=p4 sg_rb (by decide) (by decide) (by decide)
theorem lx_min:LxF dh gJ [bS gJ]:=p4 sg_min (by decide) (by decide) (by decide)
theorem lx_com:LxF dh jL [bS jL]:=p4 sg_com (by decide) (by decide) (by decide)
theorem lx_car:LxF dh vz [bS vz]:=p4 sg_car (by decide) (by decide) (by decide)
theorem tCs_eq:jo=jL++mL:=by decide
theorem tNoS_eq:Hw=jK++mL:=by decide
theorem lx_cs:LxF dh jo [bS jL]:=by rw[tCs_eq];exact dR lx_com oN
theorem lx_nos:LxF dh Hw [ia jK]:=by rw[tNoS_eq];exact iV (SH sg_not) oN (by decide) (by decide)
def SK:List ByteArray:=[⟨#[111,114]⟩,⟨#[97,110,100]⟩,⟨#[61,61]⟩,⟨#[33,61]⟩,⟨#[60]⟩,⟨#[60,61]⟩,⟨#[62]⟩,⟨#[62,61]⟩,⟨#[105,110]⟩,⟨#[43]⟩,⟨#[45]⟩,⟨#[42]⟩,⟨#[47]⟩,⟨#[37]⟩,⟨#[94]⟩]
theorem Qi{x:ByteArray}(h:x∈vf.map Prod.fst):x∈SK:=by
 have key:∀ p∈vf,eF SK p.1=true:=by decide
 obtain⟨p,hp,rfl⟩:=List.mem_map.1 h;exact zS (key p hp)
theorem sg_ops{t:ByteArray}(h:0<dU t):Sg t (F4 t):=by
 have hm:=Qi (Nh h);clear h;unfold SK at hm;simp only[List.mem_cons,List.not_mem_nil,or_false] at hm;rcases hm with rfl|rfl|rfl|rfl|rfl|rfl|rfl|rfl|rfl|rfl|rfl|rfl|rfl|rfl|rfl<;>exact jy (by decide) (by decide) (by decide) (by kernel_rfl) rfl
theorem car_of{t:ByteArray}(h:dU t=8):t=vz:=by
 have hm:=Qi (Nh (t:=t) (by omega));unfold SK at hm;simp only[List.mem_cons,List.not_mem_nil,or_false] at hm;rcases hm with rfl|rfl|rfl|rfl|rfl|rfl|rfl|rfl|rfl|rfl|rfl|rfl|rfl|rfl|rfl<;>first|rfl|exact absurd h (by decide)
theorem EC:∀ L:List Ex,(∀ e∈L,LxF F7 (e.wr 1) (e.tk 1))->LxF F7 (cn (L.map fun e=>e.wr 1) jo) (iU (L.map fun e=>e.tk 1))
 | [],_=>by
   have e1:cn (([]:List Ex).map fun e=>e.wr 1) jo=eS:=Cc _;rw[e1];exact tE
 | [e],h=>by
   have e1:cn (([e]:List Ex).map fun e=>e.wr 1) jo=e.wr 1:=wq _ _;rw[e1];exact h e (by simp)
 | e::f::L,h=>by
   have e1:cn ((e::f::L).map fun e=>e.wr 1) jo=e.wr 1++(jo++cn ((f::L).map fun e=>e.wr 1) jo):=zN _ _ _ _;have ih:=EC (f::L) fun x hx=>h x (List.mem_cons_of_mem _ hx);rw[e1];exact iV (h e (by simp)) (dR lx_cs ih) (by rw[aX];exact Nat.lt_of_lt_of_le (by decide:0<jo.size) (Nat.le_add_right _ _)) (by show cB _=false;rw[lg (by decide)];decide)
theorem uD(e:Ex)(hf:e.fin=true):∀ pl,LxF F7 (e.wr pl) (e.tk pl):=by
 have key:∀ e:Ex,LxF F7 e.kM e.jj->∀ pl,LxF F7 (e.wr pl) (e.tk pl):=by
  intro e h pl;by_cases hl:e.lv<pl;rw[wx_lt hl,SA hl];exact iV (dR SI h) SJ.weak (by decide) (by decide);rw[wx_ge (by omega:pl<=e.lv),Kc (by omega:pl<=e.lv)];exact h
 refine uz (M:=fun e=>∀ pl,LxF F7 (e.wr pl) (e.tk pl)) ?_ ?_ ?_ ?_ ?_ ?_ ?_ ?_ ?_ ?_ e.cr e (Nat.le_refl _) hf;intro n h0 h1;refine key _ ?_;rw[wr0_num,Hy];refine o6 (sg_num n h0 h1) (.inr ?_);have D:=SF _ n.toNat (Nat.le_refl _);rw[Wo n h0];exact D.Wn 0 D.pos;intro t h0 h1;refine key _ ?_;rw[wr0_txt,Hz];refine(lx_quo (sg_txt h0 h1) ?_ ?_).weak;rw[ByteArray.append_assoc,lg (by decide)];decide;rw[aX,aX];show 1+t.size+1≠1;omega;intro n _;refine key _ ?_;rw[wr0_boo,HE];refine o6 (sg_boo _) (.inl ?_);cases decide (n=1)<;>decide;intro t h;refine key _ ?_;rw[wr0_nam,HF];exact o6 (mg h).1 (.inl (mg h).2);intro L hL;refine key _ ?_;rw[wr0_lst,HL];exact iV (dR lx_lb (EC L fun e he=>(hL e he).2 1)) lx_rb.weak (by decide) (by decide);intro t L h hL;refine key _ ?_;rw[wr0_cal,HV];exact iV (dR (iV (o6 (mg h).1 (.inl (mg h).2)) SI (by decide) (by decide)) (EC L fun e he=>(hL e he).2 1)) SJ.weak (by decide) (by decide);intro x y _ _ hx hy;refine key _ ?_;rw[wr0_ix,Ng];refine LxF.eq (iV (dR (iV (hx 9) lx_lb (by decide) (by decide)) (hy 1)) lx_rb.weak (by decide) (by decide)) ?_;simp;intro x _ hx;refine key _ ?_;rw[wr0_not,HY];exact dR lx_nos (hx 3);intro x _ hx;refine key _ ?_;rw[wr0_neg,HZ];exact dR lx_min (hx 7);intro t x y ht _ _ hx hy;refine key _ ?_;rw[H6];by_cases h8:dU t=8;have hc:=car_of h8;rw[wr0_pow h8,h8,hc];refine LxF.eq (dR (iV (hx 9) lx_car (by decide) (by decide)) (hy 7)) ?_;have e1:F4 vz=bS vz:=by decide
 rw[e1];show (x.tk 9++[bS vz])++y.tk 7=_;simp;rfl;rw[wr0_bin h8];refine LxF.eq (dR (iV (dR (iV (hx _) oN (by decide) (by decide)) (SH (sg_ops ht))) oN (by decide) (by decide)) (hy _)) ?_;simp
theorem at_of:∀(ts pre q:List Tok),pF ts q->At (pre++q) pre.length ts
 | [],_,_,_=>trivial
 | t::ts,pre,u::q,h=>by
   rw[pF] at h;have hg:aM (pre++u::q) pre.length=u:=by
    unfold aM;rw[Int.toNat_natCast,List.getD_eq_getElem?_getD,List.getElem?_append_right (Nat.le_refl _),Nat.sub_self];rfl
   refine⟨⟨by rw[List.length_append,List.length_cons];omega,by rw[hg];exact h.1⟩,?_⟩;have:=at_of ts (pre++[u]) q h.2;rw[List.append_assoc,List.length_append,List.length_singleton] at this;have e1:((pre.length+1:Nat):Int)=(pre.length:Int)+1:=by omega
   rw[e1] at this;exact this
 | t::ts,_,[],h=>by rw[pF] at h<;>first|exact h.elim|simp
end Go.Proofs.YtnbjjocbncblaaaGreatDoor
