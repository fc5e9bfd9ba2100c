/- The parser reads a valid expression from its tokens. -/
import Derived.Test.YtcimgfhfpiapaaaGreatDoorFew1
namespace Go.Proofs.YtcimgfhfpiapaaaGreatDoor
open Go.aU Go.RowKit
set_option maxRecDepth 100000
def At(l:List Tok):Int->List Tok->Prop
 | _,[]=>True
 | i,t::ts=>(i<l.length/\(ay l i).kind=t.kind/\(ay l i).text=t.text/\(ay l i).n=t.n)/\At l (i+1) ts
theorem At.app{l:List Tok}:∀{a b:List Tok}{i:Int},At l i (a++b)->At l i a/\At l (i+a.length) b
 | [],b,i,h=>⟨trivial,by simpa using h⟩
 | t::a,b,i,h=>by
   obtain⟨h1,h2⟩:=h;obtain⟨h3,h4⟩:=At.app h2;refine⟨⟨h1,h3⟩,?_⟩;rw[List.length_cons,show i+((a.length+1:Nat):Int)=i+1+a.length by omega];exact h4
def wW(t:Tok)(x:ByteArray):Bool:=decide (t.text=x)&&(decide (t.kind=5)||decide (t.kind=2))
theorem jf{l:List Tok}{i:Int}{t:Tok}{ts:List Tok}(h:At l i (t::ts))(x:ByteArray):aG l i x=wW t x:=by
 obtain⟨⟨h1,h2,h3,_⟩,_⟩:=h;unfold aG wW;rw[decide_eq_true h1,h2,h3];rfl
theorem ot(x:ByteArray):wW (dY x) x=true:=by unfold wW;rw[decide_eq_true (show (dY x).text=x from rfl)];rfl
theorem Zq(x:ByteArray):wW (wN x) x=true:=by unfold wW;rw[decide_eq_true (show (wN x).text=x from rfl)];rfl
theorem IB{t:Tok}(h:t.kind≠5)(h':t.kind≠2)(x:ByteArray):wW t x=false:=by unfold wW;rw[decide_eq_false h,decide_eq_false h'];simp
structure af(l:List Tok)(j lv:Int):Prop where
 lp:aG l j dP=false
 lb:lv<=9->aG l j gM=false
 op:∀ m,lv<=m->m<=8->cL l j m=false
theorem af.mono{l:List Tok}{j a b:Int}(h:af l j a)(hab:a<=b):af l j b:=⟨h.lp,fun hb=>h.lb (by omega),fun m h1 h2=>h.op m (by omega) h2⟩
theorem af.s7{l:List Tok}{j:Int}(h:af l j 8):af l j 7:=by
 refine⟨h.lp,fun _=>h.lb (by omega),fun m h1 h2=>?_⟩;by_cases hm:m=8;exact h.op m (by omega) h2;cases ho:cL l j m with
 | false=>rfl
 | true =>
   have:=(qO ho).1;have:=pX (ay l j).text;omega
theorem LK{l:List Tok}{j lv a:Int}(ho:cL l j lv=true)(h1:1<=lv)(ha:lv<a):af l j a:=by
 obtain⟨h2,h3⟩:=qO ho;have ne:∀ x,dM x=0->(ay l j).text≠x:=fun x hx e=>by rw[e,hx] at h2;omega
 refine⟨l6 h3 (ne _ (by decide)),fun _=>l6 h3 (ne _ (by decide)),fun m h4 _=>?_⟩;cases hm:cL l j m with
 | false=>rfl
 | true=>have:=(qO hm).1;omega
theorem AY{l:List Tok}{j a:Int}{x:ByteArray}(h:aG l j x=true)(h0:dM x=0)(h1:x≠dP)(h2:x≠gM∨a=10)(ha:1<=a):af l j a:=by
 refine⟨l6 h h1,fun h9=>l6 h (by rcases h2 with h2|h2;exact h2;omega),fun m h4 _=>?_⟩;cases hm:cL l j m with
 | false=>rfl
 | true =>
   have:=(qO hm).1;rw[(BP h).1,h0] at this;omega
theorem abv(l:List Tok)(a:Int):af l l.length a:=by
 have hp:∀ x,aG l l.length x=false:=fun x=>by unfold aG;rw[decide_eq_false (by omega)];rfl
 refine⟨hp _,fun _=>hp _,fun m _ _=>?_⟩;unfold cL;rw[decide_eq_false (by omega)];rfl
structure vz(pl:Int)(t:Tok):Prop where
 rb:wW t gK=false
 rp:wW t dU=false
 nt:4<=pl->wW t iS=false
 mn:8<=pl->wW t fP=false
theorem vz.mono{a b:Int}{t:Tok}(h:vz b t)(hab:a<=b):vz a t:=⟨h.rb,h.rp,fun g=>h.nt (by omega),fun g=>h.mn (by omega)⟩
theorem hd_k{pl:Int}{t:Tok}(h:t.kind≠5)(h':t.kind≠2):vz pl t:=⟨IB h h' _,IB h h' _,fun _=>IB h h' _,fun _=>IB h h' _⟩
theorem plL_ge(t:ByteArray):dM t<=pW (dM t):=by
 rcases pX t with h|h|h|h|h|h|h<;>rw[h]<;>decide
theorem F6{e:Ex}(h:e.fin=true):∀ pl,∃ t ts,e.tk pl=t::ts/\vz pl t:=by
 have lpOk:∀ pl,vz pl (dY dP):=fun pl=>⟨by decide,by decide,fun _=>by decide,fun _=>by decide⟩;have key:∀(e:Ex),(∃ t ts,e.gZ=t::ts/\vz e.lv t)->∀ pl,∃ t ts,e.tk pl=t::ts/\vz pl t:=by
  rintro e ⟨t,ts,h1,h2⟩ pl;by_cases hl:e.lv<pl;exact⟨_,_,uL hl,lpOk pl⟩;rw[kQ (by omega:pl<=e.lv)];exact⟨t,ts,h1,h2.mono (by omega)⟩
 refine sN (M:=fun e=>∀ pl,∃ t ts,e.tk pl=t::ts/\vz pl t) ?_ ?_ ?_ ?_ ?_ ?_ ?_ ?_ ?_ ?_ e.ct e (Nat.le_refl _) h;intro n _ _;exact key _ ⟨_,_,BJ n,hd_k (by show (3:Int)≠5;decide) (by show (3:Int)≠2;decide)⟩;intro n _ _;exact key _ ⟨_,_,BK n,hd_k (by show (4:Int)≠5;decide) (by show (4:Int)≠2;decide)⟩;intro n _;refine key _ ⟨_,_,wO n,?_⟩;cases decide (n=1)<;>exact⟨by decide,by decide,fun _=>by decide,fun _=>by decide⟩;intro n _;exact key _ ⟨_,_,BL n,hd_k (by show (1:Int)≠5;decide) (by show (1:Int)≠2;decide)⟩;intro L _;exact key _ ⟨_,_,wP L,⟨by decide,by decide,fun _=>by decide,fun _=>by decide⟩⟩;intro t L _ _;exact key _ ⟨_,_,wQ t L,hd_k (by show (1:Int)≠5;decide) (by show (1:Int)≠2;decide)⟩;intro x y _ _ hx _;obtain⟨t,ts,h1,h2⟩:=hx 9;exact key _ ⟨_,_,by rw[EU,h1];rfl,h2⟩;intro x _ _;exact key _ ⟨_,_,BM x,by rw[rI];exact⟨by decide,by decide,fun h=>by omega,fun h=>by omega⟩⟩;intro x _ _;exact key _ ⟨_,_,BN x,by rw[rJ];exact⟨by decide,by decide,fun h=>by decide,fun h=>by omega⟩⟩;intro t x y _ _ _ hx _;obtain⟨u,ts,h1,h2⟩:=hx (pW (dM t));exact key _ ⟨_,_,by rw[BO,h1];rfl,h2.mono (by rw[rH];exact plL_ge t)⟩
theorem LL{e:Ex}:e.tk e.lv=e.gZ:=kQ (Int.le_refl _)
section
variable {s:ByteArray} {l:List Tok}
theorem F7{i:Int}{e:Ex}{j:Int}:∀(n:Nat)(pl hi:Int),hi=pl+n->1<=pl->hi<=10->Rd s l hi i e j->af l j pl->(pl<=3->4<=hi->aG l i iS=false)->(pl<=7->8<=hi->aG l i fP=false)->Rd s l pl i e j
 | 0, pl, hi, h, _, _, hr, _, _, _ => by obtain rfl : hi = pl := by omega
                                         exact hr
 | n+1,pl,hi,h,h1,h2,hr,hs,hn,hm=>by
   have ih:=F7 n (pl+1) hi (by omega) (by omega) h2 hr (hs.mono (by omega)) (fun a b=>hn (by omega) b) (fun a b=>hm (by omega) b);have hc:(pl=1∨pl=2∨pl=4∨pl=5∨pl=6)∨pl=3∨pl=7∨pl=8∨pl=9:=by omega
   rcases hc with hc|rfl|rfl|rfl|rfl;exact Zn (by omega) (Zm hc ih) (hs.op pl (by omega) (by omega));exact rd_up3 ih (hn (by omega) (by omega));exact rd_up7 ih (hm (by omega) (by omega));exact rd_up8 ih (hs.op 8 (by omega) (by omega));exact Zp (Zo ih) (hs.lb (by omega))
variable (s l)
structure Core(e:Ex):Prop where
 lp:∀ i j,0<=i->At l i e.gZ->j=i+e.gZ.length->(e.lv=1∨e.lv=2∨e.lv=5∨e.lv=6)->af l j (e.lv+1)->Lp s l e.lv i e j
 ix:∀ i j,0<=i->At l i e.gZ->j=i+e.gZ.length->e.lv=9->af l j 10->Ix s l i e j
 rd:∀ i j,0<=i->At l i e.gZ->j=i+e.gZ.length->(e.lv=3∨e.lv=4∨e.lv=7∨e.lv=8∨e.lv=10)->af l j e.lv->Rd s l e.lv i e j
structure Whole(e:Ex):Prop where
 rd:∀ pl i j,1<=pl->pl<=10->0<=i->At l i (e.tk pl)->j=i+(e.tk pl).length->af l j pl->Rd s l pl i e j
 lp:∀ pl i j,(pl=1∨pl=2∨pl=5∨pl=6)->0<=i->At l i (e.tk pl)->j=i+(e.tk pl).length->af l j (pl+1)->Lp s l pl i e j
 ix:∀ i j,0<=i->At l i (e.tk 9)->j=i+(e.tk 9).length->af l j 10->Ix s l i e j
variable {s l}
theorem LM{e:Ex}(h:e.fin=true):(e.lv=1∨e.lv=2∨e.lv=5∨e.lv=6)∨e.lv=9∨(e.lv=3∨e.lv=4∨e.lv=7∨e.lv=8∨e.lv=10):=by
 refine sN (M:=fun e=>(e.lv=1∨e.lv=2∨e.lv=5∨e.lv=6)∨e.lv=9∨(e.lv=3∨e.lv=4∨e.lv=7∨e.lv=8∨e.lv=10)) ?_ ?_ ?_ ?_ ?_ ?_ ?_ ?_ ?_ ?_ e.ct e (Nat.le_refl _) h;intro n _ _;exact .inr (.inr (.inr (.inr (.inr (.inr rfl)))));intro n _ _;exact .inr (.inr (.inr (.inr (.inr (.inr rfl)))));intro n _;exact .inr (.inr (.inr (.inr (.inr (.inr rfl)))));intro n _;exact .inr (.inr (.inr (.inr (.inr (.inr rfl)))));intro n _;exact .inr (.inr (.inr (.inr (.inr (.inr rfl)))));intro n L _ _;exact .inr (.inr (.inr (.inr (.inr (.inr rfl)))));intro x y _ _ _ _;exact .inr (.inl rfl);intro x _ _;rw[rI];omega;intro x _ _;rw[rJ];omega;intro t x y ht _ _ _ _;rw[rH];have:=pX t;omega
theorem Core.own{e:Ex}(hc:Core s l e)(hf:e.fin=true){i j:Int}(hi:0<=i)(ha:At l i e.gZ)(hj:j=i+e.gZ.length)(hs:af l j e.lv):Rd s l e.lv i e j:=by
 rcases LM hf with h|h|h;exact Zn (by omega) (hc.lp i j hi ha hj h (hs.mono (by omega))) (hs.op _ (Int.le_refl _) (by omega));have:=Zp (hc.ix i j hi ha hj h (hs.mono (by omega))) (hs.lb (by omega));rw[h];exact this;exact hc.rd i j hi ha hj h hs
theorem Core.low{e:Ex}(hc:Core s l e)(hf:e.fin=true){pl i j:Int}(h1:1<=pl)(hp:pl<=e.lv)(hi:0<=i)(ha:At l i e.gZ)(hj:j=i+e.gZ.length)(hs:af l j pl):Rd s l pl i e j:=by
 obtain⟨t,ts,h2,h3⟩:=F6 hf e.lv;rw[LL] at h2;have hl:=LM hf;have ha':=ha;rw[h2] at ha';refine F7 (e.lv-pl).toNat pl e.lv (by omega) h1 (by omega) (hc.own hf hi ha hj (hs.mono hp)) hs (fun _ h=>?_) (fun _ h=>?_);rw[jf ha'];exact h3.nt h;rw[jf ha'];exact h3.mn h
theorem Core.iJ{e:Ex}(hc:Core s l e)(hf:e.fin=true){i j:Int}(hi:0<=i)(ha:At l i (dY dP::(e.gZ++[dY dU])))(hj:j=i+(dY dP::(e.gZ++[dY dU])).length):Rd s l 10 i e j:=by
 have h1:aG l i dP=true:=by rw[jf ha];exact ot _
 obtain⟨h2,h3⟩:=At.app ha.2;have h4:aG l (i+1+e.gZ.length) dU=true:=by rw[jf h3];exact ot _
 have hp:=Uz hf;have h5:Rd s l 1 (i+1) e (i+1+e.gZ.length):=hc.low hf (Int.le_refl _) hp (by omega) h2 rfl (AY h4 (by decide) (by decide) (.inl (by decide)) (Int.le_refl _));have h6:=rd_par hi h1 h5 h4;have:j=i+1+e.gZ.length+1:=by
  rw[hj,List.length_cons,List.length_append,List.length_singleton];omega
 rw[this];exact h6
theorem Core.whole{e:Ex}(hc:Core s l e)(hf:e.fin=true):Whole s l e:=by
 have hl:=LM hf;have hp:=Uz hf;have hR:∀ pl i j,1<=pl->pl<=10->0<=i->At l i (e.tk pl)->j=i+(e.tk pl).length->∀ a,pl<=a->a<=10->(e.lv<pl∨a<=e.lv)->af l j a->Rd s l a i e j:=by
  intro pl i j h1 h2 hi ha hj a hpa ha10 hor hs;by_cases hlt:e.lv<pl;rw[uL hlt] at ha hj;have h3:=hc.iJ hf hi ha hj;refine F7 (10-a).toNat a 10 (by omega) (by omega) (by omega) h3 hs (fun _ _=>?_) (fun _ _=>?_);rw[jf ha];decide;rw[jf ha];decide;rw[kQ (by omega:pl<=e.lv)] at ha hj;exact hc.low hf (by omega) (by omega) hi ha hj hs
 refine⟨fun pl i j h1 h2 hi ha hj hs=>hR pl i j h1 h2 hi ha hj pl (Int.le_refl _) h2 (by omega) hs,fun pl i j h1 hi ha hj hs=>?_,fun i j hi ha hj hs=>?_⟩;by_cases he:e.lv=pl;subst he;rw[LL] at ha hj;exact hc.lp i j hi ha hj h1 hs;exact Zm (by omega) (hR pl i j (by omega) (by omega) hi ha hj (pl+1) (by omega) (by omega) (by omega) hs);by_cases he:e.lv=9;have:=LL (e:=e);rw[he] at this;rw[this] at ha hj;exact hc.ix i j hi ha hj he hs;exact Zo (hR 9 i j (by omega) (by omega) hi ha hj 10 (by omega) (by omega) (by omega) hs)
theorem at_op{i:Int}{t:ByteArray}{ts:List Tok}(h:At l i (yS t::ts)):cL l i (dM t)=true/\(ay l i).text=t:=by
 have e1:(yS t).text=t:=by unfold yS;cases fu (aT t 0)<;>rfl
 have h2:wW (yS t) t=true:=by unfold yS;cases fu (aT t 0);exact ot t;exact Zq t
 have h3:(ay l i).text=t:=h.1.2.2.1.trans e1;refine⟨?_,h3⟩;unfold cL;rw[decide_eq_true h.1.1,h3,jf h,h2,decide_eq_true rfl];rfl
theorem QU{t:ByteArray}(ht:t=gK∨t=dU):∀(L:List Ex)(i:Int),L≠[]->(∀ e∈L,e.fin=true/\Whole s l e)->0<=i->At l i (mY (L.map fun e=>e.tk 1)++[dY t])->Ls s l t L i (i+(mY (L.map fun e=>e.tk 1)).length+1)
 | [],i,h,_,_,_=>absurd rfl h
 | [e],i,_,hw,hi,ha=>by
   obtain⟨h1,h2⟩:=At.app ha;have h3:aG l (i+(e.tk 1).length) t=true:=by
    have:=jf h2 t;rw[ot] at this;exact this
   exact .one ((hw e (by simp)).2.rd 1 i _ (Int.le_refl _) (by omega) hi h1 rfl (AY h3 (by rcases ht with rfl|rfl<;>decide) (by rcases ht with rfl|rfl<;>decide) (.inl (by rcases ht with rfl|rfl<;>decide)) (Int.le_refl _))) h3
 | e::f::L,i,_,hw,hi,ha=>by
   have e1:mY ((e::f::L).map fun e=>e.tk 1)=e.tk 1++(dY kR::mY ((f::L).map fun e=>e.tk 1)):=rfl;rw[e1,List.append_assoc] at ha;obtain⟨h1,h2⟩:=At.app ha;have h3:aG l (i+(e.tk 1).length) kR=true:=by rw[jf h2];exact ot _
   have h4:aG l (i+(e.tk 1).length) t=false:=l6 h3 (by rcases ht with rfl|rfl<;>decide);have ih:=QU ht (f::L) (i+(e.tk 1).length+1) (by simp) (fun x hx=>hw x (List.mem_cons_of_mem _ hx)) (by omega) h2.2;have:=Ls.cons ((hw e (by simp)).2.rd 1 i _ (Int.le_refl _) (by omega) hi h1 rfl (AY h3 (by decide) (by decide) (.inl (by decide)) (Int.le_refl _))) h4 h3 ih;rw[e1,List.length_append,List.length_cons];rw[show i+(((e.tk 1).length+((mY ((f::L).map fun e=>e.tk 1)).length+1):Nat):Int)+1=i+(e.tk 1).length+1+(mY ((f::L).map fun e=>e.tk 1)).length+1 by omega];exact this
theorem Zs{L:List Ex}(hne:L≠[])(hf:∀ e∈L,e.fin=true):∃ t ts,mY (L.map fun e=>e.tk 1)=t::ts/\vz 1 t:=by
 match L,hne with
 | [e],_ =>
   obtain⟨t,ts,h1,h2⟩:=F6 (hf e (by simp)) 1;exact⟨t,ts,h1,h2⟩
 | e::f::L,_ =>
   obtain⟨t,ts,h1,h2⟩:=F6 (hf e (by simp)) 1;exact⟨t,ts++(dY kR::mY ((f::L).map fun e=>e.tk 1)),by show e.tk 1++(dY kR::mY ((f::L).map fun e=>e.tk 1))=_;rw[h1];rfl,h2⟩
theorem wX{e:Ex}(he:e.lv=10)(h:∀ i j,0<=i->At l i e.gZ->j=i+e.gZ.length->af l j 10->Rd s l 10 i e j):Core s l e :=
 ⟨fun _ _ _ _ _ h=>by omega,fun _ _ _ _ _ h=>by omega,fun i j hi ha hj _ hs=>by rw[he] at hs ⊢;exact h i j hi ha hj hs⟩
theorem UD(e:Ex)(hf:e.fin=true):Whole s l e:=by
 refine sN (M:=fun e=>Whole s l e) ?_ ?_ ?_ ?_ ?_ ?_ ?_ ?_ ?_ ?_ e.ct e (Nat.le_refl _) hf;intro n h1 h2;refine(wX rfl fun i j hi ha hj _=>?_).whole ?_;rw[BJ] at ha hj;have:=rd_num (s:=s) hi ha.1.1 ha.1.2.1;rw[show (ay l i).n=n from ha.1.2.2.2] at this;rw[hj];exact this;exact gW Ex.gY (by show (decide _&&decide _&&_&&_)=true;rw[decide_eq_true h1,decide_eq_true h2];rfl);intro t h1 h2;refine(wX rfl fun i j hi ha hj _=>?_).whole ?_;rw[BK] at ha hj;have:=rd_txt (s:=s) hi ha.1.1 ha.1.2.1;rw[show (ay l i).text=t from ha.1.2.2.1] at this;rw[hj];exact this;exact gW Ex.gY (by show (decide _&&decide _&&_&&_)=true;rw[decide_eq_true (p:=(t.size:Int)<=200) (by omega),decide_eq_true (p:=(aN cD t 0:Int)=t.size) (by omega)];rfl);intro n hn;refine(wX rfl fun i j hi ha hj _=>?_).whole ?_;rw[wO] at ha hj;rcases hn with rfl|rfl;rw[hj];exact rd_fal hi (by rw[jf ha];decide);rw[hj];exact rd_tru hi (by rw[jf ha];decide);rcases hn with rfl|rfl<;>exact gW Ex.gY rfl;intro t h1;refine(wX rfl fun i j hi ha hj hs=>?_).whole ?_;rw[BL] at ha hj;have hj:j=i+1:=hj;have:=rd_nam (s:=s) hi ha.1.1 ha.1.2.1 (by rw[<-hj];exact hs.lp);rw[show (ay l i).text=t from ha.1.2.2.1] at this;rw[hj];exact this;exact gW Ex.gY (by show (cH _&&_&&_)=true;rw[h1];rfl);intro L hL;have hfL:Ex.iy L=true:=by
  clear hf
  induction L with
  | nil=>exact Ex.gY
  | cons a L ih=>rw[Ex.kL,(hL a (by simp)).1,ih fun e he=>hL e (List.mem_cons_of_mem _ he)];rfl
 refine(wX rfl fun i j hi ha hj _=>?_).whole (gW hfL rfl);rw[wP] at ha hj;have h1:aG l i gM=true:=by rw[jf ha];exact ot _
 by_cases hne:L=[];subst hne;have h2:aG l (i+1) gK=true:=by rw[jf (t:=dY gK) (ts:=[]) ha.2];exact ot _
 have hj:j=i+1+1:=by rw[hj];show i+2=_;omega
 rw[hj];exact abt hi h1 h2;obtain⟨t,ts,h2,h3⟩:=Zs hne fun e he=>(hL e he).1;have h4:aG l (i+1) gK=false:=by
  have:=ha.2;rw[h2] at this;rw[jf (t:=t) (ts:=ts++[dY gK]) this];exact h3.rb
 have:=rd_lst hi h1 h4 (QU (s:=s) (.inl rfl) L (i+1) hne hL (by omega) ha.2);have hj:j=i+1+(mY (L.map fun e=>e.tk 1)).length+1:=by
  rw[hj,List.length_cons,List.length_append,List.length_singleton];omega
 rw[hj];exact this;intro t L ht hL;have hfL:Ex.iy L=true:=by
  clear hf
  induction L with
  | nil=>exact Ex.gY
  | cons a L ih=>rw[Ex.kL,(hL a (by simp)).1,ih fun e he=>hL e (List.mem_cons_of_mem _ he)];rfl
 refine(wX rfl fun i j hi ha hj _=>?_).whole (gW hfL (by show (cH _&&_)=true;rw[ht];rfl));rw[wQ] at ha hj;have hk:(ay l i).kind=1:=ha.1.2.1;have hx:(ay l i).text=t:=ha.1.2.2.1;have h1:aG l (i+1) dP=true:=by rw[jf ha.2];exact ot _
 by_cases hne:L=[];subst hne;have h2:aG l (i+1+1) dU=true:=by rw[jf (t:=dY dU) (ts:=[]) ha.2.2];exact ot _
 have:=abu (s:=s) hi hk h1 h2;rw[hx] at this;have hj:j=i+1+1+1:=by rw[hj];show i+3=_;omega
 rw[hj];exact this;obtain⟨u,ts,h2,h3⟩:=Zs hne fun e he=>(hL e he).1;have h4:aG l (i+1+1) dU=false:=by
  have:=ha.2.2;rw[h2] at this;rw[jf (t:=u) (ts:=ts++[dY dU]) this];exact h3.rp
 have:=rd_cal hi hk h1 h4 (QU (s:=s) (.inr rfl) L (i+1+1) hne hL (by omega) ha.2.2);rw[hx] at this;have hj:j=i+1+1+(mY (L.map fun e=>e.tk 1)).length+1:=by
  rw[hj,List.length_cons,List.length_cons,List.length_append,List.length_singleton];omega
 rw[hj];exact this;intro x y hfx hfy hx hy;refine Core.whole ⟨fun _ _ _ _ _ h=>by rw[Iz] at h;omega,fun i j hi ha hj _ hs=>?_,fun _ _ _ _ _ h=>by rw[Iz] at h;omega⟩ (gW (DB hfx hfy) rfl);rw[EU] at ha hj;obtain⟨h1,h2⟩:=At.app ha;have h3:aG l (i+(x.tk 9).length) gM=true:=by rw[jf h2];exact ot _
 obtain⟨h4,h5⟩:=At.app h2.2;have h6:aG l (i+(x.tk 9).length+1+(y.tk 1).length) gK=true:=by rw[jf h5];exact ot _
 have:=abr (hx.ix i _ hi h1 rfl (AY h3 (by decide) (by decide) (.inr rfl) (by omega))) h3 (hy.rd 1 _ _ (Int.le_refl _) (by omega) (by omega) h4 rfl (AY h6 (by decide) (by decide) (.inl (by decide)) (Int.le_refl _))) h6;have hj:j=i+(x.tk 9).length+1+(y.tk 1).length+1:=by
  rw[hj,List.length_append,List.length_cons,List.length_append,List.length_singleton];omega
 rw[hj];exact this;intro x hfx hx;refine Core.whole ⟨fun _ _ _ _ _ h=>by rw[rI] at h;omega,fun _ _ _ _ _ h=>by rw[rI] at h;omega,fun i j hi ha hj _ hs=>?_⟩ (gW (qH hfx) rfl);rw[rI] at hs ⊢;rw[BM] at ha hj;have h1:aG l i iS=true:=by rw[jf ha];exact Zq _
 have hj:j=i+1+(x.tk 3).length:=by rw[hj,List.length_cons];omega
 exact rd_not hi h1 (hx.rd 3 _ _ (by omega) (by omega) (by omega) ha.2 hj hs);intro x hfx hx;refine Core.whole ⟨fun _ _ _ _ _ h=>by rw[rJ] at h;omega,fun _ _ _ _ _ h=>by rw[rJ] at h;omega,fun i j hi ha hj _ hs=>?_⟩ (gW (qH hfx) rfl);rw[rJ] at hs ⊢;rw[BN] at ha hj;have h1:aG l i fP=true:=by rw[jf ha];exact ot _
 have hj:j=i+1+(x.tk 7).length:=by rw[hj,List.length_cons];omega
 exact rd_neg hi h1 (hx.rd 7 _ _ (by omega) (by omega) (by omega) ha.2 hj hs);intro t x y ht hfx hfy hx hy;have hfb:=BQ ht hfx hfy;have cut:∀ i j,At l i (gT t x y).gZ->j=i+(gT t x y).gZ.length->At l i (x.tk (pW (dM t)))/\cL l (i+(x.tk (pW (dM t))).length) (dM t)=true/\(ay l (i+(x.tk (pW (dM t))).length)).text=t/\At l (i+(x.tk (pW (dM t))).length+1) (y.tk (yU (dM t)))/\j=i+(x.tk (pW (dM t))).length+1+(y.tk (yU (dM t))).length:=by
  intro i j ha hj;rw[BO] at ha hj;obtain⟨h1,h2⟩:=At.app ha;obtain⟨h3,h4⟩:=at_op h2;refine⟨h1,h3,h4,h2.2,?_⟩;rw[hj,List.length_append,List.length_cons];omega
 refine Core.whole ⟨fun i j hi ha hj hl hs=>?_,fun _ _ _ _ _ h=>?_,fun i j hi ha hj hl hs=>?_⟩ hfb;obtain⟨h1,h2,h3,h4,h5⟩:=cut i j ha hj;rw[rH] at hl hs ⊢;generalize hv:dM t=lv at *;have eL:pW lv=lv:=by rcases hl with rfl|rfl|rfl|rfl<;>rfl
 have eR:yU lv=lv+1:=by rcases hl with rfl|rfl|rfl|rfl<;>rfl
 rw[eL] at h1 h2 h3 h4 h5;rw[eR] at h4 h5;have:=abq hl (hx.lp lv i _ hl hi h1 rfl (LK h2 (by omega) (by omega))) h2 (hy.rd (lv+1) _ _ (by omega) (by omega) (by omega) h4 h5 hs);rw[h3] at this;exact this;rw[rH] at h;have:=pX t;omega;obtain⟨h1,h2,h3,h4,h5⟩:=cut i j ha hj;rw[rH] at hl hs ⊢;have hc:=pX t;generalize hv:dM t=lv at *;have hc:lv=4∨lv=8:=by omega
 rcases hc with rfl|rfl;have:=rd_cmp (hx.rd 5 i _ (by omega) (by omega) hi h1 rfl (LK h2 (by omega) (by omega))) h2 (hy.rd 5 _ _ (by omega) (by omega) (by omega) h4 h5 (hs.mono (by omega)));rw[show pW 4=5 from rfl] at h3;rw[h3] at this;exact this;have:=rd_pow (hx.rd 9 i _ (by omega) (by omega) hi h1 rfl (LK h2 (by omega) (by omega))) h2 (hy.rd 7 _ _ (by omega) (by omega) (by omega) h4 h5 hs.s7);rw[show pW 8=9 from rfl] at h3;rw[h3] at this;exact this
end
theorem uN{p:Int->Bool}{s:ByteArray}:∀(j i:Nat),j=s.size-i->i<=s.size->(∀ k,i<=k->k<s.size->p (aT s k)=true)->aN p s i=s.size
 | j,i,hj,hi,h=>by
   by_cases hs:i=s.size;subst hs;exact js (by omega);rw[fD ⟨by omega,h i (Nat.le_refl _) (by omega)⟩];cases j with
   | zero=>omega
   | succ j=>exact uN j (i+1) (by omega) (by omega) fun k a b=>h k (by omega) b
theorem OI{p:Int->Bool}{s:ByteArray}{a b:Nat}(hb:b<=s.size)(h:∀ k,a<=k->k<b->p (aT s k)=true):aN p (s.extract a b) 0=(s.extract a b).size:=by
 have hz:(s.extract a b).size=b-a:=by rw[ByteArray.size_extract];omega
 refine uN _ 0 rfl (Nat.zero_le _) fun k _ hk=>?_;rw[hz] at hk;rw[nG (by omega) hb];exact h _ (by omega) (by omega)
theorem OJ(s:ByteArray)(e:Nat):∀(j i:Nat)(n:Int),j=e-i->(∀ k,i<=k->k<e->ck (aT s k)=true)->0<=n->n<=1000000000000000->(jY s e i n).2=false->0<=(jY s e i n).1/\(jY s e i n).1<=1000000000000000
 | j,i,n,hj,hd,h0,h1,hf=>by
   rw[jY] at hf ⊢;by_cases hi:i<e;rw[dif_pos hi] at hf ⊢;have hd1:=hd i (Nat.le_refl _) hi;unfold ck at hd1;simp only[Bool.and_eq_true,decide_eq_true_eq] at hd1;by_cases hb:1000000000000000<n*10+(aT s i-48);rw[if_pos hb] at hf;cases hf
   . rw[if_neg hb] at hf ⊢;cases j with
     | zero=>omega
     | succ j=>exact OJ s e j (i+1) _ (by omega) (fun k a b=>hd k (by omega) b) (by omega) (by omega) hf
   rw[dif_neg hi];exact⟨h0,h1⟩
theorem abw{s : ByteArray}{a : Nat}(ha : a < s.size)(h : (bN s a).er = 0) : QO (bN s a).t := by
 by_cases c1:fu (aT s a)=true
 · have q : bN s a = j9 s a (aN cu s (a + 1)) := by unfold bN; rw[if_pos c1]
   rw[q] at h ⊢;have hge:=ig cu s _ (a+1) rfl;have hle:=hge.2 (by omega);unfold j9 at h ⊢;by_cases g1:eB pN (s.extract a (aN cu s (a+1)))=true;rw[if_pos g1];exact⟨fun h=>(by cases h),fun h=>(by cases h),fun h=>by cases h⟩
   · rw[if_neg g1] at h ⊢
     by_cases g2:20<(s.extract a (aN cu s (a+1))).size;rw[if_pos g2] at h;cases h;rw[if_neg g2];refine⟨fun h=>(by cases h),fun h=>(by cases h),fun _=>?_⟩;show cH (s.extract a (aN cu s (a+1)))=true;have hz:(s.extract a (aN cu s (a+1))).size=aN cu s (a+1)-a:=by rw[ByteArray.size_extract];omega
     have hr:=OI (p:=cu) (s:=s) (a:=a) (b:=aN cu s (a+1)) hle fun k h1 h2=>by
      by_cases hk:k=a;rw[hk];unfold cu;rw[c1];rfl;exact lK _ (a+1) rfl k (by omega) h2
     have hb0:aT (s.extract a (aN cu s (a+1))) 0=aT s a:=nG (by omega) hle;unfold cH;rw[hb0,c1,decide_eq_false (p:=s.extract a (aN cu s (a+1))=eS) (fun e=>by
      have:=congrArg ByteArray.size e;have h0:eS.size=0:=rfl;omega),decide_eq_true (p:=((s.extract a (aN cu s (a+1))).size:Int)<=20) (by omega),decide_eq_true (p:=(aN cu (s.extract a (aN cu s (a+1))) 0:Int)=(s.extract a (aN cu s (a+1))).size) (by omega)]
     rw[Bool.not_eq_true] at g1;rw[g1];rfl
 by_cases c2:ck (aT s a)=true;have q:bN s a=mE s a (aN ck s (a+1)):=by unfold bN;rw[if_neg c1,if_pos c2]
 rw[q] at h ⊢;have hd:∀ k,a<=k->k<aN ck s (a+1)->ck (aT s k)=true:=fun k h1 h2=>by
  by_cases hk:k=a;rw[hk];exact c2;exact lK _ (a+1) rfl k (by omega) h2
 unfold mE at h ⊢;by_cases g1:aT s a=48/\a+1<aN ck s (a+1);rw[if_pos g1] at h;cases h;rw[if_neg g1] at h ⊢;by_cases g2:(jY s (aN ck s (a+1)) a 0).2=true;rw[if_pos g2] at h;cases h;rw[if_neg g2];refine⟨fun _=>?_,fun h=>(by cases h),fun h=>by cases h⟩;exact OJ s _ _ a 0 rfl hd (by omega) (by omega) (by simpa using g2);by_cases c3:aT s a=34;have q:bN s a=mF s a (aN cD s (a+1)):=by unfold bN;rw[if_neg c1,if_neg c2,if_pos c3]
 rw[q] at h ⊢;have hle:=(ig cD s _ (a+1) rfl).2 (by omega);unfold mF at h ⊢;by_cases g1:aN cD s (a+1)=s.size∨aT s (aN cD s (a+1))≠34;rw[if_pos g1] at h;cases h;rw[if_neg g1] at h ⊢;by_cases g2:200<(s.extract (a+1) (aN cD s (a+1))).size;rw[if_pos g2] at h;cases h;rw[if_neg g2];exact⟨fun h=>(by cases h),fun _=>⟨by show (s.extract (a+1) (aN cD s (a+1))).size<=200;omega,OI hle fun k h1 h2=>lK _ (a+1) rfl k h1 h2⟩,fun h=>by cases h⟩;have q:bN s a=mW s a 2:=by unfold bN;rw[if_neg c1,if_neg c2,if_neg c3]
 rw[q,AW] at h ⊢;by_cases g2:a+2<=s.size/\eB ep (s.extract a (a+2))=true;rw[if_pos g2];exact⟨fun h=>(by cases h),fun h=>(by cases h),fun h=>by cases h⟩;rw[if_neg g2] at h ⊢;by_cases g1:a+1<=s.size/\eB ep (s.extract a (a+1))=true;rw[if_pos g1];exact⟨fun h=>(by cases h),fun h=>(by cases h),fun h=>by cases h⟩;rw[if_neg g1] at h;cases h
theorem Zt{s:ByteArray}{i:Nat}{l:List Tok}(h:Lx s i l):∀ t∈l,QO t:=by
 induction h with
 | done _=>intro t ht;cases ht
 | sp _ _ _ ih=>exact ih
 | com _ _ _ ih=>exact ih
 | tok h0 _ _ h3 _ _ _ _ ih =>
   intro t ht;rcases List.mem_cons.1 ht with rfl|ht;exact abw h0 h3;exact ih t ht
theorem abx{s:ByteArray}{a n:Nat}(hl:a+n<=s.size)(he:(bN s a).er=0)(hE:(bN s a).e=(a+n:Nat)):(bN s a).t.text.size<=n:=by
 unfold bN at he hE ⊢;split at hE;rename_i c1;rw[if_pos c1] at he ⊢;unfold j9 at hE he ⊢;have key:∀ e:Nat,(e:Int)=(a+n:Nat)->(s.extract a e).size<=n:=fun e he=>by rw[ByteArray.size_extract];omega
 split at hE;rename_i g;rw[if_pos g];exact key _ hE;rename_i g;rw[if_neg g] at he ⊢;split at hE;rename_i g2;rw[if_pos g2];exact key _ hE;rename_i g2;rw[if_neg g2];exact key _ hE;rename_i c1;rw[if_neg c1] at he ⊢;split at hE;rename_i c2;rw[if_pos c2] at he ⊢;unfold mE;split;exact Nat.zero_le _;split;exact Nat.zero_le _;exact Nat.zero_le _;rename_i c2;rw[if_neg c2] at he ⊢;split at hE;rename_i c3;rw[if_pos c3] at he ⊢;unfold mF at hE he ⊢;split at hE;rename_i g;rw[if_pos g] at he;cases he;rename_i g;rw[if_neg g] at he ⊢;split at hE;rename_i g2;rw[if_pos g2] at he;cases he;rename_i g2;rw[if_neg g2];show (s.extract (a+1) (aN cD s (a+1))).size<=n;have hE:((aN cD s (a+1)+1:Nat):Int)=(a+n:Nat):=hE;rw[ByteArray.size_extract];omega;rename_i c3;rw[if_neg c3] at he ⊢;rw[AW] at he hE ⊢;split at hE;rename_i g;rw[if_pos g];have hE:((a+2:Nat):Int)=(a+n:Nat):=hE;show (s.extract a (a+2)).size<=n;rw[ByteArray.size_extract];omega;rename_i g;rw[if_neg g] at he ⊢;split at hE;rename_i g2;rw[if_pos g2];have hE:((a+1:Nat):Int)=(a+n:Nat):=hE;show (s.extract a (a+1)).size<=n;rw[ByteArray.size_extract];omega;rename_i g2;rw[if_neg g2] at he;cases he
theorem lx_w2{s:ByteArray}{i:Nat}{l:List Tok}(h:Lx s i l):(l.map w2).sum<=26*(s.size-i):=by
 induction h with
 | done _=>exact Nat.zero_le _
 | sp _ _ _ ih=>omega
 | @com i _ _ _ _ ih =>
   have:=(ig fw s _ i rfl).1;omega
 | @tok i n ts h0 h1 h2 h3 h4 h5 h6 _ ih =>
   have:=abx h6 h3 h4;rw[List.map_cons,List.sum_cons];unfold w2 at *;omega
theorem UE(w:Tok->Nat):∀(l:List Tok),sw w l l.length=(l.map w).sum:=by
 intro l;have key:∀ n,n<=l.length->sw w l n=((l.take n).map w).sum:=by
  intro n
  induction n with
  | zero=>intro _;rw[List.take_zero];rfl
  | succ n ih =>
    intro hn;have hg:ay l (n:Int)=l[n]:=by
     unfold ay;rw[Int.toNat_natCast,List.getD_eq_getElem?_getD,List.getElem?_eq_getElem (by omega)];rfl
    rw[sw,ih (by omega),hg,<-List.take_append_getElem (by omega),List.map_append,List.sum_append];simp
 rw[key _ (Nat.le_refl _),List.take_length]
def mZ(s:ByteArray)(e i:Nat)(n:Int):Int:=if h:i<e then mZ s e (i+1) (n*10+(aT s i-48)) else n
termination_by e-i
theorem OL{s:ByteArray}{e:Nat}:∀(j i:Nat)(n:Int),j=e-i->(∀ k,i<=k->k<e->ck (aT s k)=true)->0<=n->n<=mZ s e i n
 | j,i,n,hj,hd,h0=>by
   rw[mZ];by_cases hi:i<e
   . rw[dif_pos hi];have hd1:=hd i (Nat.le_refl _) hi;unfold ck at hd1;simp only[Bool.and_eq_true,decide_eq_true_eq] at hd1;cases j with
     | zero=>omega
     | succ j =>
       have:=OL j (i+1) (n*10+(aT s i-48)) (by omega) (fun k a b=>hd k (by omega) b) (by omega);omega
   rw[dif_neg hi];exact Int.le_refl _
theorem LN{s:ByteArray}{e:Nat}:∀(j i:Nat)(n:Int),j=e-i->(∀ k,i<=k->k<e->ck (aT s k)=true)->0<=n->mZ s e i n<=1000000000000000->jY s e i n=(mZ s e i n,false)
 | j,i,n,hj,hd,h0,hv=>by
   rw[mZ] at hv ⊢;rw[jY];by_cases hi:i<e
   . rw[dif_pos hi] at hv ⊢;rw[dif_pos hi];have hd1:=hd i (Nat.le_refl _) hi;unfold ck at hd1;simp only[Bool.and_eq_true,decide_eq_true_eq] at hd1;have:=OL (s:=s) (e:=e) _ (i+1) (n*10+(aT s i-48)) rfl (fun k a b=>hd k (by omega) b) (by omega);rw[if_neg (by omega)];cases j with
     | zero=>omega
     | succ j=>exact LN j (i+1) _ (by omega) (fun k a b=>hd k (by omega) b) (by omega) hv
   rw[dif_neg hi,dif_neg hi]
theorem HU{a b:ByteArray}:∀(j i:Nat)(n:Int),j=a.size-i->i<=a.size->mZ (a++b) (a.size+1) i n=mZ a a.size i n*10+(aT b 0-48)
 | j,i,n,hj,hi=>by
   by_cases hs:i=a.size
   . subst hs;have h0:aT (a++b) a.size=aT b 0:=by have:=kP (a:=a) (b:=b) (i:=0);rwa [Nat.add_zero] at this
     rw[mZ,dif_pos (by omega),mZ,dif_neg (by omega),h0]
     conv=>rhs;rw[mZ,dif_neg (by omega)]
   . conv=>lhs;rw[mZ,dif_pos (by omega),j7 (by omega)]
     conv=>rhs;rw[mZ,dif_pos (by omega)]
     cases j with
     | zero=>omega
     | succ j=>exact HU j (i+1) _ (by omega) (by omega)
def lM(u:Nat):ByteArray:=⟨(Lib.decDigits u).toArray⟩
def LO(u:Nat):ByteArray:=⟨#[UInt8.ofNat (48+u)]⟩
theorem LP{u:Nat}(h:u<10):lM u=LO u:=by unfold lM;rw[Lib.decDigits,dif_pos h];rfl
theorem dg_big{u:Nat}(h:¬u<10):lM u=lM (u/10)++LO (u%10):=by
 unfold lM;rw[Lib.decDigits,dif_neg h];apply ByteArray.ext;simp[LO]
theorem UF{u:Nat}(h:u<10):aT (LO u) 0=48+u:=by
 have key:∀ u,u<10->aT (LO u) 0=48+u:=by decide
 exact key u h
structure XP(u:Nat):Prop where
 pos:0<(lM u).size
 UG:∀ k,k<(lM u).size->ck (aT (lM u) k)=true
 val:mZ (lM u) (lM u).size 0 0=u
 hd:aT (lM u) 0=48->u=0
theorem Zu{u:Nat}(h:u<10):ck (48+(u:Int))=true:=by unfold ck;rw[decide_eq_true (by omega),decide_eq_true (by omega)];rfl
theorem QV : ∀(n u : Nat), u ≤ n → XP u
 | n, u, hn => by
   by_cases h:u<10;rw[show XP u↔XP u from Iff.rfl];have e:=LP h;have hz:(LO u).size=1:=rfl;have h1:=UF h;refine⟨by rw[e,hz];omega,fun k hk=>?_,?_,fun h0=>?_⟩;rw[e,hz] at hk;obtain rfl:k=0:=by omega
   rw[e,h1];exact Zu h;rw[e,hz,mZ,dif_pos (by omega),mZ,dif_neg (by omega),h1];omega;rw[e,h1] at h0;omega;have e:=dg_big h;have hm:u%10<10:=Nat.mod_lt _ (by omega);have hz:(LO (u%10)).size=1:=rfl;have h1:=UF hm;cases n with
   | zero=>omega
   | succ n =>
     have ih:=QV n (u/10) (by omega);have hs:(lM u).size=(lM (u/10)).size+1:=by rw[e,aD,hz]
     refine⟨by omega,fun k hk=>?_,?_,fun h0=>?_⟩;rw[hs] at hk;by_cases hk1:k<(lM (u/10)).size;rw[e,j7 hk1];exact ih.UG k hk1;obtain rfl:k=(lM (u/10)).size+0:=by omega
     rw[e,kP,h1];exact Zu hm;rw[hs,e,HU _ 0 0 rfl (Nat.zero_le _),ih.val,h1];omega;rw[e,j7 ih.pos] at h0;have:=ih.hd h0;omega
theorem UH(n:Int)(h:0<=n):AK n=lM n.toNat:=by unfold AK Lib.itoa lM;rw[if_neg (by omega)]
theorem UI{c:Int}(h:ck c=true):fu c=false:=by
 unfold ck at h;simp only[Bool.and_eq_true,decide_eq_true_eq] at h;unfold fu;rw[decide_eq_false (p:=97<=c) (by omega),decide_eq_false (p:=65<=c) (by omega)];rfl
structure Sg(x:ByteArray)(t:Tok):Prop where
 pos:0<x.size
 b0:¬(aT x 0=32∨aT x 0=10)
 b1:aT x 0≠35
 er:(bN x 0).er=0
 e:(bN x 0).e=(x.size:Nat)
 k:(bN x 0).t.kind=t.kind/\(bN x 0).t.text=t.text/\(bN x 0).t.n=t.n
theorem EY{c:Int}(h:cu c=true):¬(c=32∨c=10)/\c≠35:=by
 have:=abk h;unfold blk at this;simp only[Bool.or_eq_false_iff,decide_eq_false_iff_not] at this;exact⟨by omega,this.2⟩
theorem sg_num(n:Int)(h0:0<=n)(h1:n<=1000000000000000):Sg (AK n) ⟨3,eS,n,0⟩:=by
 rw[UH n h0];have D:=QV _ n.toNat (Nat.le_refl _);have hd0:=D.UG 0 D.pos;have hw:cu (aT (lM n.toNat) 0)=true:=by unfold cu;rw[hd0,Bool.or_true];rfl
 have hr:aN ck (lM n.toNat) (0+1)=(lM n.toNat).size:=uN _ (0+1) rfl (by have:=D.pos;omega) fun k _ hk=>D.UG k hk;have hN:=LN (s:=lM n.toNat) (e:=(lM n.toNat).size) _ 0 0 rfl (fun k _ hk=>D.UG k hk) (by omega) (by rw[D.val];omega);have hv:mZ (lM n.toNat) (lM n.toNat).size 0 0=n:=by rw[D.val];omega
 have q:bN (lM n.toNat) 0=⟨⟨3,eS,n,0⟩,(lM n.toNat).size,0,0⟩:=by
  unfold bN;rw[UI hd0,if_neg (by simp),if_pos hd0,hr];unfold mE;rw[if_neg (by
   rintro⟨a,b⟩;have:=D.hd a;rw[this,LP (by omega)] at b;exact absurd b (by decide)),hN,hv,if_neg (by simp)]
  rfl
 exact⟨D.pos,(EY hw).1,(EY hw).2,by rw[q],by rw[q],by rw[q];exact⟨rfl,rfl,rfl⟩⟩
theorem EZ{t:ByteArray}(h:cH t=true):Sg t ⟨1,t,0,0⟩/\fu (aT t 0)=true:=by
 unfold cH at h;simp only[Bool.and_eq_true,decide_eq_true_eq,Bool.not_eq_true',decide_eq_false_iff_not] at h;obtain⟨⟨⟨⟨h1,h2⟩,h3⟩,h4⟩,h5⟩:=h;have hpos:0<t.size:=by
  by_cases h0:t.size=0;exfalso;apply h1;obtain⟨d⟩:=t;have:d=#[]:=Array.eq_empty_of_size_eq_zero h0;rw[this];omega
 have hw:cu (aT t 0)=true:=by unfold cu;rw[h3];rfl
 have hr:aN cu t (0+1)=t.size:=by rw[<-fD ⟨hpos,hw⟩];omega
 have q:bN t 0=⟨⟨1,t,0,0⟩,t.size,0,0⟩:=by
  unfold bN;rw[if_pos h3,hr];unfold j9;rw[ByteArray.extract_zero_size,if_neg (by rw[h4];simp),if_neg (by omega)];rfl
 exact⟨⟨hpos,(EY hw).1,(EY hw).2,by rw[q],by rw[q],by rw[q];exact⟨rfl,rfl,rfl⟩⟩,h3⟩
theorem sg_txt{t:ByteArray}(h2:t.size<=200)(h:aN cD t 0=t.size):Sg (kM++t++kM) ⟨4,t,0,0⟩:=by
 have hz:(kM++t++kM).size=t.size+2:=by rw[aD,aD];show 1+t.size+1=_;omega
 have b0:aT (kM++t++kM) 0=34:=by rw[ByteArray.append_assoc,j7 (by decide)];decide
 have bm:∀ k,k<t.size->aT (kM++t++kM) (1+k)=aT t k:=fun k hk=>by
  rw[ByteArray.append_assoc];have:=kP (a:=kM) (b:=t++kM) (i:=k);rw[show kM.size=1 from rfl] at this;rw[this,j7 hk]
 have be:aT (kM++t++kM) (1+t.size)=34:=by
  have:=kP (a:=kM++t) (b:=kM) (i:=0);rw[aD,show kM.size=1 from rfl,Nat.add_zero] at this;rw[this];decide
 have hr:aN cD (kM++t++kM) (0+1)=1+t.size:=by
  refine BI (by rw[be];decide) _ (0+1) rfl (by omega) fun k h1 h3=>⟨by omega,?_⟩;obtain⟨j,rfl⟩:∃ j,k=1+j:=⟨k-1,by omega⟩;rw[bm j (by omega)];exact lK _ 0 rfl j (Nat.zero_le _) (by omega)
 have hx:(kM++t++kM).extract 1 (1+t.size)=t:=by
  apply ByteArray.ext_getElem;rw[ByteArray.size_extract,hz];omega;intro i h3 h4;have e1:=bm i h4;rw[sM (by omega),sM h4] at e1;rw[ByteArray.getElem_extract];exact UInt8.toNat_inj.1 (by omega)
 have q:bN (kM++t++kM) 0=⟨⟨4,t,0,0⟩,(1+t.size+1:Nat),0,0⟩:=by
  unfold bN;rw[b0,if_neg (by decide),if_neg (by decide),if_pos rfl,hr];unfold mF;rw[if_neg (by rintro (g|g);omega;exact g be),show (0:Nat)+1=1 from rfl,hx,if_neg (by omega)];rfl
 refine⟨by omega,by rw[b0];decide,by rw[b0];decide,by rw[q],?_,by rw[q];exact⟨rfl,rfl,rfl⟩⟩;rw[q,hz];show ((1+t.size+1:Nat):Int)=_;omega
theorem pY{x:ByteArray}{t:Tok}{n:Int}(h0:0<x.size)(h1:¬(aT x 0=32∨aT x 0=10))(h2:aT x 0≠35)(h3:bN x 0=⟨t,n,0,0⟩)(h4:n=(x.size:Nat)):Sg x t:=⟨h0,h1,h2,by rw[h3],by rw[h3];exact h4,by rw[h3];exact⟨rfl,rfl,rfl⟩⟩
theorem sg_boo(b:Bool):Sg (rY b) (wN (rY b)):=by
 cases b with
 | true=>exact pY (x:=qB) (t:=wN qB) (n:=4) (by decide) (by decide) (by decide) (by kernel_rfl) rfl
 | false=>exact pY (x:=rV) (t:=wN rV) (n:=5) (by decide) (by decide) (by decide) (by kernel_rfl) rfl
theorem sg_not:Sg iS (wN iS):=pY (n:=3) (by decide) (by decide) (by decide) (by kernel_rfl) rfl
theorem sg_min:Sg fP (dY fP):=pY (n:=1) (by decide) (by decide) (by decide) (by kernel_rfl) rfl
theorem sg_lp:Sg dP (dY dP):=pY (n:=1) (by decide) (by decide) (by decide) (by kernel_rfl) rfl
theorem sg_rp:Sg dU (dY dU):=pY (n:=1) (by decide) (by decide) (by decide) (by kernel_rfl) rfl
theorem sg_lb:Sg gM (dY gM):=pY (n:=1) (by decide) (by decide) (by decide) (by kernel_rfl) rfl
theorem sg_rb:Sg gK (dY gK):=pY (n:=1) (by decide) (by decide) (by decide) (by kernel_rfl) rfl
theorem sg_com:Sg kR (dY kR):=pY (n:=1) (by decide) (by decide) (by decide) (by kernel_rfl) rfl
theorem sg_car:Sg rZ (dY rZ):=pY (n:=1) (by decide) (by decide) (by decide) (by kernel_rfl) rfl
def LxF(F:Int->Prop)(x:ByteArray)(ts:List Tok):Prop:=∀(pre aO:ByteArray)(ts':List Tok),(aO.size=0∨F (aT aO 0))->Lx (pre++(x++aO)) (pre.size+x.size) ts'->∃ q,kU ts q/\Lx (pre++(x++aO)) pre.size (q++ts')
abbrev pZ:Int->Prop:=fun _=>True
abbrev LQ:Int->Prop:=fun c=>cu c=false
abbrev FSp:Int->Prop:=fun c=>c=32
theorem kU.app:∀{a b q r:List Tok},kU a q->kU b r->kU (a++b) (q++r)
 | [],_,[],_,_,h=>h
 | x::a,b,y::q,r,h,h'=>by
   rw[kU] at h;rw[List.cons_append,List.cons_append,kU];exact⟨h.1,kU.app h.2 h'⟩
 | [],_,_::_,_,h,_=>by rw[kU] at h<;>first|exact h.elim|simp
 | _::_,_,[],_,h,_=>by rw[kU] at h<;>first|exact h.elim|simp
theorem LxF.eq{F:Int->Prop}{x:ByteArray}{a b:List Tok}(h:LxF F x a)(e:a=b):LxF F x b:=e▸h
theorem OM{F G:Int->Prop}{x y:ByteArray}{a b:List Tok}(hx:LxF F x a)(hy:LxF G y b)(h:∀ aO:ByteArray,(y++aO).size=0∨F (aT (y++aO) 0)):LxF G (x++y) (a++b):=by
 intro pre aO ts' hr hL;have e1:pre++(x++y++aO)=pre++(x++(y++aO)):=by simp only[ByteArray.append_assoc]
 have e2:pre++(x++(y++aO))=pre++x++(y++aO):=by simp only[ByteArray.append_assoc]
 rw[e1] at hL ⊢;rw[aD,<-Nat.add_assoc] at hL;obtain⟨r,hr1,hr2⟩:=hy (pre++x) aO ts' hr (by rw[<-e2,aD];exact hL);rw[<-e2,aD] at hr2;obtain⟨q,hq1,hq2⟩:=hx pre (y++aO) (r++ts') (h aO) hr2;exact⟨q++r,hq1.app hr1,by rw[List.append_assoc];exact hq2⟩
theorem ng{F G:Int->Prop}{x y:ByteArray}{a b:List Tok}(hx:LxF F x a)(hy:LxF G y b)(h0:0<y.size)(h:F (aT y 0)):LxF G (x++y) (a++b) :=
 OM hx hy fun aO=>.inr (by rw[j7 h0];exact h)
theorem ni{G:Int->Prop}{x y:ByteArray}{a b:List Tok}(hx:LxF pZ x a)(hy:LxF G y b):LxF G (x++y) (a++b):=OM hx hy fun _=>.inr trivial
theorem LxF.weak{F:Int->Prop}{x:ByteArray}{a:List Tok}(h:LxF pZ x a):LxF F x a:=fun pre aO ts' _ hL=>h pre aO ts' (.inr trivial) hL
theorem lx_nil{F:Int->Prop}:LxF F eS []:=by
 intro pre aO ts' _ hL;exact⟨[],trivial,hL⟩
theorem E0:LxF pZ rD []:=by
 intro pre aO ts' _ hL;exact⟨[],trivial,lx_sp (x:=rD) (j:=0) (by decide) (by decide) hL⟩
theorem E1{F:Int->Prop}{x:ByteArray}{t:Tok}(g:Sg x t)(hN:∀(s':ByteArray)(a':Nat),Ag x 0 s' a' x.size->(a'+x.size=s'.size∨F (aT s' (a'+x.size)))->Nx x 0 s' a' x.size):LxF F x [t]:=by
 intro pre aO ts' hr hL;have hA:Ag x 0 (pre++(x++aO)) pre.size x.size:=⟨by omega,by rw[aD,aD];omega,fun j hj=>by rw[kP,j7 hj,Nat.zero_add]⟩;have hF:pre.size+x.size=(pre++(x++aO)).size∨F (aT (pre++(x++aO)) (pre.size+x.size)):=by
  rcases hr with hr|hr;left;rw[aD,aD];omega;right;rw[kP];have:=kP (a:=x) (b:=aO) (i:=0);rw[Nat.add_zero] at this;rw[this];exact hr
 have hM:=HO hA g.pos (hN _ _ hA hF) g.er (by rw[Nat.zero_add];exact g.e);have hb0:=hA.eq 0 g.pos;rw[Nat.add_zero,Nat.add_zero] at hb0;refine⟨[(bN (pre++(x++aO)) pre.size).t],?_,?_⟩;rw[hM,kU];exact⟨g.k,trivial⟩;exact .tok (n:=x.size) (by rw[aD,aD];have:=g.pos;omega) (by rw[<-hb0];exact g.b0) (by rw[<-hb0];exact g.b1) (by rw[hM]) (by rw[hM]) g.pos hA.le' hL
theorem nw_dig{c:Int}(h:cu c=false):ck c=false:=by
 unfold cu at h;simp only[Bool.or_eq_false_iff] at h;exact h.1.2
theorem BR{x:ByteArray}{t:Tok}(g:Sg x t)(h:fu (aT x 0)=true∨ck (aT x 0)=true):LxF LQ x [t] :=
 E1 g fun s' a' _ hF=>⟨fun _=>hF,fun _=>hF.imp id nw_dig,fun h1 h2=>by rcases h with h|h<;>simp_all⟩
theorem lx_quo{x:ByteArray}{t:Tok}(g:Sg x t)(h:aT x 0=34)(h2:x.size≠1):LxF pZ x [t] :=
 E1 g fun s' a' _ _=>⟨fun h1=>(by rw[h] at h1;cases h1),fun h1=>(by rw[h] at h1;cases h1),fun _ _ h1=>absurd h1 h2⟩
theorem OO:∀ x∈ep,x.size=2->aT x 0=61∨aT x 0=33∨aT x 0=60∨aT x 0=62:=by decide
theorem tQ{x:ByteArray}{t:Tok}(g:Sg x t)(h:fu (aT x 0)=false)(h1:ck (aT x 0)=false)(h2:¬(aT x 0=61∨aT x 0=33∨aT x 0=60∨aT x 0=62)):LxF pZ x [t] :=
 E1 g fun s' a' hA _ => ⟨fun h3 => (by rw[h] at h3; cases h3), fun h3 => (by rw[h1] at h3; cases h3), fun _ _ h3 h4 => by
  cases hh:eB ep (s'.extract a' (a'+2)) with
  | false=>rfl
  | true =>
    have:=OO _ (tP hh) (by rw[ByteArray.size_extract];omega);rw[nG (by omega) h4] at this;have e:=hA.eq 0 (by omega);rw[Nat.zero_add] at e;rw[<-e] at this;exact absurd this h2⟩
theorem Zv{x:ByteArray}{t:Tok}(g:Sg x t):LxF FSp x [t] :=
 E1 g fun s' a' _ hF => ⟨fun _ => hF.imp id fun h => by rw[h]; decide, fun _ => hF.imp id fun h => by rw[h]; decide, fun _ _ h3 h4 => by
  cases hh:eB ep (s'.extract a' (a'+2)) with
  | false=>rfl
  | true =>
    have hb:=Oq _ (tP hh) 1 (by rw[ByteArray.size_extract];omega);rw[nG (by omega) h4] at hb;rw[h3] at hF;rcases hF with hF|hF;omega;rw[hF] at hb;cases hb⟩
theorem Zw:LxF pZ dP [dY dP]:=tQ sg_lp (by decide) (by decide) (by decide)
theorem Zx:LxF pZ dU [dY dU]:=tQ sg_rp (by decide) (by decide) (by decide)
theorem Zy:LxF pZ gM [dY gM]:=tQ sg_lb (by decide) (by decide) (by decide)
theorem Zz:LxF pZ gK [dY gK]:=tQ sg_rb (by decide) (by decide) (by decide)
theorem lx_min:LxF pZ fP [dY fP]:=tQ sg_min (by decide) (by decide) (by decide)
theorem lx_com:LxF pZ kR [dY kR]:=tQ sg_com (by decide) (by decide) (by decide)
theorem lx_car:LxF pZ rZ [dY rZ]:=tQ sg_car (by decide) (by decide) (by decide)
theorem tCs_eq:iC=kR++rD:=by decide
theorem aby:Dv=iS++rD:=by decide
theorem lx_cs:LxF pZ iC [dY kR]:=by rw[tCs_eq];exact ni lx_com E0
theorem lx_nos:LxF pZ Dv [wN iS]:=by rw[aby];exact ng (Zv sg_not) E0 (by decide) (by decide)
def QW:List ByteArray:=[⟨#[111,114]⟩,⟨#[97,110,100]⟩,⟨#[61,61]⟩,⟨#[33,61]⟩,⟨#[60]⟩,⟨#[60,61]⟩,⟨#[62]⟩,⟨#[62,61]⟩,⟨#[105,110]⟩,⟨#[43]⟩,⟨#[45]⟩,⟨#[42]⟩,⟨#[47]⟩,⟨#[37]⟩,⟨#[94]⟩]
theorem OP{x:ByteArray}(h:x∈tE.map Prod.fst):x∈QW:=by
 have key:∀ p∈tE,eB QW p.1=true:=by decide
 obtain⟨p,hp,rfl⟩:=List.mem_map.1 h;exact tP (key p hp)
theorem sg_ops{t:ByteArray}(h:0<dM t):Sg t (yS t):=by
 have hm:=OP (LH h);clear h;unfold QW at hm;simp only[List.mem_cons,List.not_mem_nil,or_false] at hm;rcases hm with rfl|rfl|rfl|rfl|rfl|rfl|rfl|rfl|rfl|rfl|rfl|rfl|rfl|rfl|rfl<;>exact pY (by decide) (by decide) (by decide) (by kernel_rfl) rfl
theorem car_of{t:ByteArray}(h:dM t=8):t=rZ:=by
 have hm:=OP (LH (t:=t) (by omega));unfold QW at hm;simp only[List.mem_cons,List.not_mem_nil,or_false] at hm;rcases hm with rfl|rfl|rfl|rfl|rfl|rfl|rfl|rfl|rfl|rfl|rfl|rfl|rfl|rfl|rfl<;>first|rfl|exact absurd h (by decide)
theorem DC:∀ L:List Ex,(∀ e∈L,LxF LQ (e.wr 1) (e.tk 1))->LxF LQ (cr (L.map fun e=>e.wr 1) iC) (mY (L.map fun e=>e.tk 1))
 | [],_=>by
   have e1:cr (([]:List Ex).map fun e=>e.wr 1) iC=eS:=HG _;rw[e1];exact lx_nil
 | [e],h=>by
   have e1:cr (([e]:List Ex).map fun e=>e.wr 1) iC=e.wr 1:=HI _ _;rw[e1];exact h e (by simp)
 | e::f::L,h=>by
   have e1:cr ((e::f::L).map fun e=>e.wr 1) iC=e.wr 1++(iC++cr ((f::L).map fun e=>e.wr 1) iC):=Ll _ _ _ _;have ih:=DC (f::L) fun x hx=>h x (List.mem_cons_of_mem _ hx);rw[e1];exact ng (h e (by simp)) (ni lx_cs ih) (by rw[aD];exact Nat.lt_of_lt_of_le (by decide:0<iC.size) (Nat.le_add_right _ _)) (by show cu _=false;rw[j7 (by decide)];decide)
theorem abz(e:Ex)(hf:e.fin=true):∀ pl,LxF LQ (e.wr pl) (e.tk pl):=by
 have key:∀ e:Ex,LxF LQ e.jc e.gZ->∀ pl,LxF LQ (e.wr pl) (e.tk pl):=by
  intro e h pl;by_cases hl:e.lv<pl;rw[EV hl,uL hl];exact ng (ni Zw h) Zx.weak (by decide) (by decide);rw[nH (by omega:pl<=e.lv),kQ (by omega:pl<=e.lv)];exact h
 refine sN (M:=fun e=>∀ pl,LxF LQ (e.wr pl) (e.tk pl)) ?_ ?_ ?_ ?_ ?_ ?_ ?_ ?_ ?_ ?_ e.ct e (Nat.le_refl _) hf;intro n h0 h1;refine key _ ?_;rw[Ow,BJ];refine BR (sg_num n h0 h1) (.inr ?_);have D:=QV _ n.toNat (Nat.le_refl _);rw[UH n h0];exact D.UG 0 D.pos;intro t h0 h1;refine key _ ?_;rw[Ox,BK];refine(lx_quo (sg_txt h0 h1) ?_ ?_).weak;rw[ByteArray.append_assoc,j7 (by decide)];decide;rw[aD,aD];show 1+t.size+1≠1;omega;intro n _;refine key _ ?_;rw[FY,wO];refine BR (sg_boo _) (.inl ?_);cases decide (n=1)<;>decide;intro t h;refine key _ ?_;rw[Oy,BL];exact BR (EZ h).1 (.inl (EZ h).2);intro L hL;refine key _ ?_;rw[FZ,wP];exact ng (ni Zy (DC L fun e he=>(hL e he).2 1)) Zz.weak (by decide) (by decide);intro t L h hL;refine key _ ?_;rw[F4,wQ];exact ng (ni (ng (BR (EZ h).1 (.inl (EZ h).2)) Zw (by decide) (by decide)) (DC L fun e he=>(hL e he).2 1)) Zx.weak (by decide) (by decide);intro x y _ _ hx hy;refine key _ ?_;rw[Uy,EU];refine LxF.eq (ng (ni (ng (hx 9) Zy (by decide) (by decide)) (hy 1)) Zz.weak (by decide) (by decide)) ?_;simp;intro x _ hx;refine key _ ?_;rw[Oz,BM];exact ni lx_nos (hx 3);intro x _ hx;refine key _ ?_;rw[OA,BN];exact ni lx_min (hx 7);intro t x y ht _ _ hx hy;refine key _ ?_;rw[BO];by_cases h8:dM t=8;have hc:=car_of h8;rw[OB h8,h8,hc];refine LxF.eq (ni (ng (hx 9) lx_car (by decide) (by decide)) (hy 7)) ?_;have e1:yS rZ=dY rZ:=by decide
 rw[e1];show (x.tk 9++[dY rZ])++y.tk 7=_;simp;rfl;rw[OC h8];refine LxF.eq (ni (ng (ni (ng (hx _) E0 (by decide) (by decide)) (Zv (sg_ops ht))) E0 (by decide) (by decide)) (hy _)) ?_;simp
theorem lx_wr(e:Ex)(hf:e.fin=true):∃ q,kU (e.tk 1) q/\Lx (e.wr 1) 0 q:=by
 have e1:eS++(e.wr 1++eS)=e.wr 1:=by
  have a:e.wr 1++eS=e.wr 1:=ByteArray.append_empty;have b:eS++e.wr 1=e.wr 1:=ByteArray.empty_append;rw[a,b]
 obtain⟨q,h1,h2⟩:=abz e hf 1 eS eS [] (.inl rfl) (.done (by rw[e1];show _<=0+_;omega));rw[e1,List.append_nil] at h2;exact⟨q,h1,h2⟩
end Go.Proofs.YtcimgfhfpiapaaaGreatDoor
