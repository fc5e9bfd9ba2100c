/- The parser reads a valid program from its tokens. -/
import Derived.Test.YtnbjjocbncblaaaGreatDoorAgn1
namespace Go.Proofs.YtnbjjocbncblaaaGreatDoor
open Go.aN Go.RowKit
set_option maxRecDepth 100000
structure Nu(x:St):Prop where
 ex:∃ t ts,x.tk=t::ts/\tD t mI=false/\tD t mH=false/\tD t qk=false
theorem Gl{ins:Bool}{x:St}(hf:x.fa ins false=true):Nu x:=by
 refine Gc (M:=fun _ x=>Nu x) ?_ ?_ ?_ ?_ ?_ ?_ x.cr ins x (Nat.le_refl _) hf;intro ins line t e _ _;exact⟨_,_,Ge line t e,wF (by show (1:Int)≠5;decide) (by show (1:Int)≠2;decide) _,wF (by show (1:Int)≠5;decide) (by show (1:Int)≠2;decide) _,wF (by show (1:Int)≠5;decide) (by show (1:Int)≠2;decide) _⟩;intro ins line e _;exact⟨_,_,Gf line e,by decide,by decide,by decide⟩;intro ins line e b c _ _ _;exact⟨_,_,Kf line e b c,by decide,by decide,by decide⟩;intro ins line e b _ _;exact⟨_,_,Gi line e b,by decide,by decide,by decide⟩;intro ins line t e b _ _ _;exact⟨_,_,Gj line t e b,by decide,by decide,by decide⟩;intro line e _;exact⟨_,_,Gg line e,by decide,by decide,by decide⟩
theorem Ql{L:List St}(h:∀ x∈L,x.tk≠[]):L.length<=(St.cT L).length:=by
 induction L with
 | nil=>exact Nat.zero_le _
 | cons x L ih =>
   have h1:=List.length_pos_iff.2 (h x (by simp));have h2:=ih fun y hy=>h y (List.mem_cons_of_mem _ hy);rw[oO,List.length_append,List.length_cons];omega
section
variable {s:ByteArray} {l:List Tok}
theorem EX_go{i:Int}{e:Ex}{j:Int}(h:Rd s l 1 i e j):EX s l 1 i=cA e j:=by
 have a:=h.z;have b:=h.le;exact h.go _ (by omega)
theorem Kg{i:Int}{e:Ex}(hf:e.fin=true)(hi:0<=i){t:ByteArray}{ts:List Tok}(ha:At l i (e.tk 1++bS t::ts))(h0:dU t=0)(h1:t≠eH)(h2:t≠jh):EX s l 1 i=cA e (i+(e.tk 1).length)/\aA l (i+(e.tk 1).length) t=true/\At l (i+(e.tk 1).length+1) ts:=by
 obtain⟨a1,a2⟩:=At.app ha;have h3:aA l (i+(e.tk 1).length) t=true:=by rw[dV a2];exact j9 _
 exact⟨EX_go ((Wl e hf).rd 1 i _ (Int.le_refl _) (by omega) hi a1 rfl (yB h3 h0 h1 (.inl h2) (Int.le_refl _))),h3,a2.2⟩
theorem Cp{i:Int}{e:Ex}(hf:e.fin=true)(hi:0<=i)(ha:At l i (e.tk 1++[bS kX])):dW s l i=cA e (i+(e.tk 1).length+1):=by
 obtain⟨a1,a2,_⟩:=Kg (s:=s) hf hi ha (by decide) (by decide) (by decide);unfold dW;rw[a1];show (bif aA l (i+(e.tk 1).length) kX then _ else _)=_;rw[a2];rfl
variable (s l)
structure RdS(ins:Bool)(x:St)(i j:Int):Prop where
 lt:i<j
 le:j<=l.length
 go:∀ n:Nat,j-i<=n->∃ x',iZ s l (gM s l ins n) ins i=cA x' j/\x'.un=x.un
structure RdB(ins:Bool)(b:List St)(i j:Int):Prop where
 lt:i<j
 le:j<=l.length
 go:∀ n:Nat,j-i<=n->∃ b',gM s l ins n i=cA b' j/\St.fO b'=St.fO b
variable {s l}
theorem Qm(a b:List St):St.fO (a++b)=St.fO a++St.fO b:=by rw[St.C6,St.C6,St.C6,List.map_append]
theorem zX(x:St)(b:List St):St.fO (x::b)=x.un::St.fO b:=by rw[St.fO]
theorem nx_els{L:List St}(h:∀ x∈L,Nu x){i:Int}{ts:List Tok}(ha:At l i (St.cT L++(bS mI::ts))):aA l i mH=false:=by
 cases L with
 | nil=>rw[yD] at ha;rw[dV (t:=bS mI) (ts:=ts) ha];decide
 | cons x L =>
   obtain⟨t,us,h1,h2,h3,_⟩:=(h x (by simp)).ex;rw[oO,h1] at ha;rw[dV (t:=t) (ts:=us++St.cT L++(bS mI::ts)) ha];exact h3
def SG(s:ByteArray)(l:List Tok)(ins:Bool)(x:St):Prop:=∀ i j,0<=i->At l i x.tk->j=i+x.tk.length->aA l j mH=false->RdS s l ins x i j
theorem Wu{ins:Bool}{n:Nat}:∀(L:List St)(acc:List St)(i:Int)(k:Nat),(∀ x∈L,Nu x/\SG s l ins x)->0<=i->At l i (St.cT L++[bS mI])->L.length<k->(St.cT L).length<=n->
 ∃ b',ol s l (iZ s l (gM s l ins n) ins) k acc i=cA b' (i+(St.cT L).length+1)/\St.fO b'=St.fO acc++St.fO L
 | [],acc,i,k,h,hi,ha,hk,hn=>by
   cases k with
   | zero=>omega
   | succ k =>
     rw[yD] at ha ⊢;have h1:aA l i mI=true:=by rw[dV (t:=bS mI) (ts:=[]) ha];exact j9 _
     refine⟨acc,?_,by rw[St.fO];exact(List.append_nil _).symm⟩;rw[ol,h1];show cA acc (i+1)=cA acc (i+((0:Nat):Int)+1);rw[show i+((0:Nat):Int)+1=i+1 by omega]
 | x :: L, acc, i, k, h, hi, ha, hk, hn => by
   cases k with
   | zero=>omega
   | succ k =>
     obtain⟨t,us,h1,h2,h3,_⟩:=(h x (by simp)).1.ex;rw[oO,List.append_assoc] at ha;have ha':=ha;rw[h1] at ha';have h4:aA l i mI=false:=by rw[dV (t:=t) (ts:=us++(St.cT L++[bS mI])) ha'];exact h2
     obtain⟨a1,a2⟩:=At.app ha;have h5:=nx_els (fun y hy=>(h y (List.mem_cons_of_mem _ hy)).1) (ts:=[]) a2;rw[oO,List.length_append] at hn;have R:=(h x (by simp)).2 i _ hi a1 rfl h5;obtain⟨x',r1,r2⟩:=R.go n (by omega);have hk':L.length<k:=by rw[List.length_cons] at hk;omega
     obtain⟨b',g1,g2⟩:=Wu (n:=n) L (acc++[x']) (i+x.tk.length) k (fun y hy=>h y (List.mem_cons_of_mem _ hy)) (by have:=R.lt;omega) a2 hk' (by omega);refine⟨b',?_,?_⟩;rw[ol,h4,r1];show ol s l (iZ s l (gM s l ins n) ins) k (acc++[x']) (i+x.tk.length)=_;rw[g1,oO,List.length_append,show i+((x.tk.length+(St.cT L).length:Nat):Int)+1=i+x.tk.length+(St.cT L).length+1 by omega];rw[g2,Qm,zX,zX,r2,St.fO,List.append_assoc];rfl
theorem vE{ins:Bool}{b:List St}(h:∀ x∈b,Nu x/\SG s l ins x){i:Int}(hi:0<=i)(ha:At l i (jJ (St.cT b))):RdB s l ins b i (i+(St.cT b).length+2):=by
 have ha2:At l (i+1) (St.cT b++[bS mI]):=ha.2;have hle:=At.le ha (List.cons_ne_nil _ _);have bE:(jJ (St.cT b)).length=(St.cT b).length+2:=by unfold jJ;simp
 rw[bE] at hle;have hb:=Ql (L:=b) fun x hx=>by
  obtain⟨t,us,h1,_⟩:=(h x hx).1.ex;rw[h1];exact List.cons_ne_nil _ _
 refine⟨by omega,by omega,fun n hn=>?_⟩;cases n with
 | zero=>omega
 | succ n =>
   have h1:aA l i pX=true:=by rw[dV ha];exact j9 _
   obtain⟨b',g1,g2⟩:=Wu (n:=n) b [] (i+1) (l.length+1) h (by omega) ha2 (by omega) (by omega);refine⟨b',?_,?_⟩;show t6 s l (iZ s l (gM s l ins n) ins) i=_;rw[t6,h1];show ol s l (iZ s l (gM s l ins n) ins) (l.length+1) [] (i+1)=_;rw[g1,show i+1+((St.cT b).length:Int)+1=i+(St.cT b).length+2 by omega];rw[g2,St.fO];rfl
theorem Cq{i:Int}(h:(aM l i).kind=1)(x:ByteArray):aA l i x=false:=mO x h (by decide) (by decide)
theorem zY{i:Int}{t:ByteArray}{ts:List Tok}(ha:At l i (jq t::ts)):eY l i=true/\(aM l i).text=t/\(aM l i).kind=1:=by
 obtain⟨⟨h1,h2,h3,_⟩,_⟩:=ha;refine⟨?_,h3,h2⟩;unfold eY;rw[decide_eq_true h1,decide_eq_true (p:=(aM l i).kind=1) h2];rfl
theorem Wv{bl:oH}{line q:Int}{e:Ex}{b':List St}{q2:Int}(h:bl q=cA b' q2):pE l bl line (cA e q)=bif aA l q2 mH then(bif (bl (q2+1)).die then(bl (q2+1)).to pS else cA (St.mk 3 line eS [] e b' (bl (q2+1)).v) (bl (q2+1)).i) else cA (St.mk 3 line eS [] e b' []) q2:=by
 have e1:(cA e q).i=q:=rfl;have e2:(cA e q).v=e:=rfl;have e3:(cA e q).die=false:=rfl;unfold pE;rw[e3,e1,e2,h];rfl
theorem Ww{bl:oH}{k line q:Int}{t:ByteArray}{e:Ex}{b':List St}{q2:Int}(h:bl q=cA b' q2):oh bl k line t (cA e q)=cA (St.mk k line t [] e b' []) q2:=by
 have e1:(cA e q).i=q:=rfl;have e2:(cA e q).v=e:=rfl;have e3:(cA e q).die=false:=rfl;unfold oh;rw[e3,e1,e2,h];rfl
theorem st_go(ins:Bool)(x:St)(hf:x.fa ins false=true):SG s l ins x:=by
 have hd:∀{ins:Bool}{b:List St},(∀ x∈b,x.fa ins false=true/\SG s l ins x)->∀ x∈b,Nu x/\SG s l ins x:=fun h x hx=>⟨Gl (h x hx).1,(h x hx).2⟩;refine Gc (M:=fun ins x=>SG s l ins x) ?_ ?_ ?_ ?_ ?_ ?_ x.cr ins x (Nat.le_refl _) hf;intro ins line t e ht he i j hi ha hj _;have hle:=At.le ha (by rw[Ge];exact List.cons_ne_nil _ _);rw[Ge] at ha hj hle;rw[List.length_cons,List.length_cons,List.length_append,List.length_singleton] at hj hle;refine⟨by omega,by omega,fun n hn=>?_⟩;obtain⟨h1,h2,h3⟩:=zY ha;have h4:aA l (i+1) yd=true:=by rw[dV (t:=bS yd) (ts:=e.tk 1++[bS kX]) ha.2];exact j9 _
 have h5:=Cp (s:=s) he (by omega) ha.2.2;refine⟨.mk 1 (fG s l i) t [] e [] [],?_,by rw[St.un,St.un]⟩;unfold iZ;rw[Cq h3,Cq h3,Cq h3,Cq h3,Cq h3,Bool.and_false,h1,h4,h5,h2];show cA _ (i+1+1+(e.tk 1).length+1)=_;rw[show i+1+1+((e.tk 1).length:Int)+1=j by omega];rfl;intro ins line e he i j hi ha hj _;have hle:=At.le ha (by rw[Gf];exact List.cons_ne_nil _ _);rw[Gf] at ha hj hle;rw[List.length_cons,List.length_append,List.length_singleton] at hj hle;refine⟨by omega,by omega,fun n hn=>?_⟩;have h1:aA l i oG=true:=by rw[dV ha];exact sM _
 have h5:=Cp (s:=s) he (by omega) ha.2;refine⟨.mk 2 (fG s l i) eS [] e [] [],?_,by rw[St.un,St.un]⟩;unfold iZ;rw[h1,h5];show cA _ (i+1+(e.tk 1).length+1)=_;rw[show i+1+((e.tk 1).length:Int)+1=j by omega];rfl;intro ins line e b c he hb hc i j hi ha hj hels;have hle:=At.le ha (by rw[Kf];exact List.cons_ne_nil _ _);rw[Kf] at ha hj hle;have bE:(jJ (St.cT b)).length=(St.cT b).length+2:=by unfold jJ;simp
 rw[List.length_cons,List.length_append,List.length_append,bE] at hj hle;refine⟨by omega,by omega,fun n hn=>?_⟩;have h1:aA l i vk=true:=by rw[dV ha];exact sM _
 have ha1:At l (i+1) (e.tk 1++bS pX::((St.cT b++[bS mI])++Ie c)):=ha.2;obtain⟨h2,h3,_⟩:=Kg (s:=s) he (by omega) ha1 (by decide) (by decide) (by decide);obtain⟨_,a2⟩:=At.app ha.2;obtain⟨a3,a4⟩:=At.app a2;have RB:=vE (s:=s) (hd hb) (by omega) a3;obtain⟨b',g1,g2⟩:=RB.go n (by omega);rw[bE] at a4;have e0:i+1+((e.tk 1).length:Int)+((St.cT b).length:Int)+2=i+1+(e.tk 1).length+(((St.cT b).length+2:Nat):Int):=by omega
 by_cases hc0:c=[];subst hc0;have hj2:j=i+1+(e.tk 1).length+(St.cT b).length+2:=by
  have:(Ie []).length=0:=rfl;omega
 refine⟨.mk 3 (fG s l i) eS [] e b' [],?_,by rw[St.un,St.un,g2]⟩;unfold iZ;rw[ic h1 (y:=oG) (by decide),h1,h2];show pE l (gM s l ins n) (fG s l i) (cA e (i+1+(e.tk 1).length))=_;rw[Wv g1,<-hj2,hels];rfl;have hk:Ie c=ia mH::jJ (St.cT c):=by
  unfold Ie;rw[decide_eq_false (fun h=>hc0 (List.eq_nil_of_length_eq_zero h))];rfl
 rw[hk] at a4 hj hle;have ZL:(jJ (St.cT c)).length=(St.cT c).length+2:=by unfold jJ;simp
 rw[List.length_cons,ZL] at hj hle;have h6:aA l (i+1+(e.tk 1).length+(((St.cT b).length+2:Nat):Int)) mH=true:=by rw[dV a4];exact sM _
 have RC:=vE (s:=s) (hd hc) (by omega) a4.2;obtain⟨c',k1,k2⟩:=RC.go n (by omega);refine⟨.mk 3 (fG s l i) eS [] e b' c',?_,by rw[St.un,St.un,g2,k2]⟩;unfold iZ;rw[ic h1 (y:=oG) (by decide),h1,h2];show pE l (gM s l ins n) (fG s l i) (cA e (i+1+(e.tk 1).length))=_;rw[Wv g1,e0,h6,k1];show cA _ (i+1+(e.tk 1).length+(((St.cT b).length+2:Nat):Int)+1+(St.cT c).length+2)=_;rw[show i+1+((e.tk 1).length:Int)+(((St.cT b).length+2:Nat):Int)+1+((St.cT c).length:Int)+2=j by omega];rfl
 . intro ins line e b he hb i j hi ha hj _;have hle:=At.le ha (by rw[Gi];exact List.cons_ne_nil _ _);rw[Gi] at ha hj hle;have bE:(jJ (St.cT b)).length=(St.cT b).length+2:=by unfold jJ;simp
   rw[List.length_cons,List.length_append,bE] at hj hle;refine⟨by omega,by omega,fun n hn=>?_⟩;have h1:aA l i rD=true:=by rw[dV ha];exact sM _
   have ha1:At l (i+1) (e.tk 1++bS pX::(St.cT b++[bS mI])):=ha.2;obtain⟨h2,h3,_⟩:=Kg (s:=s) he (by omega) ha1 (by decide) (by decide) (by decide);obtain⟨_,a2⟩:=At.app ha.2;have RB:=vE (s:=s) (hd hb) (by omega) a2;obtain⟨b',g1,g2⟩:=RB.go n (by omega);refine⟨.mk 4 (fG s l i) eS [] e b' [],?_,by rw[St.un,St.un,g2]⟩;unfold iZ;rw[ic h1 (y:=oG) (by decide),ic h1 (y:=vk) (by decide),h1,h2];show oh (gM s l ins n) 4 (fG s l i) eS (cA e (i+1+(e.tk 1).length))=_;rw[Ww g1];rw[show i+1+((e.tk 1).length:Int)+((St.cT b).length:Int)+2=j by omega]
   first|done|rfl
 . intro ins line t e b ht he hb i j hi ha hj _;have hle:=At.le ha (by rw[Gj];exact List.cons_ne_nil _ _);rw[Gj] at ha hj hle;have bE:(jJ (St.cT b)).length=(St.cT b).length+2:=by unfold jJ;simp
   rw[List.length_cons,List.length_cons,List.length_cons,List.length_append,bE] at hj hle;refine⟨by omega,by omega,fun n hn=>?_⟩;have h1:aA l i sw=true:=by rw[dV ha];exact sM _
   obtain⟨m1,m2,_⟩:=zY (t:=t) (ts:=ia wm::(e.tk 1++jJ (St.cT b))) ha.2;have h4:aA l (i+1+1) wm=true:=by rw[dV (t:=ia wm) (ts:=e.tk 1++jJ (St.cT b)) ha.2.2];exact sM _
   have ha3:At l (i+1+1+1) (e.tk 1++jJ (St.cT b)):=ha.2.2.2;have ha1:At l (i+1+1+1) (e.tk 1++bS pX::(St.cT b++[bS mI])):=ha3;obtain⟨h2,h3,_⟩:=Kg (s:=s) he (by omega) ha1 (by decide) (by decide) (by decide);obtain⟨_,a2⟩:=At.app ha3;have RB:=vE (s:=s) (hd hb) (by omega) a2;obtain⟨b',g1,g2⟩:=RB.go n (by omega);refine⟨.mk 5 (fG s l i) t [] e b' [],?_,by rw[St.un,St.un,g2]⟩;unfold iZ;rw[ic h1 (y:=oG) (by decide),ic h1 (y:=vk) (by decide),ic h1 (y:=rD) (by decide),h1,m1,m2,h4,h2];show oh (gM s l ins n) 5 (fG s l i) t (cA e (i+1+1+1+(e.tk 1).length))=_;rw[Ww g1];rw[show i+1+1+1+((e.tk 1).length:Int)+((St.cT b).length:Int)+2=j by omega]
   first|done|rfl
 intro line e he i j hi ha hj _;have hle:=At.le ha (by rw[Gg];exact List.cons_ne_nil _ _);rw[Gg] at ha hj hle;rw[List.length_cons,List.length_append,List.length_singleton] at hj hle;refine⟨by omega,by omega,fun n hn=>?_⟩;have h1:aA l i tP=true:=by rw[dV ha];exact sM _
 have h5:=Cp (s:=s) he (by omega) ha.2;refine⟨.mk 6 (fG s l i) eS [] e [] [],?_,by rw[St.un,St.un]⟩;unfold iZ;rw[ic h1 (y:=oG) (by decide),ic h1 (y:=vk) (by decide),ic h1 (y:=rD) (by decide),ic h1 (y:=sw) (by decide),h1,h5];show cA _ (i+1+(e.tk 1).length+1)=_;rw[show i+1+((e.tk 1).length:Int)+1=j by omega];rfl
end
theorem hasS_of{l:List ByteArray}{x:ByteArray}(h:x ∉ l):eF l x=false:=by
 cases hh:eF l x with
 | false=>rfl
 | true=>exact absurd (zS hh) h
section
variable {s:ByteArray} {l:List Tok}
theorem SR{xs:List ByteArray}{i:Int}{t:ByteArray}{ts:List Tok}(ha:At l i (jq t::ts))(h:t ∉ xs):lH s l xs i=none:=by
 obtain⟨h1,h2,_⟩:=zY ha;unfold lH;rw[h1,h2,hasS_of h];rfl
theorem pa_go:∀(ps acc:List ByteArray)(i:Int)(k:Nat),ps≠[]->At l i (iU (ps.map fun p=>[jq p])++[bS dx])->(acc++ps).Nodup->ps.length<=k->mr s l k acc i=cA (acc++ps) (i+(iU (ps.map fun p=>[jq p])).length+1)
 | [],_,_,_,h,_,_,_=>absurd rfl h
 | [p],acc,i,k,_,ha,hn,hk=>by
   cases k with
   | zero=>simp at hk
   | succ k =>
     have ha:At l i (jq p::[bS dx]):=ha;have hp:p ∉ acc:=fun hm=>by
      rw[List.nodup_append] at hn;exact hn.2.2 p hm p (by simp) rfl
     obtain⟨_,h2,_⟩:=zY ha;have h3:aA l (i+1) dx=true:=by rw[dV (t:=bS dx) (ts:=[]) ha.2];exact j9 _
     rw[mr,SR ha hp,h2,h3];show cA (acc++[p]) (i+1+1)=cA (acc++[p]) (i+((1:Nat):Int)+1);rfl
 | p :: q :: ps, acc, i, k, _, ha, hn, hk => by
   cases k with
   | zero=>simp at hk
   | succ k =>
     have e1:iU ((p::q::ps).map fun p=>[jq p])=jq p::bS jL::iU ((q::ps).map fun p=>[jq p]):=rfl;rw[e1] at ha;have hp:p ∉ acc:=fun hm=>by
      rw[List.nodup_append] at hn;exact hn.2.2 p hm p (by simp) rfl
     obtain⟨_,h2,_⟩:=zY (t:=p) (ts:=bS jL::iU ((q::ps).map fun p=>[jq p])++[bS dx]) ha;have h3:aA l (i+1) jL=true:=by rw[dV (t:=bS jL) (ts:=iU ((q::ps).map fun p=>[jq p])++[bS dx]) ha.2];exact j9 _
     have ih:=pa_go (q::ps) (acc++[p]) (i+1+1) k (by simp) ha.2.2 (by rw[List.append_assoc];exact hn) (by simp only[List.length_cons] at hk ⊢;omega);rw[mr,SR (t:=p) (ts:=bS jL::iU ((q::ps).map fun p=>[jq p])++[bS dx]) ha hp,h2,ic h3 (y:=dx) (by decide),h3];show mr s l k (acc++[p]) (i+1+1)=_;rw[ih,e1,List.append_assoc,List.length_cons,List.length_cons,show i+1+1+((iU ((q::ps).map fun p=>[jq p])).length:Int)+1=i+(((iU ((q::ps).map fun p=>[jq p])).length+1+1:Nat):Int)+1 by omega];rfl
theorem Nv:∀ ps:List ByteArray,ps.length<=(iU (ps.map fun p=>[jq p])).length
 | []=>Nat.le_refl _
 | [p]=>Nat.le_refl _
 | p::q::ps=>by
   have ih:=Nv (q::ps);show (q::ps).length+1<=(iU ((q::ps).map fun p=>[jq p])).length+1+1;omega
theorem df_go{ns : List ByteArray}{line ln : Int}{t : ByteArray}{ps : List ByteArray}{b : List St}(hb : St.gE b true false = true)(hp : ps.Nodup)(ht : t ∉ ns){i : Int}(hi : 0 ≤ i)(ha : At l i (St.mk 7 ln t ps iY b []).tk) :
 ∃ x',iM s l (bT s l) ns line (i+1)=cA x' (i+(St.mk 7 ln t ps iY b []).tk.length)/\x'.un=(St.mk 7 ln t ps iY b []).un:=by
 have hle:=At.le ha (by rw[yE];exact List.cons_ne_nil _ _);rw[yE] at ha hle ⊢;have bE:(jJ (St.cT b)).length=(St.cT b).length+2:=by unfold jJ;simp
 have hz:(ia qk::jq t::bS eH::(iU (ps.map fun p=>[jq p])++(bS dx::jJ (St.cT b)))).length=(iU (ps.map fun p=>[jq p])).length+(St.cT b).length+6:=by
  rw[List.length_cons,List.length_cons,List.length_cons,List.length_append,List.length_cons,bE];omega
 rw[hz] at hle ⊢;have a1:At l (i+1) (jq t::bS eH::(iU (ps.map fun p=>[jq p])++(bS dx::jJ (St.cT b)))):=ha.2;obtain⟨_,h2,_⟩:=zY a1;have a2:=a1.2;have h3:aA l (i+1+1) eH=true:=by rw[dV a2];exact j9 _
 have a3:At l (i+1+1+1) (iU (ps.map fun p=>[jq p])++(bS dx::jJ (St.cT b))):=a2.2;have a3':At l (i+1+1+1) ((iU (ps.map fun p=>[jq p])++[bS dx])++jJ (St.cT b)):=by rw[List.append_assoc];exact a3
 obtain⟨a4,a5⟩:=At.app a3';rw[List.length_append,List.length_singleton] at a5;have hd:∀ x∈b,Nu x/\SG s l true x:=fun x hx=>⟨Gl (o7 hb hx),st_go true x (o7 hb hx)⟩;have RB:=vE hd (i:=i+1+1+1+(((iU (ps.map fun p=>[jq p])).length+1:Nat):Int)) (by omega) a5;obtain⟨b',g1,g2⟩:=RB.go (l.length+1) (by omega);have hq:(bif aA l (i+1+1+1) dx then cA [] (i+1+1+1+1) else mr s l (l.length+1) [] (i+1+1+1))=cA ps (i+1+1+1+(((iU (ps.map fun p=>[jq p])).length+1:Nat):Int)):=by
  by_cases hps:ps=[];subst hps;have:aA l (i+1+1+1) dx=true:=by rw[dV (t:=bS dx) (ts:=jJ (St.cT b)) a3];exact j9 _
  rw[this];rfl;have h5:aA l (i+1+1+1) dx=false:=by
   cases ps with
   | nil=>exact absurd rfl hps
   | cons p ps =>
     have:∃ ts,iU ((p::ps).map fun p=>[jq p])=jq p::ts:=by
      cases ps with
      | nil=>exact⟨_,rfl⟩
      | cons q ps=>exact⟨_,rfl⟩
     obtain⟨ts,h6⟩:=this;rw[h6] at a3;rw[dV (t:=jq p) (ts:=ts++(bS dx::jJ (St.cT b))) a3];exact wF (by show (1:Int)≠5;decide) (by show (1:Int)≠2;decide) _
  have hpl:=Nv ps;rw[h5];show mr s l (l.length+1) [] (i+1+1+1)=_;rw[pa_go ps [] _ _ hps a4 hp (by omega),List.nil_append,show i+1+1+1+((iU (ps.map fun p=>[jq p])).length:Int)+1=i+1+1+1+(((iU (ps.map fun p=>[jq p])).length+1:Nat):Int) by omega]
 refine⟨.mk 7 line t ps iY b' [],?_,by rw[St.un,St.un,g2]⟩;unfold iM;rw[SR a1 ht];show (bif aA l (i+1+1) eH then l6 (bT s l) line (aM l (i+1)).text (bif aA l (i+1+1+1) dx then cA [] (i+1+1+1+1) else mr s l (l.length+1) [] (i+1+1+1)) else _)=_;rw[h3,hq,h2];have key:∀(q q2:Int),bT s l q=cA b' q2->l6 (bT s l) line t (cA ps q)=cA (St.mk 7 line t ps iY b' []) q2:=fun q q2 h=>by
  have e1:(cA ps q).i=q:=rfl;have e2:(cA ps q).v=ps:=rfl;have e3:(cA ps q).die=false:=rfl;unfold l6;rw[e3,e1,e2,h];rfl
 show l6 (bT s l) line t (cA ps _)=_;rw[key _ _ g1,show i+1+1+1+(((iU (ps.map fun p=>[jq p])).length+1:Nat):Int)+((St.cT b).length:Int)+2=i+(((iU (ps.map fun p=>[jq p])).length+(St.cT b).length+6:Nat):Int) by omega]
theorem Nw{x:St}(h:x.fa false true=true):∃ t ts,x.tk=t::ts/\tD t mH=false:=by
 rcases Nr h with h|⟨line,t,ps,b,rfl,_⟩;obtain⟨t,ts,h1,_,h2,_⟩:=(Gl h).ex;exact⟨t,ts,h1,h2⟩;exact⟨_,_,yE line t ps b,by decide⟩
theorem nx_end{L:List St}(h:St.gE L false true=true){i:Int}(ha:At l i (St.cT L))(hi:i+(St.cT L).length=l.length):aA l i mH=false:=by
 cases L with
 | nil =>
   rw[yD] at hi;have:i=l.length:=by simpa using hi
   unfold aA;rw[decide_eq_false (by omega)];rfl
 | cons x L =>
   obtain⟨t,us,h1,h2⟩:=Nw (o7 h (List.mem_cons_self (a:=x) (l:=L)));rw[oO,h1] at ha;rw[dV (t:=t) (ts:=us++St.cT L) ha];exact h2
theorem SS : ∀(L acc : List St)(ns : List ByteArray)(i : Int)(k : Nat), St.gE L false true = true → (∀ x ∈ L, x.params.Nodup) → (ns ++ eO L).Nodup → 0 ≤ i → At l i (St.cT L) → i + (St.cT L).length = l.length → L.length < k →
 ∃ L' ns',mK s l k acc ns i=cA (L',ns') l.length/\St.fO L'=St.fO acc++St.fO L
 | [],acc,ns,i,k,_,_,_,hi,ha,hj,hk=>by
   cases k with
   | zero=>omega
   | succ k =>
     rw[yD] at hj;have hj:i=l.length:=by simpa using hj
     refine⟨acc,ns,?_,by rw[St.fO];exact(List.append_nil _).symm⟩;rw[mK,decide_eq_false (by omega),hj];rfl
 | x :: L, acc, ns, i, k, hf, hp, hn, hi, ha, hj, hk => by
   cases k with
   | zero=>omega
   | succ k =>
     have hk':L.length<k:=by rw[List.length_cons] at hk;omega
     have hx:=o7 hf (List.mem_cons_self (a:=x) (l:=L));have Nl:St.gE L false true=true:=by rw[St.nB,Bool.and_eq_true] at hf;exact hf.2
     have hpL:∀ y∈L,y.params.Nodup:=fun y hy=>hp y (List.mem_cons_of_mem _ hy);rw[oO] at ha hj;rw[List.length_append] at hj;obtain⟨a1,a2⟩:=At.app ha;have hne:x.tk≠[]:=by
      obtain⟨t,us,h1,_⟩:=Nw hx;rw[h1];exact List.cons_ne_nil _ _
     have hpos:=List.length_pos_iff.2 hne;have rQ:=nx_end Nl a2 (by omega);have h0:decide (i<(l.length:Int))=true:=decide_eq_true (by omega);have hun:∀(x':St)(ns':List ByteArray),x'.un=x.un->(∃ L' Ny,mK s l k (acc++[x']) ns' (i+x.tk.length)=cA (L',Ny) l.length/\St.fO L'=St.fO (acc++[x'])++St.fO L)->∃ L' Ny,mK s l k (acc++[x']) ns' (i+x.tk.length)=cA (L',Ny) l.length/\St.fO L'=St.fO acc++St.fO (x::L):=fun x' ns' hu h=>by
      obtain⟨L',Ny,g1,g2⟩:=h;refine⟨L',Ny,g1,?_⟩;rw[g2,Qm,zX,zX,hu,St.fO,List.append_assoc];rfl
     rcases Nr hx with hx2|⟨line,t,ps,b,rfl,ht,_,hb⟩;have hk7:x.k≠7:=by
      intro h7;cases x with
      | mk k' line name ps e b c =>
        have h7:k'=7:=h7;rcases ED hx2 with g|g|g|g|g|g|g;omega;omega;omega;omega;omega;omega;cases g.2.1
     obtain⟨t,us,h1,_,_,h4⟩:=(Gl hx2).ex;have a1':=a1;rw[h1] at a1';have h5:aA l i qk=false:=by rw[dV a1'];exact h4
     have R:=st_go (s:=s) false x hx2 i _ hi a1 rfl rQ;obtain⟨x',r1,r2⟩:=R.go (l.length+1) (by have:=R.le;omega);have e1:sT s l i=cA x' (i+x.tk.length):=r1;rw[mK,h0,h5,e1];refine hun x' ns r2 (SS L (acc++[x']) ns _ k Nl hpL ?_ (by omega) a2 (by omega) hk');have:eO (x::L)=eO L:=by unfold eO;rw[List.filter_cons,decide_eq_false hk7];rfl
     rw[this] at hn;exact hn;have hd:eO (.mk 7 line t ps iY b []::L)=t::eO L:=rfl;rw[hd] at hn;have htn:t ∉ ns:=fun hm=>by
      rw[List.nodup_append] at hn;exact hn.2.2 t hm t (by simp) rfl
     have h5:aA l i qk=true:=by
      have:=a1;rw[yE] at this;rw[dV this];exact sM _
     have h6:(aM l (i+1)).text=t:=by
      have:=a1;rw[yE] at this;exact(zY this.2).2.1
     obtain⟨x',r1,r2⟩:=df_go (s:=s) (ns:=ns) (line:=fG s l i) hb (hp _ (List.mem_cons_self ..)) htn hi a1;rw[mK,h0,h5,r1,h6];refine hun x' (ns++[t]) r2 (SS L (acc++[x']) (ns++[t]) _ k Nl hpL ?_ (by omega) a2 (by omega) hk');rw[List.append_assoc];exact hn
end
theorem paS_ok{s:ByteArray}(hs:s.size<=20000)(h:(iC s).2.1=0):Qj s (iC s).1:=by
 have ht:=FZ s (by omega);unfold iC at h ⊢;cases hc:decide ((fD s).2.1=0)&&jS (fD s).1 with
 | true=>rw[hc] at h;cases h
 | false =>
   rw[hc] at h;simp only[cond_false] at h ⊢;have ho:jS (fD s).1=false:=by rw[decide_eq_true h,Bool.true_and] at hc;exact hc
   unfold fD at h ho ⊢;by_cases h1:(dZ s).2.1=0
   . rw[if_pos h1] at h ho ⊢;cases hd:(dr s (tks s)).die with
     | true =>
       rw[hd] at h;exact absurd h (pgA ht _ _ _ _ hd).2
     | false =>
       rw[hd] at h ho;simp only[cond_false] at h ho ⊢;by_cases hi:(dr s (tks s)).i<(tks s).length;rw[decide_eq_true hi] at h;cases h;rw[decide_eq_false hi] at ho ⊢;exact⟨h1,hd,hi,rfl,ho⟩
   rw[if_neg h1] at h;exact absurd h h1
theorem Ig{s:ByteArray}{L:List St}(h:Qj s L):oJ L=0/\PgI L (eO L):=by
 have hL:=lx_spl h.spl;rw[<-Wf h.spl] at hL;have I:=SQ (lx_ok hL) (s:=s) ((tks s).length+1) [] [] 0 ⟨St.j8 _ _,rfl,rfl,List.nodup_nil⟩ h.die;have hv:(mK s (tks s) ((tks s).length+1) [] [] 0).v.1=L:=h.v;rw[hv] at I;have I2:PgI L (eO L):=⟨I.fa,I.dp,rfl,by rw[I.df];exact I.nd⟩;refine⟨?_,I2⟩;unfold oJ;rw[I2.fa,I2.dp,h.ov,show lf (eO L)=false by unfold lf;rw[decide_eq_true I2.nd];rfl];rfl
mutual
theorem lns_un:∀(x:St)(ind:ByteArray),x.un.rH ind=x.rH ind
 | .mk k line t ps e b c,ind=>by
   have hl:(St.fO c).length=c.length:=by rw[St.C6,List.length_map]
   rw[St.un,St.rH,St.rH,yF b,yF c,hl]
theorem yF:∀(l:List St)(ind:ByteArray),St.cH (St.fO l) ind=St.cH l ind
 | [],ind=>by rw[St.fO]
 | x::l,ind=>by rw[St.fO,St.qJ,St.qJ,lns_un x,yF l]
end
theorem txtL_un{L M:List St}(h:St.fO M=St.fO L):fF M=fF L:=by
 unfold fF;rw[<-yF M,<-yF L,h]
theorem Wx{s:ByteArray}{L:List St}(h:Qj s L)(hz:(fF L).size<=20000):∃ M,Qj (fF L) M/\St.fO M=St.fO L/\fF M=fF L:=by
 obtain⟨_,I⟩:=Ig h;obtain⟨q,h1,h2⟩:=lx_prog I.fa;have h3:=spl_lx hz h2;have h4:(dZ (fF L)).2.1=0:=by rw[h3]
 have h5:tks (fF L)=q:=by rw[Wf h4,h3]
 have ha:At q 0 (St.cT L):=at_of (St.cT L) [] q h1;have hl:=h1.len;have bE:=Ql (L:=L) fun x hx=>by
  obtain⟨t,us,g,_⟩:=Nw (o7 I.fa hx);rw[g];exact List.cons_ne_nil _ _
 have hps:∀ x∈L,x.params.Nodup:=fun x hx=>by
  have:=I.dp;unfold zQ at this;rw[List.any_eq_false] at this;have:=this x hx;unfold lf at this;simpa using this
 obtain⟨M,ns',g1,g2⟩:=SS (s:=fF L) L [] [] 0 (q.length+1) I.fa hps I.nd (Int.le_refl _) ha (by omega) (by omega);have g3:dr (fF L) (tks (fF L))=cA (M,ns') q.length:=by rw[h5];exact g1
 have g4:St.fO M=St.fO L:=by rw[g2,St.fO];rfl
 refine⟨M,⟨h4,by rw[g3];rfl,?_,by rw[g3];rfl,by rw[over_un g4];exact h.ov⟩,g4,txtL_un g4⟩;rw[g3,h5];show ¬(q.length:Int)<q.length;omega
theorem Wy{s:ByteArray}{L:List St}(h:Qj s L):gU L=bif decide (20000<(fF L).size) then(eS,4) else(fF L,0):=by
 unfold gU;rw[(Ig h).1];rfl
end Go.Proofs.YtnbjjocbncblaaaGreatDoor
