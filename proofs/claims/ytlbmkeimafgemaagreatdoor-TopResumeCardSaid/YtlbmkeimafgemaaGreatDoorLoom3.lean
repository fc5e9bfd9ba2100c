/- The walk by values, third part: drawn orders, the walk through a text, functions. It holds for every program and every world, under the hypotheses that each theorem names. -/
import Derived.Test.YtlbmkeimafgemaaGreatDoorLoom2
import Derived.Test.YtlbmkeimafgemaaGreatDoorMill1
open List renaming range->abZ,mem_cons_of_mem->ab8,getElem?_eq_getElem->ab9,getElem?_cons_succ->acd,filter_cons_of_pos->ace,getElem?_append_left->ach,getElem?_cons_zero->acj,filter_cons_of_neg->ack,all_eq_true->acn,nil_append->aco,ext_getElem?->acp,getElem?_map->acq,mem_of_getElem?->acw,getElem?_of_mem->acy,map_cons->acA,take_succ_cons->acB,mem_singleton->acC,filter_append->acD,take_add_one->acF,getElem?_inj->acG,append_nil->acI,range_succ->acJ,length->acO
open Array renaming getElem?_eq_getElem->ab0,getElem?_setIfInBounds_ne->ab2,getElem?_eq_none->ab5,getElem?_toList->ab7,getElem?_setIfInBounds_self_of_lt->acg,ext'->acz,replicate->acK
open Nat renaming beq->ab1,le_refl->ab4,beq_eq->ab6,lt_or_ge->acf,ble->aci,le_trans->acr,blt->acs,eq_of_beq_eq_true->acu,blt_eq->acv,lt_trichotomy->acE,zero_add->acN
open Bool renaming and_eq_true->ab3,or_eq_true->acH,not_true->acL,or_false->acM
noncomputable section
namespace Go.aT
open Go.RowKit
open Go.aA (T WF cF slotsOf y5 sW cV abX DrawQ Closed Ready Valid jt kE cY cQ bit eB)
def nR(Γ:bN)(F:Fr)(S:ak)(x:j5):Option (Cd×A×ak) :=
 match guardE F x.guard with
 | some .run=>match rJ Γ F S x.o with|some r=>some (r.cd,r.v,r.st S)|none=>none
 | some .skip=>some (.t,.aJ [],S)
 | some (.cond g)=>match rJ Γ F S x.o with
   | some (.pure c (.p v))=>some (.imp g c,.cond g v,S)
   | _=>none
 | some (.bool _ b want)=>match rJ Γ F S x.o with
   | some (.pure c (.p v))=>some (.imp (b=want) c,.cond (b=want) v,S)
   | _=>none
 | none=>none
section
variable {P:Program} {base nt:Nat} {η:Eta} {Z:Zeta} {S:ak} {w:World} {F:Fr} {a:Act}
theorem FN{Γ:bN}(dm:bp P Γ)(hT:iL P Z){sq:Bool}(R:St base η Z S w)(FR:bq nt η Z F a.tmps){ops:Array Oper}{o:Oper}{x:j5}(ht:pZ P sq nt ops o=some x){c:Cd}{v:A}{S':ak}(e:nR Γ F S x=some (c,v,S'))(hc:c)
 {Fc:Fence} (hF:WF Fc) {rest:Act->World->Prop} {Q:Exit->Act->World->Prop} (hn:U0 base η Z S w v S' o a rest) :
 if Region.wanted o (yielded ops a.tmps) then o.wpIn Fc 0 P a w rest Q else(∀ f,o.about P w a.eval=some f->Fc.fn f)/\rest (a.put o.dst undef) w:=by
 obtain⟨h1,h2,h3,h4⟩:=iE ht;have cond:∀(g:Prop) c1 v1,(Region.wanted o (yielded ops a.tmps)=true↔g)->rJ Γ F S x.o=some (.pure c1 (.p v1))->(g->c1)->v=.cond g v1->S'=S->if Region.wanted o (yielded ops a.tmps) then o.wpIn Fc 0 P a w rest Q else(∀ f,o.about P w a.eval=some f->Fc.fn f)/\rest (a.put o.dst undef) w:=by
  rintro g c1 v1 hw e1 hc1 rfl rfl;by_cases hg:g;rw[if_pos (hw.2 hg)];refine Em dm hT R FR h3 e1 (hc1 hg) Fc hF rest Q ?_;intro u w' aG Z' mv hr;exact hn u w' aG Z' mv ⟨fun _=>hr,fun hh=>absurd hg hh⟩;rw[if_neg (fun hh=>hg (hw.1 hh))];exact⟨fun f _=>hF.fn f,hn undef w η Z (Moves.refl R) ⟨fun hh=>absurd hh hg,fun _=>rfl⟩⟩
 unfold nR at e;split at e;rename_i hg;have:=jI FR h2 hg;rw[if_pos (this.2 trivial)];split at e;rename_i r hr;cases e;exact Em dm hT R FR h3 hr hc Fc hF rest Q hn;cases e;rename_i hg;have:=jI FR h2 hg;rw[if_neg (fun hh=>this.1 hh)];cases e;exact⟨fun f _=>hF.fn f,hn undef w η Z (Moves.refl R) Ht⟩;rename_i g hg;have:=jI FR h2 hg;split at e;rename_i c1 v1 e1;cases e;exact cond g c1 v1 this e1 hc rfl rfl;cases e;rename_i d b want hg;have:=jI FR h2 hg;split at e;rename_i c1 v1 e1;cases e;exact cond (b=want) c1 v1 this e1 hc rfl rfl;cases e;cases e
end
theorem p6{P:Program}{nt:Nat}{Γ:bN}{F:Fr}{S S':ak}{ops:Array Oper}{o:Oper}{x:j5}(ht:pZ P false nt ops o=some x)(hq:cF o.op=false){c:Cd}{v:A}(e:nR Γ F S x=some (c,v,S')):S'=S:=by
 obtain⟨_,_,h3,_⟩:=iE ht;have hx : (∃ q, x.o = .q q) ∨ ∃ neg y, x.o = .BZ neg y := by
  unfold zE at h3;split at h3;rename_i hop;rw[hop] at hq;simp[aA.cF] at hq;split at h3;rename_i k' hk';cases h3;exact .inr (Bc hk');simp only[cond_false,hq] at h3;split at h3;rename_i q _;exact .inl ⟨q,(Option.some.inj h3).symm⟩;cases h3
 rcases hx with ⟨q,hx⟩|⟨neg,y,hx⟩
 rotate_left
 unfold nR at e;rw[hx] at e;split at e;split at e;rename_i r hr;simp only[rJ] at hr;cases hr;cases e;cases e;rfl;split at e;cases e;rfl;cases e;split at e;cases e;rfl;cases e;cases e;unfold nR at e;rw[hx] at e;split at e;split at e;rename_i r hr;simp only[rJ] at hr;split at hr;cases hr;cases e;rfl;cases hr;cases e;cases e;rfl;split at e;cases e;rfl;cases e;split at e;cases e;rfl;cases e;cases e
def tG:O->Bool
 | .q (.load ..)=>true
 | .q (.uh ..)=>true
 | .q _=>false
 | _=>true
theorem YO{F:Fr}{S S2:ak}{q:Q}(h:tG (.q q)=false):qA F S q=qA F S2 q:=by
 cases q<;>first|rfl|cases h
theorem xH{Γ:bN}{F:Fr}{S S2 S':ak}{x:j5}(h:tG x.o=false){c:Cd}{v:A}(e:nR Γ F S x=some (c,v,S')):∃ KH,nR Γ F S2 x=some (c,v,KH)/\KH=S2:=by
 cases hx:x.o with
 | l l=>rw[hx] at h;cases h
 | call f as=>rw[hx] at h;cases h
 | BZ neg y=>rw[hx] at h;cases h
 | q q =>
   rw[hx] at h;have hqa:=YO (F:=F) (S:=S) (S2:=S2) h;unfold nR at e ⊢;rw[hx] at e ⊢;simp only[rJ] at e ⊢;rw[<-hqa];generalize guardE F x.guard=G at e ⊢;cases hqq:qA F S q with
   | none =>
     rw[hqq] at e;cases G with
     | none=>cases e
     | some G=>cases G<;>first|(cases e;done)|(cases e;exact⟨S2,rfl,rfl⟩)
   | some cv =>
     obtain⟨c1,v1⟩:=cv;rw[hqq] at e;cases G with
     | none=>cases e
     | some G =>
       cases G with
       | run=>cases e;exact⟨S2,rfl,rfl⟩
       | skip=>cases e;exact⟨S2,rfl,rfl⟩
       | cond g=>cases v1<;>first|(cases e;done)|(cases e;exact⟨S2,rfl,rfl⟩)
       | bool d b want=>cases v1<;>first|(cases e;done)|(cases e;exact⟨S2,rfl,rfl⟩)
def nF(F:Fr)(l:List Nat):Fr:=l.foldr (fun s t=>T.put t s (T.get F s)) .leaf
theorem zJ{F:Fr}:∀{l:List Nat}{s:Nat}{x:A},(nF F l).get s=some x->s∈l/\F.get s=some x
 | [],s,x,h=>by simp[nF,T.lP] at h
 | k :: l, s, x, h => by
   show s∈k::l/\_;have h':(T.put (nF F l) k (F.get k)).get s=some x:=h;rw[T.iR] at h';by_cases hs:s=k;subst hs;rw[if_pos rfl] at h';exact⟨by simp,h'⟩;rw[if_neg hs] at h';obtain⟨a,b⟩:=zJ h';exact⟨by simp[a],b⟩
structure nS where
 x:j5
 fr:Fr
 v:A
 loud:Bool
def zK(Γ:bN)(ops:Array Oper):List Oper->List j5->Fr->ak->Option (Cd×List nS×List ak×Fr×ak)
 | o :: l, x :: xs, F, S => match nR Γ (nF F (slotsOf ops o)) S x with
   | some (c,v,S')=>match zK Γ ops l xs (lq F x.dst v) S' with
     | some (c',af,Ss,F',yO)=>some (.and c c',⟨x,nF F (slotsOf ops o),v,cF o.op⟩::af,(bif cF o.op then S'::Ss else Ss),F',yO)
     | none=>none
   | none=>none
 | [],[],F,S=>some (.t,[],[],F,S)
 | _,_,_,_=>none
def KI(Γ:bN)(Ss:List ak)(r:nS)(m:Nat):Option Cd :=
 match Ss[m]? with
 | some S=>match nR Γ r.fr S r.x with|some (c,v,_)=>some (.and c (.p (v=r.v)))|none=>none
 | none=>none
def Bd(Γ:bN)(Ss:List ak)(r:nS)(lo:Nat):Nat->Option Cd
 | 0=>some .t
 | k+1=>match Bd Γ Ss r lo k with
   | some c=>bif acs k lo then some c else match KI Γ Ss r k with|some c'=>some (.and c c')|none=>none
   | none=>none
def KJ(Γ:bN)(ops:Array Oper)(Ss:List ak)(r:nS)(i:Nat):Option Cd :=
 bif r.loud||!(tG r.x.o) then some .t else
  (let p:=cV ops i
   bif ab1 p.1 p.2 then some .t else Bd Γ Ss r p.1 (p.2+1))
def Be(Γ:bN)(ops:Array Oper)(Ss:List ak):List nS->Nat->Option Cd
 | [],_=>some .t
 | r::l,i=>match KJ Γ ops Ss r i,Be Γ ops Ss l (i+1) with|some c,some c'=>some (.and c c')|_,_=>none
def KL(Γ:bN)(ops:Array Oper)(xs:List j5)(F:Fr)(S:ak)(k:Fr->ak->Prop):Prop :=
 match y5 ops with
 | true=>match zK Γ ops ops.toList xs F S with
   | some (c,af,Ss,F',S')=>match Be Γ ops (S::Ss) af 0 with
     | some c'=>gM (Cd.and c c').list (k F' S')
     | none=>False
   | none=>False
 | false=>False
theorem zL{Γ:bN}{Ss:List ak}{r:nS}{lo:Nat}:∀{k:Nat}{c:Cd},Bd Γ Ss r lo k=some c->c->∀ m,lo<=m->m<k->∃ c',KI Γ Ss r m=some c'/\c'
 | 0,_,_,_,m,_,h=>by omega
 | k + 1, c, e, hc, m, hlo, hm => by
   simp only[Bd] at e;split at e
   . rename_i c1 h1;cases hb:acs k lo with
     | true =>
       rw[hb] at e;have hkl:k<lo:=by simpa[acv] using hb
       omega
     | false =>
       rw[hb] at e;simp only[cond_false] at e;split at e;rename_i c2 h2;cases e;by_cases hmk:m=k;subst hmk;exact⟨c2,h2,hc.2⟩;exact zL h1 hc.1 m hlo (by omega);cases e
   cases e
theorem zM{Γ:bN}{ops:Array Oper}{Ss:List ak}:∀{af:List nS}{k:Nat}{c:Cd},Be Γ ops Ss af k=some c->c->∀ i r,af[i]? = some r->∃ c',KJ Γ ops Ss r (k+i)=some c'/\c'
 | [],_,_,_,_,i,r,h=>by simp at h
 | r0::l,k,c,e,hc,i,r,h=>by
   simp only[Be] at e;split at e
   . rename_i c1 c2 h1 h2;cases e;cases i with
     | zero=>simp at h;subst h;exact⟨c1,h1,hc.1⟩
     | succ i =>
       obtain⟨c',a,b⟩:=zM h2 hc.2 i r (by simpa using h);exact⟨c',by rw[<-a];congr 1;omega,b⟩
   cases e
theorem B0{P : Program}{nt : Nat}{Γ : bN}{ops : Array Oper} : ∀{l : List Oper}{xs : List j5}{F F' : Fr}{S S' : ak}{c : Cd}{af : List nS}{Ss : List ak}, jH P false nt ops l = some xs → zK Γ ops l xs F S = some (c, af, Ss, F', S') → c →
 ∃(kq:Nat->Fr)(Hh:Nat->ak),kq 0=F/\Hh 0=S/\kq l.length=F'/\Hh l.length=S'/\af.length=l.length/\(∀ j,j<=l.length->(S::Ss)[aA.lc l j]? = some (Hh j))/\
  (∀ j o,l[j]? = some o->∃ r c',af[j]? = some r/\pZ P false nt ops o=some r.x/\r.loud=cF o.op/\r.fr=nF (kq j) (slotsOf ops o)/\nR Γ r.fr (Hh j) r.x=some (c',r.v,Hh (j+1))/\c'/\kq (j+1)=lq (kq j) o.dst r.v)
 | [],xs,F,F',S,S',c,af,Ss,ht,e,hc=>by
   simp only[jH] at ht;cases ht;simp only[zK] at e;cases e;exact⟨fun _=>F,fun _=>S,rfl,rfl,rfl,rfl,rfl,fun j hj=>by simp at hj;subst hj;rfl,fun j o hj=>by simp at hj⟩
 | o :: l, xs, F, F', S, S', c, af, Ss, ht, e, hc => by
   simp only[jH] at ht;split at ht;rename_i x xs' hx hxs;cases ht;simp only[zK] at e;split at e;rename_i c1 v S1 U2;split at e;rename_i c2 rows1 Ss1 F2 S2 hgo;cases e;obtain⟨kq,Hh,f0,g0,f1,g1,hlen,hidx,hrow⟩:=B0 hxs hgo hc.2;have jk:=(iE hx).1;refine⟨fun j=>match j with|0=>F|j+1=>kq j,fun j=>match j with|0=>S|j+1=>Hh j,rfl,rfl,f1,g1,by simp[hlen],?_,?_⟩
   . intro j hj;cases j with
     | zero=>rfl
     | succ j =>
       rw[aA.lc_cons];have kU:=hidx j (by simpa using hj);by_cases hl:cF o.op=true;rw[if_pos hl,hl];simp only[cond_true];rw[Nat.add_comm 1,acd];exact kU;have hl':cF o.op=false:=by simpa using hl
       rw[if_neg hl,hl'];simp only[cond_false,acN];have:=p6 hx hl' U2;subst this;exact kU
   . intro j o' hj;cases j with
     | zero =>
       simp only[acj,Option.some.injEq] at hj;subst hj;exact⟨_,c1,rfl,hx,rfl,rfl,by simp only;rw[g0];exact U2,hc.1,by simp only;rw[f0,jk]⟩
     | succ j =>
       simp only[acd] at hj ⊢;exact hrow j o' hj
   cases e;cases e;cases ht
def nO(F:Fr)(ops:Array Oper)(V:Nat->A)(D:Nat->Bool)(s:Nat):Nat->Option A
 | 0=>F.get s
 | k+1=>if D k=true/\kE ops k=some s then some (V k) else nO F ops V D s k
theorem kJ{F:Fr}{ops:Array Oper}{V:Nat->A}{D D':Nat->Bool}{s:Nat}:∀(k:Nat),(∀ j,j<k->kE ops j=some s->D j=D' j)->nO F ops V D s k=nO F ops V D' s k
 | 0,_=>rfl
 | k+1,h=>by
   simp only[nO];rw[kJ k (fun j hj hd=>h j (by omega) hd)];by_cases hd:kE ops k=some s;rw[h k (by omega) hd];rw[if_neg (fun hh=>hd hh.2),if_neg (fun hh=>hd hh.2)]
theorem CV{F:Fr}{ops:Array Oper}{V:Nat->A}{D:Nat->Bool}{s i:Nat}(hD:D i=true)(hd:kE ops i=some s):∀(k:Nat),i<k->(∀ j,i<j->j<k->kE ops j=some s->D j=false)->nO F ops V D s k=some (V i)
 | 0,h,_=>by omega
 | k + 1, h, hk => by
   simp only[nO];by_cases hik:i=k;subst hik;rw[if_pos ⟨hD,hd⟩];rw[if_neg];exact CV hD hd k (by omega) (fun j hj hj2=>hk j hj (by omega));rintro⟨h1,h2⟩;rw[hk k (by omega) (by omega) h2] at h1;cases h1
theorem KM{F:Fr}{dst:Option Nat}{v:A}{s:Nat}:(lq F dst v).get s=if dst=some s then some v else F.get s:=by
 cases dst with
 | none=>simp[lq]
 | some d =>
   show (T.set F d v).get s=_;rw[T.oV];by_cases h:s=d;subst h;simp;rw[if_neg h,if_neg (by simp;exact fun hh=>h hh.symm)]
theorem Rh{ops:Array Oper}{F:Fr}{V:Nat->A}{kq:Nat->Fr}(h0:kq 0=F)(hput:∀(j:Nat) o,ops[j]? = some o->kq (j+1)=lq (kq j) o.dst (V j)) :
 ∀ k,k<=ops.size->∀ s,(kq k).get s=nO F ops V (fun j=>decide (j<k)) s ops.size:=by
 have key:∀ k,k<=ops.size->∀ s,(kq k).get s=nO F ops V (fun _=>true) s k:=by
  intro k
  induction k with
  | zero=>intro _ s;rw[h0];rfl
  | succ k ih =>
    intro hk s;have ho:ops[k]? = some ops[k]:=ab0 (by omega);rw[hput k _ ho,KM,ih (by omega) s];simp only[nO,true_and];have hd:kE ops k=(ops[k]).dst:=by unfold kE;rw[ho];rfl
    rw[hd]
 intro k hk s;rw[key k hk s];have h3 : ∀ m, k ≤ m → nO F ops V (fun j => decide (j < k)) s m = nO F ops V (fun _ => true) s k := by
  intro m hm
  induction m with
  | zero => have : k = 0 := by omega
            subst this;rfl
  | succ m ih =>
    by_cases hkm:k=m+1;subst hkm;exact kJ _ (fun j hj _=>by simp[hj]);simp only[nO];have:¬(m<k):=by omega
    simp only[this,decide_false,Bool.false_eq_true,false_and,if_false];exact ih (by omega)
 rw[h3 _ hk]
def KN(η:Eta)(Z:Zeta)(n:Nat)(g:Nat->Option A)(tmps:Array Value):Prop:=tmps.size=n/\∀ s x,g s=some x->∃ v,tmps[s]? = some v/\cr η Z x v
theorem KN.mono{η aG:Eta}{Z Z':Zeta}(h:η.le aG)(hz:Z.le Z'){n:Nat}{g:Nat->Option A}{tmps:Array Value}(r:KN η Z n g tmps):KN aG Z' n g tmps :=
 ⟨r.1,fun s x e=>let ⟨v,a,b⟩:=r.2 s x e;⟨v,a,cr.mono h hz b⟩⟩
theorem Moves.drawn{base:Nat}{η:Eta}{Z:Zeta}{S:ak}{w:World}(R:St base η Z S w)(n:Nat):Moves base η Z S w η Z S { w with drawn:=n } :=
 ⟨Eta.le.refl _,⟨fun n o p h hp=>let ⟨a,b,L⟩:=R.ar n o p h hp;⟨a,b,L.mono (Eta.le.refl _) (Zeta.le.refl _) fun _ _=>rfl⟩,R.cj,R.known,R.jh,R.zs,R.fresh,R.fN,R.sat⟩,⟨rfl,rfl,rfl,ab4 _,fun _ _ _=>rfl,fun _ h=>.inl h,Zeta.le.refl _,fun _ _ h=>.inl h,rfl⟩⟩
section
variable {P:Program} {base nt:Nat}
theorem U3{Γ : bN}(dm : bp P Γ){id : Nat}{ops : Array Oper}{xs : List j5}{F : Fr}{S : ak}{η : Eta}{Z : Zeta}{w : World}{a : Act}{k : Fr → ak → Prop}(ht : jH P false nt ops ops.toList = some xs)(h : KL Γ ops xs F S k)
 {Fc:Fence} (hF:WF Fc) (hT:iL P Z) (R:St base η Z S w) (F':bq nt η Z F a.tmps) {Q:Exit->Act->World->Prop}
 (hQ:∀ F' S' aG Z' a' w',k F' S'->Moves base η Z S w aG Z' S' w'->bq nt aG Z' F' a'.tmps->a'.defers=a.defers->Q .normal a' w'):(Code.region id ops true).wpIn Fc 0 P Q a w:=by
 unfold KL at h;split at h;rename_i hok;have hp:=aA.NS hok;split at h;rename_i c af Ss F1 S1 hgo;split at h;rename_i c' YP;obtain⟨⟨hc,hc'⟩,hk⟩:=ic h;obtain⟨kq,Hh,f0,g0,f1,g1,hlen,hidx,hrow⟩:=B0 ht hgo hc;have hN:ops.toList.length=ops.size:=by simp
 rw[hN] at f1 g1 hlen;let V:Nat->A:=fun j=>match af[j]? with|some r=>r.v|none=>.aJ []
 have hV:∀ j r,af[j]? = some r->V j=r.v:=fun j r hr=>by simp only[V,hr]
 have hrow':∀(j:Nat)(o:Oper),ops[j]? = some o->∃ r c',af[j]? = some r/\pZ P false nt ops o=some r.x/\r.loud=cF o.op/\r.fr=nF (kq j) (slotsOf ops o)/\nR Γ r.fr (Hh j) r.x=some (c',V j,Hh (j+1))/\Cd.holds c'/\kq (j+1)=lq (kq j) o.dst (V j):=by
  intro j o ho;obtain⟨r,c',hr,a,b,c,d,e,f⟩:=hrow j o (by simpa using ho);rw[<-hV j r hr] at d f;exact⟨r,c',hr,a,b,c,d,e,f⟩
 have htext:=Rh (V:=V) f0 (fun j o ho=>by obtain⟨r,c',_,_,_,_,_,_,f⟩:=hrow' j o ho;exact f);have hHh:∀ j,j<=ops.size->(S::Ss)[cQ ops (fun i=>decide (i<j)) ops.size]? = some (Hh j):=by
  intro j hj;rw[<-aA.lc_cntN hj];exact hidx j (by rw[hN];exact hj)
 refine wpIn_region_draw fun t=>?_;have hval:=aA.qw hp.toDrawQ (P.follows .mixedOrders) t;generalize Region.schedule (P.follows .mixedOrders) ops t=σ at hval
 have main:∀(σ:List Nat)(D:Nat->Bool),Closed ops D->Valid ops D σ->∀(dR:Eta)(Z1:Zeta)(a1:Act)(w1:World)(SD:ak),(S::Ss)[cQ ops D ops.size]? = some SD->Moves base η Z S w dR Z1 SD w1->KN dR Z1 nt (fun s=>nO F ops V D s ops.size) a1.tmps->a1.defers=a.defers->
  wpOpsIn Fc 0 P ops Q σ a1 w1:=by
  intro σ
  induction σ with
  | nil =>
    intro D cn hv dR Z1 a1 w1 SD hSD mv G1 hd;have hall:∀ i,i<ops.size->D i=true:=hv;have r8:cQ ops D ops.size=cQ ops (fun i=>decide (i<ops.size)) ops.size:=aA.lR _ (fun j hj _=>by rw[hall j hj];simp[hj]);rw[r8,hHh _ (ab4 _)] at hSD;cases hSD;rw[g1] at mv;refine hQ F1 S1 dR Z1 a1 w1 hk mv ⟨G1.1,fun s x hx=>?_⟩ hd;rw[<-f1,htext ops.size (ab4 _) s] at hx;refine G1.2 s x ?_;rw[<-hx];exact kJ _ (fun j hj _=>by rw[hall j hj];simp[hj])
  | cons i rest ihr =>
    intro D cn hv dR Z1 a1 w1 SD hSD mv G1 hd;obtain⟨iP,hv⟩:=hv;obtain⟨pL,o,ho,hpre⟩:=iP;have iP:Ready ops D i:=⟨pL,o,ho,hpre⟩;have hilt:i<ops.size:=by
     rcases acf i ops.size with hh|hh;exact hh;rw[ab5 hh] at ho;cases ho
    obtain⟨r,c1,hr,hro,hrl,hrf,hone,hc1,hput⟩:=hrow' i o ho;have rK:cY ops i=cF o.op:=by unfold cY;rw[ho]
    have B6 : bq nt dR Z1 r.fr a1.tmps := by
     refine⟨G1.1,fun s x hx=>?_⟩;rw[hrf] at hx;obtain⟨hs',hx'⟩:=zJ hx;refine G1.2 s x ?_;rw[<-hx',htext i (by omega) s];refine kJ _ (fun j hj jk=>?_);have hoj:ops[j]? = some ops[j]:=ab0 hj;have mR:(ops[j]).dst=some s:=by unfold kE at jk;rw[hoj] at jk;exact jk
     by_cases hji:j=i;subst hji;rw[pL];simp;obtain⟨h1,h2⟩:=hp.rw_ i j o _ s ho hoj hs' mR (fun hh=>hji hh.symm);rcases acf j i with hlt|hge;have:=aA.lG hp.toDrawQ cn iP (h1 hlt);rw[this];simp[hlt];have hb:=h2 (by omega);cases nY:D j with
     | true=>have:=aA.iZ hp.toDrawQ cn j i nY hj hb;rw[pL] at this;cases this
     | false=>simp;omega
    have KO : ∃ c2, nR Γ r.fr SD r.x = some (c2, V i, if cF o.op = true then Hh (i + 1) else SD) ∧ Cd.holds c2 := by
     by_cases hl:cF o.op=true
     · rw[if_pos hl]
       have r8:cQ ops D ops.size=cQ ops (fun j=>decide (j<i)) ops.size:=by
        refine aA.lR _ (fun j hj Hu=>?_);have hoj:ops[j]? = some ops[j]:=ab0 hj;have KP:cF (ops[j]).op=true:=by unfold cY at Hu;rw[hoj] at Hu;exact Hu
        rcases acE j i with hlt|heq|hgt;have:=aA.lG hp.toDrawQ cn iP (hp.ll j i _ o hlt hoj ho KP hl);rw[this];simp[hlt];subst heq;rw[pL];simp;have hb:=hp.ll i j o _ hgt ho hoj hl KP;cases nY:D j with
        | true=>have:=aA.iZ hp.toDrawQ cn j i nY hj hb;rw[pL] at this;cases this
        | false=>simp;omega
       rw[r8,hHh i (by omega)] at hSD;cases hSD;exact⟨c1,hone,hc1⟩
     have hl':cF o.op=false:=by simpa using hl
     rw[if_neg hl];have hq:=p6 hro hl' hone;cases hrd:tG r.x.o with
     | false =>
       obtain⟨S2,h2,h3⟩:=xH (S2:=SD) hrd hone;rw[h3] at h2;exact⟨c1,h2,hc1⟩
     | true =>
       have hbd:∀(D':Nat->Bool),Closed ops D'->Ready ops D' i->(cV ops i).1<=cQ ops D' ops.size/\cQ ops D' ops.size<=(cV ops i).2:=by
        intro D' hc' hr';rw[aA.vT];refine⟨aA.rE _ (fun j hj _ hb=>aA.lG hp.toDrawQ hc' hr' hb),aA.rE _ (fun j hj _ nY=>?_)⟩;have hji:j≠i:=fun hh=>by subst hh;rw[hr'.1] at nY;cases nY
        have hne:ab1 i j=false:=by
         cases hh:ab1 i j with
         | false=>rfl
         | true=>exact absurd (by simpa[ab6] using hh:i=j).symm hji
        rw[hne];cases hb:bit ((eB ops.toList []).getD j 0) i with
        | false=>rfl
        | true=>have:=aA.iZ hp.toDrawQ hc' j i nY hj hb;rw[hr'.1] at this;cases this
       obtain⟨b1,b2⟩:=hbd D cn iP;have hct:Closed ops (fun j=>decide (j<i)):=by
        intro j o' hj ho' e' he' YQ;have:=hp.back j o' ho' e' he' YQ;simp at hj ⊢;omega
       have hrt:Ready ops (fun j=>decide (j<i)) i:=⟨by simp,o,ho,fun e' he' YQ=>by have:=hp.back i o ho e' he' YQ;simp;exact this⟩;obtain⟨d1,d2⟩:=hbd _ hct hrt;obtain⟨cR,wo,YR⟩:=zM YP hc' i r hr;rw[acN] at wo;unfold KJ at wo;rw[hrl,hl',hrd] at wo;simp only[acL,acM,cond_false] at wo;by_cases heq:(cV ops i).1=(cV ops i).2;have r8:cQ ops D ops.size=cQ ops (fun j=>decide (j<i)) ops.size:=by omega
       rw[r8,hHh i (by omega)] at hSD;cases hSD;rw[hq] at hone;exact⟨c1,hone,hc1⟩;have hbe:ab1 (cV ops i).1 (cV ops i).2=false:=by
        cases hh:ab1 (cV ops i).1 (cV ops i).2 with
        | false=>rfl
        | true=>exact absurd (by simpa[ab6] using hh) heq
       rw[hbe] at wo;simp only[cond_false] at wo;obtain⟨cm,hm,U4⟩:=zL wo YR (cQ ops D ops.size) b1 (by omega);unfold KI at hm;rw[hSD] at hm;simp only at hm;split at hm;rename_i c3 v3 S3 U5;cases hm;have hv3:v3=r.v:=U4.2;subst hv3;have:=p6 hro hl' U5;subst this;rw[hV i r hr];exact⟨c3,U5,U4.1⟩;cases hm
    obtain⟨c2,KO,hc2⟩:=KO;simp only[wpOpsIn,ho];refine FN dm (hT.mono mv.step.cG) mv.st B6 hro KO hc2 hF ?_;intro u w2 iW Z2 gU UR;have CW:=iP.closed cn;have JC:=aA.tw (ops:=ops) pL ops.size hilt;have hnextH : (S :: Ss)[cQ ops (jt D i) ops.size]? = some (if cF o.op = true then Hh (i + 1) else SD) := by
     rw[JC,rK];by_cases hl:cF o.op=true;rw[if_pos hl,if_pos hl];have r8:cQ ops D ops.size+1=cQ ops (fun j=>decide (j<i+1)) ops.size:=by
      have h1:cQ ops (jt D i) ops.size=cQ ops (fun j=>decide (j<i+1)) ops.size:=by
       refine aA.lR _ (fun j hj Hu=>?_);have hoj:ops[j]? = some ops[j]:=ab0 hj;have KP:cF (ops[j]).op=true:=by unfold cY at Hu;rw[hoj] at Hu;exact Hu
       rcases acE j i with hlt|heq|hgt;have:=aA.lG hp.toDrawQ cn iP (hp.ll j i _ o hlt hoj ho KP hl);rw[aA.gj D (by omega),this];simp;omega;subst heq;rw[aA.oW];simp;have hb:=hp.ll i j o _ hgt ho hoj hl KP;rw[aA.gj D (by omega)];cases nY:D j with
       | true=>have:=aA.iZ hp.toDrawQ cn j i nY hj hb;rw[pL] at this;cases this
       | false=>simp;omega
      rw[<-h1,JC,rK,if_pos hl]
     rw[r8];exact hHh (i+1) (by omega);rw[if_neg hl,if_neg hl];exact hSD
    refine ihr (jt D i) CW hv iW Z2 _ w2 _ hnextH (mv.trans gU) ?_ (by rw[put_defers];exact hd);have zN:=G1.mono gU.le gU.step.cG;cases jk:o.dst with
    | none =>
      refine⟨zN.1,fun s x hx=>zN.2 s x ?_⟩;rw[<-hx];refine(kJ _ (fun j hj mR=>?_)).symm;have:j≠i:=fun hh=>by subst hh;unfold kE at mR;rw[ho] at mR;simp only[Option.bind_some] at mR;rw[jk] at mR;cases mR
      exact aA.gj D this
    | some d =>
      have YS:d<nt:=by
       have:=(iE hro).2.2.2;rw[jk] at this;simpa[FM,acv] using this
      refine⟨by simp[Act.put,zN.1],fun s x hx=>?_⟩;have En:kE ops i=some d:=by unfold kE;rw[ho];exact jk
      by_cases U6:s=d;subst U6;have hl:=CV (F:=F) (V:=V) (D:=jt D i) (aA.oW D i) En ops.size hilt (fun j hij hj mR=>by
       have hoj:ops[j]? = some ops[j]:=ab0 hj;have YT:(ops[j]).dst=some s:=by unfold kE at mR;rw[hoj] at mR;exact mR
       have hb:=hp.ww i j o _ s hij ho hoj jk YT;rw[aA.gj D (by omega)];cases nY:D j with
       | true=>have:=aA.iZ hp.toDrawQ cn j i nY hj hb;rw[pL] at this;cases this
       | false=>rfl)
      simp only at hx;rw[hl] at hx;cases hx;exact⟨u,by simp only[Act.put];rw[acg (by rw[zN.1];exact YS)],UR⟩;have hx':nO F ops V D s ops.size=some x:=by
       rw[<-hx];refine(kJ _ (fun j hj mR=>?_)).symm;have:j≠i:=fun hh=>by subst hh;rw[En] at mR;cases mR;exact U6 rfl
       exact aA.gj D this
      obtain⟨v,hv',hr'⟩:=zN.2 s x hx';exact⟨v,by simp only[Act.put];rw[ab2 (by omega)];exact hv',hr'⟩
 have hc0:Closed ops (fun _=>false):=fun i o hi=>by cases hi
 have hcnt0:∀ k,cQ ops (fun _=>false) k=0:=by
  intro k
  induction k with
  | zero=>rfl
  | succ k ihk=>simp[cQ,ihk]
 have Ri:∀ s k,nO F ops V (fun _=>false) s k=F.get s:=by
  intro s k
  induction k with
  | zero=>rfl
  | succ k ihk=>simp[nO,ihk]
 exact main σ (fun _=>false) hc0 hval η Z a { w with drawn:=w.drawn+1 } S (by rw[hcnt0];rfl) (Moves.drawn R _) ⟨F'.1,fun s x hx=>F'.2 s x (by rw[<-Ri s ops.size];exact hx)⟩ rfl;exact h.elim;exact h.elim;exact h.elim
end
def gN(l:List Nat)(i:Nat):Bool:=l.any fun j=>ab1 j i
theorem tH{l:List Nat}{i:Nat}:gN l i=true↔i∈l:=by
 unfold gN;rw[List.any_eq_true];exact⟨fun⟨j,h,e⟩=>by rw[ab6] at e;exact e▸h,fun h=>⟨i,h,by rw[ab6]⟩⟩
def U7(ops:Array Oper)(acc:List Nat)(i:Nat):Bool:=!(gN acc i)&&(match ops[i]? with|some o=>o.after.toList.all fun e=>!(Region.binds .any e)||gN acc e.on|none=>false)
def zO(ops:Array Oper):List Nat->List Nat->Bool
 | acc,[]=>(abZ ops.size).all (gN acc)
 | acc,i::l=>U7 ops acc i&&zO ops (acc++[i]) l
theorem oL(acc:List Nat)(i:Nat):jt (gN acc) i=gN (acc++[i]):=by
 funext j;rw[Bool.eq_iff_iff,tH];unfold jt;rw[acH,tH,ab6,List.mem_append,acC]
theorem zP{ops:Array Oper}:∀{l acc:List Nat},zO ops acc l=true->Valid ops (gN acc) l
 | [],acc,h=>fun i hi=>by
   simp only[zO,acn] at h;exact h i (List.mem_range.2 hi)
 | i :: l, acc, h => by
   simp only[zO,U7,ab3,Bool.not_eq_true'] at h;obtain⟨⟨h1,h2⟩,h3⟩:=h;refine⟨⟨h1,?_⟩,?_⟩;split at h2;rename_i o ho;refine⟨o,ho,fun e he hb=>?_⟩;rw[acn] at h2;have:=h2 e (by simpa using he);rw[hb] at this;simpa using this;cases h2;rw[oL];exact zP h3
def gX(l:List Nat)(p:Nat):Nat->Bool:=gN (l.take p)
theorem vA{l:List Nat}{p i:Nat}(h:l[p]? = some i):gX l (p+1)=jt (gX l p) i:=by
 unfold gX;rw[oL,acF,h];rfl
theorem CX{ops:Array Oper}:∀{l acc:List Nat},Valid ops (gN acc) l->Closed ops (gN acc)->∀(p i:Nat),l[p]? = some i->Closed ops (gN (acc++l.take p))/\Ready ops (gN (acc++l.take p)) i
 | i::l,acc,h,hc,0,j,e=>by
   simp at e;subst e;simp only[List.take_zero,acI];exact⟨hc,h.1⟩
 | i::l,acc,h,hc,p+1,j,e=>by
   have h2:=h.2;rw[oL] at h2;have hc2:=h.1.closed hc;rw[oL] at hc2;have:=CX h2 hc2 p j (by simpa using e);simpa[acB] using this
theorem Ca{ops:Array Oper}:∀{l acc:List Nat},Valid ops (gN acc) l->l.Nodup/\∀ i∈l,i ∉ acc
 | [],_,_=>⟨List.nodup_nil,by simp⟩
 | i :: l, acc, h => by
   have h2:=h.2;rw[oL] at h2;obtain⟨a,b⟩:=Ca h2;refine⟨List.nodup_cons.2 ⟨fun hi=>b i hi (by simp),a⟩,fun j hj=>?_⟩;rcases List.mem_cons.1 hj with rfl|hj;intro hm;have:=h.1.1;rw[tH.2 hm] at this;cases this;exact fun hm=>b j hj (by simp[hm])
theorem Hv{ops:Array Oper}:∀{l acc:List Nat},Valid ops (gN acc) l->∀ i,i<ops.size->i∈acc++l
 | [],acc,h,i,hi=>by simpa using tH.1 (h i hi)
 | j::l,acc,h,i,hi=>by
   have h2:=h.2;rw[oL] at h2;have:=Hv h2 i hi;simpa using this
abbrev Ev:=Fr->ak->j5->Option (Cd×A×ak)
def FO(E:Ev)(Ss:List ak)(r:nS)(m:Nat):Option Cd :=
 match Ss[m]? with
 | some S=>match E r.fr S r.x with|some (c,v,_)=>some (.and c (.p (v=r.v)))|none=>none
 | none=>none
def xI(E:Ev)(Ss:List ak)(r:nS)(lo:Nat):Nat->Option Cd
 | 0=>some .t
 | k+1=>match xI E Ss r lo k with
   | some c=>bif acs k lo then some c else match FO E Ss r k with|some c'=>some (.and c c')|none=>none
   | none=>none
def FP(E:Ev)(ops:Array Oper)(Ss:List ak)(r:nS)(i:Nat):Option Cd :=
 bif r.loud||!(tG r.x.o) then some .t else
  (let p:=cV ops i
   bif ab1 p.1 p.2 then some .t else xI E Ss r p.1 (p.2+1))
theorem yS{E:Ev}{Ss:List ak}{r:nS}{lo:Nat}:∀{k:Nat}{c:Cd},xI E Ss r lo k=some c->c->∀ m,lo<=m->m<k->∃ c',FO E Ss r m=some c'/\c'
 | 0,_,_,_,m,_,h=>by omega
 | k + 1, c, e, hc, m, hlo, hm => by
   simp only[xI] at e;split at e
   . rename_i c1 h1;cases hb:acs k lo with
     | true =>
       rw[hb] at e;have hkl:k<lo:=by simpa[acv] using hb
       omega
     | false =>
       rw[hb] at e;simp only[cond_false] at e;split at e;rename_i c2 h2;cases e;by_cases hmk:m=k;subst hmk;exact⟨c2,h2,hc.2⟩;exact yS h1 hc.1 m hlo (by omega);cases e
   cases e
structure Quiet(P:Program)(nt:Nat)(ops:Array Oper)(E:Ev):Prop where
 quiet:∀{F S x c v S' o},pZ P false nt ops o=some x->cF o.op=false->E F S x=some (c,v,S')->S'=S
 blind:∀{F S S2 x c v S'},tG x.o=false->E F S x=some (c,v,S')->∃ KH,E F S2 x=some (c,v,KH)/\KH=S2
theorem one1_q{P:Program}{nt:Nat}{ops:Array Oper}(Γ:bN):Quiet P nt ops (nR Γ):=⟨fun ht hq e=>p6 ht hq e,fun h e=>xH h e⟩
def wq(E:Ev)(ops:Array Oper)(xs:List j5):List Nat->Fr->ak->Option (Cd×List (Nat×nS)×List ak×Fr×ak)
 | i :: l, F, S => match ops[i]?, xs[i]? with
   | some o,some x=>match E (nF F (slotsOf ops o)) S x with
     | some (c,v,S')=>match wq E ops xs l (lq F x.dst v) S' with
       | some (c',af,Ss,F',yO)=>some (.and c c',(i,⟨x,nF F (slotsOf ops o),v,cF o.op⟩)::af,(bif cF o.op then S'::Ss else Ss),F',yO)
       | none=>none
     | none=>none
   | _,_=>none
 | [],F,S=>some (.t,[],[],F,S)
def Bf(E:Ev)(ops:Array Oper)(Ss:List ak):List (Nat×nS)->Option Cd
 | []=>some .t
 | (i,r)::l=>match FP E ops Ss r i,Bf E ops Ss l with|some c,some c'=>some (.and c c')|_,_=>none
theorem zQ{E:Ev}{ops:Array Oper}{Ss:List ak}:∀{af:List (Nat×nS)}{c:Cd},Bf E ops Ss af=some c->c->∀ i r,(i,r)∈af->∃ c',FP E ops Ss r i=some c'/\c'
 | [],_,_,_,i,r,h=>by simp at h
 | (j,r0)::l,c,e,hc,i,r,h=>by
   simp only[Bf] at e;split at e;rename_i c1 c2 h1 h2;cases e;rcases List.mem_cons.1 h with h|h;cases h;exact⟨c1,h1,hc.1⟩;exact zQ h2 hc.2 i r h;cases e
theorem Hw{P:Program}{sq:Bool}{nt:Nat}{ops:Array Oper}:∀{l:List Oper}{xs:List j5},jH P sq nt ops l=some xs->∀(i:Nat) o,l[i]? = some o->∃ x,xs[i]? = some x/\pZ P sq nt ops o=some x
 | [],_,_,i,o,h=>by simp at h
 | o0::l,xs,ht,i,o,h=>by
   simp only[jH] at ht;split at ht
   . rename_i x xs' hx hxs;cases ht;cases i with
     | zero=>simp at h;subst h;exact⟨x,rfl,hx⟩
     | succ i=>exact Hw hxs i o (by simpa using h)
   cases ht
theorem zR{P : Program}{nt : Nat}{E : Ev}{ops : Array Oper}{xs : List j5}(ht : jH P false nt ops ops.toList = some xs)(hq : Quiet P nt ops E) : ∀{l : List Nat}{F F' : Fr}{S S' : ak}{c : Cd}{af : List (Nat × nS)}{Ss : List ak}, l.Nodup → wq E ops xs l F S = some (c, af, Ss, F', S') → c →
 ∃(V:Nat->A)(kq:Nat->Fr)(Hh:Nat->ak),kq 0=F/\Hh 0=S/\kq l.length=F'/\Hh l.length=S'/\(∀ p,p<=l.length->(S::Ss)[((l.take p).filter (cY ops)).length]? = some (Hh p))/\
  (∀ p i,l[p]? = some i->∃ o x c',ops[i]? = some o/\pZ P false nt ops o=some x/\(i,⟨x,nF (kq p) (slotsOf ops o),V i,cF o.op⟩)∈af/\E (nF (kq p) (slotsOf ops o)) (Hh p) x=some (c',V i,Hh (p+1))/\Cd.holds c'/\kq (p+1)=lq (kq p) o.dst (V i))
 | [],F,F',S,S',c,af,Ss,_,e,_=>by
   simp only[wq] at e;cases e;exact⟨fun _=>.aJ [],fun _=>F,fun _=>S,rfl,rfl,rfl,rfl,fun p hp=>by simp,fun p i h=>by simp at h⟩
 | i :: l, F, F', S, S', c, af, Ss, hnd, e, hc => by
   simp only[wq] at e;split at e;rename_i o x ho hx;obtain⟨x',hx',htr⟩:=Hw ht i o (by simpa using ho);rw[hx] at hx';cases hx';split at e;rename_i c1 v S1 U2;split at e;rename_i c2 rows1 Ss1 F2 S2 hgo;cases e;obtain⟨hni,Rg⟩:=List.nodup_cons.1 hnd;obtain⟨V,kq,Hh,f0,g0,f1,g1,hidx,hrow⟩:=zR ht hq Rg hgo hc.2;have jk:=(iE htr).1;have hla:cY ops i=cF o.op:=by unfold cY;rw[ho]
   refine⟨fun j=>if j=i then v else V j,fun p=>match p with|0=>F|p+1=>kq p,fun p=>match p with|0=>S|p+1=>Hh p,rfl,rfl,f1,g1,?_,?_⟩
   . intro p hp;cases p with
     | zero=>rfl
     | succ p =>
       have kU:=hidx p (by simpa using hp);rw[acB];by_cases hl:cF o.op=true;rw[ace (by rw[hla];exact hl),hl];simp only[cond_true,List.length_cons,acd];exact kU;have hl':cF o.op=false:=by simpa using hl
       rw[ack (by rw[hla];exact hl),hl'];simp only[cond_false];have:=hq.quiet htr hl' U2;subst this;exact kU
   . intro p j hj;cases p with
     | zero =>
       simp only[acj,Option.some.injEq] at hj;subst hj;refine⟨o,x,c1,ho,htr,?_,?_,hc.1,?_⟩;simp;simp only[↓reduceIte];rw[g0];exact U2;simp only[↓reduceIte];rw[f0,jk]
     | succ p =>
       simp only[acd] at hj;have hji:j≠i:=fun hh=>hni (hh▸acw hj);obtain⟨o',x',c',a,b,cc,d,e',f⟩:=hrow p j hj;refine⟨o',x',c',a,b,?_,?_,e',?_⟩;simp only[hji,↓reduceIte];exact ab8 _ cc;simp only[hji,↓reduceIte];exact d;simp only[hji,↓reduceIte];exact f
   cases e;cases e;cases e
theorem KQ{F:Fr}{ops:Array Oper}(hp:DrawQ ops){V:Nat->A}{D:Nat->Bool}(cn:Closed ops D){i:Nat}(hr:Ready ops D i){o:Oper}(ho:ops[i]? = some o)(s:Nat) :
 nO F ops V (jt D i) s ops.size=if o.dst=some s then some (V i) else nO F ops V D s ops.size:=by
 have hilt:i<ops.size:=by
  rcases acf i ops.size with hh|hh;exact hh;rw[ab5 hh] at ho;cases ho
 have En:kE ops i=o.dst:=by unfold kE;rw[ho];rfl
 by_cases hd:o.dst=some s
 . rw[if_pos hd];refine CV (aA.oW D i) (En.trans hd) ops.size hilt (fun j hij hj mR=>?_);have hoj:ops[j]? = some ops[j]:=ab0 hj;have YT:(ops[j]).dst=some s:=by unfold kE at mR;rw[hoj] at mR;exact mR
   have hb:=hp.ww i j o _ s hij ho hoj hd YT;rw[aA.gj D (by omega)];cases nY:D j with
   | true=>have:=aA.iZ hp cn j i nY hj hb;rw[hr.1] at this;cases this
   | false=>rfl
 rw[if_neg hd];refine kJ _ (fun j hj mR=>?_);have:j≠i:=fun hh=>by subst hh;rw[En] at mR;exact hd mR
 exact aA.gj D this
theorem CY{ops:Array Oper}{l:List Nat}(hv:Valid ops (gN []) l)(hlt:∀ i∈l,i<ops.size):∀ p,p<=l.length->cQ ops (gX l p) ops.size=((l.take p).filter (cY ops)).length
 | 0, _ => by
   have:∀ k,cQ ops (gX l 0) k=0:=by
    intro k
    induction k with
    | zero=>rfl
    | succ k ihk =>
      have h0:gX l 0 k=false:=by simp[gX,gN]
      simp[cQ,ihk,h0]
   rw[this];rfl
 | p+1,hp=>by
   have hi:l[p]? = some l[p]:=ab9 (by omega);have hc0:Closed ops (gN []):=fun i o hi=>by simp[gN] at hi
   obtain⟨_,hr⟩:=CX hv hc0 p _ hi;rw[aco] at hr;rw[vA hi,aA.tw (D:=gX l p) hr.1 ops.size (hlt _ (List.getElem_mem _)),CY hv hlt p (by omega),acF,hi,acD,List.length_append];congr 1;by_cases hl:cY ops l[p]=true;rw[if_pos hl];simp[hl];rw[if_neg hl];simp[hl]
def addPre(bf:List Nat)(n:Nat)(acc:List Nat)(i:Nat):List Nat:=acc++((abZ n).filter fun j=>bit (bf.getD i 0) j&&!(gN acc j))++[i]
def xJ(bf:List Nat)(n:Nat)(ls:List Nat):List Nat:=let a:=ls.foldl (addPre bf n) [];a++(abZ n).filter fun j=>!(gN a j)
def eqN:List Nat->List Nat->Bool
 | [],[]=>true
 | a::l,b::m=>ab1 a b&&eqN l m
 | _,_=>false
theorem U8:∀{l m:List Nat},eqN l m=true->l=m
 | [],[],_=>rfl
 | a::l,b::m,h=>by
   simp only[eqN,ab3,ab6] at h;rw[h.1,U8 h.2]
 | [],_::_,h=>by cases h
 | _::_,[],h=>by cases h
def Bg(E:Ev)(ops:Array Oper)(xs:List j5)(F:Fr)(S:ak)(k:Fr->ak->Prop)(ls:List Nat):Prop :=
 match zO ops [] (xJ (eB ops.toList []) ops.size ls)&&eqN ((xJ (eB ops.toList []) ops.size ls).filter (cY ops)) ls with
 | true=>match wq E ops xs (xJ (eB ops.toList []) ops.size ls) F S with
   | some (c,af,Ss,F',S')=>match Bf E ops (S::Ss) af with
     | some c'=>gM (Cd.and c c').list (k F' S')
     | none=>False
   | none=>False
 | false=>False
def Rj(p:Nat->Prop):List Nat->Prop
 | []=>True
 | i::l=>match l with | []=>p i|l=>p i/\Rj p l
theorem Hx{p:Nat->Prop}:∀{l:List Nat},Rj p l->∀ i∈l,p i
 | [],_,i,h=>by simp at h
 | [j],h,i,hi=>by simp at hi;subst hi;exact h
 | j::j2::l,h,i,hi=>by
   rcases List.mem_cons.1 hi with rfl|hi;exact h.1;exact Hx h.2 i hi
def U9(bf Bh dl:List Nat)(i:Nat):Bool:=!(gN dl i)&&Bh.all fun j=>!(bit (bf.getD i 0) j)||gN dl j
def Bj(bf Bh:List Nat)(p:List Nat->Prop):Nat->List Nat->Prop
 | 0,_=>False
 | n+1,dl=>match Bh.all (gN dl) with
   | true=>p dl
   | false=>Rj (fun i=>Bj bf Bh p n (dl++[i])) (Bh.filter (U9 bf Bh dl))
def qD(ops:Array Oper):List Nat:=(abZ ops.size).filter (cY ops)
theorem xK{ops : Array Oper}(hp : DrawQ ops){p : List Nat → Prop} : ∀{σ : List Nat}{n : Nat}{dl : List Nat}{D : Nat → Bool}, Bj (eB ops.toList []) (qD ops) p n dl → Closed ops D → Valid ops D σ → (∀ j ∈ qD ops, gN dl j = D j) → p (dl ++ σ.filter (cY ops))
 | [],n,dl,D,h,hc,hv,hd=>by
   cases n with
   | zero=>exact h.elim
   | succ n =>
     have:(qD ops).all (gN dl)=true:=by
      rw[acn];intro j hj;rw[hd j hj];exact hv j (List.mem_range.1 (List.mem_filter.1 hj).1)
     simp only[Bj,this] at h;simpa using h
 | i :: σ, n, dl, D, h, hc, hv, hd => by
   obtain⟨hr,hv⟩:=hv;have hilt:i<ops.size:=by
    obtain⟨_,o,ho,_⟩:=hr;rcases acf i ops.size with hh|hh;exact hh;rw[ab5 hh] at ho;cases ho
   by_cases hl:cY ops i=true
   · rw[ace hl]
     have hi:i∈qD ops:=List.mem_filter.2 ⟨List.mem_range.2 hilt,hl⟩;have hdi:gN dl i=false:=(hd i hi).trans hr.1;cases n with
     | zero=>exact h.elim
     | succ n =>
       have hall:(qD ops).all (gN dl)=false:=by
        rw[List.all_eq_false];exact⟨i,hi,by rw[hdi];simp⟩
       simp only[Bj,hall] at h;have:=Hx h i (List.mem_filter.2 ⟨hi,by
        unfold U9;rw[hdi,Bool.not_false,Bool.true_and,acn];intro j hj;cases hb:bit ((eB ops.toList []).getD i 0) j with
        | false=>rfl
        | true =>
          rw[hd j hj];simpa using aA.lG hp hc hr hb⟩)
       have:=xK hp this (hr.closed hc) hv (fun j hj=>by
        rw[<-oL];unfold jt;rw[hd j hj])
       simpa using this
   rw[ack hl];refine xK hp h (hr.closed hc) hv (fun j hj=>?_);rw[aA.gj D (fun hh=>hl (by have:=(List.mem_filter.1 hj).2;rwa [hh] at this))];exact hd j hj
section
variable {P:Program} {nt:Nat}
theorem Eo{E : Ev}{ops : Array Oper}(hp : DrawQ ops)(hqu : Quiet P nt ops E){xs : List j5}{F : Fr}{S : ak}{η : Eta}{Z : Zeta}{w : World}{a : Act}{k : Fr → ak → Prop}(ht : jH P false nt ops ops.toList = some xs){σ : List Nat}(hval : Valid ops (fun _ => false) σ)(h : Bg E ops xs F S k (σ.filter (cY ops)))
 {Fc:Fence} {I1:Eta->Zeta->ak->World->Prop} {Q:Exit->Act->World->Prop} (hI:I1 η Z S w) (F':bq nt η Z F a.tmps)
 (hstep:∀{dR Z1 SD w1}{a1:Act}{F1:Fr}{o x c v S'},I1 dR Z1 SD w1->bq nt dR Z1 F1 a1.tmps->pZ P false nt ops o=some x->E F1 SD x=some (c,v,S')->Cd.holds c->∀{rest:Act->World->Prop},(∀ u w2 iW Z2,dR.le iW->Z1.le Z2->I1 iW Z2 S' w2->cr iW Z2 v u->rest (a1.put o.dst u) w2)->if Region.wanted o (yielded ops a1.tmps) then o.wpIn Fc 0 P a1 w1 rest Q else(∀ f,o.about P w1 a1.eval=some f->Fc.fn f)/\rest (a1.put o.dst undef) w1)
 (hQ:∀ F' S' aG Z' a' w',k F' S'->I1 aG Z' S' w'->bq nt aG Z' F' a'.tmps->a'.defers=a.defers->Q .normal a' w'):wpOpsIn Fc 0 P ops Q σ a w:=by
 unfold Bg at h;generalize hq:xJ (eB ops.toList []) ops.size (σ.filter (cY ops))=q at h;split at h;rename_i hok;simp only[ab3] at hok;have Va:=zP hok.1;have hls:=U8 hok.2;split at h;rename_i c af Ss F1 S1 hgo;split at h
 . rename_i c' YP;obtain⟨⟨hc,hc'⟩,hk⟩:=ic h;have hqnd:=(Ca Va).1;obtain⟨V,kq,Hh,f0,g0,f1,g1,hidx,hrow⟩:=zR ht hqu hqnd hgo hc;have hqlt:∀ i∈q,i<ops.size:=by
    intro i hi;obtain⟨p,hpi⟩:=acy hi;obtain⟨o,_,_,ho,_⟩:=hrow p i hpi;rcases acf i ops.size with hh|hh;exact hh;rw[ab5 hh] at ho;cases ho
   have hqall:∀ i,i<ops.size->i∈q:=fun i hi=>by simpa using Hv Va i hi
   have hc0:Closed ops (gN []):=fun i o hi=>by simp[gN] at hi
   have hat:∀ p i,q[p]? = some i->Closed ops (gX q p)/\Ready ops (gX q p) i:=fun p i hi=>by
    have:=CX Va hc0 p i hi
    rwa [aco] at this
   have r8:∀ p,p<=q.length->(S::Ss)[cQ ops (gX q p) ops.size]? = some (Hh p):=fun p hpl=>by
    rw[CY Va hqlt p hpl];exact hidx p hpl
   have Ri:∀ s m,nO F ops V (fun _=>false) s m=F.get s:=by
    intro s m
    induction m with
    | zero=>rfl
    | succ m ihk=>simp[nO,ihk]
   have htext:∀ p,p<=q.length->∀ s,(kq p).get s=nO F ops V (gX q p) s ops.size:=by
    intro p
    induction p with
    | zero =>
      intro _ s;rw[f0];have:gX q 0=fun _=>false:=by funext j;simp[gX,gN]
      rw[this,Ri]
    | succ p ih =>
      intro hpl s;have hi:q[p]? = some q[p]:=ab9 (by omega);obtain⟨o,x,c1,ho,_,_,_,_,hput⟩:=hrow p _ hi;obtain⟨h1,h2⟩:=hat p _ hi;rw[hput,KM,vA hi,KQ hp h1 h2 ho s,ih (by omega) s]
   have main:∀(τ:List Nat)(D:Nat->Bool),Closed ops D->Valid ops D τ->τ.filter (cY ops)=(σ.filter (cY ops)).drop (cQ ops D ops.size)->∀(dR:Eta)(Z1:Zeta)(a1:Act)(w1:World)(SD:ak),(S::Ss)[cQ ops D ops.size]? = some SD->I1 dR Z1 SD w1->KN dR Z1 nt (fun s=>nO F ops V D s ops.size) a1.tmps->a1.defers=a.defers->
    wpOpsIn Fc 0 P ops Q τ a1 w1:=by
    intro τ
    induction τ with
    | nil =>
      intro D cn hv _ dR Z1 a1 w1 SD hSD mv G1 hd;have hall:∀ i,i<ops.size->D i=gX q q.length i:=fun i hi=>by
       rw[hv i hi];unfold gX;rw[List.take_length,tH.2 (hqall i hi)]
      have hcn:cQ ops D ops.size=cQ ops (gX q q.length) ops.size:=aA.lR _ (fun j hj _=>hall j hj);rw[hcn,r8 _ (ab4 _)] at hSD;cases hSD;rw[g1] at mv;refine hQ F1 S1 dR Z1 a1 w1 hk mv ⟨G1.1,fun s x hx=>?_⟩ hd;rw[<-f1,htext q.length (ab4 _) s] at hx;refine G1.2 s x ?_;rw[<-hx];exact kJ _ (fun j hj _=>hall j hj)
    | cons i rest ihr =>
      intro D cn hv hlo dR Z1 a1 w1 SD hSD mv G1 hd;obtain⟨iP,hv⟩:=hv;obtain⟨pL,o,ho,hpre⟩:=iP;have iP:Ready ops D i:=⟨pL,o,ho,hpre⟩;have hilt:i<ops.size:=by
       rcases acf i ops.size with hh|hh;exact hh;rw[ab5 hh] at ho;cases ho
      obtain⟨p,hpi⟩:=acy (hqall i hilt);have hpl:p<q.length:=(List.getElem?_eq_some_iff.1 hpi).1;obtain⟨o',x,c1,ho',hro,hrin,hone,hc1,hput⟩:=hrow p i hpi;rw[ho] at ho';cases ho';obtain⟨YU,O4⟩:=hat p i hpi;have rK:cY ops i=cF o.op:=by unfold cY;rw[ho]
      have B6 : bq nt dR Z1 (nF (kq p) (slotsOf ops o)) a1.tmps := by
       refine⟨G1.1,fun s x hx=>?_⟩;obtain⟨hs',hx'⟩:=zJ hx;refine G1.2 s x ?_;rw[<-hx',htext p (by omega) s];refine kJ _ (fun j hj jk=>?_);have hoj:ops[j]? = some ops[j]:=ab0 hj;have mR:(ops[j]).dst=some s:=by unfold kE at jk;rw[hoj] at jk;exact jk
       by_cases hji:j=i;subst hji;rw[pL,O4.1];obtain⟨h1,h2⟩:=hp.rw_ i j o _ s ho hoj hs' mR (fun hh=>hji hh.symm);rcases acf j i with hlt|hge;rw[aA.lG hp cn iP (h1 hlt),aA.lG hp YU O4 (h1 hlt)];have hb:=h2 (by omega);have e1:D j=false:=by
        cases nY:D j with
        | true=>have:=aA.iZ hp cn j i nY hj hb;rw[pL] at this;cases this
        | false=>rfl
       have e2:gX q p j=false:=by
        cases nY:gX q p j with
        | true=>have:=aA.iZ hp YU j i nY hj hb;rw[O4.1] at this;cases this
        | false=>rfl
       rw[e1,e2]
      -- the loud ones come in the same order
      have hcl2:cF o.op=true->cQ ops D ops.size=cQ ops (gX q p) ops.size/\rest.filter (cY ops)=(σ.filter (cY ops)).drop (cQ ops D ops.size+1):=by
       intro hl;rw[ace (by rw[rK];exact hl)] at hlo;have hm:(σ.filter (cY ops))[cQ ops D ops.size]? = some i:=by
        have:=congrArg (fun l=>l[0]?) hlo;simp only[acj,List.getElem?_drop,Nat.add_zero] at this;exact this.symm
       refine⟨?_,?_⟩;rw[CY Va hqlt p (by omega)];rw[<-hls] at hm;have hsplit:q=q.take p++i::q.drop (p+1):=by
        have:=List.getElem?_eq_some_iff.1 hpi;rw[<-this.2,<-List.drop_eq_getElem_cons hpl,List.take_append_drop]
       have hfs:q.filter (cY ops)=(q.take p).filter (cY ops)++i::(q.drop (p+1)).filter (cY ops):=by
        conv=>lhs;rw[hsplit]
        rw[acD,ace (by rw[rK];exact hl)]
       have hm2:(q.filter (cY ops))[((q.take p).filter (cY ops)).length]? = some i:=by
        rw[hfs,List.getElem?_append_right (ab4 _)];simp
       exact(acG (List.getElem?_eq_some_iff.1 hm).1 (hqnd.filter _)).1 (hm.trans hm2.symm);have:=congrArg (List.drop 1) hlo;simpa[List.drop_drop] using this
      have KO : ∃ c2, E (nF (kq p) (slotsOf ops o)) SD x = some (c2, V i, if cF o.op = true then Hh (p + 1) else SD) ∧ Cd.holds c2 := by
       by_cases hl:cF o.op=true;rw[if_pos hl];rw[(hcl2 hl).1,r8 p (by omega)] at hSD;cases hSD;exact⟨c1,hone,hc1⟩
       · have hl' : cF o.op = false := by simpa using hl
         rw[if_neg hl];have hqt:=hqu.quiet hro hl' hone;cases hrd:tG x.o with
         | false =>
           obtain⟨S2,h2,h3⟩:=hqu.blind (S2:=SD) hrd hone;rw[h3] at h2;exact⟨c1,h2,hc1⟩
         | true =>
           have hbd:∀(D':Nat->Bool),Closed ops D'->Ready ops D' i->(cV ops i).1<=cQ ops D' ops.size/\cQ ops D' ops.size<=(cV ops i).2:=by
            intro D' hc' hr';rw[aA.vT];refine⟨aA.rE _ (fun j hj _ hb=>aA.lG hp hc' hr' hb),aA.rE _ (fun j hj _ nY=>?_)⟩;have hji:j≠i:=fun hh=>by subst hh;rw[hr'.1] at nY;cases nY
            have hne:ab1 i j=false:=by
             cases hh:ab1 i j with
             | false=>rfl
             | true=>exact absurd (by simpa[ab6] using hh:i=j).symm hji
            rw[hne];cases hb:bit ((eB ops.toList []).getD j 0) i with
            | false=>rfl
            | true=>have:=aA.iZ hp hc' j i nY hj hb;rw[hr'.1] at this;cases this
           obtain⟨b1,b2⟩:=hbd D cn iP;obtain⟨d1,d2⟩:=hbd _ YU O4;obtain⟨cR,wo,YR⟩:=zQ YP hc' i _ hrin;unfold FP at wo;simp only[hl',hrd,acL,acM,cond_false] at wo;by_cases heq:(cV ops i).1=(cV ops i).2;have hcn:cQ ops D ops.size=cQ ops (gX q p) ops.size:=by omega
           rw[hcn,r8 p (by omega)] at hSD;cases hSD;rw[hqt] at hone;exact⟨c1,hone,hc1⟩;have hbe:ab1 (cV ops i).1 (cV ops i).2=false:=by
            cases hh:ab1 (cV ops i).1 (cV ops i).2 with
            | false=>rfl
            | true=>exact absurd (by simpa[ab6] using hh) heq
           rw[hbe] at wo;simp only[cond_false] at wo;obtain⟨cm,hm,U4⟩:=yS wo YR (cQ ops D ops.size) b1 (by omega);unfold FO at hm;rw[hSD] at hm;simp only at hm;split at hm;rename_i c3 v3 S3 U5;cases hm;have hv3:v3=V i:=U4.2;subst hv3;have:=hqu.quiet hro hl' U5;subst this;exact⟨c3,U5,U4.1⟩;cases hm
      obtain⟨c2,KO,hc2⟩:=KO;simp only[wpOpsIn,ho];refine hstep mv B6 hro KO hc2 ?_;intro u w2 iW Z2 hle2 hz2 gU UR;have CW:=iP.closed cn;have JC:=aA.tw (ops:=ops) pL ops.size hilt;have hnext:(S::Ss)[cQ ops (jt D i) ops.size]? = some (if cF o.op=true then Hh (p+1) else SD)/\rest.filter (cY ops)=(σ.filter (cY ops)).drop (cQ ops (jt D i) ops.size):=by
       rw[JC,rK];by_cases hl:cF o.op=true;obtain⟨e1,e2⟩:=hcl2 hl;rw[if_pos hl,if_pos hl];refine⟨?_,e2⟩;have h1:=r8 (p+1) (by omega);rw[vA hpi,aA.tw (ops:=ops) O4.1 ops.size hilt,rK,if_pos hl,<-e1] at h1;exact h1;rw[if_neg hl,if_neg hl];refine⟨hSD,?_⟩;rw[ack (by rw[rK];exact hl)] at hlo;exact hlo
      refine ihr (jt D i) CW hv hnext.2 iW Z2 _ w2 _ hnext.1 gU ?_ (by rw[put_defers];exact hd);have zN:=G1.mono hle2 hz2;have YS:∀ d,o.dst=some d->d<nt:=by
       intro d jk;have:=(iE hro).2.2.2;rw[jk] at this;simpa[FM,acv] using this
      cases jk:o.dst with
      | none =>
        refine⟨zN.1,fun s x hx=>zN.2 s x ?_⟩;simp only at hx;rw[KQ hp cn iP ho s,jk,if_neg (by simp)] at hx;exact hx
      | some d =>
        refine⟨by simp[Act.put,zN.1],fun s x hx=>?_⟩;simp only at hx;rw[KQ hp cn iP ho s,jk] at hx;by_cases U6:s=d;subst U6;rw[if_pos rfl] at hx;cases hx;exact⟨u,by simp only[Act.put];rw[acg (by rw[zN.1];exact YS _ jk)],UR⟩;rw[if_neg (by simp;exact fun hh=>U6 hh.symm)] at hx;obtain⟨v,hv',hr'⟩:=zN.2 s x hx;exact⟨v,by simp only[Act.put];rw[ab2 (by omega)];exact hv',hr'⟩
   have hcn0:∀ m,cQ ops (fun _=>false) m=0:=by
    intro m
    induction m with
    | zero=>rfl
    | succ m ihk=>simp[cQ,ihk]
   exact main σ (fun _=>false) (fun i o hi=>by cases hi) hval (by rw[hcn0];rfl) η Z a _ S (by rw[hcn0];rfl) hI ⟨F'.1,fun s x hx=>F'.2 s x (by rw[<-Ri s ops.size];exact hx)⟩ rfl
 exact h.elim;exact h.elim;exact h.elim
def Rk(Γ:bN)(ops:Array Oper)(xs:List j5)(F:Fr)(S:ak)(k:Fr->ak->Prop):Prop :=
 match y5 ops with
 | true=>KL Γ ops xs F S k
 | false=>match sW ops with
   | true=>Bj (eB ops.toList []) (qD ops) (Bg (nR Γ) ops xs F S k) (ops.size+1) []
   | false=>False
theorem YV{base:Nat}{Γ:bN}(dm:bp P Γ){id:Nat}{ops:Array Oper}{xs:List j5}{F:Fr}{S:ak}{η:Eta}{Z:Zeta}{w:World}{a:Act}{k:Fr->ak->Prop}(ht:jH P false nt ops ops.toList=some xs)(h:Rk Γ ops xs F S k)
 {Fc:Fence} (hF:WF Fc) (hT:iL P Z) (R:St base η Z S w) (F':bq nt η Z F a.tmps) {Q:Exit->Act->World->Prop}
 (hQ:∀ F' S' aG Z' a' w',k F' S'->Moves base η Z S w aG Z' S' w'->bq nt aG Z' F' a'.tmps->a'.defers=a.defers->Q .normal a' w'):(Code.region id ops true).wpIn Fc 0 P Q a w:=by
 unfold Rk at h;split at h;exact U3 dm ht h hF hT R F' hQ;split at h;rename_i hok;have hp:=aA.tj hok;refine wpIn_region_draw fun t=>?_;have hval:=aA.qw hp (P.follows .mixedOrders) t;generalize Region.schedule (P.follows .mixedOrders) ops t=σ at hval;have:=xK hp h (fun i o hi=>by cases hi) hval (fun j _=>by simp[gN]);rw[aco] at this;refine Eo hp (one1_q Γ) ht hval this (I1:=Moves base η Z S w) (Moves.drawn R _) F' ?_ hQ;intro dR Z1 SD w1 a1 F1 o x c v S' mv rL hro he hc rest hr;refine FN dm (hT.mono mv.step.cG) mv.st rL hro he hc hF ?_;intro u w2 iW Z2 gU hu;exact hr u w2 iW Z2 gU.le gU.step.cG (mv.trans gU) hu;exact h.elim
end
end Go.aT
namespace Go.aT
open Go.RowKit
open Go.aA (T WF)
theorem St.sub{base:Nat}{η:Eta}{Z:Zeta}{S:ak}{w:World}(R:St base η Z S w){rs:List Nat}{fj bM:List Ob}(hnd:rs.Nodup)(fH:gW S rs=some fj)(hO:iD (idxOf rs) fj=some bM) :
 St base (cO η rs) Z (.ofList bM) w/\∀ b,Own (cO η rs) (.ofList bM) b->Own η S b:=by
 obtain⟨hl1,ko⟩:=lT fH;obtain⟨hl2,kT⟩:=kI hO;have hidx:∀ n m,idxOf rs n=some m->∀ p,η n=some p->cO η rs m=some p:=by
  intro n m e p hp;unfold cO;rw[fY e];exact hp
 have hand:∀(i:Nat) o,bM[i]? = some o->∃ n oS,rs[i]? = some n/\S.get n=some oS/\oS.ren (idxOf rs)=some o:=by
  intro i o ho;obtain⟨oS,h1,h2⟩:=kT i o ho;have hi:i<rs.length:=by have:=(List.getElem?_eq_some_iff.1 h1).1;omega
  obtain⟨o',h3,h4⟩:=ko i rs[i] (ab9 hi);have:oS=o':=Option.some.inj (h1.symm.trans h4);subst this;exact⟨rs[i],oS,ab9 hi,h3,h2⟩
 refine⟨⟨?_,?_,?_,?_,R.zs,?_,R.fN,?_⟩,?_⟩;intro i o p ho hp;rw[ak.aM] at ho;obtain⟨n,oS,h1,h2,h3⟩:=hand i o ho;unfold cO at hp;rw[h1] at hp;obtain⟨a,b,L⟩:=R.ar n oS p h2 hp;exact⟨a,b,L.ren hidx (.inr (Zeta.le.refl _)) h3⟩;intro i o ho hp;rw[ak.aM] at ho;obtain⟨n,oS,h1,h2,h3⟩:=hand i o ho;unfold cO at hp;rw[h1] at hp;have:=R.cj n oS h2 hp;have h4:=(Ob.uz h3).2.1;rw[this] at h4;exact List.eq_nil_of_length_eq_zero h4;intro i o ho;rw[ak.aM] at ho;exact(List.getElem?_eq_some_iff.1 ho).1;intro i j o o' p p' b ho ho' hne hp hp';rw[ak.aM] at ho ho';obtain⟨n,oS,h1,h2,h3⟩:=hand i o ho;obtain⟨n',oS',h1',h2',h3'⟩:=hand j o' ho';unfold cO at hp hp';rw[h1] at hp;rw[h1'] at hp';refine R.jh n n' oS oS' p p' b h2 h2' ?_ hp hp';rintro rfl;exact hne ((acG (List.getElem?_eq_some_iff.1 h1).1 hnd).1 (h1.trans h1'.symm))
 . intro i hi;unfold cO;have:rs[i]? = none:=List.getElem?_eq_none (by have:(ak.ofList bM).next=bM.length:=rfl;omega);rw[this]
 intro i o p ho hp;rw[ak.aM] at ho;obtain⟨n,oS,h1,h2,h3⟩:=hand i o ho;unfold cO at hp;rw[h1] at hp;exact R.sat n oS p h2 hp;rintro b ⟨i,o,p,ho,hp,hb⟩;rw[ak.aM] at ho;obtain⟨n,oS,h1,h2,h3⟩:=hand i o ho;unfold cO at hp;rw[h1] at hp;exact⟨n,oS,p,h2,hp,hb⟩
structure fJ(Z:Zeta)(M:Nat->Prop)(w:World)(Z':Zeta)(M':Nat->Prop)(w':World):Prop where
 os:w'.os=w.os
 tape:w'.tape=w.tape
 output:w'.output=w.output
 size:w.heap.size<=w'.heap.size
 block:∀ b,b<w.heap.size->¬M b->w'.heap[b]? = w.heap[b]?
 own:∀ b,M' b->M b∨w.heap.size<=b
 cG:Z.le Z'
 ga:∀ b c,Z' b=some c->Z b=some c∨M b∨w.heap.size<=b
theorem Step.toM{η aG:Eta}{Z Z':Zeta}{S S':ak}{w w':World}(h:Step η Z S w aG Z' S' w'):fJ Z (Own η S) w Z' (Own aG S') w' :=
 ⟨h.os,h.tape,h.output,h.size,h.block,h.own,h.cG,h.ga⟩
theorem fJ.refl(Z:Zeta)(M:Nat->Prop)(w:World):fJ Z M w Z M w:=⟨rfl,rfl,rfl,ab4 _,fun _ _ _=>rfl,fun _ h=>.inl h,Zeta.le.refl _,fun _ _ h=>.inl h⟩
theorem fJ.trans{Z Z1 Z2:Zeta}{M M1 M2:Nat->Prop}{w w1 w2:World}(h:fJ Z M w Z1 M1 w1)(k:fJ Z1 M1 w1 Z2 M2 w2):fJ Z M w Z2 M2 w2 where
 os:=k.os.trans h.os
 tape:=k.tape.trans h.tape
 output:=k.output.trans h.output
 size:=acr h.size k.size
 block:=fun b hb ho=>(k.block b (Nat.lt_of_lt_of_le hb h.size) (fun ho'=>by
  rcases h.own b ho' with hh|hh;exact ho hh;omega)).trans (h.block b hb ho)
 own:=fun b ho=>by
  rcases k.own b ho with hh|hh;exact h.own b hh;exact .inr (acr h.size hh)
 cG:=h.cG.trans k.cG
 ga:=fun b c hc=>by
  rcases k.ga b c hc with hh|hh|hh;exact h.ga b c hh;exact .inr (h.own b hh);exact .inr (.inr (acr h.size hh))
def xL(Z:Zeta)(w:World):Prop:=∀ b c,Z b=some c->∃ ty fz,w.heap[b]? = some (.cells c ty fz)
structure Ctx where
 base:Nat
 keep:Nat
 iX:Eta
 R:Option Gh->Zeta->(Nat->Prop)->World->Prop
 xM:∀ g Z M w Z' M' w',R g Z M w->fJ Z M w Z' M' w'->xL Z' w'->R g Z' M' w'
def Ctx.fn(base keep:Nat)(iX:Eta)(Z0:Zeta)(M0:Nat->Prop)(w0:World):Ctx:={ base,keep,iX,R:=fun _ Z M w=>fJ Z0 M0 w0 Z M w,xM:=fun _ _ _ _ _ _ _ h k _=>h.trans k }
def nG(P:Program)(C:Ctx):Prop:=∀ g Z M w,C.R g Z M w->iL P Z
structure Inv(C:Ctx)(η:Eta)(Z:Zeta)(S:ak)(w:World):Prop where
 st:St C.base η Z S w
 rel:C.R S.cj Z (Own η S) w
 keep:∀ n p,n<C.keep->C.iX n=some p->η n=some p
theorem Inv.moves{C:Ctx}{η aG:Eta}{Z Z':Zeta}{S S':ak}{w w':World}(I:Inv C η Z S w)(m:Moves C.base η Z S w aG Z' S' w'):Inv C aG Z' S' w' :=
 ⟨m.st,by rw[m.step.gh];exact C.xM _ _ _ _ _ _ _ I.rel m.step.toM m.st.zs,fun n p h h'=>m.le n p (I.keep n p h h')⟩
def ak.eS(g:Option Gh)(l:List Ob):ak:=match g with|none=>.ofList l|some g=>{ ak.ofList l with cj:=some g }
theorem ak.yT(g:Option Gh)(l:List Ob):(ak.eS g l).cj=g:=by cases g<;>rfl
theorem ak.N7(g:Option Gh)(l:List Ob)(n:Nat):(ak.eS g l).get n=(ak.ofList l).get n:=by cases g<;>rfl
theorem St.eS{base:Nat}{η:Eta}{Z:Zeta}{l:List Ob}{w:World}(R:St base η Z (.ofList l) w)(g:Option Gh):St base η Z (.eS g l) w:=by
 cases g with
 | none=>exact R
 | some g=>exact⟨R.ar,R.cj,R.known,R.jh,R.zs,R.fresh,R.fN,R.sat⟩
theorem nZ{η:Eta}{g:Option Gh}{l:List Ob}{b:Nat}:Own η (.eS g l) b↔Own η (.ofList l) b:=by
 unfold Own;simp only[ak.N7]
theorem Inv.sub{C:Ctx}{η:Eta}{Z:Zeta}{S:ak}{w:World}(I:Inv C η Z S w){ns:List Nat}{fj bM:List Ob}(hnd:(abZ C.keep++ns).Nodup)(fH:gW S (abZ C.keep++ns)=some fj)(hO:iD (idxOf (abZ C.keep++ns)) fj=some bM) :
 Inv C (cO η (abZ C.keep++ns)) Z (.eS S.cj bM) w:=by
 obtain⟨a,b⟩:=I.st.sub hnd fH hO;refine⟨a.eS _,?_,fun n p hn hp=>?_⟩;rw[ak.yT];exact C.xM _ _ _ _ _ _ _ I.rel ⟨rfl,rfl,rfl,ab4 _,fun _ _ _=>rfl,fun k hk=>.inl (b k (nZ.1 hk)),Zeta.le.refl _,fun _ _ h=>.inl h⟩ I.st.zs;unfold cO;rw[ach (by simpa using hn),List.getElem?_range hn];exact I.keep n p hn hp
def A.names:A->List Nat
 | .p v=>v.names
 | .aJ vs=>vs.flatMap V.names
 | _=>[]
def rM(F:Fr):List Nat->List Nat->List Nat
 | [],acc=>acc
 | s::l,acc=>rM F l (match F.get s with|some x=>x.names.foldl KD acc|none=>acc)
def newNames(keep:Nat)(S:ak)(acc:List Nat):List Nat:=(wm S 2 (abZ keep++acc.filter (fun n=>!(acs n keep)))).filter fun n=>!(acs n keep)&&El S n
def oM(g:Nat->Option Nat)(F:Fr):List Nat->Fr
 | []=>.leaf
 | s::l=>match F.get s with
   | some x=>match x.ren g with|some y=>T.set (oM g F l) s y|none=>oM g F l
   | none=>oM g F l
def canon(keep:Nat)(aj:List Nat)(F:Fr)(S:ak):Option (Fr×ak) :=
 let rs:=abZ keep++newNames keep S (rM F aj [])
 bif rI rs then match gW S rs with
  | some ar=>match iD (idxOf rs) ar with
    | some aY=>some (oM (idxOf rs) F aj,.eS S.cj aY)
    | none=>none
  | none=>none
 else none
theorem oN{g:Nat->Option Nat}{F:Fr}:∀{l:List Nat}{s:Nat}{y:A},(oM g F l).get s=some y->∃ x,F.get s=some x/\x.ren g=some y
 | [],s,y,h=>by simp[oM,T.lP] at h
 | k :: l, s, y, h => by
   simp only[oM] at h;split at h;rename_i x hx;split at h;rename_i y' hy;rw[T.oV] at h;by_cases hs:s=k;subst hs;rw[if_pos rfl] at h;cases h;exact⟨x,hx,hy⟩;rw[if_neg hs] at h;exact oN h;exact oN h;exact oN h
theorem CZ{C:Ctx}{η:Eta}{Z:Zeta}{S S':ak}{w:World}{F F':Fr}{nt:Nat}{tmps:Array Value}{aj:List Nat}(I:Inv C η Z S w)(FR:bq nt η Z F tmps)(e:canon C.keep aj F S=some (F',S')):∃ aG,Inv C aG Z S' w/\bq nt aG Z F' tmps/\∀ b,Own aG S' b->Own η S b:=by
 unfold canon at e;simp only at e;generalize newNames C.keep S (rM F aj [])=ns at e;obtain⟨hb,e⟩:=aA.aH e;split at e;rename_i ar fH;split at e;rename_i aY hO;cases e;refine⟨_,I.sub (jj hb) fH hO,⟨FR.1,fun i y hy=>?_⟩,fun b hb'=>(I.st.sub (jj hb) fH hO).2 b (nZ.1 hb')⟩;obtain⟨x,hx,hxy⟩:=oN hy;obtain⟨v,hv,hr⟩:=FR.2 i x hx;refine⟨v,hv,A.jU ?_ (.inr (Zeta.le.refl _)) hxy hr⟩;intro n m en p hp;unfold cO;rw[fY en];exact hp;cases e;cases e
def rN(keep:Nat)(vs:List V)(S:ak):Option (List V×List Ob) :=
 let rs:=abZ keep++newNames keep S ((vs.flatMap V.names).foldl KD [])
 bif rI rs then match gW S rs with
  | some ar=>match iD (idxOf rs) ar,ux (idxOf rs) vs with
    | some aY,some vs'=>some (vs',aY)
    | _,_=>none
  | none=>none
 else none
theorem Vb{C:Ctx}{η:Eta}{Z:Zeta}{S:ak}{w:World}{vs vs':List V}{ar:List Ob}{us:List Value}(I:Inv C η Z S w)(h:bg (cW η Z) vs us)(e:rN C.keep vs S=some (vs',ar)):∃ aG,Inv C aG Z (.eS S.cj ar) w/\bg (cW aG Z) vs' us:=by
 unfold rN at e;simp only at e;generalize newNames C.keep S ((vs.flatMap V.names).foldl KD [])=ns at e;obtain⟨hb,e⟩:=aA.aH e;split at e;rename_i bM fH;split at e;rename_i aY vs'' hO hvs;cases e;refine⟨_,I.sub (jj hb) fH hO,o6 ?_ (.inr (Zeta.le.refl _)) hvs h⟩;intro n m en p hp;unfold cO;rw[fY en];exact hp;cases e;cases e
def Calm(yl:Bool)(w w':World):Prop:=yl=false->∀(b:Nat)(o:Obj),w.heap[b]? = some o->pO o=false->w'.heap[b]? = some o
theorem Calm.refl(yl:Bool)(w:World):Calm yl w w:=fun _ _ _ h _=>h
theorem Calm.trans{yl:Bool}{a b c:World}(h:Calm yl a b)(k:Calm yl b c):Calm yl a c:=fun hy x o e n=>k hy x o (h hy x o e n) n
theorem Moves.calm{base:Nat}{η aG:Eta}{Z Z':Zeta}{S S':ak}{w w':World}(R:St base η Z S w)(m:Moves base η Z S w aG Z' S' w')(yl:Bool):Calm yl w w':=by
 intro _ b o e hn;rw[<-e];refine m.step.block b (cS e) ?_;rintro⟨n,x,p,h1,h2,hb⟩;obtain⟨_,_,c,hc,hd⟩:=R.all h1 h2 hb;rw[e] at hc;cases hc;rw[hn] at hd;cases hd
structure Gives(Z:Zeta)(M:Nat->Prop)(w:World)(Z':Zeta)(w':World):Prop where
 size:w.heap.size<=w'.heap.size
 block:∀ b,M b->w'.heap[b]? = w.heap[b]?
 cG:Z.le Z'
 ga:∀ b c,Z' b=some c->Z b=some c∨¬M b
 zs:xL Z' w'
def KR:(d:D)->d.ty->Option (Int×Int)
 | .sl (.int .i64),l=>match (show List Int from l) with
   | [a,b]=>some (a,b)
   | _=>none
 | _,_=>none
def FQ(two:Bool)(Z:Zeta)(d:D)(y:d.ty)(us:List Value):Prop :=
 match two with
 | false=>∃ u,us=[u]/\cE Z d y u
 | true=>∃ a b,KR d y=some (a,b)/\us=[.int .i64 a,.int .i64 b]
def Hand(P:Program)(C:Ctx):Prop :=
 ∀(g:Gh) (y:g.d.ty) (ys:List g.d.ty) Z M w us,g.ys=y::ys->C.R (some g) Z M w->FQ g.two Z g.d y us->xL Z w->(∀ b c,Z b=some c->¬M b)->(∀ b,M b->b<w.heap.size)->
  ∃ fn tmps assign body,(do let d <-Deferred.ofValue (.func (.yield g.l) #[] #[]) us.toArray;invoke d.target d.args:Sem Next).run P w=.ok (.round g.l fn tmps assign body) w/\
   RoundIn Fence.wide 0 P g.l fn tmps assign body w fun e w'=>e=.returned (.bool true)/\∃ Z',Gives Z M w Z' w'/\C.R (some ⟨g.l,g.d,ys,g.two⟩) Z' M w'
def tI(yl:Bool)(F:Fr)(S:ak):O->Option (Cd×A×ak)
 | .call f [x]=>bif yl then match fO F f,S.cj,fO F x with
  | some (p,.yield l),some g,some (q,y)=>match sw S g.d y with
    | some (c,y,S1)=>bif g.two then none else some (.and p (.and q (.and c (.p (l=g.l/\g.ys=y::g.ys.tail)))),.dec true,{ S1 with cj:=some ⟨g.l,g.d,g.ys.tail,g.two⟩ })
    | none=>none
  | _,_,_=>none
   else none
 | .call f [x,y]=>bif yl then match fO F f,S.cj,fO F x,fO F y with
  | some (p,.yield l),some g,some (q,.int .i64 a),some (r,.int .i64 b)=>bif g.two then some (.and p (.and q (.and r (.p (l=g.l/\g.ys.head?.bind (KR g.d)=some (a,b))))),.dec true,{ S with cj:=some ⟨g.l,g.d,g.ys.tail,g.two⟩ }) else none
  | _,_,_,_=>none
   else none
 | _=>none
theorem KS{l:List Operand}(h:oI l=some []):l=[]:=by
 cases l with
 | nil=>rfl
 | cons x r =>
   simp only[oI] at h;split at h;split at h<;>cases h;cases h
theorem zS{l:List Operand}{x:bR}{xs:List bR}(h:oI l=some (x::xs)):∃ x' r,l=x'::r/\bU x'=some x/\oI r=some xs:=by
 cases l with
 | nil=>simp[oI] at h
 | cons x' r =>
   simp only[oI] at h;split at h;rename_i y hy;split at h;rename_i r' hr';cases h;exact⟨x',r,rfl,hy,hr'⟩;cases h;cases h
theorem zT{P:Program}{sq:Bool}{o:Oper}{f:bR}{xs:List bR}(ht:zE P sq o=some (.call f xs)):∃ f' args ts,o.op=.call { callee:=.value f',args:=args,argTypes:=ts }/\bU f'=some f/\oI args.toList=some xs:=by
 unfold zE at ht;split at ht;rename_i f' args ts hop;split at ht;rename_i f1 l1 hf1 hl1;cases ht;exact⟨f',args,ts,hop,hf1,hl1⟩;cases ht;split at ht;rename_i k' hk';cases ht;obtain⟨_,_,hk'⟩:=Bc hk';cases hk';cases sq with
 | true =>
   simp only[cond_true] at ht;split at ht;cases ht;split at ht<;>cases ht
 | false =>
   simp only[cond_false] at ht;split at ht;cases ht;obtain⟨_,ht⟩:=aA.aH ht;split at ht<;>cases ht
theorem Ep{P:Program}{C:Ctx}{η:Eta}{Z Z1:Zeta}{S S1:ak}{w:World}{a:Act}(hh:Hand P C)(I:Inv C η Z S w){o:Oper}(mv:Moves C.base η Z S w η Z1 S1 w){g:Gh}(hg:S.cj=some g){y:g.d.ty}(hys:g.ys=y::g.ys.tail){us:List Value}(hy:FQ g.two Z1 g.d y us)
 (Hy:∀ c,o.op≠.defer c) (hx:(execOp a.eval o).run P w=(do let d <-Deferred.ofValue (.func (.yield g.l) #[] #[]) us.toArray;invoke d.target d.args:Sem Next).run P w)
 {Fc:Fence} (hF:WF Fc) {next:Act->World->Prop} {Q:Exit->Act->World->Prop} (hn:∀ w' Z',Z.le Z'->Inv C η Z' { S1 with cj:=some ⟨g.l,g.d,g.ys.tail,g.two⟩ } w'->next (a.put o.dst (.bool true)) w'):o.wpIn Fc 0 P a w next Q:=by
 have I1:=I.moves mv;have ko:S1.cj=some g:=mv.step.gh.trans hg;have hR:=I1.rel;rw[ko] at hR;have hzm:∀ b c,Z1 b=some c->¬Own η S1 b:=by
  intro b c hb ho;obtain⟨_,_,hz,_⟩:=I1.st.mP ho;rw[hz] at hb;cases hb
 obtain⟨fn,tmps,assign,body,hrun,hround⟩:=hh g y g.ys.tail Z1 _ w us hys hR hy I1.st.zs hzm (fun b ⟨n,o,p,h1,h2,hb⟩=>I1.st.jz h1 h2 hb);refine⟨fun f _=>hF.fn f,?_⟩;rw[Oper.semAt_eq _ _ _ Hy];rw[hx,hrun];refine⟨hF.depth,hF.rounds ?_⟩;refine hround.mono ?_;rintro e1 w1 ⟨rfl,Z2,Cb,hR2⟩;refine hn w1 Z2 (mv.step.cG.trans Cb.cG) ⟨?_,hR2,I1.keep⟩;have R1:=I1.st
 suffices X:St C.base η Z2 S1 w1 from⟨X.ar,X.cj,X.known,X.jh,X.zs,X.fresh,X.fN,X.sat⟩
 refine R1.vZ Cb.cG Cb.zs Cb.size (fun b ho=>Cb.block b ho) fun b hown=>?_;cases hz:Z2 b with
 | none=>rfl
 | some cs =>
   rcases Cb.ga _ _ hz with h|h;obtain⟨_,_,a2,_⟩:=R1.mP hown;rw[a2] at h;cases h;exact absurd hown h
theorem Hz{P:Program}{C:Ctx}{nt:Nat}{η:Eta}{Z:Zeta}{S:ak}{w:World}{F:Fr}{a:Act}(hh:Hand P C)(I:Inv C η Z S w)(FR:bq nt η Z F a.tmps){sq:Bool}{o:Oper}{k:O}(ht:zE P sq o=some k){c:Cd}{v:A}{S':ak}(e:tI true F S k=some (c,v,S'))(hc:c)
 {Fc:Fence} (hF:WF Fc) {next:Act->World->Prop} {Q:Exit->Act->World->Prop} (hn:∀ u w' Z',Z.le Z'->Inv C η Z' S' w'->cr η Z' v u->next (a.put o.dst u) w'):o.wpIn Fc 0 P a w next Q:=by
 unfold tI at e;split at e;rename_i f x;simp only[cond_true] at e;split at e;rename_i p l g q y zH hg hxe;split at e
 . rename_i c1 y1 S1 hfz;cases h2:g.two with
   | true=>rw[h2] at e;cases e
   | false =>
   rw[h2] at e;cases e;obtain⟨hp,hq,hc1,rfl,hys⟩:=hc;obtain⟨f',args,ts,hop,hf,hl⟩:=zT ht;obtain⟨x',r,hal,hx,hr⟩:=zS hl;have YW:args=#[x']:=by apply acz;rw[hal,KS hr]
   subst YW;have zI:a.eval f'=.func (.yield g.l) #[] #[]:=(aN FR hf zH hp).2;obtain⟨_,BV⟩:=aN FR hx hxe hq;obtain⟨Z1,mv,hd,_⟩:=lS I.st hfz hc1 BV;refine Ep (us:=[_]) hh I mv hg hys (by rw[h2];exact⟨_,rfl,hd⟩) (fun c hc=>by rw[hop] at hc;cases hc) ?_ hF fun w' Z' hz I'=>hn _ _ Z' hz (by rw[h2] at I';exact I') rfl;unfold execOp;rw[hop];simp only[resolve,zI];simp
 cases e;cases e;rename_i f x y;simp only[cond_true] at e;split at e
 . rename_i p l g q a1 r b1 zH hg hxe tD;obtain⟨h2,e⟩:=aA.aH e;cases e;obtain⟨hp,hq,hr1,rfl,hys⟩:=hc;obtain⟨f',args,ts,hop,hf,hl⟩:=zT ht;obtain⟨x',r,hal,hx,hr⟩:=zS hl;obtain⟨y',r',hal2,hy,hr'⟩:=zS hr;have YW:args=#[x',y']:=by apply acz;rw[hal,hal2,KS hr']
   subst YW;have zI:a.eval f'=.func (.yield g.l) #[] #[]:=(aN FR hf zH hp).2;have BV:a.eval x'=.int .i64 a1:=(aN FR hx hxe hq).2;have BM:a.eval y'=.int .i64 b1:=(aN FR hy tD hr1).2;cases hgy:g.ys with
   | nil=>rw[hgy] at hys;cases hys
   | cons y1 t =>
   rw[hgy] at hys;refine Ep (us:=[_,_]) hh I (Moves.refl I.st) hg (y:=y1) (by rw[hgy];rfl) (by rw[h2];exact⟨a1,b1,hys,rfl⟩) (fun c hc=>by rw[hop] at hc;cases hc) ?_ hF fun w' Z' hz I'=>hn _ _ Z' hz I' rfl;unfold execOp;rw[hop];simp only[resolve,zI];simp[BV,BM]
 cases e;cases e
def C0(u:Value):Exit:=.panic [{ v:=u,recovered:=false }]
def kX(P:Program)(f:FuncId)(args:List A)(ar:List Ob)(u:Value):Prop :=
 ∀ base η Z w vs,St base η Z (.ofList ar) w->bg (cr η Z) args vs->iL P Z->CallsIn Fence.wide 0 P f vs.toArray w fun e w'=>e=.panicked [{ v:=u,recovered:=false }]/\∃ Z',gV 0 base η Z (.ofList ar) w (fun _=>none) Z' (.ofList []) w'
structure iT where
 refs:List Bool
 f:List A->List Ob->Option (Cd×Option Bool×Value)
structure gQ(P:Program)(f:FuncId)(dc:iT):Prop where
 ent:enters P f=true
 sem:∀ args ar c b u,dc.f args ar=some (c,b,u)->c->b≠some false->kX P f args ar u
def JD:List (FuncId×iT)->FuncId->Option iT
 | [],_=>none
 | (g,dc)::l,f=>bif ab1 g f then some dc else JD l f
theorem HE{f:FuncId}{dc:iT}:∀{l:List (FuncId×iT)},JD l f=some dc->(f,dc)∈l
 | (g,dc')::l,h=>by
   simp only[JD] at h;cases hb:ab1 g f with
   | true =>
     rw[hb] at h;cases h;rw[acu hb];exact List.mem_cons_self
   | false =>
     rw[hb] at h;exact ab8 _ (HE h)
def Rl(Δ:List (FuncId×iT))(S:ak)(g:FuncId)(args:List V):Option (Cd×Option Bool×Value×ak) :=
 match JD Δ g with
 | some dc => match qZ S dc.refs args with
   | some (c1, xD, ms) =>
     let rs:=(wm S 2 (qB dc.refs args [])).filter (El S)
     bif rI rs&&Ek ms rs then
      match gW S rs with
      | some fj=>match iD (idxOf rs) fj,ux (idxOf rs) xD with
        | some bM,some sF=>match dc.f (sF.map A.p) bM with
          | some (c2,b,u)=>some (.and c1 c2,b,u,gb (gb S ms) rs)
          | none=>none
        | _,_=>none
      | none=>none
     else none
   | none=>none
 | none=>none
theorem St.gb{base:Nat}{η:Eta}{Z:Zeta}{w:World}:∀{ms:List Nat}{S:ak},St base η Z S w->St base η Z (gb S ms) w
 | [],_,R=>R
 | m::ms,S,R=>by
   show St base η Z (aT.gb (S.del m) ms) w;exact St.gb (R.del m)
def CallDie(P:Program)(f:FuncId)(args:List A)(S:ak)(u:Value)(S':ak):Prop :=
 ∀ base η Z w vs,St base η Z S w->bg (cr η Z) args vs->iL P Z->CallsIn Fence.wide 0 P f vs.toArray w fun e w'=>e=.panicked [{ v:=u,recovered:=false }]/\∃ Z',Moves base η Z S w η Z' S' w'
theorem O5{P : Program}{Δ : List (FuncId × iT)}(tJ : ∀ x ∈ Δ, gQ P x.1 x.2){S S' : ak}{g : FuncId}{args : List V}{c : Cd}{b : Option Bool}{u : Value}(e : Rl Δ S g args = some (c, b, u, S'))(hc : c) : (b ≠ some false → CallDie P g (args.map A.p) S u S') ∧ enters P g = true := by
 unfold Rl at e;split at e
 · rename_i dc hdc
   split at e
   · rename_i c1 xD ms JB
     simp only at e;generalize (wm S 2 (qB dc.refs args [])).filter (El S)=rs at e;obtain⟨hb,e⟩:=aA.aH e;simp only[ab3] at hb;split at e;rename_i fj fH;split at e;rename_i bM sF hO hargs;split at e;rename_i c2 b' u' hf;cases e;have hD:=tJ (g,dc) (HE hdc);refine⟨fun hbt=>?_,hD.ent⟩;have xA:=hD.sem _ _ _ _ _ hf hc.2 hbt;have xB:=zD hb.2;have hnd:=jj hb.1;intro base η Z w vs R hvs hK;obtain⟨Z1,mv,sees⟩:=zC (ms:=ms) R;have Vc:gW (gb S ms) rs=some fj:=by rw[vz xB];exact fH
     obtain⟨R1,hown1⟩:=mv.st.sub hnd Vc hO;have hv1:bg (cW η Z1) xD vs:=o8 R mv.step.cG JB hc.1 sees (jV.1 hvs);have hv0:bg (cr (cO η rs) Z1) (sF.map A.p) vs:=by
      refine jV.2 (o6 (fun n m en p hp=>?_) (.inr (Zeta.le.refl _)) hargs hv1);unfold cO;rw[fY en];exact hp
     refine(xA base (cO η rs) Z1 w vs R1 hv0 (hK.mono mv.step.cG)).mono ?_;rintro e1 w1 ⟨rfl,Z',mk⟩;refine⟨rfl,Z',?_⟩;have hnot:∀ b,Own η (gb (gb S ms) rs) b->¬Own (cO η rs) (.ofList bM) b:=by
      rintro b ⟨n,o,p,h1,h2,yM⟩ ⟨i,o',p',h1',h2',hbi⟩;obtain⟨h1a,h1b⟩:=xu h1;unfold cO at h2';split at h2';rename_i m hm;obtain⟨oS,ho,_⟩:=(lT Vc).2 i m hm;have hne:n≠m:=by
       rintro rfl;exact h1b (acw hm)
      exact mv.st.jh n m o oS p p' b h1a ho hne h2 h2' yM hbi;cases h2'
     have Rr:=(mv.st.gb (ms:=rs));have hz:∀ b,Own η (gb (gb S ms) rs) b->Z' b=none:=by
      intro b ho;cases hzb:Z' b with
      | none=>rfl
      | some cs =>
        obtain⟨n,o,p,h1,h2,yM⟩:=ho;have hall:=Rr.all h1 h2 yM;have hlt:=Rr.jz h1 h2 yM;rcases mk.step.ga b cs hzb with h|h|h;rw[hall.2.1] at h;cases h;exact absurd h (hnot b ⟨n,o,p,h1,h2,yM⟩);omega
     refine mv.trans ⟨Eta.le.refl _,Rr.vZ mk.step.cG mk.st.zs mk.step.size (fun b ho=>?_) hz,⟨mk.step.os,mk.step.tape,mk.step.output,mk.step.size,fun b hb' ho=>mk.step.block b hb' fun h=>ho (hown1 b h),fun b ho=>.inl ?_,mk.step.cG,fun b cs hzb=>?_,by rw[xw]⟩⟩;obtain⟨n,o,p,h1,h2,yM⟩:=ho;exact mk.step.block b (Rr.jz h1 h2 yM) (hnot b ⟨n,o,p,h1,h2,yM⟩);obtain⟨n,o,p,h1,h2,yM⟩:=ho;exact⟨n,o,p,(xu h1).1,h2,yM⟩;rcases mk.step.ga b cs hzb with h|h|h;exact .inl h;exact .inr (.inl (hown1 b h));exact .inr (.inr h);cases e;cases e;cases e
   cases e
 cases e
structure Dy where
 Δ:List (FuncId×iT):=[]
 pn:Value->Fr->ak->Prop:=fun _ _ _=>False
def YX(Δ:List (FuncId×iT))(F:Fr)(S:ak):O->Option (Cd×Option Bool×Value×ak)
 | .call f args=>match Δ with
   | []=>none
   | _ :: _ => match fO F f, mD F args with
     | some (p,.func g caps),some (q,vs)=>match Rl Δ S g (vs++caps.map fun x=>.c (.ptr x.1 x.2)) with
       | some (c,b,u,S')=>some (.and p (.and q c),b,u,S')
       | none=>none
     | some (p,.eF g n off),some (q,vs)=>match Rl Δ S g (.c (.ptr n off)::vs) with
       | some (c,b,u,S')=>some (.and p (.and q c),b,u,S')
       | none=>none
     | _,_=>none
 | _=>none
theorem O6{P : Program}{base nt : Nat}{η : Eta}{Z : Zeta}{S : ak}{w : World}{F : Fr}{a : Act}{Δ : List (FuncId × iT)}(tJ : ∀ x ∈ Δ, gQ P x.1 x.2)(hT : iL P Z){sq : Bool}(R : St base η Z S w)(FR : bq nt η Z F a.tmps){o : Oper}{k : O}(ht : zE P sq o = some k){c : Cd}{b : Option Bool}{u : Value}{S' : ak}(e : YX Δ F S k = some (c, b, u, S'))(hc : c)(hb : b ≠ some false)
 {Fc:Fence} (hF:WF Fc) {rest:Act->World->Prop} {Q:Exit->Act->World->Prop} (hn:∀ Z' w',Moves base η Z S w η Z' S' w'->Q (C0 u) a w'):o.wpIn Fc 0 P a w rest Q:=by
 unfold YX at e;split at e;rename_i f args;split at e;cases e;obtain⟨f',args',ts,hop,hf,hal⟩:=zT ht;have hd:∀ c,o.op≠.defer c:=fun c hc=>by rw[hop] at hc;cases hc
 split at e;rename_i p g caps q vs zH kH;split at e;rename_i c0 b0 u0 S0 YZ;cases e;obtain⟨hp,lH,hc'⟩:=hc;obtain⟨vS,hent⟩:=O5 tJ YZ hc';refine⟨fun f _=>hF.fn f,?_⟩;rw[Oper.semAt_eq _ _ _ hd];obtain⟨_,cs,zI,hcs⟩:=aN FR hf zH hp;have hvs:=p5 FR hal kH lH;obtain⟨fn,body,h1,h2,h3⟩:=lU hent;have xG:(execOp a.eval o).run P w=.ok (.enter g ((args'.toList.map a.eval).toArray++cs.toArray)) w:=by
  unfold execOp;rw[hop];have hargs:(args'.toList.map a.eval).toArray=args'.map a.eval:=by apply acz;simp
  simp only[resolve,zI,Deferred.ofValue,pure_bind,invoke,hargs];have:(#[]:Array Value)++args'.map a.eval=args'.map a.eval:=by simp
  rw[this];simp[callFunc,h1,h3,h2]
 rw[xG];refine⟨hF.depth,hF.calls ?_⟩;have happ:(args'.toList.map a.eval).toArray++cs.toArray=(args'.toList.map a.eval++cs).toArray:=by simp
 rw[happ];refine(vS hb base η Z w _ R (jV.2 (hvs.append (Hr hcs))) hT).mono ?_;rintro e1 w1 ⟨rfl,Z',mv⟩;exact hn Z' w1 mv;cases e;rename_i p g n off q vs zH kH;split at e;rename_i c0 b0 u0 S0 YZ;cases e;obtain⟨hp,lH,hc'⟩:=hc;obtain⟨vS,hent⟩:=O5 tJ YZ hc';refine⟨fun f _=>hF.fn f,?_⟩;rw[Oper.semAt_eq _ _ _ hd];obtain⟨_,pu,zI,OZ⟩:=aN FR hf zH hp;have hvs:=p5 FR hal kH lH;obtain⟨fn,body,h1,h2,h3⟩:=lU hent;have xG:(execOp a.eval o).run P w=.ok (.enter g (pu::args'.toList.map a.eval).toArray) w:=by
  unfold execOp;rw[hop];have hargs:#[pu]++args'.map a.eval=(pu::args'.toList.map a.eval).toArray:=by apply acz;simp
  simp only[resolve,zI,Deferred.ofValue,pure_bind,invoke,hargs];have:(pu::args'.toList.map a.eval).toArray++(#[]:Array Value)=(pu::args'.toList.map a.eval).toArray:=by simp
  first|rw[this]|skip
  simp[callFunc,h1,h3,h2]
 rw[xG];refine⟨hF.depth,hF.calls ?_⟩;refine(vS hb base η Z w (pu::args'.toList.map a.eval) R (jV.2 ⟨⟨by simp,OZ⟩,hvs⟩) hT).mono ?_;rintro e1 w1 ⟨rfl,Z',mv⟩;exact hn Z' w1 mv;cases e;cases e;cases e
def Rm(yl:Bool)(Γ:bN)(F:Fr)(S:ak)(o:j5)(next:Fr->ak->Prop):Prop :=
 match tI yl F S o.o with
 | some (c,v,S')=>gM c.list (next (lq F o.dst v) S')
 | none=>match KG F o.o with
 | some (c,p)=>gM c.list (∀ b,p b->next (lq F o.dst (.p (.c (.bool b)))) S)
 | none=>match rJ Γ F S o.o with
 | some (.pure c v)=>gM c.list (next (lq F o.dst v) S)
 | some (.KF c v S')=>gM c.list (next (lq F o.dst v) S')
 | none=>False
def Ro(yl:Bool)(Γ:bN)(D:Dy)(F:Fr)(S:ak)(o:j5)(next:Fr->ak->Prop):Prop :=
 match YX D.Δ F S o.o with
 | some (c,ob,u,S')=>match ob with
   | none=>gM c.list (D.pn u F S')
   | some b=>gM c.list ((b=true->D.pn u F S')/\(b=false->Rm yl Γ F S o next))
 | none=>Rm yl Γ F S o next
def opW(yl:Bool)(Γ:bN)(D:Dy)(F:Fr)(S:ak)(o:j5)(next:Fr->ak->Prop):Prop :=
 match guardE F o.guard with
 | some .run=>Ro yl Γ D F S o next
 | some .skip=>next (lq F o.dst (.aJ [])) S
 | some (.cond g)=>match rJ Γ F S o.o with
   | some (.pure c (.p v))=>gM (c.list.map (g->·)) (next (lq F o.dst (.cond g v)) S)
   | _=>False
 | some (.bool d b want)=>match rJ Γ F S o.o with
   | some (.pure c (.p v))=>gM (c.list.map ((b=want)->·)) (next (lq F o.dst (.cond (b=want) v)) S)
   | _=>(b=want->Ro yl Γ D (aA.T.set F d (.dec want)) S o next)/\(b=!want->next (lq (aA.T.set F d (.dec (!want))) o.dst (.aJ [])) S)
 | none=>False
def FT(yl:Bool)(Γ:bN)(D:Dy):List j5->Fr->ak->(Fr->ak->Prop)->Prop
 | [],F,S,k=>k F S
 | o::l,F,S,k=>opW yl Γ D F S o fun F' S'=>FT yl Γ D l F' S' k
section
variable {P:Program} {C:Ctx} {nt:Nat} {η:Eta} {Z:Zeta} {S:ak} {w:World} {F:Fr} {a:Act}
def Rp(C:Ctx)(nt:Nat)(yl:Bool)(η:Eta)(Z:Zeta)(w:World)(a:Act)(next:Fr->ak->Prop)(rest:Act->World->Prop):Prop :=
 ∀ F' S' aG Z' a' w',next F' S'->η.le aG->Z.le Z'->Inv C aG Z' S' w'->Calm yl w w'->bq nt aG Z' F' a'.tmps->a'.defers=a.defers->rest a' w'
theorem O7{Γ:bN}(dm:bp P Γ)(hK:nG P C){yl:Bool}(hh:yl=true->Hand P C){sq:Bool}(I:Inv C η Z S w)(FR:bq nt η Z F a.tmps){ops:Array Oper}{o:Oper}{x:j5}(ht:pZ P sq nt ops o=some x){next:Fr->ak->Prop}(h:Rm yl Γ F S x next)
 {Fc:Fence} (hF:WF Fc) {rest:Act->World->Prop} {Q:Exit->Act->World->Prop} (hn:Rp C nt yl η Z w a next rest):o.wpIn Fc 0 P a w rest Q:=by
 obtain⟨h1,h2,h3,h4⟩:=iE ht;unfold Rm at h;split at h;rename_i c v S' e;obtain⟨hc,qq⟩:=ic h;have hy:yl=true:=by
  cases yl with
  | true=>rfl
  | false =>
    unfold tI at e;split at e;simp at e;simp at e;cases e
 subst hy;refine Hz (hh rfl) I FR h3 e hc hF ?_;intro u w' Z' hz I' hr;refine hn _ _ η Z' _ w' qq (Eta.le.refl _) hz I' (fun h=>by cases h) ?_ (put_defers _ _ _);rw[h1];exact qC (FR.mono (Eta.le.refl _) hz) h4 hr;have go:∀ r,rJ Γ F S x.o=some r->r.cd->next (lq F x.dst r.v) (r.st S)->o.wpIn Fc 0 P a w rest Q:=by
  intro r e hc qq;refine Em dm (hK _ _ _ _ I.rel) I.st FR h3 e hc Fc hF rest Q ?_;intro u w' aG Z' mv hr;refine hn _ _ aG Z' _ w' qq mv.le mv.step.cG (I.moves mv) (mv.calm I.st _) ?_ (put_defers _ _ _);rw[h1];exact qC (FR.mono mv.le mv.step.cG) h4 hr
 split at h
 · rename_i c p e
   obtain⟨hc,qq⟩:=ic h;have hk : O3 P o.op = some x.o := by
    obtain⟨neg,y,hy⟩:∃ neg y,x.o=.BZ neg y:=by
     cases hx:x.o with
     | BZ neg y=>exact⟨neg,y,rfl⟩
     | _=>rw[hx] at e;simp only[KG] at e;cases e
    unfold zE at h3;rw[hy] at h3 ⊢;split at h3;split at h3<;>cases h3
    · split at h3
      rename_i k' hk';rw[hk'];exact h3;cases sq with
      | true =>
        simp only[cond_true] at h3;split at h3;cases h3;split at h3<;>cases h3
      | false =>
        simp only[cond_false] at h3;split at h3;cases h3;obtain⟨_,h3⟩:=aA.aH h3;split at h3<;>cases h3
   obtain⟨b,hp,hs⟩:=nilE_ok (w:=w) FR hk e hc;have hd:∀ c,o.op≠.defer c:=fun c hc=>by rw[hc] at hk;cases hk
   refine sG.does I.st hd hs Fc hF rest Q ?_;intro u w' aG Z' mv hr;refine hn _ _ aG Z' _ w' (qq b hp) mv.le mv.step.cG (I.moves mv) (mv.calm I.st _) ?_ (put_defers _ _ _);rw[h1];exact qC (FR.mono mv.le mv.step.cG) h4 hr
 split at h;rename_i c v e;obtain⟨hc,qq⟩:=ic h;exact go _ e hc qq;rename_i c v S' e;obtain⟨hc,qq⟩:=ic h;exact go _ e hc qq;exact h.elim
def xO(C:Ctx)(nt:Nat)(yl:Bool)(w:World)(ds:List Deferred)(pn:Value->Fr->ak->Prop)(Q:Exit->Act->World->Prop):Prop :=
 ∀ u F' S' aG Z' a' w',pn u F' S'->Inv C aG Z' S' w'->Calm yl w w'->bq nt aG Z' F' a'.tmps->a'.defers=ds->Q (C0 u) a' w'
theorem xO.later{C:Ctx}{nt:Nat}{yl:Bool}{w w1:World}{ds:List Deferred}{pn:Value->Fr->ak->Prop}{Q:Exit->Act->World->Prop}(h:xO C nt yl w ds pn Q)(cm:Calm yl w w1):xO C nt yl w1 ds pn Q :=
 fun u F' S' aG Z' a' w' hp I c FR hd=>h u F' S' aG Z' a' w' hp I (cm.trans c) FR hd
theorem O8{Γ:bN}(dm:bp P Γ)(hK:nG P C){D:Dy}(tJ:∀ x∈D.Δ,gQ P x.1 x.2){yl:Bool}(hh:yl=true->Hand P C){sq:Bool}(I:Inv C η Z S w)(FR:bq nt η Z F a.tmps){ops:Array Oper}{o:Oper}{x:j5}(ht:pZ P sq nt ops o=some x){next:Fr->ak->Prop}(h:Ro yl Γ D F S x next)
 {Fc:Fence} (hF:WF Fc) {rest:Act->World->Prop} {Q:Exit->Act->World->Prop} (hn:Rp C nt yl η Z w a next rest) (hp:xO C nt yl w a.defers D.pn Q):o.wpIn Fc 0 P a w rest Q:=by
 unfold Ro at h;obtain⟨_,_,h3,_⟩:=iE ht;split at h;rename_i c ob u S' e;split at h;obtain⟨hc,h1⟩:=ic h;refine O6 tJ (hK _ _ _ _ I.rel) I.st FR h3 e hc (by simp) hF fun Z' w' mv=>?_;exact hp u F S' η Z' a w' h1 (I.moves mv) (mv.calm I.st _) (FR.mono (Eta.le.refl _) mv.step.cG) rfl
 . rename_i b;obtain⟨hc,h1,h2⟩:=ic h;cases hb:b with
   | true =>
     subst hb;refine O6 tJ (hK _ _ _ _ I.rel) I.st FR h3 e hc (by simp) hF fun Z' w' mv=>?_;exact hp u F S' η Z' a w' (h1 rfl) (I.moves mv) (mv.calm I.st _) (FR.mono (Eta.le.refl _) mv.step.cG) rfl
   | false=>exact O7 dm hK hh I FR ht (h2 hb) hF hn
 exact O7 dm hK hh I FR ht h hF hn
theorem opW_ok{Γ:bN}(dm:bp P Γ)(hK:nG P C){D:Dy}(tJ:∀ x∈D.Δ,gQ P x.1 x.2){yl:Bool}(hh:yl=true->Hand P C){sq:Bool}(I:Inv C η Z S w)(FR:bq nt η Z F a.tmps){ops:Array Oper}{o:Oper}{x:j5}(ht:pZ P sq nt ops o=some x){next:Fr->ak->Prop}(h:opW yl Γ D F S x next)
 {Fc:Fence} (hF:WF Fc) {rest:Act->World->Prop} {Q:Exit->Act->World->Prop} (hn:Rp C nt yl η Z w a next rest) (hp:xO C nt yl w a.defers D.pn Q) :
 if Region.wanted o (yielded ops a.tmps) then o.wpIn Fc 0 P a w rest Q else(∀ f,o.about P w a.eval=some f->Fc.fn f)/\rest (a.put o.dst undef) w:=by
 obtain⟨h1,h2,h3,h4⟩:=iE ht;have skip:∀{F':Fr},bq nt η Z F' a.tmps->next (lq F' x.dst (.aJ [])) S->(∀ f,o.about P w a.eval=some f->Fc.fn f)/\rest (a.put o.dst undef) w:=by
  intro F' lA qq;refine⟨fun f _=>hF.fn f,hn _ _ η Z _ w qq (Eta.le.refl _) (Zeta.le.refl _) I (Calm.refl _ _) ?_ (put_defers _ _ _)⟩;rw[h1];exact qC lA h4 Ht
 have cond:∀(g:Prop) c v,(Region.wanted o (yielded ops a.tmps)=true↔g)->rJ Γ F S x.o=some (.pure c (.p v))->gM (c.list.map (g->·)) (next (lq F x.dst (.cond g v)) S)->if Region.wanted o (yielded ops a.tmps) then o.wpIn Fc 0 P a w rest Q else(∀ f,o.about P w a.eval=some f->Fc.fn f)/\rest (a.put o.dst undef) w:=by
  intro g c v hw e hh;obtain⟨hc,qq⟩:=cd_imp hh;by_cases hg:g;rw[if_pos (hw.2 hg)];refine Em dm (hK _ _ _ _ I.rel) I.st FR h3 e (hc hg) Fc hF rest Q ?_;intro u w' aG Z' mv hr;refine hn _ _ aG Z' _ w' qq mv.le mv.step.cG (I.moves mv) (mv.calm I.st _) ?_ (put_defers _ _ _);rw[h1];exact qC (FR.mono mv.le mv.step.cG) h4 ⟨fun _=>hr,fun hh=>absurd hg hh⟩;rw[if_neg (fun hh=>hg (hw.1 hh))];refine⟨fun f _=>hF.fn f,hn _ _ η Z _ w qq (Eta.le.refl _) (Zeta.le.refl _) I (Calm.refl _ _) ?_ (put_defers _ _ _)⟩;rw[h1];exact qC FR h4 ⟨fun hh=>absurd hh hg,fun _=>rfl⟩
 unfold opW at h;split at h;rename_i hg;have:=jI FR h2 hg;rw[if_pos (this.2 trivial)];exact O8 dm hK tJ hh I FR ht h hF hn hp;rename_i hg;have:=jI FR h2 hg;rw[if_neg (fun hh=>this.1 hh)];exact skip FR h;rename_i g hg;have:=jI FR h2 hg;split at h;rename_i c v e;exact cond g c v this e h;exact h.elim;rename_i d b want hg;have hw:=jI FR h2 hg;have hslot : F.get d = some (.p (.c (.bool b))) := by
  unfold guardE at hg;split at hg;cases hg;split at hg;rename_i b' hb';generalize (b'==_)=t at hg;cases t<;>cases hg;rename_i b' hb';cases hg;exact hb';cases hg;cases hg;cases hg
 split at h;rename_i c v e;exact cond (b=want) c v hw e h;by_cases hb:b=want
 · rw[if_pos (hw.2 hb)]
   have rL:bq nt η Z (aA.T.set F d (.dec want)) a.tmps:=by
    refine⟨FR.1,fun i y e=>?_⟩;rw[T.oV] at e;by_cases hi:i=d;subst hi;rw[if_pos rfl] at e;cases e;obtain⟨v,hv,hr⟩:=FR.2 i _ hslot;refine⟨v,hv,?_⟩;have hr':v=.bool b:=by have:=hr.2;simpa[aI,aQ] using this
    rw[hr',hb];rfl;rw[if_neg hi] at e;exact FR.2 i y e
   exact O8 dm hK tJ hh I rL ht (h.1 hb) hF hn hp
 · rw[if_neg (fun hh => hb (hw.1 hh))]
   have hb':b=!want:=by cases b<;>cases want<;>simp_all
   have rL:bq nt η Z (aA.T.set F d (.dec (!want))) a.tmps:=by
    refine⟨FR.1,fun i y e=>?_⟩;rw[T.oV] at e;by_cases hi:i=d;subst hi;rw[if_pos rfl] at e;cases e;obtain⟨v,hv,hr⟩:=FR.2 i _ hslot;refine⟨v,hv,?_⟩;have hr':v=.bool b:=by have:=hr.2;simpa[aI,aQ] using this
    rw[hr',hb'];rfl;rw[if_neg hi] at e;exact FR.2 i y e
   exact skip rL (h.2 hb')
 exact h.elim
theorem xP{Γ:bN}(dm:bp P Γ)(hK:nG P C){D:Dy}(tJ:∀ x∈D.Δ,gQ P x.1 x.2){yl:Bool}(hh:yl=true->Hand P C){sq:Bool}{ops:Array Oper}{Fc:Fence}(hF:WF Fc){Q:Exit->Act->World->Prop}{k:Fr->ak->Prop}:∀{l:List Oper}{xs:List j5}{idx rest:List Nat}{η:Eta}{Z:Zeta}{S:ak}{w:World}{F:Fr}{a:Act},jH P sq nt ops l=some xs->idx.map (fun i=>ops[i]?)=l.map some->Inv C η Z S w->bq nt η Z F a.tmps->FT yl Γ D xs F S k->xO C nt yl w a.defers D.pn Q->
 (∀ F' S' aG Z' a' w',k F' S'->η.le aG->Z.le Z'->Inv C aG Z' S' w'->Calm yl w w'->bq nt aG Z' F' a'.tmps->a'.defers=a.defers->wpOpsIn Fc 0 P ops Q rest a' w')->wpOpsIn Fc 0 P ops Q (idx++rest) a w
 | [],xs,idx,rest,η,Z,S,w,F,a,ht,hi,I,FR,h,_,hQ=>by
   simp only[jH] at ht;cases ht;cases idx with
   | cons _ _=>simp at hi
   | nil=>exact hQ F S η Z a w h (Eta.le.refl _) (Zeta.le.refl _) I (Calm.refl _ _) FR rfl
 | o :: l, xs, idx, rest, η, Z, S, w, F, a, ht, hi, I, FR, h, hP, hQ => by
   simp only[jH] at ht;split at ht
   . rename_i x r hx hr;cases ht;cases idx with
     | nil=>simp at hi
     | cons i idx =>
       simp only[acA,List.cons.injEq] at hi;simp only[List.cons_append,wpOpsIn,hi.1];refine opW_ok dm hK tJ hh I FR hx h hF ?_ hP;intro F' S' aG Z' a' w' qq hle hz I' cm lA hd;refine xP dm hK tJ hh hF hr hi.2 I' lA qq (by rw[hd];exact hP.later cm) ?_;intro F'' yO η'' Z'' a'' w'' hk hle' hz' I'' cm' FR'' hd';exact hQ F'' yO η'' Z'' a'' w'' hk (hle.trans hle') (hz.trans hz') I'' (cm.trans cm') FR'' (hd'.trans hd)
   cases ht
theorem opsW_ok{Γ:bN}(dm:bp P Γ)(hK:nG P C){D:Dy}(tJ:∀ x∈D.Δ,gQ P x.1 x.2){yl:Bool}(hh:yl=true->Hand P C){sq:Bool}{ops:Array Oper}{Fc:Fence}(hF:WF Fc){Q:Exit->Act->World->Prop}{k:Fr->ak->Prop}:∀{l:List Oper}{xs:List j5}{idx:List Nat}{η:Eta}{Z:Zeta}{S:ak}{w:World}{F:Fr}{a:Act},jH P sq nt ops l=some xs->idx.map (fun i=>ops[i]?)=l.map some->Inv C η Z S w->bq nt η Z F a.tmps->FT yl Γ D xs F S k->xO C nt yl w a.defers D.pn Q->
 (∀ F' S' aG Z' a' w',k F' S'->η.le aG->Z.le Z'->Inv C aG Z' S' w'->Calm yl w w'->bq nt aG Z' F' a'.tmps->a'.defers=a.defers->Q .normal a' w')->wpOpsIn Fc 0 P ops Q idx a w:=by
 intro l xs idx η Z S w F a ht hi I FR h hP hQ;have:=xP dm hK tJ hh hF (Q:=Q) (rest:=[]) ht hi I FR h hP (fun F' S' aG Z' a' w' h1 h2 h3 h4 h5 h6 h7=>hQ F' S' aG Z' a' w' h1 h2 h3 h4 h5 h6 h7)
 rwa [acI] at this
end
def isDfr(o:Oper):Bool:=match o.op with | .defer _=>true|_=>false
def zU:List Oper->Option (List Oper×Oper)
 | []=>none
 | [o]=>bif isDfr o then some ([],o) else none
 | o::l=>match zU l with|some (p,x)=>some (o::p,x)|none=>none
theorem HF:∀{l p:List Oper}{x:Oper},zU l=some (p,x)->l=p++[x]
 | [],_,_,e=>by cases e
 | [o],p,x,e=>by
   simp only[zU] at e;obtain⟨_,e⟩:=aA.aH e;cases e;rfl
 | o :: o' :: l, p, x, e => by
   simp only[zU] at e;split at e;rename_i p' x' h;cases e;rw[HF h];rfl;cases e
def Y0(F:Fr)(o:Oper):Option (Cd×FuncId×Nat) :=
 match o.op,o.guard,o.dst with
 | .defer { callee:=.value x,args,.. },none,none=>match bU x with
   | some x=>match fO F x with
     | some (p,.func f caps)=>some (p,f,args.size+caps.length)
     | _=>none
   | none=>none
 | _,_,_=>none
def xQ(tK:List (FuncId×Nat))(d:Deferred):Prop:=∃ f cs args,d={ target:=.fn (.func f) cs,args }/\(f,args.size+cs.size)∈tK
theorem dfrE_ok{P : Program}{nt : Nat}{η : Eta}{Z : Zeta}{F : Fr}{a : Act}{w : World}(FR : bq nt η Z F a.tmps){ops : Array Oper}{k : Nat}{o : Oper}(ho : ops[k]? = some o){p : Cd}{f : FuncId}{n : Nat}(e : Y0 F o = some (p, f, n))(hp : p){Fc : Fence}(hF : WF Fc)(hro : Fc.round = none){Q : Exit → Act → World → Prop}
 (h:∀ d,xQ [(f,n)] d->Q .normal { a with defers:=d::a.defers } w):wpOpsIn Fc 0 P ops Q [k] a w:=by
 unfold Y0 at e;split at e;rename_i x args ts hop hg jk;split at e;rename_i y hy;split at e;rename_i p' f' caps hx;cases e;obtain⟨_,cs,hcv,hcs⟩:=aN FR hy hx hp;simp only[wpOpsIn,ho];have hw:Region.wanted o (yielded ops a.tmps)=true:=by simp[Region.wanted,hg]
 rw[hw];simp only[if_true];refine⟨fun f _=>hF.fn f,?_⟩;have hrun:(execOp a.eval o).run P w=.ok (.defer { target:=.fn (.func f) cs.toArray,args:=args.map a.eval }) w:=by
  unfold execOp;rw[hop];simp only[resolve,hcv,Deferred.ofValue];simp
 rw[hro,Oper.semAt_none,hrun];have:=h { target:=.fn (.func f) cs.toArray,args:=args.map a.eval } ⟨f,cs.toArray,args.map a.eval,rfl,by
  have:=hcs.length;simp[this]⟩
 simpa[wpOpsIn,Oper.uponIn,Act.put,jk] using this;cases e;cases e;cases e
def Y1(F:Fr)(o:Oper):Option (Cd×FuncId×List (Nat×Nat)) :=
 match o.op,o.guard,o.dst with
 | .defer { callee:=.value x,args:=⟨[]⟩,.. },none,none=>match bU x with
   | some x=>match fO F x with
     | some (p,.func f caps)=>some (p,f,caps)
     | _=>none
   | none=>none
 | _,_,_=>none
theorem dfrC_ok{P : Program}{nt : Nat}{η : Eta}{Z : Zeta}{F : Fr}{a : Act}{w : World}(FR : bq nt η Z F a.tmps){ops : Array Oper}{k : Nat}{o : Oper}(ho : ops[k]? = some o){p : Cd}{f : FuncId}{caps : List (Nat × Nat)}(e : Y1 F o = some (p, f, caps))(hp : p){Fc : Fence}(hF : WF Fc)(hro : Fc.round = none){Q : Exit → Act → World → Prop}
 (h:∀ cs:List Value,bg (gJ η) caps cs->Q .normal { a with defers:={ target:=.fn (.func f) cs.toArray,args:=#[] }::a.defers } w):wpOpsIn Fc 0 P ops Q [k] a w:=by
 unfold Y1 at e;split at e;rename_i x ts hop hg jk;split at e;rename_i y hy;split at e;rename_i p' f' caps' hx;cases e;obtain⟨_,cs,hcv,hcs⟩:=aN FR hy hx hp;simp only[wpOpsIn,ho];have hw:Region.wanted o (yielded ops a.tmps)=true:=by simp[Region.wanted,hg]
 rw[hw];simp only[if_true];refine⟨fun f _=>hF.fn f,?_⟩;have hrun:(execOp a.eval o).run P w=.ok (.defer { target:=.fn (.func f) cs.toArray,args:=#[] }) w:=by
  unfold execOp;rw[hop];simp only[resolve,hcv,Deferred.ofValue];simp
 rw[hro,Oper.semAt_none,hrun];have:=h cs hcs;simpa[wpOpsIn,Oper.uponIn,Act.put,jk] using this;cases e;cases e;cases e
def isPnc(o:Oper):Bool:=match o.op with | .panic _=>true|_=>false
def zV:List Oper->Option (List Oper×Oper)
 | []=>none
 | [o]=>bif isPnc o then some ([],o) else none
 | o::l=>match zV l with|some (p,x)=>some (o::p,x)|none=>none
theorem HG:∀{l p:List Oper}{x:Oper},zV l=some (p,x)->l=p++[x]
 | [],_,_,e=>by cases e
 | [o],p,x,e=>by
   simp only[zV] at e;obtain⟨_,e⟩:=aA.aH e;cases e;rfl
 | o :: o' :: l, p, x, e => by
   simp only[zV] at e;split at e;rename_i p' x' h;cases e;rw[HG h];rfl;cases e
def Y2(F:Fr)(o:Oper):Option (Cd×Value) :=
 match o.op,o.guard with
 | .panic x,none=>match bU x with
   | some x=>match fO F x with
     | some (p,.val (.iface t v))=>some (p,.iface t v)
     | _=>none
   | none=>none
 | _,_=>none
theorem pncE_ok{P : Program}{nt : Nat}{η : Eta}{Z : Zeta}{F : Fr}{a : Act}{w : World}(FR : bq nt η Z F a.tmps){ops : Array Oper}{k : Nat}{o : Oper}(ho : ops[k]? = some o){p : Cd}{u : Value}(e : Y2 F o = some (p, u))(hp : p){Fc : Fence}(hF : WF Fc){Q : Exit → Act → World → Prop}
 (h:Q (C0 u) a w):wpOpsIn Fc 0 P ops Q [k] a w:=by
 unfold Y2 at e;split at e;rename_i x hop hg;split at e;rename_i y hy;split at e;rename_i p' t v hx;cases e;have BV:a.eval x=.iface t v:=by have:=(aN FR hy hx hp).2;simp only[aI,aQ] at this;exact this.1
 simp only[wpOpsIn,ho];have hw:Region.wanted o (yielded ops a.tmps)=true:=by simp[Region.wanted,hg]
 rw[hw];simp only[if_true];refine⟨fun f _=>hF.fn f,?_⟩;have hd:∀ c,o.op≠.defer c:=fun c hc=>by rw[hop] at hc;cases hc
 rw[Oper.semAt_eq _ _ _ hd];have hrun:(execOp a.eval o).run P w=.halt (.panic (.iface t v)) w:=by
  unfold execOp;rw[hop];simp[BV,Instr.panic]
 rw[hrun];exact h;cases e;cases e;cases e
def FU(Γ:bN):Ev:=fun F S x=>match nR Γ F S x with
 | some r=>some r
 | none=>match guardE F x.guard with
   | some .run=>tI true F S x.o
   | _=>none
theorem Cc{yl:Bool}{F:Fr}{S:ak}{k:O}{r:Cd×A×ak}(e:tI yl F S k=some r):∃ f l,k=.call f l:=by
 unfold tI at e;split at e;exact⟨_,_,rfl⟩;exact⟨_,_,rfl⟩;cases e
theorem oneY_q{P:Program}{nt:Nat}{ops:Array Oper}(Γ:bN):Quiet P nt ops (FU Γ):=by
 refine⟨fun {F S x c v S' o} ht hq e=>?_,fun {F S S2 x c v S'} h e=>?_⟩;unfold FU at e;split at e;rename_i r hr;cases e;exact p6 ht hq hr
 · split at e
   obtain⟨f,y,hk⟩:=Cc e;obtain⟨_,_,h3,_⟩:=iE ht;rw[hk] at h3;exfalso;unfold zE at h3;split at h3;rename_i hop;rw[hop] at hq;simp[aA.cF] at hq;split at h3;rename_i k' hk';cases h3;obtain⟨_,_,hk'⟩:=Bc hk';cases hk';simp only[cond_false,hq] at h3;split at h3;cases h3;cases h3;cases e
 unfold FU at e;split at e;rename_i r hr;cases e;obtain⟨KH,h1,h2⟩:=xH (S2:=S2) h hr;exact⟨KH,by unfold FU;rw[h1],h2⟩;split at e;obtain⟨f,y,hk⟩:=Cc e;rw[hk] at h;cases h;cases e
def Rq(Γ:bN)(ops:Array Oper)(xs:List j5)(F:Fr)(S:ak)(k:Fr->ak->Prop):Prop :=
 match aA.sW ops with
 | true=>Bj (aA.eB ops.toList []) (qD ops) (Bg (FU Γ) ops xs F S k) (ops.size+1) []
 | false=>False
theorem Y3{P:Program}{nt:Nat}{C:Ctx}{Γ:bN}(dm:bp P Γ)(hK:nG P C)(hh:Hand P C){id:Nat}{ops:Array Oper}{xs:List j5}{F:Fr}{S:ak}{η:Eta}{Z:Zeta}{w:World}{a:Act}{k:Fr->ak->Prop}(ht:jH P false nt ops ops.toList=some xs)(h:Rq Γ ops xs F S k)
 {Fc:Fence} (hF:WF Fc) (I:Inv C η Z S w) (F':bq nt η Z F a.tmps) {Q:Exit->Act->World->Prop}
 (hQ:∀ F' S' aG Z' a' w',k F' S'->Inv C aG Z' S' w'->bq nt aG Z' F' a'.tmps->a'.defers=a.defers->Q .normal a' w'):(Code.region id ops true).wpIn Fc 0 P Q a w:=by
 unfold Rq at h;split at h;rename_i hok;have hp:=aA.tj hok;refine wpIn_region_draw fun t=>?_;have hval:=aA.qw hp (P.follows .mixedOrders) t;generalize Region.schedule (P.follows .mixedOrders) ops t=σ at hval;have:=xK hp h (fun i o hi=>by cases hi) hval (fun j _=>by simp[gN]);rw[aco] at this;refine Eo hp (oneY_q Γ) ht hval this (I1:=Inv C) (I.moves (Moves.drawn I.st _)) F' ?_ hQ;intro dR Z1 SD w1 a1 F1 o x c v S' I1 rL hro he hc rest hr;unfold FU at he;split at he;rename_i r hr1;cases he;refine FN dm (hK _ _ _ _ I1.rel) I1.st rL hro hr1 hc hF ?_;intro u w2 iW Z2 gU hu;exact hr u w2 iW Z2 gU.le gU.step.cG (I1.moves gU) hu;split at he;rename_i hg;obtain⟨h1,h2,h3,h4⟩:=iE hro;have:=jI rL h2 hg;rw[if_pos (this.2 trivial)];refine Hz hh I1 rL h3 he hc hF ?_;intro u w' Z' hz I' hu;exact hr u w' dR Z' (Eta.le.refl _) hz I' hu;cases he;exact h.elim
end Go.aT
namespace Go.aT
open Go.RowKit
open Go.aA (T WF X)
def child:Code->Nat->Option Code
 | .seq a b,d=>match d with|0=>some a|1=>some b|_=>none
 | .cond _ a b,d=>match d with|0=>some a|1=>some b|_=>none
 | .block _ b,d=>match d with|0=>some b|_=>none
 | .loop b,d=>match d with|0=>some b|_=>none
 | .scope b,d=>match d with|0=>some b|_=>none
 | _,_=>none
def fC(root:Code):List Nat->Option Code
 | []=>some root
 | d::rp=>match fC root rp with|some c=>child c d|none=>none
abbrev Post:=Exit->Act->World->Prop
def tL(P:Program)(Fc:Fence)(b:Code)(Q:Post)(a:Act)(w:World):Prop :=
 ∀(bf:Frame)(k:List Item)(cs:List Frame),bf.roundOf=Fc.round->Fc.fn bf.fn->Fc.room (cs.length+1+0)->
  ∃ e a' w',Q e a' w'/\ArrivesIn (Machine.fenced P Fc) P (lone (bf.atR a (.code b::.inLoop b::k)) cs w) bf k cs e a' w'
def C3(P:Program)(Fc:Fence)(b:Code)(Q:Post):Post:=fun e a w=>match e with
 | .normal=>tL P Fc b Q a w
 | .exit id=>Q (.exit id) a w
 | .ret=>Q .ret a w
 | .panic ch=>Q (.panic ch) a w
 | _=>False
theorem KT{P:Program}{Fc:Fence}{b:Code}{Q:Post}{a:Act}{w:World}(h:b.wpIn Fc 0 P (C3 P Fc b Q) a w):tL P Fc b Q a w:=by
 intro bf k cs hro hb hr;obtain⟨e1,a1,w1,hq,harr⟩:=h bf (.inLoop b::k) cs hro hb hr;cases e1 with
 | normal =>
   obtain⟨e2,a2,w2,hq2,harr2⟩:=hq bf k cs hro hb hr;exact⟨e2,a2,w2,hq2,.of_steps (StepsIn.trans harr (.one (fenced_calm hb hr rfl) stepR_inLoop)) harr2⟩
 | exit id=>exact⟨_,a1,w1,hq,.pass (x:=.inLoop b) rfl (fun _ _=>.inl (by simp)) harr⟩
 | ret=>exact⟨_,a1,w1,hq,.pass (x:=.inLoop b) rfl (fun _ _=>.inl (by simp)) harr⟩
 | panic ch=>exact⟨_,a1,w1,hq,.pass (x:=.inLoop b) rfl (fun _ _=>.inl (by simp)) harr⟩
 | _=>exact hq.elim
theorem wpIn_loop'{P:Program}{Fc:Fence}{b:Code}{Q:Post}{a:Act}{w:World}(h:tL P Fc b Q a w):(Code.loop b).wpIn Fc 0 P Q a w:=by
 intro bf k cs hro hb hr;obtain⟨e1,a1,w1,hq,harr⟩:=h bf k cs hro hb hr;exact⟨e1,a1,w1,hq,.of_steps (.one (fenced_calm hb hr rfl) stepR_loop) harr⟩
def kp(P:Program)(Fc:Fence)(root:Code)(Q:Post):List Nat->Post
 | []=>Q
 | d::rp=>match fC root rp with
   | some (.seq _ b)=>match d with|0=>Exit.then (b.wpIn Fc 0 P (kp P Fc root Q rp)) (kp P Fc root Q rp)|_=>kp P Fc root Q rp
   | some (.cond _ _ _)=>kp P Fc root Q rp
   | some (.block id _)=>Exit.inBlock id (kp P Fc root Q rp)
   | some (.loop b)=>C3 P Fc b (kp P Fc root Q rp)
   | some (.scope _)=>aA.noGo (kp P Fc root Q rp)
   | _=>fun _ _ _=>False
theorem zW{P:Program}{Fc:Fence}{root:Code}{Q:Post}{u:Value}{a:Act}{w:World}(h:Q (C0 u) a w):∀{rp:List Nat}{c:Code},fC root rp=some c->kp P Fc root Q rp (C0 u) a w
 | [],_,_=>h
 | d :: rp, c, hs => by
   simp only[fC] at hs;split at hs
   . rename_i p hp;have ih:=zW (P:=P) (Fc:=Fc) h hp;simp only[kp,hp];cases p with
     | seq x y=>cases d with
       | zero=>exact ih
       | succ d=>exact ih
     | cond _ x y=>exact ih
     | block id b=>exact ih
     | loop b=>exact ih
     | scope b=>exact ih
     | _=>simp[child] at hs
   cases hs
inductive Task where
 | code (c:Code) (rp:List Nat) (F:Fr) (S:ak)
 | up (rp:List Nat) (x:X) (F:Fr) (S:ak)
def FV:List (Nat×D)->Fr->ak->Option (Cd×Fr×ak)
 | [],F,S=>some (.t,F,S)
 | (t, d) :: l, F, S => match F.get t with
   | some (.p (.c x))=>match sw S d x with
     | some (c,y,S1)=>match FV l (T.set F t (.p (.c (d.w y)))) S1 with
       | some (c',F',S')=>some (.and c c',F',S')
       | none=>none
     | none=>none
   | _=>FV l F S
theorem FW{C : Ctx}{nt : Nat} : ∀{l : List (Nat × D)}{η : Eta}{Z : Zeta}{S S' : ak}{w : World}{F F' : Fr}{tmps : Array Value}{c : Cd}, Inv C η Z S w → bq nt η Z F tmps → FV l F S = some (c, F', S') → c → ∃ Z', Inv C η Z' S' w ∧ bq nt η Z' F' tmps
 | [],η,Z,S,S',w,F,F',tmps,c,I,FR,e,_=>by simp only[FV] at e;cases e;exact⟨Z,I,FR⟩
 | (t, d) :: l, η, Z, S, S', w, F, F', tmps, c, I, FR, e, hc => by
   simp only[FV] at e;split at e;rename_i x hx;split at e;rename_i c1 y S1 hf;split at e;rename_i c2 F2 S2 hr;cases e;obtain⟨v,hv,hvr⟩:=FR.2 t _ hx;obtain⟨Z1,mv,hd,_⟩:=lS I.st hf hc.1 hvr.2;refine FW (I.moves mv) ⟨FR.1,fun i z hz=>?_⟩ hr hc.2;rw[T.oV] at hz;by_cases hi:i=t;subst hi;rw[if_pos rfl] at hz;cases hz;exact⟨v,hv,D.jg _ _,(D.gC d).2 hd⟩;rw[if_neg hi] at hz;obtain⟨v',hv',hr'⟩:=FR.2 i z hz;exact⟨v',hv',hr'.mono (Eta.le.refl _) mv.step.cG⟩;cases e;cases e;exact FW I FR e hc
structure Env where
 P:Program
 Γ:bN
 yl:Bool
 nt:Nat
 root:Code
 keep:Nat
 aj:List Nat->List Nat
 bZ:List Nat->List (Nat×D)
 yU:List Nat->Fr->ak->Prop
 qt:List Nat->Fr->ak->Prop
 fin:X->Fr->ak->Prop
 tK:List (FuncId×Nat):=[]
 dies:List (FuncId×iT):=[]
 pn:Value->Fr->ak->Prop:=fun _ _ _=>False
 tlf:Option (FuncId×Nat):=none
 tlp:List Nat->Fr->ak->Prop:=fun _ _ _=>False
def uE(k:Nat):List (Nat×Nat):=(abZ k).map fun i=>(i,0)
def wu:List (Nat×Nat)->List (Nat×Nat)->Bool
 | [],[]=>true
 | (a,b)::l,(c,d)::m=>ab1 a c&&(ab1 b d&&wu l m)
 | _,_=>false
theorem HI:∀{l m:List (Nat×Nat)},wu l m=true->l=m
 | [],[],_=>rfl
 | (a,b)::l,(c,d)::m,h=>by
   simp only[wu,ab3,ab6] at h;obtain⟨rfl,rfl,h⟩:=h;rw[HI h]
 | [],_::_,h=>by simp[wu] at h
 | _::_,[],h=>by simp[wu] at h
def Env.dy(E:Env):Dy:=⟨E.dies,E.pn⟩
def pncW(E:Env)(F:Fr)(S:ak)(o:Oper):Prop :=
 match Y2 F o with
 | some (p,u)=>gM p.list (E.pn u F S)
 | none=>False
def Rt(f:FuncId)(n:Nat):List (FuncId×Nat)->Bool
 | []=>false
 | (g,m)::l=>(ab1 f g&&ab1 n m)||Rt f n l
theorem KU{f:FuncId}{n:Nat}:∀{l:List (FuncId×Nat)},Rt f n l=true->(f,n)∈l
 | (g,m)::l,h=>by
   simp only[Rt,acH,ab3,ab6] at h;rcases h with ⟨rfl,rfl⟩|h;simp;exact ab8 _ (KU h)
theorem bifP{b:Bool}{p:Prop}(h:bif b then p else False):b=true/\p:=by
 cases b with
 | true=>exact⟨rfl,h⟩
 | false=>exact h.elim
def dfrW(E:Env)(F:Fr)(o:Oper)(k:Prop):Prop :=
 match Y0 F o with
 | some (p,f,n)=>bif Rt f n E.tK then gM p.list k else False
 | none=>False
def dfrT(E:Env)(rp:List Nat)(F:Fr)(S:ak)(o:Oper)(k:Prop):Prop :=
 match E.tlf with
 | none=>dfrW E F o k
 | some (f,m)=>match Y1 F o with
   | some (p,g,caps)=>bif ab1 g f&&wu caps (uE m) then gM p.list (E.tlp rp F S) else False
   | none=>False
def atL(E:Env)(rp:List Nat)(F:Fr)(S:ak):Prop:=match FV (E.bZ rp) F S with
 | some (c,F1,S1)=>(match canon E.keep (E.aj rp) F1 S1 with|some (F',S')=>gM c.list (E.yU rp F' S')|none=>False)
 | none=>False
def eI(F:Fr)(x:bR)(b:Bool):Fr:=match x with | .tmp t=>T.set F t (.dec b)|_=>F
def condW(ih:Task->Prop)(x:Operand)(a b:Code)(rp:List Nat)(F:Fr)(S:ak):Prop :=
 match bU x with
 | some x=>match known F x with
   | some true=>ih (.code a (0::rp) F S)
   | some false=>ih (.code b (1::rp) F S)
   | none=>match vW F x with
     | some (c,t)=>gM c.list ((t=true->ih (.code a (0::rp) (eI F x true) S))/\(t=false->ih (.code b (1::rp) (eI F x false) S)))
     | none=>False
 | none=>False
def Ru(E:Env)(ih:Task->Prop)(c:Code)(rp:List Nat)(F:Fr)(S:ak):Prop :=
 match c with
 | .skip=>ih (.up rp .normal F S)
 | .label _=>ih (.up rp .normal F S)
 | .region _ ops false=>match zU ops.toList with
   | some (pre,o)=>match jH E.P true E.nt ops pre with|some xs=>FT E.yl E.Γ E.dy xs F S fun F' S'=>dfrT E rp F' S' o (ih (.up rp .normal F' S'))|none=>False
   | none=>match zV ops.toList with
     | some (pre,o)=>match jH E.P true E.nt ops pre with|some xs=>FT E.yl E.Γ E.dy xs F S fun F' S'=>pncW E F' S' o|none=>False
     | none=>match jH E.P true E.nt ops ops.toList with|some xs=>FT E.yl E.Γ E.dy xs F S fun F' S'=>ih (.up rp .normal F' S')|none=>False
 | .region _ ops true=>match jH E.P false E.nt ops ops.toList with
   | some xs=>match E.yl with
     | true=>Rq E.Γ ops xs F S fun F' S'=>ih (.up rp .normal F' S')
     | false=>Rk E.Γ ops xs F S fun F' S'=>ih (.up rp .normal F' S')
   | none=>False
 | .seq a _=>ih (.code a (0::rp) F S)
 | .cond x a b=>condW ih x a b rp F S
 | .block _ b=>ih (.code b (0::rp) F S)
 | .scope b=>ih (.code b (0::rp) F S)
 | .loop _=>atL E rp F S
 | .exit id=>ih (.up rp (.exit id) F S)
 | .ret=>ih (.up rp .ret F S)
 | .rangeFunc _ _ _ _=>match canon E.keep (E.aj rp) F S with|some (F',S')=>E.qt rp F' S'|none=>False
 | _=>False
def X.inBlock(id:Nat):X->X
 | .exit i=>bif ab1 i id then .normal else .exit i
 | x=>x
def upW(E:Env)(ih:Task->Prop)(rp:List Nat)(x:X)(F:Fr)(S:ak):Prop :=
 match rp with
 | []=>E.fin x F S
 | d :: rp => match fC E.root rp with
   | some (.seq _ b)=>match d with
     | 0=>match x with | .normal=>ih (.code b (1::rp) F S)|x=>ih (.up rp x F S)
     | _=>ih (.up rp x F S)
   | some (.cond _ _ _)=>ih (.up rp x F S)
   | some (.block id _)=>ih (.up rp (X.inBlock id x) F S)
   | some (.scope _)=>ih (.up rp x F S)
   | some (.loop _)=>match x with | .normal=>atL E rp F S|x=>ih (.up rp x F S)
   | _=>False
def stepW(E:Env)(ih:Task->Prop)(t:Task):Prop :=
 match t with
 | .code c rp F S=>Ru E ih c rp F S
 | .up rp x F S=>upW E ih rp x F S
def wk(E:Env)(n:Nat):Task->Prop:=Nat.rec (fun _=>False) (fun _ ih=>stepW E ih) n
theorem wk_succ(E:Env)(n:Nat):wk E (n+1)=stepW E (wk E n):=rfl
structure Sound(E:Env)(C:Ctx)(Fc:Fence)(Q:Post)(D:Act->World->Prop):Prop where
 keep:E.keep=C.keep
 Er:bp E.P E.Γ
 know:nG E.P C
 hand:E.yl=true->Hand E.P C
 wf:WF Fc
 dst:∀(a a':Act)(w w':World),Calm E.yl w w'->a'.defers=a.defers->D a w->D a' w'
 Bl:∀(a:Act) (w:World) d,xQ E.tK d->D a w->Fc.round=none/\D { a with defers:=d::a.defers } w
 dies:∀ x∈E.dies,gQ E.P x.1 x.2
 tl:∀ f m,E.tlf=some (f,m)->Fc.round=none/\∀ rp F S,E.tlp rp F S->∀ η Z w a (cs:List Value),Inv C η Z S w->bq E.nt η Z F a.tmps->D a w->bg (gJ η) (uE m) cs->kp E.P Fc E.root Q rp .normal { a with defers:={ target:=.fn (.func f) cs.toArray,args:=#[] }::a.defers } w
 rO:∀ u F S,E.pn u F S->∀ η Z w a,Inv C η Z S w->bq E.nt η Z F a.tmps->D a w->Q (C0 u) a w
 yU:∀ rp b F S,fC E.root rp=some (.loop b)->E.yU rp F S->∀ η Z w a,Inv C η Z S w->bq E.nt η Z F a.tmps->D a w->tL E.P Fc b (kp E.P Fc E.root Q rp) a w
 qt:∀ rp g ps assign body F S,fC E.root rp=some (.rangeFunc g ps assign body)->E.qt rp F S->∀ η Z w a,Inv C η Z S w->bq E.nt η Z F a.tmps->D a w->(Code.rangeFunc g ps assign body).wpIn Fc 0 E.P (kp E.P Fc E.root Q rp) a w
 fin:∀ x F S,E.fin x F S->∀ η Z w a,Inv C η Z S w->bq E.nt η Z F a.tmps->D a w->Q x.toExit a w
theorem Vd{E:Env}{C:Ctx}{Fc:Fence}{Q:Post}{D:Act->World->Prop}(H:Sound E C Fc Q D){rp:List Nat}{b:Code}{F:Fr}{S:ak}(hs:fC E.root rp=some (.loop b))(h:atL E rp F S){η:Eta}{Z:Zeta}{w:World}{a:Act}(I:Inv C η Z S w)(FR:bq E.nt η Z F a.tmps)(hD:D a w):tL E.P Fc b (kp E.P Fc E.root Q rp) a w:=by
 unfold atL at h;rw[H.keep] at h;split at h;rename_i c F1 S1 hfz;split at h;rename_i F' S' he;obtain⟨hc,h⟩:=ic h;obtain⟨Z1,I1,rL⟩:=FW I FR hfz hc;obtain⟨aG,I',lA,_⟩:=CZ I1 rL he;exact H.yU rp b F' S' hs h aG Z1 w a I' lA hD;exact h.elim;exact h.elim
theorem KV{nt:Nat}{η:Eta}{Z:Zeta}{F:Fr}{a:Act}(FR:bq nt η Z F a.tmps){x':Operand}{x:bR}(hx:bU x'=some x){b:Bool}(h:a.eval x'=.bool b)(hp:∀ t,x=.tmp t->∃ y,F.get t=some y):bq nt η Z (eI F x b) a.tmps:=by
 unfold eI;split;rename_i t;have hx':x'=.tmp t:=by
  cases x' with
  | tmp t'=>cases hx;rfl
  | const u=>simp only[bU] at hx;split at hx<;>cases hx
  | global g=>cases hx
  | func f=>cases hx
 subst hx';refine⟨FR.1,fun i y e=>?_⟩;rw[T.oV] at e;by_cases hi:i=t;subst hi;rw[if_pos rfl] at e;cases e;obtain⟨z,hz⟩:=hp i rfl;obtain⟨v,hv,_⟩:=FR.2 i z hz;refine⟨v,hv,?_⟩;have:a.eval (.tmp i)=v:=by simp[Act.eval,Array.getD_eq_getD_getElem?,hv]
 rw[this] at h;exact h;rw[if_neg hi] at e;exact FR.2 i y e;exact FR
theorem idx_ops(ops:Array Oper):(abZ ops.size).map (fun i=>ops[i]?)=ops.toList.map some:=by
 apply acp;intro i;simp only[acq,ab7];by_cases hi:i<ops.size;simp[hi];simp[hi]
theorem sH{E : Env}{C : Ctx}{Fc : Fence}{Q : Post}{D : Act → World → Prop}(H : Sound E C Fc Q D) : ∀ n,
 (∀ c rp F S,wk E n (.code c rp F S)->fC E.root rp=some c->∀ η Z w a,Inv C η Z S w->bq E.nt η Z F a.tmps->D a w->c.wpIn Fc 0 E.P (kp E.P Fc E.root Q rp) a w)/\
 (∀ rp x F S,wk E n (.up rp x F S)->∀ η Z w a,Inv C η Z S w->bq E.nt η Z F a.tmps->D a w->kp E.P Fc E.root Q rp x.toExit a w)
 | 0=>⟨fun _ _ _ _ h=>h.elim,fun _ _ _ _ h=>h.elim⟩
 | n + 1 => by
   obtain⟨HJ,sx⟩:=sH H n;rw[wk_succ];refine⟨?_,?_⟩
   · intro c rp F S h hs η Z w a I FR hD
     replace h:Ru E (wk E n) c rp F S:=h;unfold Ru at h;split at h;exact wpIn_skip (sx rp .normal F S h η Z w a I FR hD);exact wpIn_label (sx rp .normal F S h η Z w a I FR hD);rename_i id ops;split at h;rename_i pre o hsp;have hl:=HF hsp;split at h
     . rename_i xs hxs;have hsz:ops.size=pre.length+1:=by
        have:=congrArg acO hl;simpa using this
       have hidx:(abZ pre.length).map (fun i=>ops[i]?)=pre.map some:=by
        apply acp;intro i;simp only[acq];by_cases hi:i<pre.length;have h1:ops[i]? = pre[i]?:=by
         rw[<-ab7,hl,ach hi]
        simp[hi,h1];simp[hi]
       have hlast:ops[pre.length]? = some o:=by
        rw[<-ab7,hl];simp
       refine wpIn_region ?_;have hr:abZ ops.size=abZ pre.length++[pre.length]:=by rw[hsz,acJ]
       rw[hr];refine xP H.Er H.know (D:=E.dy) H.dies H.hand H.wf hxs hidx I FR h (fun u F' S' aG Z' a' w' hp I' cm lA hd=>zW (H.rO u F' S' hp aG Z' w' a' I' lA (H.dst a a' w w' cm hd hD)) hs) ?_;intro F' S' aG Z' a' w' hk _ _ I' cm lA hd;unfold dfrT at hk;split at hk
       rotate_left
       rename_i f m htl;split at hk;rename_i p g caps he;obtain⟨hb,hk2⟩:=bifP hk;clear hk;simp only[ab3,ab6] at hb;obtain⟨rfl,hcap⟩:=hb;have hcap:=HI hcap;subst hcap;obtain⟨hc,hk⟩:=ic hk2;obtain⟨hro,ht⟩:=H.tl g m htl;refine dfrC_ok lA hlast he hc H.wf hro fun cs hcs=>?_;exact ht rp F' S' hk aG Z' w' a' cs I' lA (H.dst a a' w w' cm hd hD) hcs;exact hk.elim;unfold dfrW at hk;split at hk;rename_i p f n he;obtain⟨hm,hk⟩:=bifP hk;obtain⟨hc,hk⟩:=ic hk;have hDa:=H.dst a a' w w' cm hd hD;have hin:∀ d,xQ [(f,n)] d->xQ E.tK d:=by
        rintro d ⟨f',cs,args,rfl,hmem⟩;refine⟨f',cs,args,rfl,?_⟩;rw[acC] at hmem;rw[hmem];exact KU hm
       have hro:Fc.round=none:=(H.Bl a' w' { target:=.fn (.func f) #[],args:=(List.replicate n undef).toArray } (hin _ ⟨f,#[],_,rfl,by simp⟩) hDa).1;refine dfrE_ok lA hlast he hc H.wf hro ?_;intro d hd';exact sx rp .normal F' S' hk aG Z' w' { a' with defers:=d::a'.defers } I' lA (H.Bl a' w' d (hin d hd') hDa).2;exact hk.elim
     exact h.elim
     · split at h
       rename_i pre o hsp;have hl:=HG hsp;split at h;rename_i xs hxs;have hsz:ops.size=pre.length+1:=by
        have:=congrArg acO hl;simpa using this
       have hidx:(abZ pre.length).map (fun i=>ops[i]?)=pre.map some:=by
        apply acp;intro i;simp only[acq];by_cases hi:i<pre.length;have h1:ops[i]? = pre[i]?:=by
         rw[<-ab7,hl,ach hi]
        simp[hi,h1];simp[hi]
       have hlast:ops[pre.length]? = some o:=by
        rw[<-ab7,hl];simp
       refine wpIn_region ?_;have hr:abZ ops.size=abZ pre.length++[pre.length]:=by rw[hsz,acJ]
       rw[hr];refine xP H.Er H.know (D:=E.dy) H.dies H.hand H.wf hxs hidx I FR h (fun u F' S' aG Z' a' w' hp I' cm lA hd=>zW (H.rO u F' S' hp aG Z' w' a' I' lA (H.dst a a' w w' cm hd hD)) hs) ?_;intro F' S' aG Z' a' w' hk _ _ I' cm lA hd;unfold pncW at hk;split at hk;rename_i p u he;obtain⟨hc,hk⟩:=ic hk;exact pncE_ok lA hlast he hc H.wf (zW (H.rO u F' S' hk aG Z' w' a' I' lA (H.dst a a' w w' cm hd hD)) hs);exact hk.elim;exact h.elim;split at h;rename_i xs hxs;refine wpIn_region (opsW_ok H.Er H.know (D:=E.dy) H.dies H.hand H.wf hxs (idx_ops ops) I FR h (fun u F' S' aG Z' a' w' hp I' cm lA hd=>zW (H.rO u F' S' hp aG Z' w' a' I' lA (H.dst a a' w w' cm hd hD)) hs) ?_);intro F' S' aG Z' a' w' hk _ _ I' cm lA hd;exact sx rp .normal F' S' hk aG Z' w' a' I' lA (H.dst a a' w w' cm hd hD);exact h.elim
     rename_i id ops;split at h;rename_i xs hxs;split at h;rename_i HK;refine Y3 H.Er H.know (H.hand HK) hxs h H.wf I FR ?_;intro F' S' aG Z' a' w' hk I' lA hd;exact sx rp .normal F' S' hk aG Z' w' a' I' lA (H.dst a a' w w' (fun hh=>by rw[HK] at hh;cases hh) hd hD);refine YV H.Er hxs h H.wf (H.know _ _ _ _ I.rel) I.st FR ?_;intro F' S' aG Z' a' w' hk mv lA hd;exact sx rp .normal F' S' hk aG Z' w' a' (I.moves mv) lA (H.dst a a' w w' (mv.calm I.st _) hd hD);exact h.elim;rename_i c1 c2;have hs1:fC E.root (0::rp)=some c1:=by simp[fC,hs,child]
     have:=HJ c1 (0::rp) F S h hs1 η Z w a I FR hD;refine wpIn_seq ?_;simpa only[kp,hs] using this;rename_i x c1 c2;have hs1:fC E.root (0::rp)=some c1:=by simp[fC,hs,child]
     have hs2:fC E.root (1::rp)=some c2:=by simp[fC,hs,child]
     unfold condW at h;split at h;rename_i x' hx;split at h;rename_i hk;have:=HJ c1 (0::rp) F S h hs1 η Z w a I FR hD;exact wpIn_cond_true (uD FR hx hk) (by simpa only[kp,hs] using this);rename_i hk;have:=HJ c2 (1::rp) F S h hs2 η Z w a I FR hD;exact wpIn_cond_false (uD FR hx hk) (by simpa only[kp,hs] using this);split at h
     . rename_i c t ht;obtain⟨hc,h1,h2⟩:=ic h;have hev:=nA FR hx ht hc;have hp:∀ t',x'=.tmp t'->∃ y,F.get t'=some y:=by
        rintro t' rfl;cases hg:F.get t' with
        | some y=>exact⟨y,rfl⟩
        | none=>simp[vW,nW,hg] at ht
       cases t with
       | true =>
         have:=HJ c1 (0::rp) _ S (h1 rfl) hs1 η Z w a I (KV FR hx hev hp) hD;exact wpIn_cond_true hev (by simpa only[kp,hs] using this)
       | false =>
         have:=HJ c2 (1::rp) _ S (h2 rfl) hs2 η Z w a I (KV FR hx hev hp) hD;exact wpIn_cond_false hev (by simpa only[kp,hs] using this)
     exact h.elim;exact h.elim;rename_i id b;have hs1:fC E.root (0::rp)=some b:=by simp[fC,hs,child]
     have:=HJ b (0::rp) F S h hs1 η Z w a I FR hD;exact wpIn_block (by simpa only[kp,hs] using this);rename_i b;have hs1:fC E.root (0::rp)=some b:=by simp[fC,hs,child]
     have:=HJ b (0::rp) F S h hs1 η Z w a I FR hD;exact aA.QE (by simpa only[kp,hs] using this);rename_i b;exact wpIn_loop' (Vd H hs h I FR hD);rename_i id;exact wpIn_exit (sx rp (.exit id) F S h η Z w a I FR hD);exact wpIn_ret (sx rp .ret F S h η Z w a I FR hD);rename_i g ps assign body;rw[H.keep] at h;split at h;rename_i F' S' he;obtain⟨aG,I',lA,_⟩:=CZ I FR he;exact H.qt rp g ps assign body F' S' hs h aG Z w a I' lA hD;exact h.elim;exact h.elim
   · intro rp x F S h η Z w a I FR hD
     replace h:upW E (wk E n) rp x F S:=h;unfold upW at h;cases rp with
     | nil=>exact H.fin x F S h η Z w a I FR hD
     | cons d rp =>
       simp only at h;cases hs:fC E.root rp with
       | none=>rw[hs] at h;exact h.elim
       | some c =>
         rw[hs] at h;simp only[kp,hs];cases c with
         | seq c1 c2 =>
           cases d with
           | zero =>
             have hs2:fC E.root (1::rp)=some c2:=by simp[fC,hs,child]
             simp only at h ⊢;cases x with
             | normal =>
               have:=HJ c2 (1::rp) F S h hs2 η Z w a I FR hD;simpa only[kp,hs,X.toExit,Exit.then] using this
             | exit id=>exact sx rp _ F S h η Z w a I FR hD
             | ret=>exact sx rp _ F S h η Z w a I FR hD
           | succ d=>exact sx rp x F S h η Z w a I FR hD
         | cond _ _ _=>exact sx rp x F S h η Z w a I FR hD
         | block id b =>
           have:=sx rp _ F S h η Z w a I FR hD;cases x with
           | normal=>exact this
           | ret=>exact this
           | exit i =>
             simp only[X.inBlock] at this;simp only[X.toExit,Exit.inBlock];by_cases hi:i=id;subst hi;have hb:ab1 i i=true:=by simp
             rw[hb] at this;simp only[if_true];exact this;have hb:ab1 i id=false:=by
              cases hh:ab1 i id with
              | false=>rfl
              | true=>exact absurd (acu hh) hi
             rw[hb] at this;simp only[hi,if_false];exact this
         | scope b =>
           have:=sx rp x F S h η Z w a I FR hD;cases x with
           | normal=>exact this
           | ret=>exact this
           | exit i=>exact this
         | loop b =>
           simp only at h;cases x with
           | normal=>exact Vd H hs h I FR hD
           | exit id=>exact sx rp _ F S h η Z w a I FR hD
           | ret=>exact sx rp _ F S h η Z w a I FR hD
         | _=>exact h.elim
def Y4(P:Program):ResultVar->Option Q
 | .tmp t=>some (.move (.tmp t))
 | .cell a t=>match ul P (.load t (.tmp a)) with|some (.load d x)=>some (.load d x)|some (.uh n x)=>some (.uh n x)|_=>none
def Es(P:Program)(S:ak)(v:V)(t:TypeId):V×ak :=
 match v with
 | .c .nil=>match P.underlying t with
   | some (.slice el)=>match v8 P 4 el with
     | some d=>(.c (.sl S.next 0 0 1),S.add ⟨el,[.a 0 d []]⟩)
     | none=>(v,S)
   | _=>(v,S)
 | v=>(v,S)
def tM(P:Program)(F:Fr):List ResultVar->List TypeId->ak->Option (Cd×List V×ak)
 | r :: rs, t :: ts, S => match Y4 P r with
   | some q=>match dF F S q with
     | some (c,v)=>match Es P S v t with
       | (v',S1)=>match tM P F rs ts S1 with
         | some (c',vs,S2)=>some (.and c c',v'::vs,S2)
         | none=>none
     | none=>none
   | none=>none
 | [],_,S=>some (.t,[],S)
 | _::_,[],_=>none
def aD:List V->A
 | [v]=>.p v
 | vs=>.aJ vs
section
variable {P:Program} {base nt:Nat} {η:Eta} {Z:Zeta} {S:ak} {w:World} {F:Fr}
theorem Ve{v:V}{t:TypeId}{u:Value}(R:St base η Z S w)(h:cW η Z v u):Moves base η Z S w η Z (Es P S v t).2 w/\cW η Z (Es P S v t).1 u:=by
 unfold Es;split;split;split;refine⟨R.oJ (by rw[gY];rfl),by simp,.inl ⟨rfl,h.2.nil_eq⟩⟩;exact⟨Moves.refl R,h⟩;exact⟨Moves.refl R,h⟩;exact⟨Moves.refl R,h⟩
theorem Y5{s:Sem Value}{v:V}(h:Says P η Z w (do pure (Next.value (<-s))) v):∃ u,s.run P w=.ok u w/\cW η Z v u:=by
 obtain⟨u,h1,h2⟩:=h;simp only[Sem.run_bind,Sem.run_pure] at h1;cases hs:s.run P w with
 | ok u' w' =>
   rw[hs] at h1;simp only[Result.andThen_ok] at h1;cases h1;exact⟨u,rfl,h2⟩
 | halt hh w'=>rw[hs] at h1;cases h1
theorem Y6{a : Act}(FR : bq nt η Z F a.tmps){x' : Operand}{x : bR}(hx : bU x' = some x){c : Cd}{v : V}{q : Q}(hq : (∃ d, q = .load d x) ∨ ∃ n, q = .uh n x)(e : dF F S q = some (c, v))(hc : c) : ∃ ad, a.eval x' = .pointer (some ad) := by
 rcases hq with ⟨d,rfl⟩|⟨n,rfl⟩
 · simp only[dF] at e
   split at e;rename_i p m off hv;have hp:Cd.holds p:=by
    split at e;split at e;obtain⟨_,e⟩:=aA.aH e;cases e;exact hc.1;cases e;exact hc.1;cases e;cases e
   obtain⟨_,pl,_,hev⟩:=aN FR hx hv hp;exact⟨_,hev⟩;rename_i p m i j hv;have hp:Cd.holds p:=by
    split at e;cases e;exact hc.1;cases e
   obtain⟨_,pl,r0,_,_,hev⟩:=aN FR hx hv hp;exact⟨_,hev⟩;rename_i p m off i hv;have hp:Cd.holds p:=by
    split at e;obtain⟨_,e1⟩:=aA.aH e;cases e1;exact hc.1;split at e;split at e;obtain⟨_,e1⟩:=aA.aH e;cases e1;exact hc.1;split at e;cases e;exact hc.1;cases e;exact hc.1;cases e;cases e
   obtain⟨_,pl,_,hev⟩:=aN FR hx hv hp;exact⟨_,hev⟩;rename_i p cs off hv;cases e;obtain⟨b,o,cells,hu,_⟩:=(aN FR hx hv hc.1).2.rp;exact⟨_,hu⟩;rename_i p e' l i hv;cases e;obtain⟨b,o,cells,hu,_⟩:=(aN FR hx hv hc.1).2.re;exact⟨_,hu⟩;cases e
 simp only[dF] at e;split at e;rename_i p m off hv;have hp:Cd.holds p:=by
  split at e;obtain⟨_,e⟩:=aA.aH e;cases e;exact hc;cases e
 obtain⟨_,pl,_,hev⟩:=aN FR hx hv hp;exact⟨_,hev⟩;rename_i p cs off hv;cases e;obtain⟨b,o,cells,hu,_⟩:=(aN FR hx hv hc.1).2.rp;exact⟨_,hu⟩;cases e
theorem KW{a:Act}(FR:bq nt η Z F a.tmps){g:ResultVar->Sem Value}(g1:∀ t,g (.tmp t)=Pure.pure (a.tmps.getD t undef))(g2:∀ b t,g (.cell b t)=do loadVar t (<-asAddr (a.tmps.getD b undef))):∀{l:List ResultVar}{ts:List TypeId}{S S':ak}{c:Cd}{vs:List V},St base η Z S w->tM P F l ts S=some (c,vs,S')->c->
 ∃ us,(l.mapM g:Sem (List Value)).run P w=.ok us w/\bg (cW η Z) vs us/\Moves base η Z S w η Z S' w
 | [],ts,S,S',c,vs,R,e,_=>by
   simp only[tM] at e;cases e;exact⟨[],by simp,trivial,Moves.refl R⟩
 | r::l,[],S,S',c,vs,R,e,_=>by simp only[tM] at e;cases e
 | r :: l, t :: ts, S, S', c, vs, R, e, hc => by
   simp only[tM] at e;split at e;rename_i q hq;split at e;rename_i c1 v hv;split at e;rename_i c2 wv S2 hrest;cases e;have key:∃ u,(g r).run P w=.ok u w/\cW η Z v u:=by
    cases r with
    | tmp t' =>
      simp only[Y4] at hq;cases hq;have:=eG (a:=a) FR (x':=.tmp t') (x:=.tmp t') rfl hv hc.1;exact⟨a.eval (.tmp t'),by rw[g1];rfl,this⟩
    | cell b t' =>
      simp only[Y4] at hq;have hld:ul P (.load t' (.tmp b))=some q/\((∃ d,q=.load d (.tmp b))∨∃ n,q=.uh n (.tmp b)):=by
       split at hq;rename_i d x hh;cases hq;refine⟨hh,.inl ⟨d,?_⟩⟩;simp only[ul,bU] at hh;split at hh;rename_i hx;obtain⟨d',_,e2⟩:=map_some hh;cases hx;cases e2;rfl;obtain⟨d',_,e2⟩:=map_some hh;cases e2;cases hh;rename_i m x hh;cases hq;refine⟨hh,.inr ⟨m,?_⟩⟩;simp only[ul,bU] at hh;split at hh;obtain⟨d',_,e2⟩:=map_some hh;cases e2;rename_i hx;obtain⟨d',_,e2⟩:=map_some hh;cases hx;cases e2;rfl;cases hh;cases hq
      obtain⟨ad,had⟩:=Y6 (a:=a) FR (x':=.tmp b) (x:=.tmp b) rfl hld.2 hv hc.1;have hs:=Us (P:=P) (o:={ dst:=none,op:=.load t' (.tmp b),type:=0,pos := "",after:=#[],guard:=none }) R FR hld.1 hv hc.1;have hs':Says P η Z w (do pure (Next.value (<-Instr.loadAt t' (a.eval (.tmp b))))) v:=hs;obtain⟨u,hu,hr⟩:=Y5 hs';refine⟨u,?_,hr⟩;rw[g2];have hgd:a.tmps.getD b undef=.pointer (some ad):=by simpa[Act.eval] using had
      rw[had] at hu;have w9:(loadVar t' ad).run P w=.ok u w:=by simpa[Instr.loadAt,Instr.sureAddr] using hu
      rw[hgd];simp only[Sem.run_bind];have:(asAddr (.pointer (some ad))).run P w=.ok ad w:=rfl;rw[this];simpa using w9
   obtain⟨u,hu,hr⟩:=key;obtain⟨mv,hr'⟩:=Ve (P:=P) (t:=t) R hr;obtain⟨us,zh,hl,gU⟩:=KW FR g1 g2 mv.st hrest hc.2;exact⟨u::us,by simp only[List.mapM_cons,Sem.run_bind,hu,Sem.run_pure,Result.andThen_ok,zh],⟨hr',hl⟩,mv.trans gU⟩;cases e;cases e;cases e
theorem Vf{vs:List V}{us:List Value}(h:bg (cW η Z) vs us):cr η Z (aD vs) (if hh:us.toArray.size=1 then us.toArray[0] else .tuple us.toArray):=by
 cases vs with
 | nil=>cases us with|nil=>exact⟨[],by simp,trivial⟩|cons _ _=>exact h.elim
 | cons v vs =>
   cases us with
   | nil=>exact h.elim
   | cons u us =>
     cases vs with
     | nil =>
       cases us with
       | nil=>simpa[aD,cr] using h.1
       | cons _ _=>exact h.2.elim
     | cons v' vs =>
       cases us with
       | nil=>exact h.2.elim
       | cons u' us =>
         refine⟨u::u'::us,?_,h⟩;simp
end
def uF(d:D):ak->List W->Option (Cd×List W×ak)
 | S,[]=>some (.t,[],S)
 | S,x::l=>match x with
   | .sl m off len sz=>match sw S d (.sl m off len sz) with
     | some (c,y,S1)=>match uF d S1 l with|some (c',r,S')=>some (.and c c',d.w y::r,S')|none=>none
     | none=>none
   | .nil=>match sw S d .nil with
     | some (c,y,S1)=>match uF d S1 l with|some (c',r,S')=>some (.and c c',d.w y::r,S')|none=>none
     | none=>none
   | x=>match uF d S l with|some (c',r,S')=>some (c',x::r,S')|none=>none
def lV(S:ak):List (Option D)->List V->Option (Cd×List V×ak)
 | [],vs=>some (.t,vs,S)
 | _::_,[]=>none
 | none::ds,v::vs=>match lV S ds vs with|some (c,r,S')=>some (c,v::r,S')|none=>none
 | some d::ds,v::vs=>match v with
   | .c x=>match sw S d x with
     | some (c,y,S1)=>match lV S1 ds vs with|some (c',r,S')=>some (.and c c',.c (d.w y)::r,S')|none=>none
     | none=>none
   | .agg cs=>match uF d S cs with
     | some (c,ys,S1)=>match lV S1 ds vs with|some (c',r,S')=>some (.and c c',.agg ys::r,S')|none=>none
     | none=>none
theorem C4{base:Nat}{η:Eta}{w:World}{d:D}:∀{cs r:List W}{us:List Value}{Z:Zeta}{S S':ak}{c:Cd},St base η Z S w->bg (aI η Z) cs us->(∀ x∈cs,x≠.dead)->uF d S cs=some (c,r,S')->c->∃ Z',Moves base η Z S w η Z' S' w/\bg (aI η Z') r us/\∀ x∈r,x≠.dead
 | [],r,us,Z,S,S',c,R,h,_,e,_=>by simp only[uF] at e;cases e;exact⟨Z,Moves.refl R,h,by simp⟩
 | x :: l, r, us, Z, S, S', c, R, h, hd, e, hc => by
   cases us with
   | nil=>exact h.elim
   | cons u us =>
     have one:∀{x':W}{c1 c':Cd}{y:d.ty}{S1:ak}{r':List W},x=x'->sw S d x'=some (c1,y,S1)->uF d S1 l=some (c',r',S')->c1->c'->r=d.w y::r'->∃ Z',Moves base η Z S w η Z' S' w/\bg (aI η Z') r (u::us)/\∀ x∈r,x≠.dead:=by
      rintro x' c1 c' y S1 r' rfl hf hr h1 h2 rfl;obtain⟨Z1,mv,hdr,_⟩:=lS R hf h1 h.1;obtain⟨Z2,gU,hl,hd2⟩:=C4 mv.st (h.2.mono fun _ _=>aI.mono (Eta.le.refl _) mv.step.cG) (fun x hx=>hd x (ab8 _ hx)) hr h2;refine⟨Z2,mv.trans gU,⟨aI.mono (Eta.le.refl _) gU.step.cG ((D.gC d).2 hdr),hl⟩,?_⟩;intro z hz;rcases List.mem_cons.1 hz with rfl|hz;exact D.jg _ _;exact hd2 z hz
     simp only[uF] at e;split at e;split at e;rename_i c1 y S1 hf;split at e;rename_i c' r' S2 hr;cases e;exact one rfl hf hr hc.1 hc.2 rfl;cases e;cases e;split at e;rename_i c1 y S1 hf;split at e;rename_i c' r' S2 hr;cases e;exact one rfl hf hr hc.1 hc.2 rfl;cases e;cases e;split at e;rename_i c' r' S2 hr;cases e;obtain⟨Z2,gU,hl,hd2⟩:=C4 R h.2 (fun x hx=>hd x (ab8 _ hx)) hr hc;refine⟨Z2,gU,⟨aI.mono (Eta.le.refl _) gU.step.cG h.1,hl⟩,?_⟩;intro z hz;rcases List.mem_cons.1 hz with rfl|hz;exact hd _ (by simp);exact hd2 z hz;cases e
theorem xR{base : Nat}{η : Eta}{w : World} : ∀{ds : List (Option D)}{vs r : List V}{us : List Value}{Z : Zeta}{S S' : ak}{c : Cd}, St base η Z S w → bg (cW η Z) vs us → lV S ds vs = some (c, r, S') → c → ∃ Z', Moves base η Z S w η Z' S' w ∧ bg (cW η Z') r us
 | [],vs,r,us,Z,S,S',c,R,h,e,_=>by simp only[lV] at e;cases e;exact⟨Z,Moves.refl R,h⟩
 | none::ds,v::vs,r,us,Z,S,S',c,R,h,e,hc=>by
   simp only[lV] at e;cases us with
   | nil=>exact h.elim
   | cons u us =>
     split at e;rename_i c' r' S1 hr;cases e;obtain⟨Z',mv,hl⟩:=xR R h.2 hr hc;exact⟨Z',mv,h.1.mono (Eta.le.refl _) mv.step.cG,hl⟩;cases e
 | some d::ds,v::vs,r,us,Z,S,S',c,R,h,e,hc=>by
   simp only[lV] at e;cases us with
   | nil=>exact h.elim
   | cons u us =>
     split at e;split at e;rename_i c1 y S1 hf;split at e;rename_i c' r' S2 hr;cases e;obtain⟨Z1,mv,hd,_⟩:=lS R hf hc.1 h.1.2;obtain⟨Z2,gU,hl⟩:=xR mv.st (h.2.mono fun _ _=>cW.mono (Eta.le.refl _) mv.step.cG) hr hc.2;exact⟨Z2,mv.trans gU,⟨D.jg _ _,aI.mono (Eta.le.refl _) gU.step.cG ((D.gC d).2 hd)⟩,hl⟩;cases e;cases e;split at e;rename_i c1 ys S1 hf;split at e;rename_i c' r' S2 hr;cases e;obtain⟨ws,hu,hd,hl0⟩:=h.1;obtain⟨Z1,mv,hl1,hd1⟩:=C4 R hl0 hd hf hc.1;obtain⟨Z2,gU,hl⟩:=xR mv.st (h.2.mono fun _ _=>cW.mono (Eta.le.refl _) mv.step.cG) hr hc.2;exact⟨Z2,mv.trans gU,⟨ws,hu,hd1,hl1.mono fun _ _=>aI.mono (Eta.le.refl _) gU.step.cG⟩,hl⟩;cases e;cases e
 | none::_,[],_,_,_,_,_,_,_,_,e,_=>by simp[lV] at e
 | some _::_,[],_,_,_,_,_,_,_,_,e,_=>by simp[lV] at e
structure Bm(P:Program)(f:FuncId)(n:Nat):Prop where
 ent:enters P f=true
 go:∀(vs:Array Value)(w:World),vs.size=n->CallsDIn Fence.wide 0 P f vs .returning w fun e u' w'=>e=.returned (.tuple #[])/\u'=.returning/\Below w.heap.size w w'
def caps0(k:Nat):List A:=(uE k).map fun x=>.p (.c (.ptr x.1 x.2))
structure KX(P:Program)(f:FuncId)(k:Nat)(got:Value->List Ob->Option (Cd×List Ob)):Prop where
 ent:enters P f=true
 idle:∀ base η Z w (vs:List Value),St base η Z (.ofList []) w->iL P Z->vs.length=k->(∀ v∈vs,v.oneCell'=true)->CallsDIn Fence.wide 0 P f vs.toArray .returning w fun e md w'=>(∃ v,e=.returned v)/\md=.returning/\Below w.heap.size w w'
 got:∀ u ar c aY,got u ar=some (c,aY)->c->ar.length=k->∀ base η Z w vs,St base η Z (.ofList ar) w->bg (cr η Z) (caps0 k) vs->iL P Z->CallsDIn Fence.wide 0 P f vs.toArray (.panicking [{ v:=u,recovered:=false }]) w fun e md w'=>(∃ v,e=.returned v)/\md=.panicking [{ v:=u,recovered:=true }]/\∃ aG Z',gV k base η Z (.ofList ar) w aG Z' (.ofList aY) w'
structure Et(P:Program) where
 f:FuncId
 k:Nat
 got:Value->List Ob->Option (Cd×List Ob)
 ok:KX P f k got
structure Site where
 P:Program
 Γ:bN
 fn:Func
 root:Code
 keep:Nat
 aj:List Nat->List Nat
 yl:Bool:=false
 bZ:List Nat->List (Nat×D):=fun _=>[]
 fz:List (Option D):=[]
 tK:List { x:FuncId×Nat // Bm P x.1 x.2 }:=[]
 dies:List { x:FuncId×iT // gQ P x.1 x.2 }:=[]
 rO:Value->Prop:=fun _=>False
 tail:Option (Et P):=none
def Site.Rv(s:Site):List (FuncId×iT):=s.dies.map (·.1)
theorem Site.O9(s:Site):∀ x∈s.Rv,gQ s.P x.1 x.2:=by
 intro x h;unfold Site.Rv at h;obtain⟨y,_,rfl⟩:=List.mem_map.1 h;exact y.2
def Site.pnc(s:Site)(u:Value):Prop:=match s.yl,s.tK with
 | false,[]=>s.rO u
 | _,_=>False
def Site.dl(s:Site):List (FuncId×Nat):=s.tK.map (·.1)
theorem Site.dl_ok(s:Site){x:FuncId×Nat}(h:x∈s.dl):Bm s.P x.1 x.2:=by
 unfold Site.dl at h;obtain⟨y,_,rfl⟩:=List.mem_map.1 h;exact y.2
def Marks(lo:Nat)(w:World)(ds:List Deferred):Prop:=∃ bs:List Nat,ds=bs.map (fun b=>({ target:=.collected b,args:=#[] }:Deferred))/\bs.Nodup/\∀ b∈bs,lo<=b/\w.heap[b]? = some (.deferred (some []))
theorem Marks.nil(lo:Nat)(w:World):Marks lo w []:=⟨[],rfl,by simp,by simp⟩
def Rx(yl:Bool)(lo:Nat)(a:Act)(w:World):Prop:=Marks lo w a.defers/\(yl=true->a.defers=[])
theorem Rx.calm{yl:Bool}{lo:Nat}{a a':Act}{w w':World}(cm:Calm yl w w')(hd:a'.defers=a.defers)(h:Rx yl lo a w):Rx yl lo a' w':=by
 refine⟨?_,fun hy=>hd.trans (h.2 hy)⟩;rw[hd];cases yl with
 | true=>rw[h.2 rfl];exact Marks.nil _ _
 | false =>
   obtain⟨bs,h1,h2,h3⟩:=h.1;exact⟨bs,h1,h2,fun b hb=>⟨(h3 b hb).1,cm rfl b _ (h3 b hb).2 rfl⟩⟩
def qu(yl:Bool)(dl:List (FuncId×Nat))(lo:Nat)(a:Act)(w:World):Prop:=(dl=[]->Rx yl lo a w)/\(dl≠[]->∀ d∈a.defers,xQ dl d)
theorem qu.start(yl:Bool)(dl:List (FuncId×Nat))(lo:Nat)(tmps:Array Value)(w:World):qu yl dl lo { tmps,defers:=[] } w:=⟨fun _=>⟨Marks.nil _ _,fun _=>rfl⟩,fun _ d hd=>by cases hd⟩
theorem qu.calm{yl:Bool}{dl:List (FuncId×Nat)}{lo:Nat}{a a':Act}{w w':World}(cm:Calm yl w w')(hd:a'.defers=a.defers)(h:qu yl dl lo a w):qu yl dl lo a' w' :=
 ⟨fun e=>(h.1 e).calm cm hd,fun e d hd'=>h.2 e d (hd▸hd')⟩
theorem qu.push{yl:Bool}{dl:List (FuncId×Nat)}{lo:Nat}{a:Act}{w:World}{d:Deferred}(hd:xQ dl d)(h:qu yl dl lo a w):qu yl dl lo { a with defers:=d::a.defers } w:=by
 refine⟨fun e=>?_,fun e d' hd'=>?_⟩;subst e;obtain⟨_,_,_,_,hm⟩:=hd;cases hm;rcases List.mem_cons.1 hd' with rfl|hd';exact hd;exact h.2 e d' hd'
inductive Fit(P:Program):Bool->Ctx->Nat->Prop where
 | fn (base keep:Nat) (iX:Eta) (Z0:Zeta) (M0:Nat->Prop) (w0:World):iL P Z0->Fit P false (Ctx.fn base keep iX Z0 M0 w0) w0.heap.size
 | it (C:Ctx):Hand P C->nG P C->Fit P true C 0
theorem Fit.knows{P:Program}{yl:Bool}{C:Ctx}{lo:Nat}(h:Fit P yl C lo):nG P C:=by
 cases h with
 | fn base keep iX Z0 M0 w0 hK=>exact fun g Z M w hR=>hK.mono hR.cG
 | it _ _ hK=>exact hK
theorem Fit.hand{P:Program}{yl:Bool}{C:Ctx}{lo:Nat}(h:Fit P yl C lo)(hy:yl=true):Hand P C:=by
 cases h with
 | fn=>cases hy
 | it _ h _=>exact h
def GEnd(g:Option Gh):Prop:=match g with|none=>True|some g=>g.ys=[]
def C5(g:Option Gh)(p:Prop):Prop:=match g with|none=>p|some g=>g.ys=[]/\p
theorem gEnd_ok{g:Option Gh}{p:Prop}(h:C5 g p):GEnd g/\p:=by
 cases g with
 | none=>exact⟨trivial,h⟩
 | some g=>exact h
def Y7(C:Ctx)(Qv:A->List Ob->Prop)(e:Ending)(w':World):Prop:=∃ u aG Z' r ar g,e=.returned u/\Inv C aG Z' (.eS g ar) w'/\cr aG Z' r u/\Qv r ar/\GEnd g
def endP(s:Site)(C:Ctx)(Qv:A->List Ob->Prop)(e:Ending)(w':World):Prop:=Y7 C Qv e w'∨∃ u aG Z' S',e=.panicked [{ v:=u,recovered:=false }]/\Inv C aG Z' S' w'/\s.rO u
def Ce(s:Site)(C:Ctx)(Qv:A->List Ob->Prop):Post:=bodyPostM Fence.wide 0 s.P s.fn (endP s C Qv)
structure au(s:Site)(Qv:A->List Ob->Prop)(rp:List Nat)(F:Fr)(S:ak):Prop where
 go:∀ C lo,s.keep=C.keep->Fit s.P s.yl C lo->∀ η Z w a,Inv C η Z S w->bq s.fn.ntmps η Z F a.tmps->qu s.yl s.dl lo a w->∀ b,fC s.root rp=some (.loop b)->tL s.P Fence.wide b (kp s.P Fence.wide s.root (Ce s C Qv) rp) a w
structure FX(s:Site)(Qv:A->List Ob->Prop)(rp:List Nat)(F:Fr)(S:ak):Prop where
 go:∀ C lo,s.keep=C.keep->Fit s.P s.yl C lo->∀ η Z w a,Inv C η Z S w->bq s.fn.ntmps η Z F a.tmps->qu s.yl s.dl lo a w->∀ g ps assign body,fC s.root rp=some (.rangeFunc g ps assign body)->(Code.rangeFunc g ps assign body).wpIn Fence.wide 0 s.P (kp s.P Fence.wide s.root (Ce s C Qv) rp) a w
structure Eu(s:Site)(Qv:A->List Ob->Prop)(rp:List Nat)(F:Fr)(S:ak):Prop where
 go:∀ T,s.tail=some T->∀ C lo,s.keep=C.keep->Fit s.P s.yl C lo->∀ η Z w a (cs:List Value),Inv C η Z S w->bq s.fn.ntmps η Z F a.tmps->qu s.yl s.dl lo a w->bg (gJ η) (uE T.k) cs->kp s.P Fence.wide s.root (Ce s C Qv) rp .normal { a with defers:={ target:=.fn (.func T.f) cs.toArray,args:=#[] }::a.defers } w
def fr:List (Nat×A)->Fr
 | []=>.leaf
 | (s,x)::l=>T.set (fr l) s x
theorem of_eq{p q:Prop}(h:p=q)(hq:q):p:=h▸hq
def vC(s:Site)(Qv:A->List Ob->Prop)(x:X)(F:Fr)(S:ak):Prop :=
 match x with
 | .exit _=>False
 | _ => match tM s.P F s.fn.results.toList s.fn.resultTypes.toList S with
   | some (c,vs,S1)=>match lV S1 s.fz vs with
     | some (c2,wv,S2)=>(match rN s.keep wv S2 with
       | some (vs',ar)=>gM c.list (gM c2.list (C5 S.cj (Qv (aD vs') ar)))
       | none=>False)
     | none=>False
   | none=>False
theorem Inv.taken{P:Program}{yl:Bool}{C:Ctx}{lo:Nat}(hf:Fit P yl C lo){η:Eta}{Z:Zeta}{S:ak}{w:World}(I:Inv C η Z S w){b:Nat}(hy:yl=false)(hb:lo<=b)(h:w.heap[b]? = some (.deferred (some []))):Inv C η Z S (w.putObj b (.deferred none)):=by
 have hne:∀ k,k≠b->(w.putObj b (.deferred none)).heap[k]? = w.heap[k]?:=fun k hk=>by
  simp only[World.putObj];rw[ab2 (Ne.symm hk)]
 have hsz:(w.putObj b (.deferred none)).heap.size=w.heap.size:=by simp[World.putObj]
 have hZ:∀ k c,Z k=some c->k≠b:=by
  rintro k c hk rfl;obtain⟨ty,fz,e⟩:=I.st.zs _ _ hk;rw[h] at e;cases e
 refine⟨I.st.vZ (Zeta.le.refl _) (fun k c hk=>by rw[hne k (hZ k c hk)];exact I.st.zs k c hk) (by rw[hsz];exact ab4 _) (fun k ho=>hne k ?_) (fun k ho=>(I.st.mP ho).choose_spec.2.1),?_,I.keep⟩;rintro rfl;obtain⟨c,hc,_,hd⟩:=I.st.mP ho;rw[h] at hc;cases hc;cases hd;cases hf with
 | it=>cases hy
 | fn base keep iX Z0 M0 w0 _ =>
   have R:fJ Z0 M0 w0 Z (Own η S) w:=I.rel;exact(⟨R.os,R.tape,R.output,by rw[hsz];exact R.size,fun k hk hn=>by rw[hne k (by omega)];exact R.block k hk hn,R.own,R.cG,R.ga⟩:fJ Z0 M0 w0 Z (Own η S) (w.putObj b (.deferred none)))
def Site.env(s:Site)(Qv:A->List Ob->Prop):Env:={ P:=s.P,Γ:=s.Γ,yl:=s.yl,nt:=s.fn.ntmps,root:=s.root,keep:=s.keep,aj:=s.aj,bZ:=s.bZ,yU:=au s Qv,qt:=FX s Qv,fin:=vC s Qv,tK:=s.dl,dies:=s.Rv,pn:=fun u _ _=>s.pnc u,tlf:=s.tail.map fun T=>(T.f,T.k),tlp:=Eu s Qv }
theorem qE{s : Site}{Qv : A → List Ob → Prop}{C : Ctx}{lo : Nat}(hk : s.keep = C.keep)(hf : Fit s.P s.yl C lo){F : Fr}{S : ak} (h : match tM s.P F s.fn.results.toList s.fn.resultTypes.toList S with
 | some (c,vs,S1)=>match lV S1 s.fz vs with
   | some (c2,wv,S2)=>(match rN s.keep wv S2 with
     | some (vs',ar)=>gM c.list (gM c2.list (C5 S.cj (Qv (aD vs') ar)))
     | none=>False)
   | none=>False
 | none=>False) {η:Eta} {Z:Zeta} {a:Act} (FR:bq s.fn.ntmps η Z F a.tmps):∀{ds:List Deferred}{w:World},Inv C η Z S w->Marks lo w ds->(s.yl=true->ds=[])->LeavesInM Fence.wide 0 s.P s.fn a.tmps (endP s C Qv) ds .returning w
 | [], w, I, _, _ => by
   split at h
   . rename_i c vs S1 hres;split at h
     rotate_left
     exact h.elim;rename_i c2 wv S2 hfz;split at h;rename_i vs' ar hcan;obtain⟨hc,hq⟩:=ic h;obtain⟨hc2,hq⟩:=ic hq;obtain⟨hge,hq⟩:=gEnd_ok hq;rw[hk] at hcan;show ∃ v,(results s.fn a.tmps).run s.P w=.ok v w/\_;unfold results;simp only[Sem.run_bind]
     suffices key:∀(g:ResultVar->Sem Value),(∀ t,g (.tmp t)=Pure.pure (a.tmps.getD t undef))->(∀ b t,g (.cell b t)=do loadVar t (<-asAddr (a.tmps.getD b undef)))->
      ∃ v,((s.fn.results.mapM g:Sem (Array Value)).run s.P w).andThen (fun a w'=>(Pure.pure (if h:a.size=1 then a[0] else .tuple a):Sem Value).run s.P w')=.ok v w/\endP s C Qv (.returned v) w from key _ (fun _=>rfl) (fun _ _=>rfl)
     intro g g1 g2;obtain⟨us,zh,hl,mv⟩:=KW FR g1 g2 I.st hres hc;have hm:(s.fn.results.mapM g:Sem (Array Value)).run s.P w=.ok us.toArray w:=by
      rw[<-Array.toArray_toList (xs:=s.fn.results),List.mapM_toArray];simp only[Sem.run_map,zh,Result.andThen_ok]
     rw[hm];obtain⟨Z2,gU,hl2⟩:=xR (I.moves mv).st hl hfz hc2;obtain⟨aG,I',hl'⟩:=Vb ((I.moves mv).moves gU) hl2 hcan;exact⟨_,rfl,.inl ⟨_,aG,Z2,aD vs',ar,_,rfl,I',Vf hl',hq,by rw[gU.step.gh,mv.step.gh];exact hge⟩⟩;exact h.elim
   exact h.elim
 | d :: ds, w, I, hm, hy => by
   have HK:s.yl=false:=by
    cases hs:s.yl with
    | false=>rfl
    | true=>have:=hy hs;cases this
   obtain⟨bs,h1,h2,h3⟩:=hm;cases bs with
   | nil=>cases h1
   | cons b bs =>
     simp only[acA,List.cons.injEq] at h1;obtain⟨rfl,rfl⟩:=h1;obtain⟨hb1,hb2⟩:=h3 b (by simp);refine⟨by simp,.inl ⟨b,_,rfl,run_takeDeferred hb2,?_⟩⟩;refine qE hk hf h FR (I.taken hf HK hb1 hb2) ⟨bs,rfl,(List.nodup_cons.1 h2).2,fun k hkk=>?_⟩ (fun h=>by rw[HK] at h;cases h);obtain⟨c1,c2⟩:=h3 k (by simp[hkk]);refine⟨c1,?_⟩;have hne:k≠b:=by rintro rfl;exact(List.nodup_cons.1 h2).1 hkk
     simp only[World.putObj];rw[ab2 (Ne.symm hne)];exact c2
theorem Inv.below{C:Ctx}{η:Eta}{Z:Zeta}{S:ak}{w w':World}(I:Inv C η Z S w)(hB:Below w.heap.size w w'):Inv C η Z S w':=by
 have hz:xL Z w':=fun b c hb=>by
  obtain⟨ty,fz,e⟩:=I.st.zs b c hb;exact⟨ty,fz,(hB.block b (cS e)).trans e⟩
 refine⟨I.st.vZ (Zeta.le.refl _) hz hB.size (fun b ho=>?_) (fun b ho=>(I.st.mP ho).choose_spec.2.1),C.xM _ _ _ _ _ _ _ I.rel ⟨hB.os,hB.tape,hB.output,hB.size,fun b hb _=>hB.block b hb,fun _ h=>.inl h,Zeta.le.refl _,fun _ _ h=>.inl h⟩ hz,I.keep⟩;obtain⟨c,hc,_⟩:=I.st.mP ho;exact hB.block _ (cS hc)
theorem HL{s:Site}{Qv:A->List Ob->Prop}{C:Ctx}{lo:Nat}(hk:s.keep=C.keep)(hf:Fit s.P s.yl C lo){F:Fr}{S:ak} (h:match tM s.P F s.fn.results.toList s.fn.resultTypes.toList S with
 | some (c,vs,S1)=>match lV S1 s.fz vs with
   | some (c2,wv,S2)=>(match rN s.keep wv S2 with
     | some (vs',ar)=>gM c.list (gM c2.list (C5 S.cj (Qv (aD vs') ar)))
     | none=>False)
   | none=>False
 | none=>False) {η:Eta} {Z:Zeta} {a:Act} (FR:bq s.fn.ntmps η Z F a.tmps):∀{ds:List Deferred}{w:World},Inv C η Z S w->(∀ d∈ds,xQ s.dl d)->LeavesInM Fence.wide 0 s.P s.fn a.tmps (endP s C Qv) ds .returning w
 | [],w,I,_=>qE hk hf h FR I (Marks.nil lo w) (fun _=>rfl)
 | d::ds,w,I,hm=>by
   obtain⟨f,cs,args,rfl,hmem⟩:=hm d (by simp);have D:=s.dl_ok hmem;obtain⟨fn,body,h1,h2,h3⟩:=lU D.ent;have hinv:(invoke (.fn (.func f) cs) args).run s.P w=.ok (.enter f (args++cs)) w:=by
    simp only[invoke];simp[callFunc,h1,h3,h2]
   obtain⟨hFf,hgo⟩:=D.go (args++cs) w (by simp);refine⟨by simp,.inr ⟨(fun hh=>by simp[Fence.wide] at hh),.func f,cs,f,args++cs,rfl,hinv,fun _ _=>trivial,hFf,?_⟩⟩;intro c0 cs0 hm0 hroom;obtain⟨e1,u1,w1,Vg,⟨rfl,rfl,hB⟩,rest⟩:=hgo c0 cs0 hm0 hroom;refine⟨_,.returning,w1,Vg,?_,rest⟩;exact HL hk hf h FR (I.below hB) (fun d hd=>hm d (by simp[hd]))
theorem HO{s:Site}{Qv:A->List Ob->Prop}{C:Ctx}{lo:Nat}(hk:s.keep=C.keep)(hf:Fit s.P s.yl C lo){F:Fr}{S:ak} (h:match tM s.P F s.fn.results.toList s.fn.resultTypes.toList S with
 | some (c,vs,S1)=>match lV S1 s.fz vs with
   | some (c2,wv,S2)=>(match rN s.keep wv S2 with
     | some (vs',ar)=>gM c.list (gM c2.list (C5 S.cj (Qv (aD vs') ar)))
     | none=>False)
   | none=>False
 | none=>False) {η:Eta} {Z:Zeta} {a:Act} (FR:bq s.fn.ntmps η Z F a.tmps) {w:World} (I:Inv C η Z S w) (hd:qu s.yl s.dl lo a w):LeavesInM Fence.wide 0 s.P s.fn a.tmps (endP s C Qv) a.defers .returning w:=by
 by_cases hl:s.dl=[];exact qE hk hf h FR I (hd.1 hl).1 (hd.1 hl).2;exact HL hk hf h FR I (hd.2 hl)
theorem finW_ok{s:Site}{Qv:A->List Ob->Prop}{C:Ctx}{lo:Nat}(hk:s.keep=C.keep)(hf:Fit s.P s.yl C lo){x:X}{F:Fr}{S:ak}(h:vC s Qv x F S){η:Eta}{Z:Zeta}{w:World}{a:Act}(I:Inv C η Z S w)(FR:bq s.fn.ntmps η Z F a.tmps)(hd:qu s.yl s.dl lo a w):Ce s C Qv x.toExit a w:=by
 unfold vC at h;cases x with
 | normal=>exact HO hk hf h FR I hd
 | exit id=>exact h.elim
 | ret=>exact HO hk hf h FR I hd
theorem HS{s:Site}{Qv:A->List Ob->Prop}{C:Ctx}{lo:Nat}(hf:Fit s.P s.yl C lo)(HK:s.yl=false){u:Value}(hu:s.rO u){tmps:Array Value}:∀{ds:List Deferred}{η:Eta}{Z:Zeta}{S:ak}{w:World},Inv C η Z S w->Marks lo w ds->LeavesInM Fence.wide 0 s.P s.fn tmps (endP s C Qv) ds (.panicking [{ v:=u,recovered:=false }]) w
 | [],η,Z,S,w,I,_=>.inr ⟨u,η,Z,S,rfl,I,hu⟩
 | d :: ds, η, Z, S, w, I, hm => by
   obtain⟨bs,h1,h2,h3⟩:=hm;cases bs with
   | nil=>cases h1
   | cons b bs =>
     simp only[acA,List.cons.injEq] at h1;obtain⟨rfl,rfl⟩:=h1;obtain⟨hb1,hb2⟩:=h3 b (by simp);refine⟨by simp,.inl ⟨b,_,rfl,run_takeDeferred hb2,?_⟩⟩;refine HS hf HK hu (I.taken hf HK hb1 hb2) ⟨bs,rfl,(List.nodup_cons.1 h2).2,fun k hkk=>?_⟩;obtain⟨c1,c2⟩:=h3 k (by simp[hkk]);refine⟨c1,?_⟩;have hne:k≠b:=by rintro rfl;exact(List.nodup_cons.1 h2).1 hkk
     simp only[World.putObj];rw[ab2 (Ne.symm hne)];exact c2
theorem pnc_ok{s:Site}{Qv:A->List Ob->Prop}{C:Ctx}{lo:Nat}(hf:Fit s.P s.yl C lo){u:Value}(h:s.pnc u){η:Eta}{Z:Zeta}{S:ak}{w:World}{a:Act}(I:Inv C η Z S w)(hd:qu s.yl s.dl lo a w):Ce s C Qv (C0 u) a w:=by
 unfold Site.pnc at h;split at h;rename_i hy hdf;have Vh:s.dl=[]:=by unfold Site.dl;rw[hdf];rfl
 exact HS hf hy h I (hd.1 Vh).1;exact h.elim
theorem sI{s:Site}(dm:bp s.P s.Γ){Qv:A->List Ob->Prop}{C:Ctx}{lo:Nat}(hk:s.keep=C.keep)(hf:Fit s.P s.yl C lo):Sound (s.env Qv) C Fence.wide (Ce s C Qv) (qu s.yl s.dl lo) where
 keep:=hk
 Er:=dm
 know:=hf.knows
 hand:=hf.hand
 wf:=.inl rfl
 dst:=fun _ _ _ _ cm h h'=>h'.calm cm h
 Bl:=fun _ _ _ hd h=>⟨rfl,h.push hd⟩
 dies:=s.O9
 tl := fun f m h => by
  refine⟨rfl,fun rp F S hA η Z w a cs I FR hd hcs=>?_⟩;have h:(s.tail.map fun T=>(T.f,T.k))=some (f,m):=h;cases ht:s.tail with
  | none=>rw[ht] at h;cases h
  | some T =>
    rw[ht] at h;cases h;exact hA.go T ht C lo hk hf η Z w a cs I FR hd hcs
 rO:=fun u _ _ h _ _ _ _ I _ hd=>pnc_ok hf h I hd
 yU:=fun _ b _ _ hs h η Z w a I FR hd=>h.go C lo hk hf η Z w a I FR hd b hs
 qt:=fun _ g ps assign body _ _ hs h η Z w a I FR hd=>h.go C lo hk hf η Z w a I FR hd g ps assign body hs
 fin:=fun _ _ _ h _ _ _ _ I FR hd=>finW_ok hk hf h I FR hd
theorem Vi{s:Site}(dm:bp s.P s.Γ){Qv:A->List Ob->Prop}{rp:List Nat}{F:Fr}{S:ak}{b:Code}(hs:fC s.root rp=some (.loop b))(n:Nat)(h:wk (s.env Qv) n (.code b (0::rp) F S)):au s Qv rp F S:=by
 refine⟨fun C lo hk hf η Z w a I FR hd b' hs'=>?_⟩;rw[hs] at hs';cases hs';refine KT ?_;have hs1:fC s.root (0::rp)=some b:=by simp[fC,hs,child]
 have:=(sH (sI dm (Qv:=Qv) hk hf) n).1 b (0::rp) F S h hs1 η Z w a I FR hd;have hkp:kp s.P Fence.wide s.root (Ce s C Qv) (0::rp)=C3 s.P Fence.wide b (kp s.P Fence.wide s.root (Ce s C Qv) rp):=by simp only[kp,hs]
 rw[<-hkp];exact this
def p7(args:List A):Fr:=T.ofList args
theorem C6{n:Nat}{η:Eta}{Z:Zeta}{args:List A}{vs:List Value}(hvs:bg (cr η Z) args vs)(hn:aci args.length n=true):bq n η Z (p7 args) (vs.toArray++acK (n-vs.toArray.size) undef):=by
 have hvl:vs.length=args.length:=hvs.length.symm;have hn:args.length<=n:=Nat.le_of_ble_eq_true hn;refine⟨?_,?_⟩;simp;omega;intro i x hx;simp only[p7,T.aM] at hx;obtain⟨v,hv,hr⟩:=hvs.get hx;have hi:=(List.getElem?_eq_some_iff.1 hv).1;exact⟨v,by rw[Array.getElem?_append_left (by simpa using hi)];simpa using hv,hr⟩
theorem St.ofG{base:Nat}{η:Eta}{Z:Zeta}{g:Option Gh}{l:List Ob}{w:World}(R:St base η Z (.eS g l) w):St base η Z (.ofList l) w:=by
 cases g with
 | none=>exact R
 | some g=>exact⟨R.ar,R.cj,R.known,R.jh,R.zs,R.fresh,R.fN,R.sat⟩
theorem zX{s:Site}(dm:bp s.P s.Γ)(hy:s.yl=false){f:FuncId}(hf:s.P.funcs[f]? = some s.fn)(hb:s.fn.body=some s.root){args:List A}{ar:List Ob}(hn:aci args.length s.fn.ntmps=true){Qv:A->List Ob->Prop}(n:Nat)
 (h:wk (s.env Qv) n (.code s.root [] (p7 args) (.ofList ar))) {base:Nat} {η:Eta} {Z:Zeta} {w:World} {vs:List Value} (R:St base η Z (.ofList ar) w) (hvs:bg (cr η Z) args vs) (hK:iL s.P Z) :
 CallsIn Fence.wide 0 s.P f vs.toArray w fun e w'=>(∃ u aG Z' r aY,e=.returned u/\gV s.keep base η Z (.ofList ar) w aG Z' (.ofList aY) w'/\cr aG Z' r u/\Qv r aY)∨(∃ u Z',e=.panicked [{ v:=u,recovered:=false }]/\gV 0 base η Z (.ofList ar) w (fun _=>none) Z' (.ofList []) w'/\s.rO u):=by
 let C:Ctx:=Ctx.fn base s.keep η Z (Own η (.ofList ar)) w;have fit:Fit s.P s.yl C w.heap.size:=by rw[hy];exact Fit.fn base s.keep η Z (Own η (.ofList ar)) w hK
 have I:Inv C η Z (.ofList ar) w:=⟨R,fJ.refl _ _ _,fun _ _ _ h=>h⟩;have B6:=C6 hvs hn;have:=(sH (sI dm (Qv:=Qv) (C:=C) rfl fit) n).1 s.root [] _ _ h rfl η Z w { tmps:=vs.toArray++acK (s.fn.ntmps-vs.toArray.size) undef,defers:=[] } I B6 (qu.start _ _ _ _ _);refine(callsIn_of_wp_marks hf hb trivial this).mono ?_;rintro e w' (⟨u,aG,Z',r,aY,g,rfl,I',hr,hq,_⟩|⟨u,aG,Z',S',rfl,I',hu⟩);have R':fJ Z (Own η (.ofList ar)) w Z' (Own aG (.eS g aY)) w':=I'.rel;exact .inl ⟨u,aG,Z',r,aY,rfl,⟨fun k p hk hp=>I'.keep k p hk hp,I'.st.ofG,⟨R'.os,R'.tape,R'.output,R'.size,R'.block,fun b hb=>R'.own b (nZ.2 hb),R'.cG,R'.ga,rfl⟩⟩,hr,hq⟩;have R':fJ Z (Own η (.ofList ar)) w Z' (Own aG S') w':=I'.rel;have pS:∀ n,(ak.ofList []).get n=none:=fun n=>by rw[ak.aM];simp
 have hst:St base (fun _=>none) Z' (.ofList []) w':=by
  refine⟨?_,?_,?_,?_,I'.st.zs,fun _ _=>rfl,I'.st.fN,?_⟩;intro n o p h;rw[pS] at h;cases h;intro n o h;rw[pS] at h;cases h;intro n o h;rw[pS] at h;cases h;intro n n' o o' p p' b h;rw[pS] at h;cases h;intro n o p h;rw[pS] at h;cases h
 have hown:∀ b,Own (fun _=>none) (.ofList []) b->Own η (.ofList ar) b∨w.heap.size<=b:=by
  rintro b ⟨n,o,p,h,_⟩;rw[pS] at h;cases h
 exact .inr ⟨u,Z',rfl,⟨fun n p hn _=>absurd hn (Nat.not_lt_zero n),hst,⟨R'.os,R'.tape,R'.output,R'.size,R'.block,hown,R'.cG,R'.ga,rfl⟩⟩,hu⟩
theorem HU{s:Site}(dm:bp s.P s.Γ)(hy:s.yl=false){f:FuncId}(hf:s.P.funcs[f]? = some s.fn)(hb:s.fn.body=some s.root){args:List A}{ar:List Ob}(hn:aci args.length s.fn.ntmps=true){r0:A}{bM:List Ob}(n:Nat)
 (h:wk (s.env fun r o=>r=r0/\o=bM) n (.code s.root [] (p7 args) (.ofList ar))) (hp:∀ u,¬s.rO u):bn s.P f s.keep args ar r0 bM:=by
 intro base η Z w vs R hvs hK;refine(zX dm hy hf hb hn n h R hvs hK).mono ?_;rintro e w' (⟨u,aG,Z',r,aY,rfl,mv,hr,rfl,rfl⟩|⟨u,Z',rfl,_,hu⟩);exact⟨u,aG,Z',rfl,mv,hr⟩;exact absurd hu (hp u)
theorem tN{s:Site}(dm:bp s.P s.Γ)(hy:s.yl=false){f:FuncId}(hf:s.P.funcs[f]? = some s.fn)(hb:s.fn.body=some s.root){args:List A}{ar:List Ob}(hk:s.keep=ar.length)(hn:aci args.length s.fn.ntmps=true){r0:A}{bM:List Ob}(n:Nat)
 (h:wk (s.env fun r o=>r=r0/\o=bM) n (.code s.root [] (p7 args) (.ofList ar))) (hp:∀ u,¬s.rO u):bA s.P f args ar r0 bM:=by
 have:=HU dm hy hf hb hn n h hp;rw[hk] at this;exact this
theorem Y8{s:Site}(dm:bp s.P s.Γ)(hy:s.yl=false){f:FuncId}(hf:s.P.funcs[f]? = some s.fn)(hb:s.fn.body=some s.root){args:List A}{ar:List Ob}(hn:aci args.length s.fn.ntmps=true){b:Bool}{v:Value}(hpan:∀ u,s.rO u->b=true/\u=v){r0:A}{bM:List Ob}(n:Nat)
 (h:wk (s.env fun r o=>b=false/\r=r0/\o=bM) n (.code s.root [] (p7 args) (.ofList ar))):(b=false->bn s.P f s.keep args ar r0 bM)/\(b=true->kX s.P f args ar v):=by
 refine⟨fun hb0 base η Z w vs R hvs hK=>?_,fun hb1 base η Z w vs R hvs hK=>?_⟩;refine(zX dm hy hf hb hn n h R hvs hK).mono ?_;rintro e w' (⟨u,aG,Z',r,aY,rfl,mv,hr,_,rfl,rfl⟩|⟨u,Z',rfl,_,hu⟩);exact⟨u,aG,Z',rfl,mv,hr⟩;have:=(hpan u hu).1;rw[hb0] at this;cases this;refine(zX dm hy hf hb hn n h R hvs hK).mono ?_;rintro e w' (⟨u,aG,Z',r,aY,rfl,mv,hr,h0,_⟩|⟨u,Z',rfl,mv,hu⟩);rw[hb1] at h0;cases h0;rw[(hpan u hu).2];exact⟨rfl,Z',mv⟩
def gq(fn:Func):Code:=match fn.body with|some c=>c|none=>.skip
def wz:List (List Nat×List Nat)->List Nat->List Nat
 | [],_=>[]
 | (p,l)::r,rp=>bif p==rp then l else wz r rp
def dJ(P:Program)(Γ:bN)(fn:Func)(keep:Nat)(aj:List (List Nat×List Nat)):Site:={ P,Γ,fn,root:=gq fn,keep,aj:=wz aj }
def Ry:List (List Nat×List (Nat×D))->List Nat->List (Nat×D)
 | [],_=>[]
 | (p,l)::r,rp=>bif p==rp then l else Ry r rp
def bD(P:Program)(Γ:bN)(fn:Func)(keep:Nat)(aj:List (List Nat×List Nat))(bZ:List (List Nat×List (Nat×D)))(fz:List (Option D)):Site:={ P,Γ,fn,root:=gq fn,keep,aj:=wz aj,bZ:=Ry bZ,fz }
def loopBody(s:Site)(rp:List Nat):Code:=match fC s.root rp with|some (.loop b)=>b|_=>.skip
def Vj(s:Site)(rp:List Nat):Bool:=match fC s.root rp with|some (.loop _)=>true|_=>false
theorem aL{s:Site}(dm:bp s.P s.Γ){Qv:A->List Ob->Prop}{rp:List Nat}{F:Fr}{S:ak}(hs:Vj s rp=true)(n:Nat)(h:wk (s.env Qv) n (.code (loopBody s rp) (0::rp) F S)):au s Qv rp F S:=by
 unfold Vj at hs;split at hs;rename_i b hb;have:loopBody s rp=b:=by unfold loopBody;rw[hb]
 rw[this] at h;exact Vi dm hb n h;cases hs
def aC(r0:A)(bM:List Ob):A->List Ob->Prop:=fun r o=>r=r0/\o=bM
theorem bO{P:Program}{Γ:bN}{fn:Func}{aj:List (List Nat×List Nat)}(dm:bp P Γ){f:FuncId}(hf:P.funcs[f]? = some fn)(hb:fn.body.isSome=true){args:List A}{ar:List Ob}{keep:Nat}(hk:keep=ar.length)(hn:aci args.length fn.ntmps=true){r0:A}{bM:List Ob}(n:Nat)
 (h:wk ((dJ P Γ fn keep aj).env (aC r0 bM)) n (.code (gq fn) [] (p7 args) (.ofList ar))):bA P f args ar r0 bM:=by
 obtain⟨c,hc⟩:=Option.isSome_iff_exists.1 hb;exact tN (s:=dJ P Γ fn keep aj) dm rfl hf (by show fn.body=some (gq fn);unfold gq;rw[hc]) hk hn n h (fun _ h=>h)
theorem dh{P:Program}{Γ:bN}{fn:Func}{aj:List (List Nat×List Nat)}{bZ:List (List Nat×List (Nat×D))}{fz:List (Option D)}(dm:bp P Γ){f:FuncId}(hf:P.funcs[f]? = some fn)(hb:fn.body.isSome=true){args:List A}{ar:List Ob}{keep:Nat}(hk:keep=ar.length)(hn:aci args.length fn.ntmps=true){r0:A}{bM:List Ob}(n:Nat)
 (h:wk ((bD P Γ fn keep aj bZ fz).env (aC r0 bM)) n (.code (gq fn) [] (p7 args) (.ofList ar))):bA P f args ar r0 bM:=by
 obtain⟨c,hc⟩:=Option.isSome_iff_exists.1 hb;exact tN (s:=bD P Γ fn keep aj bZ fz) dm rfl hf (by show fn.body=some (gq fn);unfold gq;rw[hc]) hk hn n h (fun _ h=>h)
def Pa(P:Program)(Γ:bN)(fn:Func)(keep:Nat)(aj:List (List Nat×List Nat))(bZ:List (List Nat×List (Nat×D)))(fz:List (Option D))(tK:List { x:FuncId×Nat // Bm P x.1 x.2 }):Site:={ P,Γ,fn,root:=gq fn,keep,aj:=wz aj,bZ:=Ry bZ,fz,tK }
theorem Vk{P:Program}{Γ:bN}{fn:Func}{aj:List (List Nat×List Nat)}{bZ:List (List Nat×List (Nat×D))}{fz:List (Option D)}(tK:List { x:FuncId×Nat // Bm P x.1 x.2 })(dm:bp P Γ){f:FuncId}(hf:P.funcs[f]? = some fn)(hb:fn.body.isSome=true){args:List A}{ar:List Ob}{keep:Nat}(hk:keep=ar.length)(hn:aci args.length fn.ntmps=true){r0:A}{bM:List Ob}(n:Nat)
 (h:wk ((Pa P Γ fn keep aj bZ fz tK).env (aC r0 bM)) n (.code (gq fn) [] (p7 args) (.ofList ar))):bA P f args ar r0 bM:=by
 obtain⟨c,hc⟩:=Option.isSome_iff_exists.1 hb;exact tN (s:=Pa P Γ fn keep aj bZ fz tK) dm rfl hf (by show fn.body=some (gq fn);unfold gq;rw[hc]) hk hn n h (fun _ h=>h)
theorem bJ{P:Program}{Γ:bN}{fn:Func}{aj:List (List Nat×List Nat)}{bZ:List (List Nat×List (Nat×D))}{fz:List (Option D)}(dm:bp P Γ){f:FuncId}(hf:P.funcs[f]? = some fn)(hb:fn.body.isSome=true){args:List A}{ar:List Ob}(keep:Nat)(hn:aci args.length fn.ntmps=true){r0:A}{bM:List Ob}(n:Nat)
 (h:wk ((bD P Γ fn keep aj bZ fz).env (aC r0 bM)) n (.code (gq fn) [] (p7 args) (.ofList ar))):bn P f keep args ar r0 bM:=by
 obtain⟨c,hc⟩:=Option.isSome_iff_exists.1 hb;exact HU (s:=bD P Γ fn keep aj bZ fz) dm rfl hf (by show fn.body=some (gq fn);unfold gq;rw[hc]) hn n h (fun _ h=>h)
def jW(P:Program)(Γ:bN)(dies:List { x:FuncId×iT // gQ P x.1 x.2 })(fn:Func)(keep:Nat)(aj:List (List Nat×List Nat))(bZ:List (List Nat×List (Nat×D)))(fz:List (Option D))(b:Bool)(v:Value):Site:={ P,Γ,fn,root:=gq fn,keep,aj:=wz aj,bZ:=Ry bZ,fz,dies,rO:=fun u=>b=true/\u=v }
def eT(b:Bool)(r0:A)(bM:List Ob):A->List Ob->Prop:=fun r o=>b=false/\r=r0/\o=bM
theorem lW{P:Program}{Γ:bN}{dies:List { x:FuncId×iT // gQ P x.1 x.2 }}{fn:Func}{aj:List (List Nat×List Nat)}{bZ:List (List Nat×List (Nat×D))}{fz:List (Option D)}(dm:bp P Γ){f:FuncId}(hf:P.funcs[f]? = some fn)(hb:fn.body.isSome=true){args:List A}{ar:List Ob}(keep:Nat)(hn:aci args.length fn.ntmps=true){b:Bool}{v:Value}{r0:A}{bM:List Ob}(n:Nat)
 (h:wk ((jW P Γ dies fn keep aj bZ fz b v).env (eT b r0 bM)) n (.code (gq fn) [] (p7 args) (.ofList ar))):(b=false->bn P f keep args ar r0 bM)/\(b=true->kX P f args ar v):=by
 obtain⟨c,hc⟩:=Option.isSome_iff_exists.1 hb;exact Y8 (s:=jW P Γ dies fn keep aj bZ fz b v) dm rfl hf (by show fn.body=some (gq fn);unfold gq;rw[hc]) hn (fun _ h=>h) n h
def fP(d:D):A->Option d.ty
 | .p (.c x)=>d.of x
 | .dec b=>d.of (.bool b)
 | _=>none
abbrev dat(d:D)(x:d.ty):A:=.p (.c (d.w x))
theorem cg{η:Eta}{Z:Zeta}{d:D}{x:A}{y:d.ty}(e:fP d x=some y){v:Value}(h:cr η Z x v):cr η Z (dat d y) v:=by
 cases x with
 | p x =>
   cases x with
   | c x=>exact⟨D.jg _ _,(D.gC d).2 (mE e h.2)⟩
   | agg cs=>cases e
 | dec b =>
   have hv:v=.bool b:=h;have:aI η Z (.bool b) v:=by simp[aI,aQ,hv]
   exact⟨D.jg _ _,(D.gC d).2 (mE e this)⟩
 | aJ vs=>cases e
 | cond c v=>cases e
theorem bA.args{P:Program}{f:FuncId}{args args':List A}{ar:List Ob}{r:A}{aY:List Ob}(h:bA P f args' ar r aY)(ha:∀ η Z vs,bg (cr η Z) args vs->bg (cr η Z) args' vs):bA P f args ar r aY :=
 fun base η Z w vs R hvs hK=>h base η Z w vs R (ha η Z vs hvs) hK
def jJ(d1:D)(g:d1.ty->Cd×A×List Ob):bI:={ refs:=[],f:=fun args ar=>match args,ar with | [x],[]=>(match fP d1 x with|some x=>some (g x)|_=>none)|_,_=>none }
theorem fE{P:Program}{f:FuncId}{d1:D}{g:d1.ty->Cd×A×List Ob}(he:enters P f=true)(h:∀ x,(g x).1->bA P f [dat d1 x] [] (g x).2.1 (g x).2.2):aK P f (jJ d1 g):=by
 refine⟨he,fun args ar c r aY e hc=>?_⟩;simp only[jJ] at e;split at e;split at e;rename_i x y hy;have e:=Option.some.inj e;have h1:=h y (by rw[e];exact hc);rw[e] at h1;exact bA.args h1 fun η Z vs hv=>match vs,hv with | [_],⟨a,b⟩=>⟨cg hy a,b⟩
 cases e;cases e
def jK(d1 d2:D)(g:d1.ty->d2.ty->Cd×A×List Ob):bI:={ refs:=[],f:=fun args ar=>match args,ar with | [x,y],[]=>(match fP d1 x,fP d2 y with|some x,some y=>some (g x y)|_,_=>none)|_,_=>none }
theorem fF{P:Program}{f:FuncId}{d1 d2:D}{g:d1.ty->d2.ty->Cd×A×List Ob}(he:enters P f=true)(h:∀ x y,(g x y).1->bA P f [dat d1 x,dat d2 y] [] (g x y).2.1 (g x y).2.2):aK P f (jK d1 d2 g):=by
 refine⟨he,fun args ar c r aY e hc=>?_⟩;simp only[jK] at e;split at e;split at e;rename_i x1 y1 hx hy;have e:=Option.some.inj e;have h1:=h x1 y1 (by rw[e];exact hc);rw[e] at h1;exact bA.args h1 fun η Z vs hv=>match vs,hv with | [_,_],⟨a,b,c⟩=>⟨cg hx a,cg hy b,c⟩
 cases e;cases e
def Y9(d1 d2 d3:D)(g:d1.ty->d2.ty->d3.ty->Cd×A×List Ob):bI:={ refs:=[],f:=fun args ar=>match args,ar with | [x,y,z],[]=>(match fP d1 x,fP d2 y,fP d3 z with|some x,some y,some z=>some (g x y z)|_,_,_=>none)|_,_=>none }
theorem con3_ok{P:Program}{f:FuncId}{d1 d2 d3:D}{g:d1.ty->d2.ty->d3.ty->Cd×A×List Ob}(he:enters P f=true)(h:∀ x y z,(g x y z).1->bA P f [dat d1 x,dat d2 y,dat d3 z] [] (g x y z).2.1 (g x y z).2.2):aK P f (Y9 d1 d2 d3 g):=by
 refine⟨he,fun args ar c r aY e hc=>?_⟩;simp only[Y9] at e;split at e;split at e;rename_i x1 y1 z1 hx hy hz;have e:=Option.some.inj e;have h1:=h x1 y1 z1 (by rw[e];exact hc);rw[e] at h1;exact bA.args h1 fun η Z vs hv=>match vs,hv with | [_,_,_],⟨a,b,c,d⟩=>⟨cg hx a,cg hy b,cg hz c,d⟩
 cases e;cases e
theorem zY{P:Program}{f:FuncId}{args:List A}{d:D}{y:d.ty}(h:∀(base:Nat) (η:Eta) (Z:Zeta) (w:World) vs,St base η Z (.ofList []) w->bg (cr η Z) args vs->iL P Z->Calls P f vs.toArray w fun e w'=>∃ u,e=.returned u/\(∀ Z:Zeta,cE Z d y u)/\Below w.heap.size w w'):bA P f args [] (dat d y) []:=by
 intro base η Z w vs R hvs hK;refine(callsIn_wide.2 (h base η Z w vs R hvs hK)).mono ?_;rintro e w' ⟨u,rfl,hu,hB⟩;have hstep:Step η Z (.ofList []) w η Z (.ofList []) w':=⟨hB.os,hB.tape,hB.output,hB.size,fun b hb _=>hB.block b hb,fun b h=>.inl h,Zeta.le.refl _,fun b c h=>.inl h,rfl⟩;refine⟨u,η,Z,rfl,⟨fun _ _ _ h=>h,⟨fun n o p h=>by rw[ak.aM] at h;simp at h,fun n o h=>by rw[ak.aM] at h;simp at h,fun n o h=>by rw[ak.aM] at h;simp at h,fun n n' o o' p p' b h=>by rw[ak.aM] at h;simp at h,fun b c hb=>?_,R.fresh,acr R.fN hB.size,fun n o p h=>by rw[ak.aM] at h;simp at h⟩,hstep⟩,D.jg _ _,(D.gC d).2 (hu Z)⟩;obtain⟨ty,fz,e⟩:=R.zs b c hb;exact⟨ty,fz,(hB.block b (cS e)).trans e⟩
def lX(w:World):Zeta:=fun b=>match w.heap[b]? with|some (.cells c _ _)=>some c|_=>none
theorem st_out(w:World):St w.heap.size (fun _=>none) (lX w) (.ofList []) w:=by
 refine⟨fun n o p h=>by rw[ak.aM] at h;simp at h,fun n o h=>by rw[ak.aM] at h;simp at h,fun n o h=>by rw[ak.aM] at h;simp at h,fun n n' o o' p p' b h=>by rw[ak.aM] at h;simp at h,fun b c hb=>?_,fun _ _=>rfl,ab4 _,fun n o p h=>by rw[ak.aM] at h;simp at h⟩;unfold lX at hb;split at hb;rename_i h;cases hb;exact⟨_,_,h⟩;cases hb
theorem Vl{P:Program}{f:FuncId}{args:List A}{d:D}{y:d.ty}(h:bA P f args [] (dat d y) []){w:World}{vs:List Value}(hvs:bg (cr (fun _=>none) (lX w)) args vs)(hK:iL P (lX w))(hp:d.plain=true) :
 Calls P f vs.toArray w fun e w'=>∃ u,e=.returned u/\(∀ Z,cE Z d y u)/\Below w.heap.size w w':=by
 refine(callsIn_wide.1 (h w.heap.size _ _ w vs (st_out w) hvs hK)).mono ?_;rintro e w' ⟨u,aG,Z',rfl,mv,hr⟩;refine⟨u,rfl,fun Z=>?_,⟨mv.step.os,mv.step.tape,mv.step.output,mv.step.size,fun b hb=>mv.step.block b hb ?_⟩⟩
 . have:=(D.gC d).1 hr.2;cases d with
   | int k=>exact this
   | bool=>exact this
   | str=>exact this
   | sl d=>cases hp
 rintro⟨n,o,p,h,_⟩;rw[ak.aM] at h;simp at h
end Go.aT
