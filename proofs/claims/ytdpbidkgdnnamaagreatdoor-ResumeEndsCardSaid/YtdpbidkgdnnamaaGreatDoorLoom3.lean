/- The walk by values, third part: drawn orders, the walk through a text, functions. It holds for every program and every world, under the hypotheses that each theorem names. -/
import Derived.Test.YtdpbidkgdnnamaaGreatDoorLoom2
import Derived.Test.YtdpbidkgdnnamaaGreatDoorMill1
open List renaming range->acP,mem_cons_of_mem->acY,getElem?_eq_getElem->acZ,getElem?_cons_succ->ac0,filter_cons_of_pos->ac1,getElem?_append_left->ac4,getElem?_cons_zero->ac6,filter_cons_of_neg->ac7,all_eq_true->ac8,nil_append->ac9,ext_getElem?->ada,getElem?_map->adb,mem_of_getElem?->adi,getElem?_of_mem->adj,map_cons->adl,take_succ_cons->adm,mem_singleton->adn,filter_append->ado,take_add_one->adq,getElem?_inj->adr,append_nil->adt,range_succ->adu,length->adz
open Array renaming getElem?_eq_getElem->acQ,getElem?_setIfInBounds_ne->acS,getElem?_eq_none->acV,getElem?_toList->acX,getElem?_setIfInBounds_self_of_lt->ac3,ext'->adk,replicate->adv
open Nat renaming beq->acR,le_refl->acU,beq_eq->acW,lt_or_ge->ac2,ble->ac5,le_trans->ade,blt->adf,eq_of_beq_eq_true->adg,blt_eq->adh,lt_trichotomy->adp,zero_add->ady
open Bool renaming and_eq_true->acT,or_eq_true->ads,not_true->adw,or_false->adx
noncomputable section
namespace Go.aW
open Go.RowKit
open Go.aC (T WF cY slotsOf zG tL dO acN DrawQ Closed Ready Valid jS kY dR dM bit eW)
def ox(Γ:bW)(F:Fr)(S:ak)(x:kG):Option (Cd×A×ak) :=
 match guardE F x.guard with
 | some .run=>match r9 Γ F S x.o with|some r=>some (r.cd,r.v,r.st S)|none=>none
 | some .skip=>some (.t,.aL [],S)
 | some (.cond g)=>match r9 Γ F S x.o with
   | some (.pure c (.p v))=>some (.imp g c,.cond g v,S)
   | _=>none
 | some (.bool _ b want)=>match r9 Γ F S x.o with
   | some (.pure c (.p v))=>some (.imp (b=want) c,.cond (b=want) v,S)
   | _=>none
 | none=>none
section
variable {P:Program} {base nt:Nat} {η:Eta} {Z:aF} {S:ak} {w:World} {F:Fr} {a:Act}
theorem Gs{Γ:bW}(dV:bt P Γ)(hT:jf P Z){sq:Bool}(R:St base η Z S w)(FR:bD nt η Z F a.tmps){ops:Array Oper}{o:Oper}{x:kG}(ht:qq P sq nt ops o=some x){c:Cd}{v:A}{S':ak}(e:ox Γ F S x=some (c,v,S'))(hc:c)
 {Fc:Fence} (hF:WF Fc) {aU:Act->World->Prop} {Q:Exit->Act->World->Prop} (hn:VH base η Z S w v S' o a aU) :
 if Region.wanted o (yielded ops a.tmps) then o.wpIn Fc 0 P a w aU Q else(∀ f,o.about P w a.eval=some f->Fc.fn f)/\aU (a.put o.dst undef) w:=by
 obtain⟨h1,h2,h3,h4⟩:=iY ht;have cond:∀(g:Prop) c1 v1,(Region.wanted o (yielded ops a.tmps)=true↔g)->r9 Γ F S x.o=some (.pure c1 (.p v1))->(g->c1)->v=.cond g v1->S'=S->if Region.wanted o (yielded ops a.tmps) then o.wpIn Fc 0 P a w aU Q else(∀ f,o.about P w a.eval=some f->Fc.fn f)/\aU (a.put o.dst undef) w:=by
  rintro g c1 v1 hw e1 hc1 rfl rfl;by_cases hg:g;rw[if_pos (hw.2 hg)];refine ER dV hT R FR h3 e1 (hc1 hg) Fc hF aU Q ?_;intro u w' aI Z' mv hr;exact hn u w' aI Z' mv ⟨fun _=>hr,fun hh=>absurd hg hh⟩;rw[if_neg (fun hh=>hg (hw.1 hh))];exact⟨fun f _=>hF.fn f,hn undef w η Z (bX.refl R) ⟨fun hh=>absurd hh hg,fun _=>rfl⟩⟩
 unfold ox at e;split at e;rename_i hg;have:=j8 FR h2 hg;rw[if_pos (this.2 trivial)];split at e;rename_i r hr;cases e;exact ER dV hT R FR h3 hr hc Fc hF aU Q hn;cases e;rename_i hg;have:=j8 FR h2 hg;rw[if_neg (fun hh=>this.1 hh)];cases e;exact⟨fun f _=>hF.fn f,hn undef w η Z (bX.refl R) Il⟩;rename_i g hg;have:=j8 FR h2 hg;split at e;rename_i c1 v1 e1;cases e;exact cond g c1 v1 this e1 hc rfl rfl;cases e;rename_i d b want hg;have:=j8 FR h2 hg;split at e;rename_i c1 v1 e1;cases e;exact cond (b=want) c1 v1 this e1 hc rfl rfl;cases e;cases e
end
theorem qu{P:Program}{nt:Nat}{Γ:bW}{F:Fr}{S S':ak}{ops:Array Oper}{o:Oper}{x:kG}(ht:qq P false nt ops o=some x)(hq:cY o.op=false){c:Cd}{v:A}(e:ox Γ F S x=some (c,v,S')):S'=S:=by
 obtain⟨_,_,h3,_⟩:=iY ht;have hx : (∃ q, x.o = .q q) ∨ ∃ neg y, x.o = .CD neg y := by
  unfold Ab at h3;split at h3;rename_i hop;rw[hop] at hq;simp[aC.cY] at hq;split at h3;rename_i k' hk';cases h3;exact .inr (BH hk');simp only[cond_false,hq] at h3;split at h3;rename_i q _;exact .inl ⟨q,(Option.some.inj h3).symm⟩;cases h3
 rcases hx with ⟨q,hx⟩|⟨neg,y,hx⟩
 rotate_left
 unfold ox at e;rw[hx] at e;split at e;split at e;rename_i r hr;simp only[r9] at hr;cases hr;cases e;cases e;rfl;split at e;cases e;rfl;cases e;split at e;cases e;rfl;cases e;cases e;unfold ox at e;rw[hx] at e;split at e;split at e;rename_i r hr;simp only[r9] at hr;split at hr;cases hr;cases e;rfl;cases hr;cases e;cases e;rfl;split at e;cases e;rfl;cases e;split at e;cases e;rfl;cases e;cases e
def ud:O->Bool
 | .q (.load ..)=>true
 | .q (.uP ..)=>true
 | .q _=>false
 | _=>true
theorem Zz{F:Fr}{S S2:ak}{q:Q}(h:ud (.q q)=false):qA F S q=qA F S2 q:=by
 cases q<;>first|rfl|cases h
theorem yj{Γ:bW}{F:Fr}{S S2 S':ak}{x:kG}(h:ud x.o=false){c:Cd}{v:A}(e:ox Γ F S x=some (c,v,S')):∃ Ln,ox Γ F S2 x=some (c,v,Ln)/\Ln=S2:=by
 cases hx:x.o with
 | l l=>rw[hx] at h;cases h
 | call f as=>rw[hx] at h;cases h
 | CD neg y=>rw[hx] at h;cases h
 | q q =>
   rw[hx] at h;have hqa:=Zz (F:=F) (S:=S) (S2:=S2) h;unfold ox at e ⊢;rw[hx] at e ⊢;simp only[r9] at e ⊢;rw[<-hqa];generalize guardE F x.guard=G at e ⊢;cases hqq:qA F S q with
   | none =>
     rw[hqq] at e;cases G with
     | none=>cases e
     | some G=>cases G<;>first|(cases e;done)|(cases e;exact⟨S2,rfl,rfl⟩)
   | some cv =>
     obtain⟨c1,v1⟩:=cv;rw[hqq] at e;cases G with
     | none=>cases e
     | some G =>
       cases G with
       | run=>cases e;exact⟨S2,rfl,rfl⟩
       | skip=>cases e;exact⟨S2,rfl,rfl⟩
       | cond g=>cases v1<;>first|(cases e;done)|(cases e;exact⟨S2,rfl,rfl⟩)
       | bool d b want=>cases v1<;>first|(cases e;done)|(cases e;exact⟨S2,rfl,rfl⟩)
def nW(F:Fr)(l:List Nat):Fr:=l.foldr (fun s t=>T.put t s (T.get F s)) .leaf
theorem Ag{F:Fr}:∀{l:List Nat}{s:Nat}{x:A},(nW F l).get s=some x->s∈l/\F.get s=some x
 | [],s,x,h=>by simp[nW,T.mA] at h
 | k :: l, s, x, h => by
   show s∈k::l/\_;have h':(T.put (nW F l) k (F.get k)).get s=some x:=h;rw[T.jm] at h';by_cases hs:s=k;subst hs;rw[if_pos rfl] at h';exact⟨by simp,h'⟩;rw[if_neg hs] at h';obtain⟨a,b⟩:=Ag h';exact⟨by simp[a],b⟩
structure oy where
 x:kG
 fr:Fr
 v:A
 loud:Bool
def Ah(Γ:bW)(ops:Array Oper):List Oper->List kG->Fr->ak->Option (Cd×List oy×List ak×Fr×ak)
 | o :: l, x :: xs, F, S => match ox Γ (nW F (slotsOf ops o)) S x with
   | some (c,v,S')=>match Ah Γ ops l xs (lV F x.dst v) S' with
     | some (c',af,Ss,F',zo)=>some (.and c c',⟨x,nW F (slotsOf ops o),v,cY o.op⟩::af,(bif cY o.op then S'::Ss else Ss),F',zo)
     | none=>none
   | none=>none
 | [],[],F,S=>some (.t,[],[],F,S)
 | _,_,_,_=>none
def Lp(Γ:bW)(Ss:List ak)(r:oy)(m:Nat):Option Cd :=
 match Ss[m]? with
 | some S=>match ox Γ r.fr S r.x with|some (c,v,_)=>some (.and c (.p (v=r.v)))|none=>none
 | none=>none
def BI(Γ:bW)(Ss:List ak)(r:oy)(lo:Nat):Nat->Option Cd
 | 0=>some .t
 | k+1=>match BI Γ Ss r lo k with
   | some c=>bif adf k lo then some c else match Lp Γ Ss r k with|some c'=>some (.and c c')|none=>none
   | none=>none
def Lq(Γ:bW)(ops:Array Oper)(Ss:List ak)(r:oy)(i:Nat):Option Cd :=
 bif r.loud||!(ud r.x.o) then some .t else
  (let p:=dO ops i
   bif acR p.1 p.2 then some .t else BI Γ Ss r p.1 (p.2+1))
def BJ(Γ:bW)(ops:Array Oper)(Ss:List ak):List oy->Nat->Option Cd
 | [],_=>some .t
 | r::l,i=>match Lq Γ ops Ss r i,BJ Γ ops Ss l (i+1) with|some c,some c'=>some (.and c c')|_,_=>none
def Lr(Γ:bW)(ops:Array Oper)(xs:List kG)(F:Fr)(S:ak)(k:Fr->ak->Prop):Prop :=
 match zG ops with
 | true=>match Ah Γ ops ops.toList xs F S with
   | some (c,af,Ss,F',S')=>match BJ Γ ops (S::Ss) af 0 with
     | some c'=>ij (Cd.and c c').list (k F' S')
     | none=>False
   | none=>False
 | false=>False
theorem Ai{Γ:bW}{Ss:List ak}{r:oy}{lo:Nat}:∀{k:Nat}{c:Cd},BI Γ Ss r lo k=some c->c->∀ m,lo<=m->m<k->∃ c',Lp Γ Ss r m=some c'/\c'
 | 0,_,_,_,m,_,h=>by omega
 | k + 1, c, e, hc, m, hlo, hm => by
   simp only[BI] at e;split at e
   . rename_i c1 h1;cases hb:adf k lo with
     | true =>
       rw[hb] at e;have hkl:k<lo:=by simpa[adh] using hb
       omega
     | false =>
       rw[hb] at e;simp only[cond_false] at e;split at e;rename_i c2 h2;cases e;by_cases hmk:m=k;subst hmk;exact⟨c2,h2,hc.2⟩;exact Ai h1 hc.1 m hlo (by omega);cases e
   cases e
theorem Aj{Γ:bW}{ops:Array Oper}{Ss:List ak}:∀{af:List oy}{k:Nat}{c:Cd},BJ Γ ops Ss af k=some c->c->∀ i r,af[i]? = some r->∃ c',Lq Γ ops Ss r (k+i)=some c'/\c'
 | [],_,_,_,_,i,r,h=>by simp at h
 | r0::l,k,c,e,hc,i,r,h=>by
   simp only[BJ] at e;split at e
   . rename_i c1 c2 h1 h2;cases e;cases i with
     | zero=>simp at h;subst h;exact⟨c1,h1,hc.1⟩
     | succ i =>
       obtain⟨c',a,b⟩:=Aj h2 hc.2 i r (by simpa using h);exact⟨c',by rw[<-a];congr 1;omega,b⟩
   cases e
theorem CF{P : Program}{nt : Nat}{Γ : bW}{ops : Array Oper} : ∀{l : List Oper}{xs : List kG}{F F' : Fr}{S S' : ak}{c : Cd}{af : List oy}{Ss : List ak}, j7 P false nt ops l = some xs → Ah Γ ops l xs F S = some (c, af, Ss, F', S') → c →
 ∃(kQ:Nat->Fr)(Hh:Nat->ak),kQ 0=F/\Hh 0=S/\kQ l.length=F'/\Hh l.length=S'/\af.length=l.length/\(∀ j,j<=l.length->(S::Ss)[aC.lc l j]? = some (Hh j))/\
  (∀ j o,l[j]? = some o->∃ r c',af[j]? = some r/\qq P false nt ops o=some r.x/\r.loud=cY o.op/\r.fr=nW (kQ j) (slotsOf ops o)/\ox Γ r.fr (Hh j) r.x=some (c',r.v,Hh (j+1))/\c'/\kQ (j+1)=lV (kQ j) o.dst r.v)
 | [],xs,F,F',S,S',c,af,Ss,ht,e,hc=>by
   simp only[j7] at ht;cases ht;simp only[Ah] at e;cases e;exact⟨fun _=>F,fun _=>S,rfl,rfl,rfl,rfl,rfl,fun j hj=>by simp at hj;subst hj;rfl,fun j o hj=>by simp at hj⟩
 | o :: l, xs, F, F', S, S', c, af, Ss, ht, e, hc => by
   simp only[j7] at ht;split at ht;rename_i x xs' hx hxs;cases ht;simp only[Ah] at e;split at e;rename_i c1 v S1 VJ;split at e;rename_i c2 rows1 Ss1 F2 S2 hgo;cases e;obtain⟨kQ,Hh,f0,g0,f1,g1,bN,hidx,hrow⟩:=CF hxs hgo hc.2;have jE:=(iY hx).1;refine⟨fun j=>match j with|0=>F|j+1=>kQ j,fun j=>match j with|0=>S|j+1=>Hh j,rfl,rfl,f1,g1,by simp[bN],?_,?_⟩
   . intro j hj;cases j with
     | zero=>rfl
     | succ j =>
       rw[aC.lc_cons];have lM:=hidx j (by simpa using hj);by_cases hl:cY o.op=true;rw[if_pos hl,hl];simp only[cond_true];rw[Nat.add_comm 1,ac0];exact lM;have hl':cY o.op=false:=by simpa using hl
       rw[if_neg hl,hl'];simp only[cond_false,ady];have:=qu hx hl' VJ;subst this;exact lM
   . intro j o' hj;cases j with
     | zero =>
       simp only[ac6,Option.some.injEq] at hj;subst hj;exact⟨_,c1,rfl,hx,rfl,rfl,by simp only;rw[g0];exact VJ,hc.1,by simp only;rw[f0,jE]⟩
     | succ j =>
       simp only[ac0] at hj ⊢;exact hrow j o' hj
   cases e;cases e;cases ht
def ot(F:Fr)(ops:Array Oper)(V:Nat->A)(D:Nat->Bool)(s:Nat):Nat->Option A
 | 0=>F.get s
 | k+1=>if D k=true/\kY ops k=some s then some (V k) else ot F ops V D s k
theorem lA{F:Fr}{ops:Array Oper}{V:Nat->A}{D D':Nat->Bool}{s:Nat}:∀(k:Nat),(∀ j,j<k->kY ops j=some s->D j=D' j)->ot F ops V D s k=ot F ops V D' s k
 | 0,_=>rfl
 | k+1,h=>by
   simp only[ot];rw[lA k (fun j hj hd=>h j (by omega) hd)];by_cases hd:kY ops k=some s;rw[h k (by omega) hd];rw[if_neg (fun hh=>hd hh.2),if_neg (fun hh=>hd hh.2)]
theorem Ds{F:Fr}{ops:Array Oper}{V:Nat->A}{D:Nat->Bool}{s i:Nat}(hD:D i=true)(hd:kY ops i=some s):∀(k:Nat),i<k->(∀ j,i<j->j<k->kY ops j=some s->D j=false)->ot F ops V D s k=some (V i)
 | 0,h,_=>by omega
 | k + 1, h, hk => by
   simp only[ot];by_cases hik:i=k;subst hik;rw[if_pos ⟨hD,hd⟩];rw[if_neg];exact Ds hD hd k (by omega) (fun j hj hj2=>hk j hj (by omega));rintro⟨h1,h2⟩;rw[hk k (by omega) (by omega) h2] at h1;cases h1
theorem Ls{F:Fr}{dst:Option Nat}{v:A}{s:Nat}:(lV F dst v).get s=if dst=some s then some v else F.get s:=by
 cases dst with
 | none=>simp[lV]
 | some d =>
   show (T.set F d v).get s=_;rw[T.pJ];by_cases h:s=d;subst h;simp;rw[if_neg h,if_neg (by simp;exact fun hh=>h hh.symm)]
theorem R5{ops:Array Oper}{F:Fr}{V:Nat->A}{kQ:Nat->Fr}(h0:kQ 0=F)(hput:∀(j:Nat) o,ops[j]? = some o->kQ (j+1)=lV (kQ j) o.dst (V j)) :
 ∀ k,k<=ops.size->∀ s,(kQ k).get s=ot F ops V (fun j=>decide (j<k)) s ops.size:=by
 have key:∀ k,k<=ops.size->∀ s,(kQ k).get s=ot F ops V (fun _=>true) s k:=by
  intro k
  induction k with
  | zero=>intro _ s;rw[h0];rfl
  | succ k ih =>
    intro hk s;have ho:ops[k]? = some ops[k]:=acQ (by omega);rw[hput k _ ho,Ls,ih (by omega) s];simp only[ot,true_and];have hd:kY ops k=(ops[k]).dst:=by unfold kY;rw[ho];rfl
    rw[hd]
 intro k hk s;rw[key k hk s];have h3 : ∀ m, k ≤ m → ot F ops V (fun j => decide (j < k)) s m = ot F ops V (fun _ => true) s k := by
  intro m hm
  induction m with
  | zero => have : k = 0 := by omega
            subst this;rfl
  | succ m ih =>
    by_cases hkm:k=m+1;subst hkm;exact lA _ (fun j hj _=>by simp[hj]);simp only[ot];have:¬(m<k):=by omega
    simp only[this,decide_false,Bool.false_eq_true,false_and,if_false];exact ih (by omega)
 rw[h3 _ hk]
def Lu(η:Eta)(Z:aF)(n:Nat)(g:Nat->Option A)(tmps:Array Value):Prop:=tmps.size=n/\∀ s x,g s=some x->∃ v,tmps[s]? = some v/\cN η Z x v
theorem Lu.mono{η aI:Eta}{Z Z':aF}(h:η.le aI)(hz:Z.le Z'){n:Nat}{g:Nat->Option A}{tmps:Array Value}(r:Lu η Z n g tmps):Lu aI Z' n g tmps :=
 ⟨r.1,fun s x e=>let ⟨v,a,b⟩:=r.2 s x e;⟨v,a,cN.mono h hz b⟩⟩
theorem bX.drawn{base:Nat}{η:Eta}{Z:aF}{S:ak}{w:World}(R:St base η Z S w)(n:Nat):bX base η Z S w η Z S { w with drawn:=n } :=
 ⟨Eta.le.refl _,⟨fun n o p h hp=>let ⟨a,b,L⟩:=R.au n o p h hp;⟨a,b,L.mono (Eta.le.refl _) (aF.le.refl _) fun _ _=>rfl⟩,R.cJ,R.known,R.jB,R.zs,R.fresh,R.gO,R.sat⟩,⟨rfl,rfl,rfl,acU _,fun _ _ _=>rfl,fun _ h=>.inl h,aF.le.refl _,fun _ _ h=>.inl h,rfl⟩⟩
section
variable {P:Program} {base nt:Nat}
theorem VK{Γ : bW}(dV : bt P Γ){id : Nat}{ops : Array Oper}{xs : List kG}{F : Fr}{S : ak}{η : Eta}{Z : aF}{w : World}{a : Act}{k : Fr → ak → Prop}(ht : j7 P false nt ops ops.toList = some xs)(h : Lr Γ ops xs F S k)
 {Fc:Fence} (hF:WF Fc) (hT:jf P Z) (R:St base η Z S w) (F':bD nt η Z F a.tmps) {Q:Exit->Act->World->Prop}
 (hQ:∀ F' S' aI Z' a' w',k F' S'->bX base η Z S w aI Z' S' w'->bD nt aI Z' F' a'.tmps->a'.defers=a.defers->Q .normal a' w'):(Code.region id ops true).wpIn Fc 0 P Q a w:=by
 unfold Lr at h;split at h;rename_i hok;have hp:=aC.OI hok;split at h;rename_i c af Ss F1 S1 hgo;split at h;rename_i c' ZA;obtain⟨⟨hc,hc'⟩,hk⟩:=iN h;obtain⟨kQ,Hh,f0,g0,f1,g1,bN,hidx,hrow⟩:=CF ht hgo hc;have hN:ops.toList.length=ops.size:=by simp
 rw[hN] at f1 g1 bN;let V:Nat->A:=fun j=>match af[j]? with|some r=>r.v|none=>.aL []
 have hV:∀ j r,af[j]? = some r->V j=r.v:=fun j r hr=>by simp only[V,hr]
 have hrow':∀(j:Nat)(o:Oper),ops[j]? = some o->∃ r c',af[j]? = some r/\qq P false nt ops o=some r.x/\r.loud=cY o.op/\r.fr=nW (kQ j) (slotsOf ops o)/\ox Γ r.fr (Hh j) r.x=some (c',V j,Hh (j+1))/\Cd.holds c'/\kQ (j+1)=lV (kQ j) o.dst (V j):=by
  intro j o ho;obtain⟨r,c',hr,a,b,c,d,e,f⟩:=hrow j o (by simpa using ho);rw[<-hV j r hr] at d f;exact⟨r,c',hr,a,b,c,d,e,f⟩
 have htext:=R5 (V:=V) f0 (fun j o ho=>by obtain⟨r,c',_,_,_,_,_,_,f⟩:=hrow' j o ho;exact f);have hHh:∀ j,j<=ops.size->(S::Ss)[dM ops (fun i=>decide (i<j)) ops.size]? = some (Hh j):=by
  intro j hj;rw[<-aC.lc_cntN hj];exact hidx j (by rw[hN];exact hj)
 refine wpIn_region_draw fun t=>?_;have hval:=aC.qP hp.toDrawQ (P.follows .mixedOrders) t;generalize Region.schedule (P.follows .mixedOrders) ops t=σ at hval
 have main:∀(σ:List Nat)(D:Nat->Bool),Closed ops D->Valid ops D σ->∀(fR:Eta)(Z1:aF)(a1:Act)(w1:World)(SD:ak),(S::Ss)[dM ops D ops.size]? = some SD->bX base η Z S w fR Z1 SD w1->Lu fR Z1 nt (fun s=>ot F ops V D s ops.size) a1.tmps->a1.defers=a.defers->
  wpOpsIn Fc 0 P ops Q σ a1 w1:=by
  intro σ
  induction σ with
  | nil =>
    intro D cK hv fR Z1 a1 w1 SD hSD mv G1 hd;have hall:∀ i,i<ops.size->D i=true:=hv;have sN:dM ops D ops.size=dM ops (fun i=>decide (i<ops.size)) ops.size:=aC.mC _ (fun j hj _=>by rw[hall j hj];simp[hj]);rw[sN,hHh _ (acU _)] at hSD;cases hSD;rw[g1] at mv;refine hQ F1 S1 fR Z1 a1 w1 hk mv ⟨G1.1,fun s x hx=>?_⟩ hd;rw[<-f1,htext ops.size (acU _) s] at hx;refine G1.2 s x ?_;rw[<-hx];exact lA _ (fun j hj _=>by rw[hall j hj];simp[hj])
  | cons i aU ihr =>
    intro D cK hv fR Z1 a1 w1 SD hSD mv G1 hd;obtain⟨jj,hv⟩:=hv;obtain⟨qf,o,ho,hpre⟩:=jj;have jj:Ready ops D i:=⟨qf,o,ho,hpre⟩;have hilt:i<ops.size:=by
     rcases ac2 i ops.size with hh|hh;exact hh;rw[acV hh] at ho;cases ho
    obtain⟨r,c1,hr,hro,hrl,hrf,hone,hc1,hput⟩:=hrow' i o ho;have si:dR ops i=cY o.op:=by unfold dR;rw[ho]
    have CG : bD nt fR Z1 r.fr a1.tmps := by
     refine⟨G1.1,fun s x hx=>?_⟩;rw[hrf] at hx;obtain⟨hs',hx'⟩:=Ag hx;refine G1.2 s x ?_;rw[<-hx',htext i (by omega) s];refine lA _ (fun j hj jE=>?_);have hoj:ops[j]? = some ops[j]:=acQ hj;have nC:(ops[j]).dst=some s:=by unfold kY at jE;rw[hoj] at jE;exact jE
     by_cases hji:j=i;subst hji;rw[qf];simp;obtain⟨h1,h2⟩:=hp.rw_ i j o _ s ho hoj hs' nC (fun hh=>hji hh.symm);rcases ac2 j i with hlt|hge;have:=aC.l8 hp.toDrawQ cK jj (h1 hlt);rw[this];simp[hlt];have hb:=h2 (by omega);cases oF:D j with
     | true=>have:=aC.jv hp.toDrawQ cK j i oF hj hb;rw[qf] at this;cases this
     | false=>simp;omega
    have Lv : ∃ c2, ox Γ r.fr SD r.x = some (c2, V i, if cY o.op = true then Hh (i + 1) else SD) ∧ Cd.holds c2 := by
     by_cases hl:cY o.op=true
     · rw[if_pos hl]
       have sN:dM ops D ops.size=dM ops (fun j=>decide (j<i)) ops.size:=by
        refine aC.mC _ (fun j hj Im=>?_);have hoj:ops[j]? = some ops[j]:=acQ hj;have Lw:cY (ops[j]).op=true:=by unfold dR at Im;rw[hoj] at Im;exact Im
        rcases adp j i with hlt|heq|hgt;have:=aC.l8 hp.toDrawQ cK jj (hp.ll j i _ o hlt hoj ho Lw hl);rw[this];simp[hlt];subst heq;rw[qf];simp;have hb:=hp.ll i j o _ hgt ho hoj hl Lw;cases oF:D j with
        | true=>have:=aC.jv hp.toDrawQ cK j i oF hj hb;rw[qf] at this;cases this
        | false=>simp;omega
       rw[sN,hHh i (by omega)] at hSD;cases hSD;exact⟨c1,hone,hc1⟩
     have hl':cY o.op=false:=by simpa using hl
     rw[if_neg hl];have hq:=qu hro hl' hone;cases hrd:ud r.x.o with
     | false =>
       obtain⟨S2,h2,h3⟩:=yj (S2:=SD) hrd hone;rw[h3] at h2;exact⟨c1,h2,hc1⟩
     | true =>
       have hbd:∀(D':Nat->Bool),Closed ops D'->Ready ops D' i->(dO ops i).1<=dM ops D' ops.size/\dM ops D' ops.size<=(dO ops i).2:=by
        intro D' hc' hr';rw[aC.wG];refine⟨aC.rY _ (fun j hj _ hb=>aC.l8 hp.toDrawQ hc' hr' hb),aC.rY _ (fun j hj _ oF=>?_)⟩;have hji:j≠i:=fun hh=>by subst hh;rw[hr'.1] at oF;cases oF
        have hne:acR i j=false:=by
         cases hh:acR i j with
         | false=>rfl
         | true=>exact absurd (by simpa[acW] using hh:i=j).symm hji
        rw[hne];cases hb:bit ((eW ops.toList []).getD j 0) i with
        | false=>rfl
        | true=>have:=aC.jv hp.toDrawQ hc' j i oF hj hb;rw[hr'.1] at this;cases this
       obtain⟨b1,b2⟩:=hbd D cK jj;have hct:Closed ops (fun j=>decide (j<i)):=by
        intro j o' hj ho' e' he' ZB;have:=hp.eF j o' ho' e' he' ZB;simp at hj ⊢;omega
       have hrt:Ready ops (fun j=>decide (j<i)) i:=⟨by simp,o,ho,fun e' he' ZB=>by have:=hp.eF i o ho e' he' ZB;simp;exact this⟩;obtain⟨d1,d2⟩:=hbd _ hct hrt;obtain⟨cR,wX,ZC⟩:=Aj ZA hc' i r hr;rw[ady] at wX;unfold Lq at wX;rw[hrl,hl',hrd] at wX;simp only[adw,adx,cond_false] at wX;by_cases heq:(dO ops i).1=(dO ops i).2;have sN:dM ops D ops.size=dM ops (fun j=>decide (j<i)) ops.size:=by omega
       rw[sN,hHh i (by omega)] at hSD;cases hSD;rw[hq] at hone;exact⟨c1,hone,hc1⟩;have hbe:acR (dO ops i).1 (dO ops i).2=false:=by
        cases hh:acR (dO ops i).1 (dO ops i).2 with
        | false=>rfl
        | true=>exact absurd (by simpa[acW] using hh) heq
       rw[hbe] at wX;simp only[cond_false] at wX;obtain⟨cm,hm,VL⟩:=Ai wX ZC (dM ops D ops.size) b1 (by omega);unfold Lp at hm;rw[hSD] at hm;simp only at hm;split at hm;rename_i c3 v3 S3 VN;cases hm;have hv3:v3=r.v:=VL.2;subst hv3;have:=qu hro hl' VN;subst this;rw[hV i r hr];exact⟨c3,VN,VL.1⟩;cases hm
    obtain⟨c2,Lv,hc2⟩:=Lv;simp only[wpOpsIn,ho];refine Gs dV (hT.mono mv.step.cZ) mv.st CG hro Lv hc2 hF ?_;intro u w2 js Z2 iE VA;have Dt:=jj.closed cK;have Kg:=aC.tU (ops:=ops) qf ops.size hilt;have hnextH : (S :: Ss)[dM ops (jS D i) ops.size]? = some (if cY o.op = true then Hh (i + 1) else SD) := by
     rw[Kg,si];by_cases hl:cY o.op=true;rw[if_pos hl,if_pos hl];have sN:dM ops D ops.size+1=dM ops (fun j=>decide (j<i+1)) ops.size:=by
      have h1:dM ops (jS D i) ops.size=dM ops (fun j=>decide (j<i+1)) ops.size:=by
       refine aC.mC _ (fun j hj Im=>?_);have hoj:ops[j]? = some ops[j]:=acQ hj;have Lw:cY (ops[j]).op=true:=by unfold dR at Im;rw[hoj] at Im;exact Im
       rcases adp j i with hlt|heq|hgt;have:=aC.l8 hp.toDrawQ cK jj (hp.ll j i _ o hlt hoj ho Lw hl);rw[aC.gM D (by omega),this];simp;omega;subst heq;rw[aC.pK];simp;have hb:=hp.ll i j o _ hgt ho hoj hl Lw;rw[aC.gM D (by omega)];cases oF:D j with
       | true=>have:=aC.jv hp.toDrawQ cK j i oF hj hb;rw[qf] at this;cases this
       | false=>simp;omega
      rw[<-h1,Kg,si,if_pos hl]
     rw[sN];exact hHh (i+1) (by omega);rw[if_neg hl,if_neg hl];exact hSD
    refine ihr (jS D i) Dt hv js Z2 _ w2 _ hnextH (mv.trans iE) ?_ (by rw[put_defers];exact hd);have Ak:=G1.mono iE.le iE.step.cZ;cases jE:o.dst with
    | none =>
      refine⟨Ak.1,fun s x hx=>Ak.2 s x ?_⟩;rw[<-hx];refine(lA _ (fun j hj nC=>?_)).symm;have:j≠i:=fun hh=>by subst hh;unfold kY at nC;rw[ho] at nC;simp only[Option.bind_some] at nC;rw[jE] at nC;cases nC
      exact aC.gM D this
    | some d =>
      have ZE:d<nt:=by
       have:=(iY hro).2.2.2;rw[jE] at this;simpa[Gr,adh] using this
      refine⟨by simp[Act.put,Ak.1],fun s x hx=>?_⟩;have ES:kY ops i=some d:=by unfold kY;rw[ho];exact jE
      by_cases VO:s=d;subst VO;have hl:=Ds (F:=F) (V:=V) (D:=jS D i) (aC.pK D i) ES ops.size hilt (fun j hij hj nC=>by
       have hoj:ops[j]? = some ops[j]:=acQ hj;have ZF:(ops[j]).dst=some s:=by unfold kY at nC;rw[hoj] at nC;exact nC
       have hb:=hp.ww i j o _ s hij ho hoj jE ZF;rw[aC.gM D (by omega)];cases oF:D j with
       | true=>have:=aC.jv hp.toDrawQ cK j i oF hj hb;rw[qf] at this;cases this
       | false=>rfl)
      simp only at hx;rw[hl] at hx;cases hx;exact⟨u,by simp only[Act.put];rw[ac3 (by rw[Ak.1];exact ZE)],VA⟩;have hx':ot F ops V D s ops.size=some x:=by
       rw[<-hx];refine(lA _ (fun j hj nC=>?_)).symm;have:j≠i:=fun hh=>by subst hh;rw[ES] at nC;cases nC;exact VO rfl
       exact aC.gM D this
      obtain⟨v,hv',hr'⟩:=Ak.2 s x hx';exact⟨v,by simp only[Act.put];rw[acS (by omega)];exact hv',hr'⟩
 have hc0:Closed ops (fun _=>false):=fun i o hi=>by cases hi
 have hcnt0:∀ k,dM ops (fun _=>false) k=0:=by
  intro k
  induction k with
  | zero=>rfl
  | succ k ihk=>simp[dM,ihk]
 have R6:∀ s k,ot F ops V (fun _=>false) s k=F.get s:=by
  intro s k
  induction k with
  | zero=>rfl
  | succ k ihk=>simp[ot,ihk]
 exact main σ (fun _=>false) hc0 hval η Z a { w with drawn:=w.drawn+1 } S (by rw[hcnt0];rfl) (bX.drawn R _) ⟨F'.1,fun s x hx=>F'.2 s x (by rw[<-R6 s ops.size];exact hx)⟩ rfl;exact h.elim;exact h.elim;exact h.elim
end
def iq(l:List Nat)(i:Nat):Bool:=l.any fun j=>acR j i
theorem uf{l:List Nat}{i:Nat}:iq l i=true↔i∈l:=by
 unfold iq;rw[List.any_eq_true];exact⟨fun⟨j,h,e⟩=>by rw[acW] at e;exact e▸h,fun h=>⟨i,h,by rw[acW]⟩⟩
def VP(ops:Array Oper)(acc:List Nat)(i:Nat):Bool:=!(iq acc i)&&(match ops[i]? with|some o=>o.after.toList.all fun e=>!(Region.binds .any e)||iq acc e.on|none=>false)
def Al(ops:Array Oper):List Nat->List Nat->Bool
 | acc,[]=>(acP ops.size).all (iq acc)
 | acc,i::l=>VP ops acc i&&Al ops (acc++[i]) l
theorem o7(acc:List Nat)(i:Nat):jS (iq acc) i=iq (acc++[i]):=by
 funext j;rw[Bool.eq_iff_iff,uf];unfold jS;rw[ads,uf,acW,List.mem_append,adn]
theorem Am{ops:Array Oper}:∀{l acc:List Nat},Al ops acc l=true->Valid ops (iq acc) l
 | [],acc,h=>fun i hi=>by
   simp only[Al,ac8] at h;exact h i (List.mem_range.2 hi)
 | i :: l, acc, h => by
   simp only[Al,VP,acT,Bool.not_eq_true'] at h;obtain⟨⟨h1,h2⟩,h3⟩:=h;refine⟨⟨h1,?_⟩,?_⟩;split at h2;rename_i o ho;refine⟨o,ho,fun e he hb=>?_⟩;rw[ac8] at h2;have:=h2 e (by simpa using he);rw[hb] at this;simpa using this;cases h2;rw[o7];exact Am h3
def iH(l:List Nat)(p:Nat):Nat->Bool:=iq (l.take p)
theorem v7{l:List Nat}{p i:Nat}(h:l[p]? = some i):iH l (p+1)=jS (iH l p) i:=by
 unfold iH;rw[o7,adq,h];rfl
theorem Du{ops:Array Oper}:∀{l acc:List Nat},Valid ops (iq acc) l->Closed ops (iq acc)->∀(p i:Nat),l[p]? = some i->Closed ops (iq (acc++l.take p))/\Ready ops (iq (acc++l.take p)) i
 | i::l,acc,h,hc,0,j,e=>by
   simp at e;subst e;simp only[List.take_zero,adt];exact⟨hc,h.1⟩
 | i::l,acc,h,hc,p+1,j,e=>by
   have h2:=h.2;rw[o7] at h2;have hc2:=h.1.closed hc;rw[o7] at hc2;have:=Du h2 hc2 p j (by simpa using e);simpa[adm] using this
theorem CH{ops:Array Oper}:∀{l acc:List Nat},Valid ops (iq acc) l->l.Nodup/\∀ i∈l,i ∉ acc
 | [],_,_=>⟨List.nodup_nil,by simp⟩
 | i :: l, acc, h => by
   have h2:=h.2;rw[o7] at h2;obtain⟨a,b⟩:=CH h2;refine⟨List.nodup_cons.2 ⟨fun hi=>b i hi (by simp),a⟩,fun j hj=>?_⟩;rcases List.mem_cons.1 hj with rfl|hj;intro hm;have:=h.1.1;rw[uf.2 hm] at this;cases this;exact fun hm=>b j hj (by simp[hm])
theorem Io{ops:Array Oper}:∀{l acc:List Nat},Valid ops (iq acc) l->∀ i,i<ops.size->i∈acc++l
 | [],acc,h,i,hi=>by simpa using uf.1 (h i hi)
 | j::l,acc,h,i,hi=>by
   have h2:=h.2;rw[o7] at h2;have:=Io h2 i hi;simpa using this
abbrev Ev:=Fr->ak->kG->Option (Cd×A×ak)
def Gt(E:Ev)(Ss:List ak)(r:oy)(m:Nat):Option Cd :=
 match Ss[m]? with
 | some S=>match E r.fr S r.x with|some (c,v,_)=>some (.and c (.p (v=r.v)))|none=>none
 | none=>none
def yp(E:Ev)(Ss:List ak)(r:oy)(lo:Nat):Nat->Option Cd
 | 0=>some .t
 | k+1=>match yp E Ss r lo k with
   | some c=>bif adf k lo then some c else match Gt E Ss r k with|some c'=>some (.and c c')|none=>none
   | none=>none
def Gu(E:Ev)(ops:Array Oper)(Ss:List ak)(r:oy)(i:Nat):Option Cd :=
 bif r.loud||!(ud r.x.o) then some .t else
  (let p:=dO ops i
   bif acR p.1 p.2 then some .t else yp E Ss r p.1 (p.2+1))
theorem zx{E:Ev}{Ss:List ak}{r:oy}{lo:Nat}:∀{k:Nat}{c:Cd},yp E Ss r lo k=some c->c->∀ m,lo<=m->m<k->∃ c',Gt E Ss r m=some c'/\c'
 | 0,_,_,_,m,_,h=>by omega
 | k + 1, c, e, hc, m, hlo, hm => by
   simp only[yp] at e;split at e
   . rename_i c1 h1;cases hb:adf k lo with
     | true =>
       rw[hb] at e;have hkl:k<lo:=by simpa[adh] using hb
       omega
     | false =>
       rw[hb] at e;simp only[cond_false] at e;split at e;rename_i c2 h2;cases e;by_cases hmk:m=k;subst hmk;exact⟨c2,h2,hc.2⟩;exact zx h1 hc.1 m hlo (by omega);cases e
   cases e
structure Quiet(P:Program)(nt:Nat)(ops:Array Oper)(E:Ev):Prop where
 quiet:∀{F S x c v S' o},qq P false nt ops o=some x->cY o.op=false->E F S x=some (c,v,S')->S'=S
 blind:∀{F S S2 x c v S'},ud x.o=false->E F S x=some (c,v,S')->∃ Ln,E F S2 x=some (c,v,Ln)/\Ln=S2
theorem one1_q{P:Program}{nt:Nat}{ops:Array Oper}(Γ:bW):Quiet P nt ops (ox Γ):=⟨fun ht hq e=>qu ht hq e,fun h e=>yj h e⟩
def wY(E:Ev)(ops:Array Oper)(xs:List kG):List Nat->Fr->ak->Option (Cd×List (Nat×oy)×List ak×Fr×ak)
 | i :: l, F, S => match ops[i]?, xs[i]? with
   | some o,some x=>match E (nW F (slotsOf ops o)) S x with
     | some (c,v,S')=>match wY E ops xs l (lV F x.dst v) S' with
       | some (c',af,Ss,F',zo)=>some (.and c c',(i,⟨x,nW F (slotsOf ops o),v,cY o.op⟩)::af,(bif cY o.op then S'::Ss else Ss),F',zo)
       | none=>none
     | none=>none
   | _,_=>none
 | [],F,S=>some (.t,[],[],F,S)
def BK(E:Ev)(ops:Array Oper)(Ss:List ak):List (Nat×oy)->Option Cd
 | []=>some .t
 | (i,r)::l=>match Gu E ops Ss r i,BK E ops Ss l with|some c,some c'=>some (.and c c')|_,_=>none
theorem Ao{E:Ev}{ops:Array Oper}{Ss:List ak}:∀{af:List (Nat×oy)}{c:Cd},BK E ops Ss af=some c->c->∀ i r,(i,r)∈af->∃ c',Gu E ops Ss r i=some c'/\c'
 | [],_,_,_,i,r,h=>by simp at h
 | (j,r0)::l,c,e,hc,i,r,h=>by
   simp only[BK] at e;split at e;rename_i c1 c2 h1 h2;cases e;rcases List.mem_cons.1 h with h|h;cases h;exact⟨c1,h1,hc.1⟩;exact Ao h2 hc.2 i r h;cases e
theorem Ip{P:Program}{sq:Bool}{nt:Nat}{ops:Array Oper}:∀{l:List Oper}{xs:List kG},j7 P sq nt ops l=some xs->∀(i:Nat) o,l[i]? = some o->∃ x,xs[i]? = some x/\qq P sq nt ops o=some x
 | [],_,_,i,o,h=>by simp at h
 | o0::l,xs,ht,i,o,h=>by
   simp only[j7] at ht;split at ht
   . rename_i x xs' hx hxs;cases ht;cases i with
     | zero=>simp at h;subst h;exact⟨x,rfl,hx⟩
     | succ i=>exact Ip hxs i o (by simpa using h)
   cases ht
theorem Ap{P : Program}{nt : Nat}{E : Ev}{ops : Array Oper}{xs : List kG}(ht : j7 P false nt ops ops.toList = some xs)(hq : Quiet P nt ops E) : ∀{l : List Nat}{F F' : Fr}{S S' : ak}{c : Cd}{af : List (Nat × oy)}{Ss : List ak}, l.Nodup → wY E ops xs l F S = some (c, af, Ss, F', S') → c →
 ∃(V:Nat->A)(kQ:Nat->Fr)(Hh:Nat->ak),kQ 0=F/\Hh 0=S/\kQ l.length=F'/\Hh l.length=S'/\(∀ p,p<=l.length->(S::Ss)[((l.take p).filter (dR ops)).length]? = some (Hh p))/\
  (∀ p i,l[p]? = some i->∃ o x c',ops[i]? = some o/\qq P false nt ops o=some x/\(i,⟨x,nW (kQ p) (slotsOf ops o),V i,cY o.op⟩)∈af/\E (nW (kQ p) (slotsOf ops o)) (Hh p) x=some (c',V i,Hh (p+1))/\Cd.holds c'/\kQ (p+1)=lV (kQ p) o.dst (V i))
 | [],F,F',S,S',c,af,Ss,_,e,_=>by
   simp only[wY] at e;cases e;exact⟨fun _=>.aL [],fun _=>F,fun _=>S,rfl,rfl,rfl,rfl,fun p hp=>by simp,fun p i h=>by simp at h⟩
 | i :: l, F, F', S, S', c, af, Ss, hnd, e, hc => by
   simp only[wY] at e;split at e;rename_i o x ho hx;obtain⟨x',hx',htr⟩:=Ip ht i o (by simpa using ho);rw[hx] at hx';cases hx';split at e;rename_i c1 v S1 VJ;split at e;rename_i c2 rows1 Ss1 F2 S2 hgo;cases e;obtain⟨hni,R4⟩:=List.nodup_cons.1 hnd;obtain⟨V,kQ,Hh,f0,g0,f1,g1,hidx,hrow⟩:=Ap ht hq R4 hgo hc.2;have jE:=(iY htr).1;have hla:dR ops i=cY o.op:=by unfold dR;rw[ho]
   refine⟨fun j=>if j=i then v else V j,fun p=>match p with|0=>F|p+1=>kQ p,fun p=>match p with|0=>S|p+1=>Hh p,rfl,rfl,f1,g1,?_,?_⟩
   . intro p hp;cases p with
     | zero=>rfl
     | succ p =>
       have lM:=hidx p (by simpa using hp);rw[adm];by_cases hl:cY o.op=true;rw[ac1 (by rw[hla];exact hl),hl];simp only[cond_true,List.length_cons,ac0];exact lM;have hl':cY o.op=false:=by simpa using hl
       rw[ac7 (by rw[hla];exact hl),hl'];simp only[cond_false];have:=hq.quiet htr hl' VJ;subst this;exact lM
   . intro p j hj;cases p with
     | zero =>
       simp only[ac6,Option.some.injEq] at hj;subst hj;refine⟨o,x,c1,ho,htr,?_,?_,hc.1,?_⟩;simp;simp only[↓reduceIte];rw[g0];exact VJ;simp only[↓reduceIte];rw[f0,jE]
     | succ p =>
       simp only[ac0] at hj;have hji:j≠i:=fun hh=>hni (hh▸adi hj);obtain⟨o',x',c',a,b,cc,d,e',f⟩:=hrow p j hj;refine⟨o',x',c',a,b,?_,?_,e',?_⟩;simp only[hji,↓reduceIte];exact acY _ cc;simp only[hji,↓reduceIte];exact d;simp only[hji,↓reduceIte];exact f
   cases e;cases e;cases e
theorem Lx{F:Fr}{ops:Array Oper}(hp:DrawQ ops){V:Nat->A}{D:Nat->Bool}(cK:Closed ops D){i:Nat}(hr:Ready ops D i){o:Oper}(ho:ops[i]? = some o)(s:Nat) :
 ot F ops V (jS D i) s ops.size=if o.dst=some s then some (V i) else ot F ops V D s ops.size:=by
 have hilt:i<ops.size:=by
  rcases ac2 i ops.size with hh|hh;exact hh;rw[acV hh] at ho;cases ho
 have ES:kY ops i=o.dst:=by unfold kY;rw[ho];rfl
 by_cases hd:o.dst=some s
 . rw[if_pos hd];refine Ds (aC.pK D i) (ES.trans hd) ops.size hilt (fun j hij hj nC=>?_);have hoj:ops[j]? = some ops[j]:=acQ hj;have ZF:(ops[j]).dst=some s:=by unfold kY at nC;rw[hoj] at nC;exact nC
   have hb:=hp.ww i j o _ s hij ho hoj hd ZF;rw[aC.gM D (by omega)];cases oF:D j with
   | true=>have:=aC.jv hp cK j i oF hj hb;rw[hr.1] at this;cases this
   | false=>rfl
 rw[if_neg hd];refine lA _ (fun j hj nC=>?_);have:j≠i:=fun hh=>by subst hh;rw[ES] at nC;exact hd nC
 exact aC.gM D this
theorem Dv{ops:Array Oper}{l:List Nat}(hv:Valid ops (iq []) l)(hlt:∀ i∈l,i<ops.size):∀ p,p<=l.length->dM ops (iH l p) ops.size=((l.take p).filter (dR ops)).length
 | 0, _ => by
   have:∀ k,dM ops (iH l 0) k=0:=by
    intro k
    induction k with
    | zero=>rfl
    | succ k ihk =>
      have h0:iH l 0 k=false:=by simp[iH,iq]
      simp[dM,ihk,h0]
   rw[this];rfl
 | p+1,hp=>by
   have hi:l[p]? = some l[p]:=acZ (by omega);have hc0:Closed ops (iq []):=fun i o hi=>by simp[iq] at hi
   obtain⟨_,hr⟩:=Du hv hc0 p _ hi;rw[ac9] at hr;rw[v7 hi,aC.tU (D:=iH l p) hr.1 ops.size (hlt _ (List.getElem_mem _)),Dv hv hlt p (by omega),adq,hi,ado,List.length_append];congr 1;by_cases hl:dR ops l[p]=true;rw[if_pos hl];simp[hl];rw[if_neg hl];simp[hl]
def addPre(bf:List Nat)(n:Nat)(acc:List Nat)(i:Nat):List Nat:=acc++((acP n).filter fun j=>bit (bf.getD i 0) j&&!(iq acc j))++[i]
def yq(bf:List Nat)(n:Nat)(ls:List Nat):List Nat:=let a:=ls.foldl (addPre bf n) [];a++(acP n).filter fun j=>!(iq a j)
def eqN:List Nat->List Nat->Bool
 | [],[]=>true
 | a::l,b::m=>acR a b&&eqN l m
 | _,_=>false
theorem VQ:∀{l m:List Nat},eqN l m=true->l=m
 | [],[],_=>rfl
 | a::l,b::m,h=>by
   simp only[eqN,acT,acW] at h;rw[h.1,VQ h.2]
 | [],_::_,h=>by cases h
 | _::_,[],h=>by cases h
def BL(E:Ev)(ops:Array Oper)(xs:List kG)(F:Fr)(S:ak)(k:Fr->ak->Prop)(ls:List Nat):Prop :=
 match Al ops [] (yq (eW ops.toList []) ops.size ls)&&eqN ((yq (eW ops.toList []) ops.size ls).filter (dR ops)) ls with
 | true=>match wY E ops xs (yq (eW ops.toList []) ops.size ls) F S with
   | some (c,af,Ss,F',S')=>match BK E ops (S::Ss) af with
     | some c'=>ij (Cd.and c c').list (k F' S')
     | none=>False
   | none=>False
 | false=>False
def R7(p:Nat->Prop):List Nat->Prop
 | []=>True
 | i::l=>match l with | []=>p i|l=>p i/\R7 p l
theorem Iq{p:Nat->Prop}:∀{l:List Nat},R7 p l->∀ i∈l,p i
 | [],_,i,h=>by simp at h
 | [j],h,i,hi=>by simp at hi;subst hi;exact h
 | j::j2::l,h,i,hi=>by
   rcases List.mem_cons.1 hi with rfl|hi;exact h.1;exact Iq h.2 i hi
def VR(bf BM dl:List Nat)(i:Nat):Bool:=!(iq dl i)&&BM.all fun j=>!(bit (bf.getD i 0) j)||iq dl j
def BN(bf BM:List Nat)(p:List Nat->Prop):Nat->List Nat->Prop
 | 0,_=>False
 | n+1,dl=>match BM.all (iq dl) with
   | true=>p dl
   | false=>R7 (fun i=>BN bf BM p n (dl++[i])) (BM.filter (VR bf BM dl))
def qW(ops:Array Oper):List Nat:=(acP ops.size).filter (dR ops)
theorem yt{ops : Array Oper}(hp : DrawQ ops){p : List Nat → Prop} : ∀{σ : List Nat}{n : Nat}{dl : List Nat}{D : Nat → Bool}, BN (eW ops.toList []) (qW ops) p n dl → Closed ops D → Valid ops D σ → (∀ j ∈ qW ops, iq dl j = D j) → p (dl ++ σ.filter (dR ops))
 | [],n,dl,D,h,hc,hv,hd=>by
   cases n with
   | zero=>exact h.elim
   | succ n =>
     have:(qW ops).all (iq dl)=true:=by
      rw[ac8];intro j hj;rw[hd j hj];exact hv j (List.mem_range.1 (List.mem_filter.1 hj).1)
     simp only[BN,this] at h;simpa using h
 | i :: σ, n, dl, D, h, hc, hv, hd => by
   obtain⟨hr,hv⟩:=hv;have hilt:i<ops.size:=by
    obtain⟨_,o,ho,_⟩:=hr;rcases ac2 i ops.size with hh|hh;exact hh;rw[acV hh] at ho;cases ho
   by_cases hl:dR ops i=true
   · rw[ac1 hl]
     have hi:i∈qW ops:=List.mem_filter.2 ⟨List.mem_range.2 hilt,hl⟩;have hdi:iq dl i=false:=(hd i hi).trans hr.1;cases n with
     | zero=>exact h.elim
     | succ n =>
       have hall:(qW ops).all (iq dl)=false:=by
        rw[List.all_eq_false];exact⟨i,hi,by rw[hdi];simp⟩
       simp only[BN,hall] at h;have:=Iq h i (List.mem_filter.2 ⟨hi,by
        unfold VR;rw[hdi,Bool.not_false,Bool.true_and,ac8];intro j hj;cases hb:bit ((eW ops.toList []).getD i 0) j with
        | false=>rfl
        | true =>
          rw[hd j hj];simpa using aC.l8 hp hc hr hb⟩)
       have:=yt hp this (hr.closed hc) hv (fun j hj=>by
        rw[<-o7];unfold jS;rw[hd j hj])
       simpa using this
   rw[ac7 hl];refine yt hp h (hr.closed hc) hv (fun j hj=>?_);rw[aC.gM D (fun hh=>hl (by have:=(List.mem_filter.1 hj).2;rwa [hh] at this))];exact hd j hj
section
variable {P:Program} {nt:Nat}
theorem ET{E : Ev}{ops : Array Oper}(hp : DrawQ ops)(hqu : Quiet P nt ops E){xs : List kG}{F : Fr}{S : ak}{η : Eta}{Z : aF}{w : World}{a : Act}{k : Fr → ak → Prop}(ht : j7 P false nt ops ops.toList = some xs){σ : List Nat}(hval : Valid ops (fun _ => false) σ)(h : BL E ops xs F S k (σ.filter (dR ops)))
 {Fc:Fence} {I1:Eta->aF->ak->World->Prop} {Q:Exit->Act->World->Prop} (hI:I1 η Z S w) (F':bD nt η Z F a.tmps)
 (hstep:∀{fR Z1 SD w1}{a1:Act}{F1:Fr}{o x c v S'},I1 fR Z1 SD w1->bD nt fR Z1 F1 a1.tmps->qq P false nt ops o=some x->E F1 SD x=some (c,v,S')->Cd.holds c->∀{aU:Act->World->Prop},(∀ u w2 js Z2,fR.le js->Z1.le Z2->I1 js Z2 S' w2->cN js Z2 v u->aU (a1.put o.dst u) w2)->if Region.wanted o (yielded ops a1.tmps) then o.wpIn Fc 0 P a1 w1 aU Q else(∀ f,o.about P w1 a1.eval=some f->Fc.fn f)/\aU (a1.put o.dst undef) w1)
 (hQ:∀ F' S' aI Z' a' w',k F' S'->I1 aI Z' S' w'->bD nt aI Z' F' a'.tmps->a'.defers=a.defers->Q .normal a' w'):wpOpsIn Fc 0 P ops Q σ a w:=by
 unfold BL at h;generalize hq:yq (eW ops.toList []) ops.size (σ.filter (dR ops))=q at h;split at h;rename_i hok;simp only[acT] at hok;have VS:=Am hok.1;have hls:=VQ hok.2;split at h;rename_i c af Ss F1 S1 hgo;split at h
 . rename_i c' ZA;obtain⟨⟨hc,hc'⟩,hk⟩:=iN h;have hqnd:=(CH VS).1;obtain⟨V,kQ,Hh,f0,g0,f1,g1,hidx,hrow⟩:=Ap ht hqu hqnd hgo hc;have hqlt:∀ i∈q,i<ops.size:=by
    intro i hi;obtain⟨p,hpi⟩:=adj hi;obtain⟨o,_,_,ho,_⟩:=hrow p i hpi;rcases ac2 i ops.size with hh|hh;exact hh;rw[acV hh] at ho;cases ho
   have hqall:∀ i,i<ops.size->i∈q:=fun i hi=>by simpa using Io VS i hi
   have hc0:Closed ops (iq []):=fun i o hi=>by simp[iq] at hi
   have hat:∀ p i,q[p]? = some i->Closed ops (iH q p)/\Ready ops (iH q p) i:=fun p i hi=>by
    have:=Du VS hc0 p i hi
    rwa [ac9] at this
   have sN:∀ p,p<=q.length->(S::Ss)[dM ops (iH q p) ops.size]? = some (Hh p):=fun p hpl=>by
    rw[Dv VS hqlt p hpl];exact hidx p hpl
   have R6:∀ s m,ot F ops V (fun _=>false) s m=F.get s:=by
    intro s m
    induction m with
    | zero=>rfl
    | succ m ihk=>simp[ot,ihk]
   have htext:∀ p,p<=q.length->∀ s,(kQ p).get s=ot F ops V (iH q p) s ops.size:=by
    intro p
    induction p with
    | zero =>
      intro _ s;rw[f0];have:iH q 0=fun _=>false:=by funext j;simp[iH,iq]
      rw[this,R6]
    | succ p ih =>
      intro hpl s;have hi:q[p]? = some q[p]:=acZ (by omega);obtain⟨o,x,c1,ho,_,_,_,_,hput⟩:=hrow p _ hi;obtain⟨h1,h2⟩:=hat p _ hi;rw[hput,Ls,v7 hi,Lx hp h1 h2 ho s,ih (by omega) s]
   have main:∀(τ:List Nat)(D:Nat->Bool),Closed ops D->Valid ops D τ->τ.filter (dR ops)=(σ.filter (dR ops)).drop (dM ops D ops.size)->∀(fR:Eta)(Z1:aF)(a1:Act)(w1:World)(SD:ak),(S::Ss)[dM ops D ops.size]? = some SD->I1 fR Z1 SD w1->Lu fR Z1 nt (fun s=>ot F ops V D s ops.size) a1.tmps->a1.defers=a.defers->
    wpOpsIn Fc 0 P ops Q τ a1 w1:=by
    intro τ
    induction τ with
    | nil =>
      intro D cK hv _ fR Z1 a1 w1 SD hSD mv G1 hd;have hall:∀ i,i<ops.size->D i=iH q q.length i:=fun i hi=>by
       rw[hv i hi];unfold iH;rw[List.take_length,uf.2 (hqall i hi)]
      have hcn:dM ops D ops.size=dM ops (iH q q.length) ops.size:=aC.mC _ (fun j hj _=>hall j hj);rw[hcn,sN _ (acU _)] at hSD;cases hSD;rw[g1] at mv;refine hQ F1 S1 fR Z1 a1 w1 hk mv ⟨G1.1,fun s x hx=>?_⟩ hd;rw[<-f1,htext q.length (acU _) s] at hx;refine G1.2 s x ?_;rw[<-hx];exact lA _ (fun j hj _=>hall j hj)
    | cons i aU ihr =>
      intro D cK hv hlo fR Z1 a1 w1 SD hSD mv G1 hd;obtain⟨jj,hv⟩:=hv;obtain⟨qf,o,ho,hpre⟩:=jj;have jj:Ready ops D i:=⟨qf,o,ho,hpre⟩;have hilt:i<ops.size:=by
       rcases ac2 i ops.size with hh|hh;exact hh;rw[acV hh] at ho;cases ho
      obtain⟨p,hpi⟩:=adj (hqall i hilt);have hpl:p<q.length:=(List.getElem?_eq_some_iff.1 hpi).1;obtain⟨o',x,c1,ho',hro,hrin,hone,hc1,hput⟩:=hrow p i hpi;rw[ho] at ho';cases ho';obtain⟨ZG,PN⟩:=hat p i hpi;have si:dR ops i=cY o.op:=by unfold dR;rw[ho]
      have CG : bD nt fR Z1 (nW (kQ p) (slotsOf ops o)) a1.tmps := by
       refine⟨G1.1,fun s x hx=>?_⟩;obtain⟨hs',hx'⟩:=Ag hx;refine G1.2 s x ?_;rw[<-hx',htext p (by omega) s];refine lA _ (fun j hj jE=>?_);have hoj:ops[j]? = some ops[j]:=acQ hj;have nC:(ops[j]).dst=some s:=by unfold kY at jE;rw[hoj] at jE;exact jE
       by_cases hji:j=i;subst hji;rw[qf,PN.1];obtain⟨h1,h2⟩:=hp.rw_ i j o _ s ho hoj hs' nC (fun hh=>hji hh.symm);rcases ac2 j i with hlt|hge;rw[aC.l8 hp cK jj (h1 hlt),aC.l8 hp ZG PN (h1 hlt)];have hb:=h2 (by omega);have e1:D j=false:=by
        cases oF:D j with
        | true=>have:=aC.jv hp cK j i oF hj hb;rw[qf] at this;cases this
        | false=>rfl
       have e2:iH q p j=false:=by
        cases oF:iH q p j with
        | true=>have:=aC.jv hp ZG j i oF hj hb;rw[PN.1] at this;cases this
        | false=>rfl
       rw[e1,e2]
      -- the loud ones come in the same order
      have hcl2:cY o.op=true->dM ops D ops.size=dM ops (iH q p) ops.size/\aU.filter (dR ops)=(σ.filter (dR ops)).drop (dM ops D ops.size+1):=by
       intro hl;rw[ac1 (by rw[si];exact hl)] at hlo;have hm:(σ.filter (dR ops))[dM ops D ops.size]? = some i:=by
        have:=congrArg (fun l=>l[0]?) hlo;simp only[ac6,List.getElem?_drop,Nat.add_zero] at this;exact this.symm
       refine⟨?_,?_⟩;rw[Dv VS hqlt p (by omega)];rw[<-hls] at hm;have hsplit:q=q.take p++i::q.drop (p+1):=by
        have:=List.getElem?_eq_some_iff.1 hpi;rw[<-this.2,<-List.drop_eq_getElem_cons hpl,List.take_append_drop]
       have hfs:q.filter (dR ops)=(q.take p).filter (dR ops)++i::(q.drop (p+1)).filter (dR ops):=by
        conv=>lhs;rw[hsplit]
        rw[ado,ac1 (by rw[si];exact hl)]
       have hm2:(q.filter (dR ops))[((q.take p).filter (dR ops)).length]? = some i:=by
        rw[hfs,List.getElem?_append_right (acU _)];simp
       exact(adr (List.getElem?_eq_some_iff.1 hm).1 (hqnd.filter _)).1 (hm.trans hm2.symm);have:=congrArg (List.drop 1) hlo;simpa[List.drop_drop] using this
      have Lv : ∃ c2, E (nW (kQ p) (slotsOf ops o)) SD x = some (c2, V i, if cY o.op = true then Hh (p + 1) else SD) ∧ Cd.holds c2 := by
       by_cases hl:cY o.op=true;rw[if_pos hl];rw[(hcl2 hl).1,sN p (by omega)] at hSD;cases hSD;exact⟨c1,hone,hc1⟩
       · have hl' : cY o.op = false := by simpa using hl
         rw[if_neg hl];have hqt:=hqu.quiet hro hl' hone;cases hrd:ud x.o with
         | false =>
           obtain⟨S2,h2,h3⟩:=hqu.blind (S2:=SD) hrd hone;rw[h3] at h2;exact⟨c1,h2,hc1⟩
         | true =>
           have hbd:∀(D':Nat->Bool),Closed ops D'->Ready ops D' i->(dO ops i).1<=dM ops D' ops.size/\dM ops D' ops.size<=(dO ops i).2:=by
            intro D' hc' hr';rw[aC.wG];refine⟨aC.rY _ (fun j hj _ hb=>aC.l8 hp hc' hr' hb),aC.rY _ (fun j hj _ oF=>?_)⟩;have hji:j≠i:=fun hh=>by subst hh;rw[hr'.1] at oF;cases oF
            have hne:acR i j=false:=by
             cases hh:acR i j with
             | false=>rfl
             | true=>exact absurd (by simpa[acW] using hh:i=j).symm hji
            rw[hne];cases hb:bit ((eW ops.toList []).getD j 0) i with
            | false=>rfl
            | true=>have:=aC.jv hp hc' j i oF hj hb;rw[hr'.1] at this;cases this
           obtain⟨b1,b2⟩:=hbd D cK jj;obtain⟨d1,d2⟩:=hbd _ ZG PN;obtain⟨cR,wX,ZC⟩:=Ao ZA hc' i _ hrin;unfold Gu at wX;simp only[hl',hrd,adw,adx,cond_false] at wX;by_cases heq:(dO ops i).1=(dO ops i).2;have hcn:dM ops D ops.size=dM ops (iH q p) ops.size:=by omega
           rw[hcn,sN p (by omega)] at hSD;cases hSD;rw[hqt] at hone;exact⟨c1,hone,hc1⟩;have hbe:acR (dO ops i).1 (dO ops i).2=false:=by
            cases hh:acR (dO ops i).1 (dO ops i).2 with
            | false=>rfl
            | true=>exact absurd (by simpa[acW] using hh) heq
           rw[hbe] at wX;simp only[cond_false] at wX;obtain⟨cm,hm,VL⟩:=zx wX ZC (dM ops D ops.size) b1 (by omega);unfold Gt at hm;rw[hSD] at hm;simp only at hm;split at hm;rename_i c3 v3 S3 VN;cases hm;have hv3:v3=V i:=VL.2;subst hv3;have:=hqu.quiet hro hl' VN;subst this;exact⟨c3,VN,VL.1⟩;cases hm
      obtain⟨c2,Lv,hc2⟩:=Lv;simp only[wpOpsIn,ho];refine hstep mv CG hro Lv hc2 ?_;intro u w2 js Z2 hle2 hz2 iE VA;have Dt:=jj.closed cK;have Kg:=aC.tU (ops:=ops) qf ops.size hilt;have hnext:(S::Ss)[dM ops (jS D i) ops.size]? = some (if cY o.op=true then Hh (p+1) else SD)/\aU.filter (dR ops)=(σ.filter (dR ops)).drop (dM ops (jS D i) ops.size):=by
       rw[Kg,si];by_cases hl:cY o.op=true;obtain⟨e1,e2⟩:=hcl2 hl;rw[if_pos hl,if_pos hl];refine⟨?_,e2⟩;have h1:=sN (p+1) (by omega);rw[v7 hpi,aC.tU (ops:=ops) PN.1 ops.size hilt,si,if_pos hl,<-e1] at h1;exact h1;rw[if_neg hl,if_neg hl];refine⟨hSD,?_⟩;rw[ac7 (by rw[si];exact hl)] at hlo;exact hlo
      refine ihr (jS D i) Dt hv hnext.2 js Z2 _ w2 _ hnext.1 iE ?_ (by rw[put_defers];exact hd);have Ak:=G1.mono hle2 hz2;have ZE:∀ d,o.dst=some d->d<nt:=by
       intro d jE;have:=(iY hro).2.2.2;rw[jE] at this;simpa[Gr,adh] using this
      cases jE:o.dst with
      | none =>
        refine⟨Ak.1,fun s x hx=>Ak.2 s x ?_⟩;simp only at hx;rw[Lx hp cK jj ho s,jE,if_neg (by simp)] at hx;exact hx
      | some d =>
        refine⟨by simp[Act.put,Ak.1],fun s x hx=>?_⟩;simp only at hx;rw[Lx hp cK jj ho s,jE] at hx;by_cases VO:s=d;subst VO;rw[if_pos rfl] at hx;cases hx;exact⟨u,by simp only[Act.put];rw[ac3 (by rw[Ak.1];exact ZE _ jE)],VA⟩;rw[if_neg (by simp;exact fun hh=>VO hh.symm)] at hx;obtain⟨v,hv',hr'⟩:=Ak.2 s x hx;exact⟨v,by simp only[Act.put];rw[acS (by omega)];exact hv',hr'⟩
   have hcn0:∀ m,dM ops (fun _=>false) m=0:=by
    intro m
    induction m with
    | zero=>rfl
    | succ m ihk=>simp[dM,ihk]
   exact main σ (fun _=>false) (fun i o hi=>by cases hi) hval (by rw[hcn0];rfl) η Z a _ S (by rw[hcn0];rfl) hI ⟨F'.1,fun s x hx=>F'.2 s x (by rw[<-R6 s ops.size];exact hx)⟩ rfl
 exact h.elim;exact h.elim;exact h.elim
def R8(Γ:bW)(ops:Array Oper)(xs:List kG)(F:Fr)(S:ak)(k:Fr->ak->Prop):Prop :=
 match zG ops with
 | true=>Lr Γ ops xs F S k
 | false=>match tL ops with
   | true=>BN (eW ops.toList []) (qW ops) (BL (ox Γ) ops xs F S k) (ops.size+1) []
   | false=>False
theorem ZH{base:Nat}{Γ:bW}(dV:bt P Γ){id:Nat}{ops:Array Oper}{xs:List kG}{F:Fr}{S:ak}{η:Eta}{Z:aF}{w:World}{a:Act}{k:Fr->ak->Prop}(ht:j7 P false nt ops ops.toList=some xs)(h:R8 Γ ops xs F S k)
 {Fc:Fence} (hF:WF Fc) (hT:jf P Z) (R:St base η Z S w) (F':bD nt η Z F a.tmps) {Q:Exit->Act->World->Prop}
 (hQ:∀ F' S' aI Z' a' w',k F' S'->bX base η Z S w aI Z' S' w'->bD nt aI Z' F' a'.tmps->a'.defers=a.defers->Q .normal a' w'):(Code.region id ops true).wpIn Fc 0 P Q a w:=by
 unfold R8 at h;split at h;exact VK dV ht h hF hT R F' hQ;split at h;rename_i hok;have hp:=aC.tT hok;refine wpIn_region_draw fun t=>?_;have hval:=aC.qP hp (P.follows .mixedOrders) t;generalize Region.schedule (P.follows .mixedOrders) ops t=σ at hval;have:=yt hp h (fun i o hi=>by cases hi) hval (fun j _=>by simp[iq]);rw[ac9] at this;refine ET hp (one1_q Γ) ht hval this (I1:=bX base η Z S w) (bX.drawn R _) F' ?_ hQ;intro fR Z1 SD w1 a1 F1 o x c v S' mv sj hro he hc aU hr;refine Gs dV (hT.mono mv.step.cZ) mv.st sj hro he hc hF ?_;intro u w2 js Z2 iE hu;exact hr u w2 js Z2 iE.le iE.step.cZ (mv.trans iE) hu;exact h.elim
end
end Go.aW
namespace Go.aW
open Go.RowKit
open Go.aC (T WF)
theorem St.sub{base:Nat}{η:Eta}{Z:aF}{S:ak}{w:World}(R:St base η Z S w){rs:List Nat}{fP bY:List Ob}(hnd:rs.Nodup)(ga:iG S rs=some fP)(iK:iX (idxOf rs) fP=some bY) :
 St base (dH η rs) Z (.ofList bY) w/\∀ b,Own (dH η rs) (.ofList bY) b->Own η S b:=by
 obtain⟨hl1,kP⟩:=mE ga;obtain⟨hl2,lK⟩:=lq iK;have hidx:∀ n m,idxOf rs n=some m->∀ p,η n=some p->dH η rs m=some p:=by
  intro n m e p hp;unfold dH;rw[gH e];exact hp
 have hand:∀(i:Nat) o,bY[i]? = some o->∃ n oS,rs[i]? = some n/\S.get n=some oS/\oS.ren (idxOf rs)=some o:=by
  intro i o ho;obtain⟨oS,h1,h2⟩:=lK i o ho;have hi:i<rs.length:=by have:=(List.getElem?_eq_some_iff.1 h1).1;omega
  obtain⟨o',h3,h4⟩:=kP i rs[i] (acZ hi);have:oS=o':=Option.some.inj (h1.symm.trans h4);subst this;exact⟨rs[i],oS,acZ hi,h3,h2⟩
 refine⟨⟨?_,?_,?_,?_,R.zs,?_,R.gO,?_⟩,?_⟩;intro i o p ho hp;rw[ak.aT] at ho;obtain⟨n,oS,h1,h2,h3⟩:=hand i o ho;unfold dH at hp;rw[h1] at hp;obtain⟨a,b,L⟩:=R.au n oS p h2 hp;exact⟨a,b,L.ren hidx (.inr (aF.le.refl _)) h3⟩;intro i o ho hp;rw[ak.aT] at ho;obtain⟨n,oS,h1,h2,h3⟩:=hand i o ho;unfold dH at hp;rw[h1] at hp;have:=R.cJ n oS h2 hp;have h4:=(Ob.uY h3).2.1;rw[this] at h4;exact List.eq_nil_of_length_eq_zero h4;intro i o ho;rw[ak.aT] at ho;exact(List.getElem?_eq_some_iff.1 ho).1;intro i j o o' p p' b ho ho' hne hp hp';rw[ak.aT] at ho ho';obtain⟨n,oS,h1,h2,h3⟩:=hand i o ho;obtain⟨n',oS',h1',h2',h3'⟩:=hand j o' ho';unfold dH at hp hp';rw[h1] at hp;rw[h1'] at hp';refine R.jB n n' oS oS' p p' b h2 h2' ?_ hp hp';rintro rfl;exact hne ((adr (List.getElem?_eq_some_iff.1 h1).1 hnd).1 (h1.trans h1'.symm))
 . intro i hi;unfold dH;have:rs[i]? = none:=List.getElem?_eq_none (by have:(ak.ofList bY).next=bY.length:=rfl;omega);rw[this]
 intro i o p ho hp;rw[ak.aT] at ho;obtain⟨n,oS,h1,h2,h3⟩:=hand i o ho;unfold dH at hp;rw[h1] at hp;exact R.sat n oS p h2 hp;rintro b ⟨i,o,p,ho,hp,hb⟩;rw[ak.aT] at ho;obtain⟨n,oS,h1,h2,h3⟩:=hand i o ho;unfold dH at hp;rw[h1] at hp;exact⟨n,oS,p,h2,hp,hb⟩
structure gb(Z:aF)(M:Nat->Prop)(w:World)(Z':aF)(M':Nat->Prop)(w':World):Prop where
 os:w'.os=w.os
 tape:w'.tape=w.tape
 output:w'.output=w.output
 size:w.heap.size<=w'.heap.size
 block:∀ b,b<w.heap.size->¬M b->w'.heap[b]? = w.heap[b]?
 own:∀ b,M' b->M b∨w.heap.size<=b
 cZ:Z.le Z'
 gT:∀ b c,Z' b=some c->Z b=some c∨M b∨w.heap.size<=b
theorem Step.toM{η aI:Eta}{Z Z':aF}{S S':ak}{w w':World}(h:Step η Z S w aI Z' S' w'):gb Z (Own η S) w Z' (Own aI S') w' :=
 ⟨h.os,h.tape,h.output,h.size,h.block,h.own,h.cZ,h.gT⟩
theorem gb.refl(Z:aF)(M:Nat->Prop)(w:World):gb Z M w Z M w:=⟨rfl,rfl,rfl,acU _,fun _ _ _=>rfl,fun _ h=>.inl h,aF.le.refl _,fun _ _ h=>.inl h⟩
theorem gb.trans{Z Z1 Z2:aF}{M M1 M2:Nat->Prop}{w w1 w2:World}(h:gb Z M w Z1 M1 w1)(k:gb Z1 M1 w1 Z2 M2 w2):gb Z M w Z2 M2 w2 where
 os:=k.os.trans h.os
 tape:=k.tape.trans h.tape
 output:=k.output.trans h.output
 size:=ade h.size k.size
 block:=fun b hb ho=>(k.block b (Nat.lt_of_lt_of_le hb h.size) (fun ho'=>by
  rcases h.own b ho' with hh|hh;exact ho hh;omega)).trans (h.block b hb ho)
 own:=fun b ho=>by
  rcases k.own b ho with hh|hh;exact h.own b hh;exact .inr (ade h.size hh)
 cZ:=h.cZ.trans k.cZ
 gT:=fun b c hc=>by
  rcases k.gT b c hc with hh|hh|hh;exact h.gT b c hh;exact .inr (h.own b hh);exact .inr (.inr (ade h.size hh))
def yu(Z:aF)(w:World):Prop:=∀ b c,Z b=some c->∃ ty fz,w.heap[b]? = some (.cells c ty fz)
structure Ctx where
 base:Nat
 ay:Nat
 jt:Eta
 R:Option Gh->aF->(Nat->Prop)->World->Prop
 yx:∀ g Z M w Z' M' w',R g Z M w->gb Z M w Z' M' w'->yu Z' w'->R g Z' M' w'
def Ctx.fn(base ay:Nat)(jt:Eta)(Z0:aF)(M0:Nat->Prop)(w0:World):Ctx:={ base,ay,jt,R:=fun _ Z M w=>gb Z0 M0 w0 Z M w,yx:=fun _ _ _ _ _ _ _ h k _=>h.trans k }
def nX(P:Program)(C:Ctx):Prop:=∀ g Z M w,C.R g Z M w->jf P Z
structure Inv(C:Ctx)(η:Eta)(Z:aF)(S:ak)(w:World):Prop where
 st:St C.base η Z S w
 rel:C.R S.cJ Z (Own η S) w
 ay:∀ n p,n<C.ay->C.jt n=some p->η n=some p
theorem Inv.moves{C:Ctx}{η aI:Eta}{Z Z':aF}{S S':ak}{w w':World}(I:Inv C η Z S w)(m:bX C.base η Z S w aI Z' S' w'):Inv C aI Z' S' w' :=
 ⟨m.st,by rw[m.step.gh];exact C.yx _ _ _ _ _ _ _ I.rel m.step.toM m.st.zs,fun n p h h'=>m.le n p (I.ay n p h h')⟩
def ak.fF(g:Option Gh)(l:List Ob):ak:=match g with|none=>.ofList l|some g=>{ ak.ofList l with cJ:=some g }
theorem ak.zy(g:Option Gh)(l:List Ob):(ak.fF g l).cJ=g:=by cases g<;>rfl
theorem ak.OV(g:Option Gh)(l:List Ob)(n:Nat):(ak.fF g l).get n=(ak.ofList l).get n:=by cases g<;>rfl
theorem St.fF{base:Nat}{η:Eta}{Z:aF}{l:List Ob}{w:World}(R:St base η Z (.ofList l) w)(g:Option Gh):St base η Z (.fF g l) w:=by
 cases g with
 | none=>exact R
 | some g=>exact⟨R.au,R.cJ,R.known,R.jB,R.zs,R.fresh,R.gO,R.sat⟩
theorem oG{η:Eta}{g:Option Gh}{l:List Ob}{b:Nat}:Own η (.fF g l) b↔Own η (.ofList l) b:=by
 unfold Own;simp only[ak.OV]
theorem Inv.sub{C:Ctx}{η:Eta}{Z:aF}{S:ak}{w:World}(I:Inv C η Z S w){ns:List Nat}{fP bY:List Ob}(hnd:(acP C.ay++ns).Nodup)(ga:iG S (acP C.ay++ns)=some fP)(iK:iX (idxOf (acP C.ay++ns)) fP=some bY) :
 Inv C (dH η (acP C.ay++ns)) Z (.fF S.cJ bY) w:=by
 obtain⟨a,b⟩:=I.st.sub hnd ga iK;refine⟨a.fF _,?_,fun n p hn hp=>?_⟩;rw[ak.zy];exact C.yx _ _ _ _ _ _ _ I.rel ⟨rfl,rfl,rfl,acU _,fun _ _ _=>rfl,fun k hk=>.inl (b k (oG.1 hk)),aF.le.refl _,fun _ _ h=>.inl h⟩ I.st.zs;unfold dH;rw[ac4 (by simpa using hn),List.getElem?_range hn];exact I.ay n p hn hp
def A.names:A->List Nat
 | .p v=>v.names
 | .aL vs=>vs.flatMap V.names
 | _=>[]
def su(F:Fr):List Nat->List Nat->List Nat
 | [],acc=>acc
 | s::l,acc=>su F l (match F.get s with|some x=>x.names.foldl Lg acc|none=>acc)
def newNames(ay:Nat)(S:ak)(acc:List Nat):List Nat:=(wW S 2 (acP ay++acc.filter (fun n=>!(adf n ay)))).filter fun n=>!(adf n ay)&&EQ S n
def o8(g:Nat->Option Nat)(F:Fr):List Nat->Fr
 | []=>.leaf
 | s::l=>match F.get s with
   | some x=>match x.ren g with|some y=>T.set (o8 g F l) s y|none=>o8 g F l
   | none=>o8 g F l
def canon(ay:Nat)(aj:List Nat)(F:Fr)(S:ak):Option (Fr×ak) :=
 let rs:=acP ay++newNames ay S (su F aj [])
 bif r8 rs then match iG S rs with
  | some au=>match iX (idxOf rs) au with
    | some bg=>some (o8 (idxOf rs) F aj,.fF S.cJ bg)
    | none=>none
  | none=>none
 else none
theorem o9{g:Nat->Option Nat}{F:Fr}:∀{l:List Nat}{s:Nat}{y:A},(o8 g F l).get s=some y->∃ x,F.get s=some x/\x.ren g=some y
 | [],s,y,h=>by simp[o8,T.mA] at h
 | k :: l, s, y, h => by
   simp only[o8] at h;split at h;rename_i x hx;split at h;rename_i y' hy;rw[T.pJ] at h;by_cases hs:s=k;subst hs;rw[if_pos rfl] at h;cases h;exact⟨x,hx,hy⟩;rw[if_neg hs] at h;exact o9 h;exact o9 h;exact o9 h
theorem Dw{C:Ctx}{η:Eta}{Z:aF}{S S':ak}{w:World}{F F':Fr}{nt:Nat}{tmps:Array Value}{aj:List Nat}(I:Inv C η Z S w)(FR:bD nt η Z F tmps)(e:canon C.ay aj F S=some (F',S')):∃ aI,Inv C aI Z S' w/\bD nt aI Z F' tmps/\∀ b,Own aI S' b->Own η S b:=by
 unfold canon at e;simp only at e;generalize newNames C.ay S (su F aj [])=ns at e;obtain⟨hb,e⟩:=aC.aK e;split at e;rename_i au ga;split at e;rename_i bg iK;cases e;refine⟨_,I.sub (jD hb) ga iK,⟨FR.1,fun i y hy=>?_⟩,fun b hb'=>(I.st.sub (jD hb) ga iK).2 b (oG.1 hb')⟩;obtain⟨x,hx,hxy⟩:=o9 hy;obtain⟨v,hv,hr⟩:=FR.2 i x hx;refine⟨v,hv,A.kA ?_ (.inr (aF.le.refl _)) hxy hr⟩;intro n m en p hp;unfold dH;rw[gH en];exact hp;cases e;cases e
def sw(ay:Nat)(vs:List V)(S:ak):Option (List V×List Ob) :=
 let rs:=acP ay++newNames ay S ((vs.flatMap V.names).foldl Lg [])
 bif r8 rs then match iG S rs with
  | some au=>match iX (idxOf rs) au,uX (idxOf rs) vs with
    | some bg,some vs'=>some (vs',bg)
    | _,_=>none
  | none=>none
 else none
theorem VT{C:Ctx}{η:Eta}{Z:aF}{S:ak}{w:World}{vs vs':List V}{au:List Ob}{us:List Value}(I:Inv C η Z S w)(h:bp (dP η Z) vs us)(e:sw C.ay vs S=some (vs',au)):∃ aI,Inv C aI Z (.fF S.cJ au) w/\bp (dP aI Z) vs' us:=by
 unfold sw at e;simp only at e;generalize newNames C.ay S ((vs.flatMap V.names).foldl Lg [])=ns at e;obtain⟨hb,e⟩:=aC.aK e;split at e;rename_i bY ga;split at e;rename_i bg vs'' iK hvs;cases e;refine⟨_,I.sub (jD hb) ga iK,pQ ?_ (.inr (aF.le.refl _)) hvs h⟩;intro n m en p hp;unfold dH;rw[gH en];exact hp;cases e;cases e
def Calm(yl:Bool)(w w':World):Prop:=yl=false->∀(b:Nat)(o:Obj),w.heap[b]? = some o->qh o=false->w'.heap[b]? = some o
theorem Calm.refl(yl:Bool)(w:World):Calm yl w w:=fun _ _ _ h _=>h
theorem Calm.trans{yl:Bool}{a b c:World}(h:Calm yl a b)(k:Calm yl b c):Calm yl a c:=fun hy x o e n=>k hy x o (h hy x o e n) n
theorem bX.calm{base:Nat}{η aI:Eta}{Z Z':aF}{S S':ak}{w w':World}(R:St base η Z S w)(m:bX base η Z S w aI Z' S' w')(yl:Bool):Calm yl w w':=by
 intro _ b o e hn;rw[<-e];refine m.step.block b (dN e) ?_;rintro⟨n,x,p,h1,h2,hb⟩;obtain⟨_,_,c,hc,hd⟩:=R.all h1 h2 hb;rw[e] at hc;cases hc;rw[hn] at hd;cases hd
structure Gives(Z:aF)(M:Nat->Prop)(w:World)(Z':aF)(w':World):Prop where
 size:w.heap.size<=w'.heap.size
 block:∀ b,M b->w'.heap[b]? = w.heap[b]?
 cZ:Z.le Z'
 gT:∀ b c,Z' b=some c->Z b=some c∨¬M b
 zs:yu Z' w'
def Ly:(d:D)->d.ty->Option (Int×Int)
 | .sl (.int .i64),l=>match (show List Int from l) with
   | [a,b]=>some (a,b)
   | _=>none
 | _,_=>none
def Gv(two:Bool)(Z:aF)(d:D)(y:d.ty)(us:List Value):Prop :=
 match two with
 | false=>∃ u,us=[u]/\cW Z d y u
 | true=>∃ a b,Ly d y=some (a,b)/\us=[.int .i64 a,.int .i64 b]
def Hand(P:Program)(C:Ctx):Prop :=
 ∀(g:Gh) (y:g.d.ty) (ys:List g.d.ty) Z M w us,g.ys=y::ys->C.R (some g) Z M w->Gv g.two Z g.d y us->yu Z w->(∀ b c,Z b=some c->¬M b)->(∀ b,M b->b<w.heap.size)->
  ∃ fn tmps assign body,(do let d <-Deferred.ofValue (.func (.yield g.l) #[] #[]) us.toArray;invoke d.target d.args:Sem Next).run P w=.ok (.round g.l fn tmps assign body) w/\
   RoundIn Fence.wide 0 P g.l fn tmps assign body w fun e w'=>e=.returned (.bool true)/\∃ Z',Gives Z M w Z' w'/\C.R (some ⟨g.l,g.d,ys,g.two⟩) Z' M w'
def ug(yl:Bool)(F:Fr)(S:ak):O->Option (Cd×A×ak)
 | .call f [x]=>bif yl then match gk F f,S.cJ,gk F x with
  | some (p,.yield l),some g,some (q,y)=>match sS S g.d y with
    | some (c,y,S1)=>bif g.two then none else some (.and p (.and q (.and c (.p (l=g.l/\g.ys=y::g.ys.tail)))),.dec true,{ S1 with cJ:=some ⟨g.l,g.d,g.ys.tail,g.two⟩ })
    | none=>none
  | _,_,_=>none
   else none
 | .call f [x,y]=>bif yl then match gk F f,S.cJ,gk F x,gk F y with
  | some (p,.yield l),some g,some (q,.int .i64 a),some (r,.int .i64 b)=>bif g.two then some (.and p (.and q (.and r (.p (l=g.l/\g.ys.head?.bind (Ly g.d)=some (a,b))))),.dec true,{ S with cJ:=some ⟨g.l,g.d,g.ys.tail,g.two⟩ }) else none
  | _,_,_,_=>none
   else none
 | _=>none
theorem Lz{l:List Operand}(h:oZ l=some []):l=[]:=by
 cases l with
 | nil=>rfl
 | cons x r =>
   simp only[oZ] at h;split at h;split at h<;>cases h;cases h
theorem Aq{l:List Operand}{x:cj}{xs:List cj}(h:oZ l=some (x::xs)):∃ x' r,l=x'::r/\cw x'=some x/\oZ r=some xs:=by
 cases l with
 | nil=>simp[oZ] at h
 | cons x' r =>
   simp only[oZ] at h;split at h;rename_i y hy;split at h;rename_i r' hr';cases h;exact⟨x',r,rfl,hy,hr'⟩;cases h;cases h
theorem Ar{P:Program}{sq:Bool}{o:Oper}{f:cj}{xs:List cj}(ht:Ab P sq o=some (.call f xs)):∃ f' args ts,o.op=.call { callee:=.value f',args:=args,argTypes:=ts }/\cw f'=some f/\oZ args.toList=some xs:=by
 unfold Ab at ht;split at ht;rename_i f' args ts hop;split at ht;rename_i f1 l1 hf1 hl1;cases ht;exact⟨f',args,ts,hop,hf1,hl1⟩;cases ht;split at ht;rename_i k' hk';cases ht;obtain⟨_,_,hk'⟩:=BH hk';cases hk';cases sq with
 | true =>
   simp only[cond_true] at ht;split at ht;cases ht;split at ht<;>cases ht
 | false =>
   simp only[cond_false] at ht;split at ht;cases ht;obtain⟨_,ht⟩:=aC.aK ht;split at ht<;>cases ht
theorem EU{P:Program}{C:Ctx}{η:Eta}{Z Z1:aF}{S S1:ak}{w:World}{a:Act}(hh:Hand P C)(I:Inv C η Z S w){o:Oper}(mv:bX C.base η Z S w η Z1 S1 w){g:Gh}(hg:S.cJ=some g){y:g.d.ty}(hys:g.ys=y::g.ys.tail){us:List Value}(hy:Gv g.two Z1 g.d y us)
 (Ir:∀ c,o.op≠.defer c) (hx:(execOp a.eval o).run P w=(do let d <-Deferred.ofValue (.func (.yield g.l) #[] #[]) us.toArray;invoke d.target d.args:Sem Next).run P w)
 {Fc:Fence} (hF:WF Fc) {next:Act->World->Prop} {Q:Exit->Act->World->Prop} (hn:∀ w' Z',Z.le Z'->Inv C η Z' { S1 with cJ:=some ⟨g.l,g.d,g.ys.tail,g.two⟩ } w'->next (a.put o.dst (.bool true)) w'):o.wpIn Fc 0 P a w next Q:=by
 have I1:=I.moves mv;have kP:S1.cJ=some g:=mv.step.gh.trans hg;have hR:=I1.rel;rw[kP] at hR;have hzm:∀ b c,Z1 b=some c->¬Own η S1 b:=by
  intro b c hb ho;obtain⟨_,_,hz,_⟩:=I1.st.nA ho;rw[hz] at hb;cases hb
 obtain⟨fn,tmps,assign,body,hrun,hround⟩:=hh g y g.ys.tail Z1 _ w us hys hR hy I1.st.zs hzm (fun b ⟨n,o,p,h1,h2,hb⟩=>I1.st.jY h1 h2 hb);refine⟨fun f _=>hF.fn f,?_⟩;rw[Oper.semAt_eq _ _ _ Ir];rw[hx,hrun];refine⟨hF.depth,hF.rounds ?_⟩;refine hround.mono ?_;rintro e1 w1 ⟨rfl,Z2,CI,hR2⟩;refine hn w1 Z2 (mv.step.cZ.trans CI.cZ) ⟨?_,hR2,I1.ay⟩;have R1:=I1.st
 suffices X:St C.base η Z2 S1 w1 from⟨X.au,X.cJ,X.known,X.jB,X.zs,X.fresh,X.gO,X.sat⟩
 refine R1.wO CI.cZ CI.zs CI.size (fun b ho=>CI.block b ho) fun b hown=>?_;cases hz:Z2 b with
 | none=>rfl
 | some cs =>
   rcases CI.gT _ _ hz with h|h;obtain⟨_,_,a2,_⟩:=R1.nA hown;rw[a2] at h;cases h;exact absurd hown h
theorem Iu{P:Program}{C:Ctx}{nt:Nat}{η:Eta}{Z:aF}{S:ak}{w:World}{F:Fr}{a:Act}(hh:Hand P C)(I:Inv C η Z S w)(FR:bD nt η Z F a.tmps){sq:Bool}{o:Oper}{k:O}(ht:Ab P sq o=some k){c:Cd}{v:A}{S':ak}(e:ug true F S k=some (c,v,S'))(hc:c)
 {Fc:Fence} (hF:WF Fc) {next:Act->World->Prop} {Q:Exit->Act->World->Prop} (hn:∀ u w' Z',Z.le Z'->Inv C η Z' S' w'->cN η Z' v u->next (a.put o.dst u) w'):o.wpIn Fc 0 P a w next Q:=by
 unfold ug at e;split at e;rename_i f x;simp only[cond_true] at e;split at e;rename_i p l g q y Ae hg hxe;split at e
 . rename_i c1 y1 S1 hfz;cases h2:g.two with
   | true=>rw[h2] at e;cases e
   | false =>
   rw[h2] at e;cases e;obtain⟨hp,hq,hc1,rfl,hys⟩:=hc;obtain⟨f',args,ts,hop,hf,hl⟩:=Ar ht;obtain⟨x',r,hal,hx,hr⟩:=Aq hl;have ZI:args=#[x']:=by apply adk;rw[hal,Lz hr]
   subst ZI;have Af:a.eval f'=.func (.yield g.l) #[] #[]:=(aO FR hf Ae hp).2;obtain⟨_,CA⟩:=aO FR hx hxe hq;obtain⟨Z1,mv,hd,_⟩:=mD I.st hfz hc1 CA;refine EU (us:=[_]) hh I mv hg hys (by rw[h2];exact⟨_,rfl,hd⟩) (fun c hc=>by rw[hop] at hc;cases hc) ?_ hF fun w' Z' hz I'=>hn _ _ Z' hz (by rw[h2] at I';exact I') rfl;unfold execOp;rw[hop];simp only[resolve,Af];simp
 cases e;cases e;rename_i f x y;simp only[cond_true] at e;split at e
 . rename_i p l g q a1 r b1 Ae hg hxe tY;obtain⟨h2,e⟩:=aC.aK e;cases e;obtain⟨hp,hq,hr1,rfl,hys⟩:=hc;obtain⟨f',args,ts,hop,hf,hl⟩:=Ar ht;obtain⟨x',r,hal,hx,hr⟩:=Aq hl;obtain⟨y',r',hal2,hy,hr'⟩:=Aq hr;have ZI:args=#[x',y']:=by apply adk;rw[hal,hal2,Lz hr']
   subst ZI;have Af:a.eval f'=.func (.yield g.l) #[] #[]:=(aO FR hf Ae hp).2;have CA:a.eval x'=.int .i64 a1:=(aO FR hx hxe hq).2;have Cr:a.eval y'=.int .i64 b1:=(aO FR hy tY hr1).2;cases hgy:g.ys with
   | nil=>rw[hgy] at hys;cases hys
   | cons y1 t =>
   rw[hgy] at hys;refine EU (us:=[_,_]) hh I (bX.refl I.st) hg (y:=y1) (by rw[hgy];rfl) (by rw[h2];exact⟨a1,b1,hys,rfl⟩) (fun c hc=>by rw[hop] at hc;cases hc) ?_ hF fun w' Z' hz I'=>hn _ _ Z' hz I' rfl;unfold execOp;rw[hop];simp only[resolve,Af];simp[CA,Cr]
 cases e;cases e
def Dx(u:Value):Exit:=.panic [{ v:=u,recovered:=false }]
def yA(P:Program)(f:FuncId)(args:List A)(au:List Ob)(u:Value):Prop :=
 ∀ base η Z w vs,St base η Z (.ofList au) w->bp (cN η Z) args vs->jf P Z->CallsIn Fence.wide 0 P f vs.toArray w fun e w'=>e=.panicked [{ v:=u,recovered:=false }]/\∃ Z',iF 0 base η Z (.ofList au) w (fun _=>none) Z' (.ofList []) w'
structure kH where
 cI:List Bool
 f:List A->List Ob->Option (Cd×Option Bool×Value)
structure j9(P:Program)(f:FuncId)(dc:kH):Prop where
 ent:enters P f=true
 sem:∀ args au c b u,dc.f args au=some (c,b,u)->c->b≠some false->yA P f args au u
def Kh:List (FuncId×kH)->FuncId->Option kH
 | [],_=>none
 | (g,dc)::l,f=>bif acR g f then some dc else Kh l f
theorem Iv{f:FuncId}{dc:kH}:∀{l:List (FuncId×kH)},Kh l f=some dc->(f,dc)∈l
 | (g,dc')::l,h=>by
   simp only[Kh] at h;cases hb:acR g f with
   | true =>
     rw[hb] at h;cases h;rw[adg hb];exact List.mem_cons_self
   | false =>
     rw[hb] at h;exact acY _ (Iv h)
def R9(Δ:List (FuncId×kH))(S:ak)(g:FuncId)(args:List V):Option (Cd×Option Bool×Value×ak) :=
 match Kh Δ g with
 | some dc => match rP S dc.cI args with
   | some (c1, ye, ms) =>
     let rs:=(wW S 2 (qU dc.cI args [])).filter (EQ S)
     bif r8 rs&&EP ms rs then
      match iG S rs with
      | some fP=>match iX (idxOf rs) fP,uX (idxOf rs) ye with
        | some bY,some tg=>match dc.f (tg.map A.p) bY with
          | some (c2,b,u)=>some (.and c1 c2,b,u,gK (gK S ms) rs)
          | none=>none
        | _,_=>none
      | none=>none
     else none
   | none=>none
 | none=>none
theorem St.gK{base:Nat}{η:Eta}{Z:aF}{w:World}:∀{ms:List Nat}{S:ak},St base η Z S w->St base η Z (gK S ms) w
 | [],_,R=>R
 | m::ms,S,R=>by
   show St base η Z (aW.gK (S.del m) ms) w;exact St.gK (R.del m)
def CallDie(P:Program)(f:FuncId)(args:List A)(S:ak)(u:Value)(S':ak):Prop :=
 ∀ base η Z w vs,St base η Z S w->bp (cN η Z) args vs->jf P Z->CallsIn Fence.wide 0 P f vs.toArray w fun e w'=>e=.panicked [{ v:=u,recovered:=false }]/\∃ Z',bX base η Z S w η Z' S' w'
theorem PO{P : Program}{Δ : List (FuncId × kH)}(uh : ∀ x ∈ Δ, j9 P x.1 x.2){S S' : ak}{g : FuncId}{args : List V}{c : Cd}{b : Option Bool}{u : Value}(e : R9 Δ S g args = some (c, b, u, S'))(hc : c) : (b ≠ some false → CallDie P g (args.map A.p) S u S') ∧ enters P g = true := by
 unfold R9 at e;split at e
 · rename_i dc hdc
   split at e
   · rename_i c1 ye ms Kf
     simp only at e;generalize (wW S 2 (qU dc.cI args [])).filter (EQ S)=rs at e;obtain⟨hb,e⟩:=aC.aK e;simp only[acT] at hb;split at e;rename_i fP ga;split at e;rename_i bY tg iK hargs;split at e;rename_i c2 b' u' hf;cases e;have hD:=uh (g,dc) (Iv hdc);refine⟨fun hbt=>?_,hD.ent⟩;have x9:=hD.sem _ _ _ _ _ hf hc.2 hbt;have yc:=Aa hb.2;have hnd:=jD hb.1;intro base η Z w vs R hvs hK;obtain⟨Z1,mv,sees⟩:=z8 (ms:=ms) R;have VU:iG (gK S ms) rs=some fP:=by rw[vZ yc];exact ga
     obtain⟨R1,hown1⟩:=mv.st.sub hnd VU iK;have hv1:bp (dP η Z1) ye vs:=pT R mv.step.cZ Kf hc.1 sees (kB.1 hvs);have hv0:bp (cN (dH η rs) Z1) (tg.map A.p) vs:=by
      refine kB.2 (pQ (fun n m en p hp=>?_) (.inr (aF.le.refl _)) hargs hv1);unfold dH;rw[gH en];exact hp
     refine(x9 base (dH η rs) Z1 w vs R1 hv0 (hK.mono mv.step.cZ)).mono ?_;rintro e1 w1 ⟨rfl,Z',mk⟩;refine⟨rfl,Z',?_⟩;have hnot:∀ b,Own η (gK (gK S ms) rs) b->¬Own (dH η rs) (.ofList bY) b:=by
      rintro b ⟨n,o,p,h1,h2,zm⟩ ⟨i,o',p',h1',h2',hbi⟩;obtain⟨h1a,h1b⟩:=x6 h1;unfold dH at h2';split at h2';rename_i m hm;obtain⟨oS,ho,_⟩:=(mE VU).2 i m hm;have hne:n≠m:=by
       rintro rfl;exact h1b (adi hm)
      exact mv.st.jB n m o oS p p' b h1a ho hne h2 h2' zm hbi;cases h2'
     have Rr:=(mv.st.gK (ms:=rs));have hz:∀ b,Own η (gK (gK S ms) rs) b->Z' b=none:=by
      intro b ho;cases hzb:Z' b with
      | none=>rfl
      | some cs =>
        obtain⟨n,o,p,h1,h2,zm⟩:=ho;have hall:=Rr.all h1 h2 zm;have hlt:=Rr.jY h1 h2 zm;rcases mk.step.gT b cs hzb with h|h|h;rw[hall.2.1] at h;cases h;exact absurd h (hnot b ⟨n,o,p,h1,h2,zm⟩);omega
     refine mv.trans ⟨Eta.le.refl _,Rr.wO mk.step.cZ mk.st.zs mk.step.size (fun b ho=>?_) hz,⟨mk.step.os,mk.step.tape,mk.step.output,mk.step.size,fun b hb' ho=>mk.step.block b hb' fun h=>ho (hown1 b h),fun b ho=>.inl ?_,mk.step.cZ,fun b cs hzb=>?_,by rw[x7]⟩⟩;obtain⟨n,o,p,h1,h2,zm⟩:=ho;exact mk.step.block b (Rr.jY h1 h2 zm) (hnot b ⟨n,o,p,h1,h2,zm⟩);obtain⟨n,o,p,h1,h2,zm⟩:=ho;exact⟨n,o,p,(x6 h1).1,h2,zm⟩;rcases mk.step.gT b cs hzb with h|h|h;exact .inl h;exact .inr (.inl (hown1 b h));exact .inr (.inr h);cases e;cases e;cases e
   cases e
 cases e
structure Dy where
 Δ:List (FuncId×kH):=[]
 pn:Value->Fr->ak->Prop:=fun _ _ _=>False
def ZJ(Δ:List (FuncId×kH))(F:Fr)(S:ak):O->Option (Cd×Option Bool×Value×ak)
 | .call f args=>match Δ with
   | []=>none
   | _ :: _ => match gk F f, mV F args with
     | some (p,.func g caps),some (q,vs)=>match R9 Δ S g (vs++caps.map fun x=>.c (.ptr x.1 x.2)) with
       | some (c,b,u,S')=>some (.and p (.and q c),b,u,S')
       | none=>none
     | some (p,.fj g n off),some (q,vs)=>match R9 Δ S g (.c (.ptr n off)::vs) with
       | some (c,b,u,S')=>some (.and p (.and q c),b,u,S')
       | none=>none
     | _,_=>none
 | _=>none
theorem PU{P : Program}{base nt : Nat}{η : Eta}{Z : aF}{S : ak}{w : World}{F : Fr}{a : Act}{Δ : List (FuncId × kH)}(uh : ∀ x ∈ Δ, j9 P x.1 x.2)(hT : jf P Z){sq : Bool}(R : St base η Z S w)(FR : bD nt η Z F a.tmps){o : Oper}{k : O}(ht : Ab P sq o = some k){c : Cd}{b : Option Bool}{u : Value}{S' : ak}(e : ZJ Δ F S k = some (c, b, u, S'))(hc : c)(hb : b ≠ some false)
 {Fc:Fence} (hF:WF Fc) {aU:Act->World->Prop} {Q:Exit->Act->World->Prop} (hn:∀ Z' w',bX base η Z S w η Z' S' w'->Q (Dx u) a w'):o.wpIn Fc 0 P a w aU Q:=by
 unfold ZJ at e;split at e;rename_i f args;split at e;cases e;obtain⟨f',args',ts,hop,hf,hal⟩:=Ar ht;have hd:∀ c,o.op≠.defer c:=fun c hc=>by rw[hop] at hc;cases hc
 split at e;rename_i p g caps q vs Ae lg;split at e;rename_i c0 b0 u0 S0 ZK;cases e;obtain⟨hp,l9,hc'⟩:=hc;obtain⟨wF,hent⟩:=PO uh ZK hc';refine⟨fun f _=>hF.fn f,?_⟩;rw[Oper.semAt_eq _ _ _ hd];obtain⟨_,cs,Af,hcs⟩:=aO FR hf Ae hp;have hvs:=qt FR hal lg l9;obtain⟨fn,body,h1,h2,h3⟩:=mF hent;have yh:(execOp a.eval o).run P w=.ok (.enter g ((args'.toList.map a.eval).toArray++cs.toArray)) w:=by
  unfold execOp;rw[hop];have hargs:(args'.toList.map a.eval).toArray=args'.map a.eval:=by apply adk;simp
  simp only[resolve,Af,Deferred.ofValue,pure_bind,invoke,hargs];have:(#[]:Array Value)++args'.map a.eval=args'.map a.eval:=by simp
  rw[this];simp[callFunc,h1,h3,h2]
 rw[yh];refine⟨hF.depth,hF.calls ?_⟩;have happ:(args'.toList.map a.eval).toArray++cs.toArray=(args'.toList.map a.eval++cs).toArray:=by simp
 rw[happ];refine(wF hb base η Z w _ R (kB.2 (hvs.append (Ik hcs))) hT).mono ?_;rintro e1 w1 ⟨rfl,Z',mv⟩;exact hn Z' w1 mv;cases e;rename_i p g n off q vs Ae lg;split at e;rename_i c0 b0 u0 S0 ZK;cases e;obtain⟨hp,l9,hc'⟩:=hc;obtain⟨wF,hent⟩:=PO uh ZK hc';refine⟨fun f _=>hF.fn f,?_⟩;rw[Oper.semAt_eq _ _ _ hd];obtain⟨_,pu,Af,PG⟩:=aO FR hf Ae hp;have hvs:=qt FR hal lg l9;obtain⟨fn,body,h1,h2,h3⟩:=mF hent;have yh:(execOp a.eval o).run P w=.ok (.enter g (pu::args'.toList.map a.eval).toArray) w:=by
  unfold execOp;rw[hop];have hargs:#[pu]++args'.map a.eval=(pu::args'.toList.map a.eval).toArray:=by apply adk;simp
  simp only[resolve,Af,Deferred.ofValue,pure_bind,invoke,hargs];have:(pu::args'.toList.map a.eval).toArray++(#[]:Array Value)=(pu::args'.toList.map a.eval).toArray:=by simp
  first|rw[this]|skip
  simp[callFunc,h1,h3,h2]
 rw[yh];refine⟨hF.depth,hF.calls ?_⟩;refine(wF hb base η Z w (pu::args'.toList.map a.eval) R (kB.2 ⟨⟨by simp,PG⟩,hvs⟩) hT).mono ?_;rintro e1 w1 ⟨rfl,Z',mv⟩;exact hn Z' w1 mv;cases e;cases e;cases e
def Sb(yl:Bool)(Γ:bW)(F:Fr)(S:ak)(o:kG)(next:Fr->ak->Prop):Prop :=
 match ug yl F S o.o with
 | some (c,v,S')=>ij c.list (next (lV F o.dst v) S')
 | none=>match Ll F o.o with
 | some (c,p)=>ij c.list (∀ b,p b->next (lV F o.dst (.p (.c (.bool b)))) S)
 | none=>match r9 Γ F S o.o with
 | some (.pure c v)=>ij c.list (next (lV F o.dst v) S)
 | some (.Lj c v S')=>ij c.list (next (lV F o.dst v) S')
 | none=>False
def Sc(yl:Bool)(Γ:bW)(D:Dy)(F:Fr)(S:ak)(o:kG)(next:Fr->ak->Prop):Prop :=
 match ZJ D.Δ F S o.o with
 | some (c,ob,u,S')=>match ob with
   | none=>ij c.list (D.pn u F S')
   | some b=>ij c.list ((b=true->D.pn u F S')/\(b=false->Sb yl Γ F S o next))
 | none=>Sb yl Γ F S o next
def opW(yl:Bool)(Γ:bW)(D:Dy)(F:Fr)(S:ak)(o:kG)(next:Fr->ak->Prop):Prop :=
 match guardE F o.guard with
 | some .run=>Sc yl Γ D F S o next
 | some .skip=>next (lV F o.dst (.aL [])) S
 | some (.cond g)=>match r9 Γ F S o.o with
   | some (.pure c (.p v))=>ij (c.list.map (g->·)) (next (lV F o.dst (.cond g v)) S)
   | _=>False
 | some (.bool d b want)=>match r9 Γ F S o.o with
   | some (.pure c (.p v))=>ij (c.list.map ((b=want)->·)) (next (lV F o.dst (.cond (b=want) v)) S)
   | _=>(b=want->Sc yl Γ D (aC.T.set F d (.dec want)) S o next)/\(b=!want->next (lV (aC.T.set F d (.dec (!want))) o.dst (.aL [])) S)
 | none=>False
def Gw(yl:Bool)(Γ:bW)(D:Dy):List kG->Fr->ak->(Fr->ak->Prop)->Prop
 | [],F,S,k=>k F S
 | o::l,F,S,k=>opW yl Γ D F S o fun F' S'=>Gw yl Γ D l F' S' k
section
variable {P:Program} {C:Ctx} {nt:Nat} {η:Eta} {Z:aF} {S:ak} {w:World} {F:Fr} {a:Act}
def Sg(C:Ctx)(nt:Nat)(yl:Bool)(η:Eta)(Z:aF)(w:World)(a:Act)(next:Fr->ak->Prop)(aU:Act->World->Prop):Prop :=
 ∀ F' S' aI Z' a' w',next F' S'->η.le aI->Z.le Z'->Inv C aI Z' S' w'->Calm yl w w'->bD nt aI Z' F' a'.tmps->a'.defers=a.defers->aU a' w'
theorem PV{Γ:bW}(dV:bt P Γ)(hK:nX P C){yl:Bool}(hh:yl=true->Hand P C){sq:Bool}(I:Inv C η Z S w)(FR:bD nt η Z F a.tmps){ops:Array Oper}{o:Oper}{x:kG}(ht:qq P sq nt ops o=some x){next:Fr->ak->Prop}(h:Sb yl Γ F S x next)
 {Fc:Fence} (hF:WF Fc) {aU:Act->World->Prop} {Q:Exit->Act->World->Prop} (hn:Sg C nt yl η Z w a next aU):o.wpIn Fc 0 P a w aU Q:=by
 obtain⟨h1,h2,h3,h4⟩:=iY ht;unfold Sb at h;split at h;rename_i c v S' e;obtain⟨hc,qK⟩:=iN h;have hy:yl=true:=by
  cases yl with
  | true=>rfl
  | false =>
    unfold ug at e;split at e;simp at e;simp at e;cases e
 subst hy;refine Iu (hh rfl) I FR h3 e hc hF ?_;intro u w' Z' hz I' hr;refine hn _ _ η Z' _ w' qK (Eta.le.refl _) hz I' (fun h=>by cases h) ?_ (put_defers _ _ _);rw[h1];exact qV (FR.mono (Eta.le.refl _) hz) h4 hr;have go:∀ r,r9 Γ F S x.o=some r->r.cd->next (lV F x.dst r.v) (r.st S)->o.wpIn Fc 0 P a w aU Q:=by
  intro r e hc qK;refine ER dV (hK _ _ _ _ I.rel) I.st FR h3 e hc Fc hF aU Q ?_;intro u w' aI Z' mv hr;refine hn _ _ aI Z' _ w' qK mv.le mv.step.cZ (I.moves mv) (mv.calm I.st _) ?_ (put_defers _ _ _);rw[h1];exact qV (FR.mono mv.le mv.step.cZ) h4 hr
 split at h
 · rename_i c p e
   obtain⟨hc,qK⟩:=iN h;have hk : PL P o.op = some x.o := by
    obtain⟨neg,y,hy⟩:∃ neg y,x.o=.CD neg y:=by
     cases hx:x.o with
     | CD neg y=>exact⟨neg,y,rfl⟩
     | _=>rw[hx] at e;simp only[Ll] at e;cases e
    unfold Ab at h3;rw[hy] at h3 ⊢;split at h3;split at h3<;>cases h3
    · split at h3
      rename_i k' hk';rw[hk'];exact h3;cases sq with
      | true =>
        simp only[cond_true] at h3;split at h3;cases h3;split at h3<;>cases h3
      | false =>
        simp only[cond_false] at h3;split at h3;cases h3;obtain⟨_,h3⟩:=aC.aK h3;split at h3<;>cases h3
   obtain⟨b,hp,hs⟩:=nilE_ok (w:=w) FR hk e hc;have hd:∀ c,o.op≠.defer c:=fun c hc=>by rw[hc] at hk;cases hk
   refine tj.does I.st hd hs Fc hF aU Q ?_;intro u w' aI Z' mv hr;refine hn _ _ aI Z' _ w' (qK b hp) mv.le mv.step.cZ (I.moves mv) (mv.calm I.st _) ?_ (put_defers _ _ _);rw[h1];exact qV (FR.mono mv.le mv.step.cZ) h4 hr
 split at h;rename_i c v e;obtain⟨hc,qK⟩:=iN h;exact go _ e hc qK;rename_i c v S' e;obtain⟨hc,qK⟩:=iN h;exact go _ e hc qK;exact h.elim
def yB(C:Ctx)(nt:Nat)(yl:Bool)(w:World)(ds:List Deferred)(pn:Value->Fr->ak->Prop)(Q:Exit->Act->World->Prop):Prop :=
 ∀ u F' S' aI Z' a' w',pn u F' S'->Inv C aI Z' S' w'->Calm yl w w'->bD nt aI Z' F' a'.tmps->a'.defers=ds->Q (Dx u) a' w'
theorem yB.later{C:Ctx}{nt:Nat}{yl:Bool}{w w1:World}{ds:List Deferred}{pn:Value->Fr->ak->Prop}{Q:Exit->Act->World->Prop}(h:yB C nt yl w ds pn Q)(cm:Calm yl w w1):yB C nt yl w1 ds pn Q :=
 fun u F' S' aI Z' a' w' hp I c FR hd=>h u F' S' aI Z' a' w' hp I (cm.trans c) FR hd
theorem PW{Γ:bW}(dV:bt P Γ)(hK:nX P C){D:Dy}(uh:∀ x∈D.Δ,j9 P x.1 x.2){yl:Bool}(hh:yl=true->Hand P C){sq:Bool}(I:Inv C η Z S w)(FR:bD nt η Z F a.tmps){ops:Array Oper}{o:Oper}{x:kG}(ht:qq P sq nt ops o=some x){next:Fr->ak->Prop}(h:Sc yl Γ D F S x next)
 {Fc:Fence} (hF:WF Fc) {aU:Act->World->Prop} {Q:Exit->Act->World->Prop} (hn:Sg C nt yl η Z w a next aU) (hp:yB C nt yl w a.defers D.pn Q):o.wpIn Fc 0 P a w aU Q:=by
 unfold Sc at h;obtain⟨_,_,h3,_⟩:=iY ht;split at h;rename_i c ob u S' e;split at h;obtain⟨hc,h1⟩:=iN h;refine PU uh (hK _ _ _ _ I.rel) I.st FR h3 e hc (by simp) hF fun Z' w' mv=>?_;exact hp u F S' η Z' a w' h1 (I.moves mv) (mv.calm I.st _) (FR.mono (Eta.le.refl _) mv.step.cZ) rfl
 . rename_i b;obtain⟨hc,h1,h2⟩:=iN h;cases hb:b with
   | true =>
     subst hb;refine PU uh (hK _ _ _ _ I.rel) I.st FR h3 e hc (by simp) hF fun Z' w' mv=>?_;exact hp u F S' η Z' a w' (h1 rfl) (I.moves mv) (mv.calm I.st _) (FR.mono (Eta.le.refl _) mv.step.cZ) rfl
   | false=>exact PV dV hK hh I FR ht (h2 hb) hF hn
 exact PV dV hK hh I FR ht h hF hn
theorem opW_ok{Γ:bW}(dV:bt P Γ)(hK:nX P C){D:Dy}(uh:∀ x∈D.Δ,j9 P x.1 x.2){yl:Bool}(hh:yl=true->Hand P C){sq:Bool}(I:Inv C η Z S w)(FR:bD nt η Z F a.tmps){ops:Array Oper}{o:Oper}{x:kG}(ht:qq P sq nt ops o=some x){next:Fr->ak->Prop}(h:opW yl Γ D F S x next)
 {Fc:Fence} (hF:WF Fc) {aU:Act->World->Prop} {Q:Exit->Act->World->Prop} (hn:Sg C nt yl η Z w a next aU) (hp:yB C nt yl w a.defers D.pn Q) :
 if Region.wanted o (yielded ops a.tmps) then o.wpIn Fc 0 P a w aU Q else(∀ f,o.about P w a.eval=some f->Fc.fn f)/\aU (a.put o.dst undef) w:=by
 obtain⟨h1,h2,h3,h4⟩:=iY ht;have skip:∀{F':Fr},bD nt η Z F' a.tmps->next (lV F' x.dst (.aL [])) S->(∀ f,o.about P w a.eval=some f->Fc.fn f)/\aU (a.put o.dst undef) w:=by
  intro F' lW qK;refine⟨fun f _=>hF.fn f,hn _ _ η Z _ w qK (Eta.le.refl _) (aF.le.refl _) I (Calm.refl _ _) ?_ (put_defers _ _ _)⟩;rw[h1];exact qV lW h4 Il
 have cond:∀(g:Prop) c v,(Region.wanted o (yielded ops a.tmps)=true↔g)->r9 Γ F S x.o=some (.pure c (.p v))->ij (c.list.map (g->·)) (next (lV F x.dst (.cond g v)) S)->if Region.wanted o (yielded ops a.tmps) then o.wpIn Fc 0 P a w aU Q else(∀ f,o.about P w a.eval=some f->Fc.fn f)/\aU (a.put o.dst undef) w:=by
  intro g c v hw e hh;obtain⟨hc,qK⟩:=cd_imp hh;by_cases hg:g;rw[if_pos (hw.2 hg)];refine ER dV (hK _ _ _ _ I.rel) I.st FR h3 e (hc hg) Fc hF aU Q ?_;intro u w' aI Z' mv hr;refine hn _ _ aI Z' _ w' qK mv.le mv.step.cZ (I.moves mv) (mv.calm I.st _) ?_ (put_defers _ _ _);rw[h1];exact qV (FR.mono mv.le mv.step.cZ) h4 ⟨fun _=>hr,fun hh=>absurd hg hh⟩;rw[if_neg (fun hh=>hg (hw.1 hh))];refine⟨fun f _=>hF.fn f,hn _ _ η Z _ w qK (Eta.le.refl _) (aF.le.refl _) I (Calm.refl _ _) ?_ (put_defers _ _ _)⟩;rw[h1];exact qV FR h4 ⟨fun hh=>absurd hh hg,fun _=>rfl⟩
 unfold opW at h;split at h;rename_i hg;have:=j8 FR h2 hg;rw[if_pos (this.2 trivial)];exact PW dV hK uh hh I FR ht h hF hn hp;rename_i hg;have:=j8 FR h2 hg;rw[if_neg (fun hh=>this.1 hh)];exact skip FR h;rename_i g hg;have:=j8 FR h2 hg;split at h;rename_i c v e;exact cond g c v this e h;exact h.elim;rename_i d b want hg;have hw:=j8 FR h2 hg;have hslot : F.get d = some (.p (.c (.bool b))) := by
  unfold guardE at hg;split at hg;cases hg;split at hg;rename_i b' hb';generalize (b'==_)=t at hg;cases t<;>cases hg;rename_i b' hb';cases hg;exact hb';cases hg;cases hg;cases hg
 split at h;rename_i c v e;exact cond (b=want) c v hw e h;by_cases hb:b=want
 · rw[if_pos (hw.2 hb)]
   have sj:bD nt η Z (aC.T.set F d (.dec want)) a.tmps:=by
    refine⟨FR.1,fun i y e=>?_⟩;rw[T.pJ] at e;by_cases hi:i=d;subst hi;rw[if_pos rfl] at e;cases e;obtain⟨v,hv,hr⟩:=FR.2 i _ hslot;refine⟨v,hv,?_⟩;have hr':v=.bool b:=by have:=hr.2;simpa[aJ,aV] using this
    rw[hr',hb];rfl;rw[if_neg hi] at e;exact FR.2 i y e
   exact PW dV hK uh hh I sj ht (h.1 hb) hF hn hp
 · rw[if_neg (fun hh => hb (hw.1 hh))]
   have hb':b=!want:=by cases b<;>cases want<;>simp_all
   have sj:bD nt η Z (aC.T.set F d (.dec (!want))) a.tmps:=by
    refine⟨FR.1,fun i y e=>?_⟩;rw[T.pJ] at e;by_cases hi:i=d;subst hi;rw[if_pos rfl] at e;cases e;obtain⟨v,hv,hr⟩:=FR.2 i _ hslot;refine⟨v,hv,?_⟩;have hr':v=.bool b:=by have:=hr.2;simpa[aJ,aV] using this
    rw[hr',hb'];rfl;rw[if_neg hi] at e;exact FR.2 i y e
   exact skip sj (h.2 hb')
 exact h.elim
theorem yC{Γ:bW}(dV:bt P Γ)(hK:nX P C){D:Dy}(uh:∀ x∈D.Δ,j9 P x.1 x.2){yl:Bool}(hh:yl=true->Hand P C){sq:Bool}{ops:Array Oper}{Fc:Fence}(hF:WF Fc){Q:Exit->Act->World->Prop}{k:Fr->ak->Prop}:∀{l:List Oper}{xs:List kG}{idx aU:List Nat}{η:Eta}{Z:aF}{S:ak}{w:World}{F:Fr}{a:Act},j7 P sq nt ops l=some xs->idx.map (fun i=>ops[i]?)=l.map some->Inv C η Z S w->bD nt η Z F a.tmps->Gw yl Γ D xs F S k->yB C nt yl w a.defers D.pn Q->
 (∀ F' S' aI Z' a' w',k F' S'->η.le aI->Z.le Z'->Inv C aI Z' S' w'->Calm yl w w'->bD nt aI Z' F' a'.tmps->a'.defers=a.defers->wpOpsIn Fc 0 P ops Q aU a' w')->wpOpsIn Fc 0 P ops Q (idx++aU) a w
 | [],xs,idx,aU,η,Z,S,w,F,a,ht,hi,I,FR,h,_,hQ=>by
   simp only[j7] at ht;cases ht;cases idx with
   | cons _ _=>simp at hi
   | nil=>exact hQ F S η Z a w h (Eta.le.refl _) (aF.le.refl _) I (Calm.refl _ _) FR rfl
 | o :: l, xs, idx, aU, η, Z, S, w, F, a, ht, hi, I, FR, h, hP, hQ => by
   simp only[j7] at ht;split at ht
   . rename_i x r hx hr;cases ht;cases idx with
     | nil=>simp at hi
     | cons i idx =>
       simp only[adl,List.cons.injEq] at hi;simp only[List.cons_append,wpOpsIn,hi.1];refine opW_ok dV hK uh hh I FR hx h hF ?_ hP;intro F' S' aI Z' a' w' qK hle hz I' cm lW hd;refine yC dV hK uh hh hF hr hi.2 I' lW qK (by rw[hd];exact hP.later cm) ?_;intro F'' zo η'' Z'' a'' w'' hk hle' hz' I'' cm' FR'' hd';exact hQ F'' zo η'' Z'' a'' w'' hk (hle.trans hle') (hz.trans hz') I'' (cm.trans cm') FR'' (hd'.trans hd)
   cases ht
theorem opsW_ok{Γ:bW}(dV:bt P Γ)(hK:nX P C){D:Dy}(uh:∀ x∈D.Δ,j9 P x.1 x.2){yl:Bool}(hh:yl=true->Hand P C){sq:Bool}{ops:Array Oper}{Fc:Fence}(hF:WF Fc){Q:Exit->Act->World->Prop}{k:Fr->ak->Prop}:∀{l:List Oper}{xs:List kG}{idx:List Nat}{η:Eta}{Z:aF}{S:ak}{w:World}{F:Fr}{a:Act},j7 P sq nt ops l=some xs->idx.map (fun i=>ops[i]?)=l.map some->Inv C η Z S w->bD nt η Z F a.tmps->Gw yl Γ D xs F S k->yB C nt yl w a.defers D.pn Q->
 (∀ F' S' aI Z' a' w',k F' S'->η.le aI->Z.le Z'->Inv C aI Z' S' w'->Calm yl w w'->bD nt aI Z' F' a'.tmps->a'.defers=a.defers->Q .normal a' w')->wpOpsIn Fc 0 P ops Q idx a w:=by
 intro l xs idx η Z S w F a ht hi I FR h hP hQ;have:=yC dV hK uh hh hF (Q:=Q) (aU:=[]) ht hi I FR h hP (fun F' S' aI Z' a' w' h1 h2 h3 h4 h5 h6 h7=>hQ F' S' aI Z' a' w' h1 h2 h3 h4 h5 h6 h7)
 rwa [adt] at this
end
def isDfr(o:Oper):Bool:=match o.op with | .defer _=>true|_=>false
def Au:List Oper->Option (List Oper×Oper)
 | []=>none
 | [o]=>bif isDfr o then some ([],o) else none
 | o::l=>match Au l with|some (p,x)=>some (o::p,x)|none=>none
theorem Iw:∀{l p:List Oper}{x:Oper},Au l=some (p,x)->l=p++[x]
 | [],_,_,e=>by cases e
 | [o],p,x,e=>by
   simp only[Au] at e;obtain⟨_,e⟩:=aC.aK e;cases e;rfl
 | o :: o' :: l, p, x, e => by
   simp only[Au] at e;split at e;rename_i p' x' h;cases e;rw[Iw h];rfl;cases e
def ZL(F:Fr)(o:Oper):Option (Cd×FuncId×Nat) :=
 match o.op,o.guard,o.dst with
 | .defer { callee:=.value x,args,.. },none,none=>match cw x with
   | some x=>match gk F x with
     | some (p,.func f caps)=>some (p,f,args.size+caps.length)
     | _=>none
   | none=>none
 | _,_,_=>none
def yD(uj:List (FuncId×Nat))(d:Deferred):Prop:=∃ f cs args,d={ target:=.fn (.func f) cs,args }/\(f,args.size+cs.size)∈uj
theorem dfrE_ok{P : Program}{nt : Nat}{η : Eta}{Z : aF}{F : Fr}{a : Act}{w : World}(FR : bD nt η Z F a.tmps){ops : Array Oper}{k : Nat}{o : Oper}(ho : ops[k]? = some o){p : Cd}{f : FuncId}{n : Nat}(e : ZL F o = some (p, f, n))(hp : p){Fc : Fence}(hF : WF Fc)(hro : Fc.round = none){Q : Exit → Act → World → Prop}
 (h:∀ d,yD [(f,n)] d->Q .normal { a with defers:=d::a.defers } w):wpOpsIn Fc 0 P ops Q [k] a w:=by
 unfold ZL at e;split at e;rename_i x args ts hop hg jE;split at e;rename_i y hy;split at e;rename_i p' f' caps hx;cases e;obtain⟨_,cs,hcv,hcs⟩:=aO FR hy hx hp;simp only[wpOpsIn,ho];have hw:Region.wanted o (yielded ops a.tmps)=true:=by simp[Region.wanted,hg]
 rw[hw];simp only[if_true];refine⟨fun f _=>hF.fn f,?_⟩;have hrun:(execOp a.eval o).run P w=.ok (.defer { target:=.fn (.func f) cs.toArray,args:=args.map a.eval }) w:=by
  unfold execOp;rw[hop];simp only[resolve,hcv,Deferred.ofValue];simp
 rw[hro,Oper.semAt_none,hrun];have:=h { target:=.fn (.func f) cs.toArray,args:=args.map a.eval } ⟨f,cs.toArray,args.map a.eval,rfl,by
  have:=hcs.length;simp[this]⟩
 simpa[wpOpsIn,Oper.uponIn,Act.put,jE] using this;cases e;cases e;cases e
def ZM(F:Fr)(o:Oper):Option (Cd×FuncId×List (Nat×Nat)) :=
 match o.op,o.guard,o.dst with
 | .defer { callee:=.value x,args:=⟨[]⟩,.. },none,none=>match cw x with
   | some x=>match gk F x with
     | some (p,.func f caps)=>some (p,f,caps)
     | _=>none
   | none=>none
 | _,_,_=>none
theorem dfrC_ok{P : Program}{nt : Nat}{η : Eta}{Z : aF}{F : Fr}{a : Act}{w : World}(FR : bD nt η Z F a.tmps){ops : Array Oper}{k : Nat}{o : Oper}(ho : ops[k]? = some o){p : Cd}{f : FuncId}{caps : List (Nat × Nat)}(e : ZM F o = some (p, f, caps))(hp : p){Fc : Fence}(hF : WF Fc)(hro : Fc.round = none){Q : Exit → Act → World → Prop}
 (h:∀ cs:List Value,bp (ic η) caps cs->Q .normal { a with defers:={ target:=.fn (.func f) cs.toArray,args:=#[] }::a.defers } w):wpOpsIn Fc 0 P ops Q [k] a w:=by
 unfold ZM at e;split at e;rename_i x ts hop hg jE;split at e;rename_i y hy;split at e;rename_i p' f' caps' hx;cases e;obtain⟨_,cs,hcv,hcs⟩:=aO FR hy hx hp;simp only[wpOpsIn,ho];have hw:Region.wanted o (yielded ops a.tmps)=true:=by simp[Region.wanted,hg]
 rw[hw];simp only[if_true];refine⟨fun f _=>hF.fn f,?_⟩;have hrun:(execOp a.eval o).run P w=.ok (.defer { target:=.fn (.func f) cs.toArray,args:=#[] }) w:=by
  unfold execOp;rw[hop];simp only[resolve,hcv,Deferred.ofValue];simp
 rw[hro,Oper.semAt_none,hrun];have:=h cs hcs;simpa[wpOpsIn,Oper.uponIn,Act.put,jE] using this;cases e;cases e;cases e
def isPnc(o:Oper):Bool:=match o.op with | .panic _=>true|_=>false
def Av:List Oper->Option (List Oper×Oper)
 | []=>none
 | [o]=>bif isPnc o then some ([],o) else none
 | o::l=>match Av l with|some (p,x)=>some (o::p,x)|none=>none
theorem Iy:∀{l p:List Oper}{x:Oper},Av l=some (p,x)->l=p++[x]
 | [],_,_,e=>by cases e
 | [o],p,x,e=>by
   simp only[Av] at e;obtain⟨_,e⟩:=aC.aK e;cases e;rfl
 | o :: o' :: l, p, x, e => by
   simp only[Av] at e;split at e;rename_i p' x' h;cases e;rw[Iy h];rfl;cases e
def ZN(F:Fr)(o:Oper):Option (Cd×Value) :=
 match o.op,o.guard with
 | .panic x,none=>match cw x with
   | some x=>match gk F x with
     | some (p,.val (.iface t v))=>some (p,.iface t v)
     | _=>none
   | none=>none
 | _,_=>none
theorem pncE_ok{P : Program}{nt : Nat}{η : Eta}{Z : aF}{F : Fr}{a : Act}{w : World}(FR : bD nt η Z F a.tmps){ops : Array Oper}{k : Nat}{o : Oper}(ho : ops[k]? = some o){p : Cd}{u : Value}(e : ZN F o = some (p, u))(hp : p){Fc : Fence}(hF : WF Fc){Q : Exit → Act → World → Prop}
 (h:Q (Dx u) a w):wpOpsIn Fc 0 P ops Q [k] a w:=by
 unfold ZN at e;split at e;rename_i x hop hg;split at e;rename_i y hy;split at e;rename_i p' t v hx;cases e;have CA:a.eval x=.iface t v:=by have:=(aO FR hy hx hp).2;simp only[aJ,aV] at this;exact this.1
 simp only[wpOpsIn,ho];have hw:Region.wanted o (yielded ops a.tmps)=true:=by simp[Region.wanted,hg]
 rw[hw];simp only[if_true];refine⟨fun f _=>hF.fn f,?_⟩;have hd:∀ c,o.op≠.defer c:=fun c hc=>by rw[hop] at hc;cases hc
 rw[Oper.semAt_eq _ _ _ hd];have hrun:(execOp a.eval o).run P w=.halt (.panic (.iface t v)) w:=by
  unfold execOp;rw[hop];simp[CA,Instr.panic]
 rw[hrun];exact h;cases e;cases e;cases e
def Gx(Γ:bW):Ev:=fun F S x=>match ox Γ F S x with
 | some r=>some r
 | none=>match guardE F x.guard with
   | some .run=>ug true F S x.o
   | _=>none
theorem CJ{yl:Bool}{F:Fr}{S:ak}{k:O}{r:Cd×A×ak}(e:ug yl F S k=some r):∃ f l,k=.call f l:=by
 unfold ug at e;split at e;exact⟨_,_,rfl⟩;exact⟨_,_,rfl⟩;cases e
theorem oneY_q{P:Program}{nt:Nat}{ops:Array Oper}(Γ:bW):Quiet P nt ops (Gx Γ):=by
 refine⟨fun {F S x c v S' o} ht hq e=>?_,fun {F S S2 x c v S'} h e=>?_⟩;unfold Gx at e;split at e;rename_i r hr;cases e;exact qu ht hq hr
 · split at e
   obtain⟨f,y,hk⟩:=CJ e;obtain⟨_,_,h3,_⟩:=iY ht;rw[hk] at h3;exfalso;unfold Ab at h3;split at h3;rename_i hop;rw[hop] at hq;simp[aC.cY] at hq;split at h3;rename_i k' hk';cases h3;obtain⟨_,_,hk'⟩:=BH hk';cases hk';simp only[cond_false,hq] at h3;split at h3;cases h3;cases h3;cases e
 unfold Gx at e;split at e;rename_i r hr;cases e;obtain⟨Ln,h1,h2⟩:=yj (S2:=S2) h hr;exact⟨Ln,by unfold Gx;rw[h1],h2⟩;split at e;obtain⟨f,y,hk⟩:=CJ e;rw[hk] at h;cases h;cases e
def Si(Γ:bW)(ops:Array Oper)(xs:List kG)(F:Fr)(S:ak)(k:Fr->ak->Prop):Prop :=
 match aC.tL ops with
 | true=>BN (aC.eW ops.toList []) (qW ops) (BL (Gx Γ) ops xs F S k) (ops.size+1) []
 | false=>False
theorem ZO{P:Program}{nt:Nat}{C:Ctx}{Γ:bW}(dV:bt P Γ)(hK:nX P C)(hh:Hand P C){id:Nat}{ops:Array Oper}{xs:List kG}{F:Fr}{S:ak}{η:Eta}{Z:aF}{w:World}{a:Act}{k:Fr->ak->Prop}(ht:j7 P false nt ops ops.toList=some xs)(h:Si Γ ops xs F S k)
 {Fc:Fence} (hF:WF Fc) (I:Inv C η Z S w) (F':bD nt η Z F a.tmps) {Q:Exit->Act->World->Prop}
 (hQ:∀ F' S' aI Z' a' w',k F' S'->Inv C aI Z' S' w'->bD nt aI Z' F' a'.tmps->a'.defers=a.defers->Q .normal a' w'):(Code.region id ops true).wpIn Fc 0 P Q a w:=by
 unfold Si at h;split at h;rename_i hok;have hp:=aC.tT hok;refine wpIn_region_draw fun t=>?_;have hval:=aC.qP hp (P.follows .mixedOrders) t;generalize Region.schedule (P.follows .mixedOrders) ops t=σ at hval;have:=yt hp h (fun i o hi=>by cases hi) hval (fun j _=>by simp[iq]);rw[ac9] at this;refine ET hp (oneY_q Γ) ht hval this (I1:=Inv C) (I.moves (bX.drawn I.st _)) F' ?_ hQ;intro fR Z1 SD w1 a1 F1 o x c v S' I1 sj hro he hc aU hr;unfold Gx at he;split at he;rename_i r hr1;cases he;refine Gs dV (hK _ _ _ _ I1.rel) I1.st sj hro hr1 hc hF ?_;intro u w2 js Z2 iE hu;exact hr u w2 js Z2 iE.le iE.step.cZ (I1.moves iE) hu;split at he;rename_i hg;obtain⟨h1,h2,h3,h4⟩:=iY hro;have:=j8 sj h2 hg;rw[if_pos (this.2 trivial)];refine Iu hh I1 sj h3 he hc hF ?_;intro u w' Z' hz I' hu;exact hr u w' fR Z' (Eta.le.refl _) hz I' hu;cases he;exact h.elim
end Go.aW
namespace Go.aW
open Go.RowKit
open Go.aC (T WF X)
def child:Code->Nat->Option Code
 | .seq a b,d=>match d with|0=>some a|1=>some b|_=>none
 | .cond _ a b,d=>match d with|0=>some a|1=>some b|_=>none
 | .block _ b,d=>match d with|0=>some b|_=>none
 | .loop b,d=>match d with|0=>some b|_=>none
 | .scope b,d=>match d with|0=>some b|_=>none
 | _,_=>none
def fY(bO:Code):List Nat->Option Code
 | []=>some bO
 | d::rp=>match fY bO rp with|some c=>child c d|none=>none
abbrev Post:=Exit->Act->World->Prop
def ul(P:Program)(Fc:Fence)(b:Code)(Q:Post)(a:Act)(w:World):Prop :=
 ∀(bf:Frame)(k:List Item)(cs:List Frame),bf.roundOf=Fc.round->Fc.fn bf.fn->Fc.room (cs.length+1+0)->
  ∃ e a' w',Q e a' w'/\ArrivesIn (Machine.fenced P Fc) P (lone (bf.atR a (.code b::.inLoop b::k)) cs w) bf k cs e a' w'
def Dz(P:Program)(Fc:Fence)(b:Code)(Q:Post):Post:=fun e a w=>match e with
 | .normal=>ul P Fc b Q a w
 | .exit id=>Q (.exit id) a w
 | .ret=>Q .ret a w
 | .panic ch=>Q (.panic ch) a w
 | _=>False
theorem LA{P:Program}{Fc:Fence}{b:Code}{Q:Post}{a:Act}{w:World}(h:b.wpIn Fc 0 P (Dz P Fc b Q) a w):ul P Fc b Q a w:=by
 intro bf k cs hro hb hr;obtain⟨e1,a1,w1,hq,harr⟩:=h bf (.inLoop b::k) cs hro hb hr;cases e1 with
 | normal =>
   obtain⟨e2,a2,w2,hq2,harr2⟩:=hq bf k cs hro hb hr;exact⟨e2,a2,w2,hq2,.of_steps (StepsIn.trans harr (.one (fenced_calm hb hr rfl) stepR_inLoop)) harr2⟩
 | exit id=>exact⟨_,a1,w1,hq,.pass (x:=.inLoop b) rfl (fun _ _=>.inl (by simp)) harr⟩
 | ret=>exact⟨_,a1,w1,hq,.pass (x:=.inLoop b) rfl (fun _ _=>.inl (by simp)) harr⟩
 | panic ch=>exact⟨_,a1,w1,hq,.pass (x:=.inLoop b) rfl (fun _ _=>.inl (by simp)) harr⟩
 | _=>exact hq.elim
theorem wpIn_loop'{P:Program}{Fc:Fence}{b:Code}{Q:Post}{a:Act}{w:World}(h:ul P Fc b Q a w):(Code.loop b).wpIn Fc 0 P Q a w:=by
 intro bf k cs hro hb hr;obtain⟨e1,a1,w1,hq,harr⟩:=h bf k cs hro hb hr;exact⟨e1,a1,w1,hq,.of_steps (.one (fenced_calm hb hr rfl) stepR_loop) harr⟩
def kp(P:Program)(Fc:Fence)(bO:Code)(Q:Post):List Nat->Post
 | []=>Q
 | d::rp=>match fY bO rp with
   | some (.seq _ b)=>match d with|0=>Exit.then (b.wpIn Fc 0 P (kp P Fc bO Q rp)) (kp P Fc bO Q rp)|_=>kp P Fc bO Q rp
   | some (.cond _ _ _)=>kp P Fc bO Q rp
   | some (.block id _)=>Exit.inBlock id (kp P Fc bO Q rp)
   | some (.loop b)=>Dz P Fc b (kp P Fc bO Q rp)
   | some (.scope _)=>aC.noGo (kp P Fc bO Q rp)
   | _=>fun _ _ _=>False
theorem Aw{P:Program}{Fc:Fence}{bO:Code}{Q:Post}{u:Value}{a:Act}{w:World}(h:Q (Dx u) a w):∀{rp:List Nat}{c:Code},fY bO rp=some c->kp P Fc bO Q rp (Dx u) a w
 | [],_,_=>h
 | d :: rp, c, hs => by
   simp only[fY] at hs;split at hs
   . rename_i p hp;have ih:=Aw (P:=P) (Fc:=Fc) h hp;simp only[kp,hp];cases p with
     | seq x y=>cases d with
       | zero=>exact ih
       | succ d=>exact ih
     | cond _ x y=>exact ih
     | block id b=>exact ih
     | loop b=>exact ih
     | scope b=>exact ih
     | _=>simp[child] at hs
   cases hs
inductive Task where
 | code (c:Code) (rp:List Nat) (F:Fr) (S:ak)
 | up (rp:List Nat) (x:X) (F:Fr) (S:ak)
def Gy:List (Nat×D)->Fr->ak->Option (Cd×Fr×ak)
 | [],F,S=>some (.t,F,S)
 | (t, d) :: l, F, S => match F.get t with
   | some (.p (.c x))=>match sS S d x with
     | some (c,y,S1)=>match Gy l (T.set F t (.p (.c (d.w y)))) S1 with
       | some (c',F',S')=>some (.and c c',F',S')
       | none=>none
     | none=>none
   | _=>Gy l F S
theorem Gz{C : Ctx}{nt : Nat} : ∀{l : List (Nat × D)}{η : Eta}{Z : aF}{S S' : ak}{w : World}{F F' : Fr}{tmps : Array Value}{c : Cd}, Inv C η Z S w → bD nt η Z F tmps → Gy l F S = some (c, F', S') → c → ∃ Z', Inv C η Z' S' w ∧ bD nt η Z' F' tmps
 | [],η,Z,S,S',w,F,F',tmps,c,I,FR,e,_=>by simp only[Gy] at e;cases e;exact⟨Z,I,FR⟩
 | (t, d) :: l, η, Z, S, S', w, F, F', tmps, c, I, FR, e, hc => by
   simp only[Gy] at e;split at e;rename_i x hx;split at e;rename_i c1 y S1 hf;split at e;rename_i c2 F2 S2 hr;cases e;obtain⟨v,hv,hvr⟩:=FR.2 t _ hx;obtain⟨Z1,mv,hd,_⟩:=mD I.st hf hc.1 hvr.2;refine Gz (I.moves mv) ⟨FR.1,fun i z hz=>?_⟩ hr hc.2;rw[T.pJ] at hz;by_cases hi:i=t;subst hi;rw[if_pos rfl] at hz;cases hz;exact⟨v,hv,D.jA _ _,(D.gN d).2 hd⟩;rw[if_neg hi] at hz;obtain⟨v',hv',hr'⟩:=FR.2 i z hz;exact⟨v',hv',hr'.mono (Eta.le.refl _) mv.step.cZ⟩;cases e;cases e;exact Gz I FR e hc
structure Env where
 P:Program
 Γ:bW
 yl:Bool
 nt:Nat
 bO:Code
 ay:Nat
 aj:List Nat->List Nat
 cx:List Nat->List (Nat×D)
 zA:List Nat->Fr->ak->Prop
 qL:List Nat->Fr->ak->Prop
 fin:X->Fr->ak->Prop
 uj:List (FuncId×Nat):=[]
 dies:List (FuncId×kH):=[]
 pn:Value->Fr->ak->Prop:=fun _ _ _=>False
 tlf:Option (FuncId×Nat):=none
 tlp:List Nat->Fr->ak->Prop:=fun _ _ _=>False
def u6(k:Nat):List (Nat×Nat):=(acP k).map fun i=>(i,0)
def wZ:List (Nat×Nat)->List (Nat×Nat)->Bool
 | [],[]=>true
 | (a,b)::l,(c,d)::m=>acR a c&&(acR b d&&wZ l m)
 | _,_=>false
theorem Iz:∀{l m:List (Nat×Nat)},wZ l m=true->l=m
 | [],[],_=>rfl
 | (a,b)::l,(c,d)::m,h=>by
   simp only[wZ,acT,acW] at h;obtain⟨rfl,rfl,h⟩:=h;rw[Iz h]
 | [],_::_,h=>by simp[wZ] at h
 | _::_,[],h=>by simp[wZ] at h
def Env.dy(E:Env):Dy:=⟨E.dies,E.pn⟩
def pncW(E:Env)(F:Fr)(S:ak)(o:Oper):Prop :=
 match ZN F o with
 | some (p,u)=>ij p.list (E.pn u F S)
 | none=>False
def Sj(f:FuncId)(n:Nat):List (FuncId×Nat)->Bool
 | []=>false
 | (g,m)::l=>(acR f g&&acR n m)||Sj f n l
theorem LB{f:FuncId}{n:Nat}:∀{l:List (FuncId×Nat)},Sj f n l=true->(f,n)∈l
 | (g,m)::l,h=>by
   simp only[Sj,ads,acT,acW] at h;rcases h with ⟨rfl,rfl⟩|h;simp;exact acY _ (LB h)
theorem bifP{b:Bool}{p:Prop}(h:bif b then p else False):b=true/\p:=by
 cases b with
 | true=>exact⟨rfl,h⟩
 | false=>exact h.elim
def dfrW(E:Env)(F:Fr)(o:Oper)(k:Prop):Prop :=
 match ZL F o with
 | some (p,f,n)=>bif Sj f n E.uj then ij p.list k else False
 | none=>False
def dfrT(E:Env)(rp:List Nat)(F:Fr)(S:ak)(o:Oper)(k:Prop):Prop :=
 match E.tlf with
 | none=>dfrW E F o k
 | some (f,m)=>match ZM F o with
   | some (p,g,caps)=>bif acR g f&&wZ caps (u6 m) then ij p.list (E.tlp rp F S) else False
   | none=>False
def atL(E:Env)(rp:List Nat)(F:Fr)(S:ak):Prop:=match Gy (E.cx rp) F S with
 | some (c,F1,S1)=>(match canon E.ay (E.aj rp) F1 S1 with|some (F',S')=>ij c.list (E.zA rp F' S')|none=>False)
 | none=>False
def fw(F:Fr)(x:cj)(b:Bool):Fr:=match x with | .tmp t=>T.set F t (.dec b)|_=>F
def condW(ih:Task->Prop)(x:Operand)(a b:Code)(rp:List Nat)(F:Fr)(S:ak):Prop :=
 match cw x with
 | some x=>match known F x with
   | some true=>ih (.code a (0::rp) F S)
   | some false=>ih (.code b (1::rp) F S)
   | none=>match wK F x with
     | some (c,t)=>ij c.list ((t=true->ih (.code a (0::rp) (fw F x true) S))/\(t=false->ih (.code b (1::rp) (fw F x false) S)))
     | none=>False
 | none=>False
def Sk(E:Env)(ih:Task->Prop)(c:Code)(rp:List Nat)(F:Fr)(S:ak):Prop :=
 match c with
 | .skip=>ih (.up rp .normal F S)
 | .label _=>ih (.up rp .normal F S)
 | .region _ ops false=>match Au ops.toList with
   | some (pre,o)=>match j7 E.P true E.nt ops pre with|some xs=>Gw E.yl E.Γ E.dy xs F S fun F' S'=>dfrT E rp F' S' o (ih (.up rp .normal F' S'))|none=>False
   | none=>match Av ops.toList with
     | some (pre,o)=>match j7 E.P true E.nt ops pre with|some xs=>Gw E.yl E.Γ E.dy xs F S fun F' S'=>pncW E F' S' o|none=>False
     | none=>match j7 E.P true E.nt ops ops.toList with|some xs=>Gw E.yl E.Γ E.dy xs F S fun F' S'=>ih (.up rp .normal F' S')|none=>False
 | .region _ ops true=>match j7 E.P false E.nt ops ops.toList with
   | some xs=>match E.yl with
     | true=>Si E.Γ ops xs F S fun F' S'=>ih (.up rp .normal F' S')
     | false=>R8 E.Γ ops xs F S fun F' S'=>ih (.up rp .normal F' S')
   | none=>False
 | .seq a _=>ih (.code a (0::rp) F S)
 | .cond x a b=>condW ih x a b rp F S
 | .block _ b=>ih (.code b (0::rp) F S)
 | .scope b=>ih (.code b (0::rp) F S)
 | .loop _=>atL E rp F S
 | .exit id=>ih (.up rp (.exit id) F S)
 | .ret=>ih (.up rp .ret F S)
 | .rangeFunc _ _ _ _=>match canon E.ay (E.aj rp) F S with|some (F',S')=>E.qL rp F' S'|none=>False
 | _=>False
def X.inBlock(id:Nat):X->X
 | .exit i=>bif acR i id then .normal else .exit i
 | x=>x
def upW(E:Env)(ih:Task->Prop)(rp:List Nat)(x:X)(F:Fr)(S:ak):Prop :=
 match rp with
 | []=>E.fin x F S
 | d :: rp => match fY E.bO rp with
   | some (.seq _ b)=>match d with
     | 0=>match x with | .normal=>ih (.code b (1::rp) F S)|x=>ih (.up rp x F S)
     | _=>ih (.up rp x F S)
   | some (.cond _ _ _)=>ih (.up rp x F S)
   | some (.block id _)=>ih (.up rp (X.inBlock id x) F S)
   | some (.scope _)=>ih (.up rp x F S)
   | some (.loop _)=>match x with | .normal=>atL E rp F S|x=>ih (.up rp x F S)
   | _=>False
def stepW(E:Env)(ih:Task->Prop)(t:Task):Prop :=
 match t with
 | .code c rp F S=>Sk E ih c rp F S
 | .up rp x F S=>upW E ih rp x F S
def wk(E:Env)(n:Nat):Task->Prop:=Nat.rec (fun _=>False) (fun _ ih=>stepW E ih) n
theorem wk_succ(E:Env)(n:Nat):wk E (n+1)=stepW E (wk E n):=rfl
structure Sound(E:Env)(C:Ctx)(Fc:Fence)(Q:Post)(D:Act->World->Prop):Prop where
 ay:E.ay=C.ay
 EV:bt E.P E.Γ
 know:nX E.P C
 hand:E.yl=true->Hand E.P C
 wf:WF Fc
 dst:∀(a a':Act)(w w':World),Calm E.yl w w'->a'.defers=a.defers->D a w->D a' w'
 BO:∀(a:Act) (w:World) d,yD E.uj d->D a w->Fc.round=none/\D { a with defers:=d::a.defers } w
 dies:∀ x∈E.dies,j9 E.P x.1 x.2
 tl:∀ f m,E.tlf=some (f,m)->Fc.round=none/\∀ rp F S,E.tlp rp F S->∀ η Z w a (cs:List Value),Inv C η Z S w->bD E.nt η Z F a.tmps->D a w->bp (ic η) (u6 m) cs->kp E.P Fc E.bO Q rp .normal { a with defers:={ target:=.fn (.func f) cs.toArray,args:=#[] }::a.defers } w
 sx:∀ u F S,E.pn u F S->∀ η Z w a,Inv C η Z S w->bD E.nt η Z F a.tmps->D a w->Q (Dx u) a w
 zA:∀ rp b F S,fY E.bO rp=some (.loop b)->E.zA rp F S->∀ η Z w a,Inv C η Z S w->bD E.nt η Z F a.tmps->D a w->ul E.P Fc b (kp E.P Fc E.bO Q rp) a w
 qL:∀ rp g ps assign body F S,fY E.bO rp=some (.rangeFunc g ps assign body)->E.qL rp F S->∀ η Z w a,Inv C η Z S w->bD E.nt η Z F a.tmps->D a w->(Code.rangeFunc g ps assign body).wpIn Fc 0 E.P (kp E.P Fc E.bO Q rp) a w
 fin:∀ x F S,E.fin x F S->∀ η Z w a,Inv C η Z S w->bD E.nt η Z F a.tmps->D a w->Q x.toExit a w
theorem VW{E:Env}{C:Ctx}{Fc:Fence}{Q:Post}{D:Act->World->Prop}(H:Sound E C Fc Q D){rp:List Nat}{b:Code}{F:Fr}{S:ak}(hs:fY E.bO rp=some (.loop b))(h:atL E rp F S){η:Eta}{Z:aF}{w:World}{a:Act}(I:Inv C η Z S w)(FR:bD E.nt η Z F a.tmps)(hD:D a w):ul E.P Fc b (kp E.P Fc E.bO Q rp) a w:=by
 unfold atL at h;rw[H.ay] at h;split at h;rename_i c F1 S1 hfz;split at h;rename_i F' S' he;obtain⟨hc,h⟩:=iN h;obtain⟨Z1,I1,sj⟩:=Gz I FR hfz hc;obtain⟨aI,I',lW,_⟩:=Dw I1 sj he;exact H.zA rp b F' S' hs h aI Z1 w a I' lW hD;exact h.elim;exact h.elim
theorem LC{nt:Nat}{η:Eta}{Z:aF}{F:Fr}{a:Act}(FR:bD nt η Z F a.tmps){x':Operand}{x:cj}(hx:cw x'=some x){b:Bool}(h:a.eval x'=.bool b)(hp:∀ t,x=.tmp t->∃ y,F.get t=some y):bD nt η Z (fw F x b) a.tmps:=by
 unfold fw;split;rename_i t;have hx':x'=.tmp t:=by
  cases x' with
  | tmp t'=>cases hx;rfl
  | const u=>simp only[cw] at hx;split at hx<;>cases hx
  | global g=>cases hx
  | func f=>cases hx
 subst hx';refine⟨FR.1,fun i y e=>?_⟩;rw[T.pJ] at e;by_cases hi:i=t;subst hi;rw[if_pos rfl] at e;cases e;obtain⟨z,hz⟩:=hp i rfl;obtain⟨v,hv,_⟩:=FR.2 i z hz;refine⟨v,hv,?_⟩;have:a.eval (.tmp i)=v:=by simp[Act.eval,Array.getD_eq_getD_getElem?,hv]
 rw[this] at h;exact h;rw[if_neg hi] at e;exact FR.2 i y e;exact FR
theorem idx_ops(ops:Array Oper):(acP ops.size).map (fun i=>ops[i]?)=ops.toList.map some:=by
 apply ada;intro i;simp only[adb,acX];by_cases hi:i<ops.size;simp[hi];simp[hi]
theorem tw{E : Env}{C : Ctx}{Fc : Fence}{Q : Post}{D : Act → World → Prop}(H : Sound E C Fc Q D) : ∀ n,
 (∀ c rp F S,wk E n (.code c rp F S)->fY E.bO rp=some c->∀ η Z w a,Inv C η Z S w->bD E.nt η Z F a.tmps->D a w->c.wpIn Fc 0 E.P (kp E.P Fc E.bO Q rp) a w)/\
 (∀ rp x F S,wk E n (.up rp x F S)->∀ η Z w a,Inv C η Z S w->bD E.nt η Z F a.tmps->D a w->kp E.P Fc E.bO Q rp x.toExit a w)
 | 0=>⟨fun _ _ _ _ h=>h.elim,fun _ _ _ _ h=>h.elim⟩
 | n + 1 => by
   obtain⟨IB,sU⟩:=tw H n;rw[wk_succ];refine⟨?_,?_⟩
   · intro c rp F S h hs η Z w a I FR hD
     replace h:Sk E (wk E n) c rp F S:=h;unfold Sk at h;split at h;exact wpIn_skip (sU rp .normal F S h η Z w a I FR hD);exact wpIn_label (sU rp .normal F S h η Z w a I FR hD);rename_i id ops;split at h;rename_i pre o hsp;have hl:=Iw hsp;split at h
     . rename_i xs hxs;have hsz:ops.size=pre.length+1:=by
        have:=congrArg adz hl;simpa using this
       have hidx:(acP pre.length).map (fun i=>ops[i]?)=pre.map some:=by
        apply ada;intro i;simp only[adb];by_cases hi:i<pre.length;have h1:ops[i]? = pre[i]?:=by
         rw[<-acX,hl,ac4 hi]
        simp[hi,h1];simp[hi]
       have hlast:ops[pre.length]? = some o:=by
        rw[<-acX,hl];simp
       refine wpIn_region ?_;have hr:acP ops.size=acP pre.length++[pre.length]:=by rw[hsz,adu]
       rw[hr];refine yC H.EV H.know (D:=E.dy) H.dies H.hand H.wf hxs hidx I FR h (fun u F' S' aI Z' a' w' hp I' cm lW hd=>Aw (H.sx u F' S' hp aI Z' w' a' I' lW (H.dst a a' w w' cm hd hD)) hs) ?_;intro F' S' aI Z' a' w' hk _ _ I' cm lW hd;unfold dfrT at hk;split at hk
       rotate_left
       rename_i f m htl;split at hk;rename_i p g caps he;obtain⟨hb,hk2⟩:=bifP hk;clear hk;simp only[acT,acW] at hb;obtain⟨rfl,hcap⟩:=hb;have hcap:=Iz hcap;subst hcap;obtain⟨hc,hk⟩:=iN hk2;obtain⟨hro,ht⟩:=H.tl g m htl;refine dfrC_ok lW hlast he hc H.wf hro fun cs hcs=>?_;exact ht rp F' S' hk aI Z' w' a' cs I' lW (H.dst a a' w w' cm hd hD) hcs;exact hk.elim;unfold dfrW at hk;split at hk;rename_i p f n he;obtain⟨hm,hk⟩:=bifP hk;obtain⟨hc,hk⟩:=iN hk;have hDa:=H.dst a a' w w' cm hd hD;have hin:∀ d,yD [(f,n)] d->yD E.uj d:=by
        rintro d ⟨f',cs,args,rfl,hmem⟩;refine⟨f',cs,args,rfl,?_⟩;rw[adn] at hmem;rw[hmem];exact LB hm
       have hro:Fc.round=none:=(H.BO a' w' { target:=.fn (.func f) #[],args:=(List.replicate n undef).toArray } (hin _ ⟨f,#[],_,rfl,by simp⟩) hDa).1;refine dfrE_ok lW hlast he hc H.wf hro ?_;intro d hd';exact sU rp .normal F' S' hk aI Z' w' { a' with defers:=d::a'.defers } I' lW (H.BO a' w' d (hin d hd') hDa).2;exact hk.elim
     exact h.elim
     · split at h
       rename_i pre o hsp;have hl:=Iy hsp;split at h;rename_i xs hxs;have hsz:ops.size=pre.length+1:=by
        have:=congrArg adz hl;simpa using this
       have hidx:(acP pre.length).map (fun i=>ops[i]?)=pre.map some:=by
        apply ada;intro i;simp only[adb];by_cases hi:i<pre.length;have h1:ops[i]? = pre[i]?:=by
         rw[<-acX,hl,ac4 hi]
        simp[hi,h1];simp[hi]
       have hlast:ops[pre.length]? = some o:=by
        rw[<-acX,hl];simp
       refine wpIn_region ?_;have hr:acP ops.size=acP pre.length++[pre.length]:=by rw[hsz,adu]
       rw[hr];refine yC H.EV H.know (D:=E.dy) H.dies H.hand H.wf hxs hidx I FR h (fun u F' S' aI Z' a' w' hp I' cm lW hd=>Aw (H.sx u F' S' hp aI Z' w' a' I' lW (H.dst a a' w w' cm hd hD)) hs) ?_;intro F' S' aI Z' a' w' hk _ _ I' cm lW hd;unfold pncW at hk;split at hk;rename_i p u he;obtain⟨hc,hk⟩:=iN hk;exact pncE_ok lW hlast he hc H.wf (Aw (H.sx u F' S' hk aI Z' w' a' I' lW (H.dst a a' w w' cm hd hD)) hs);exact hk.elim;exact h.elim;split at h;rename_i xs hxs;refine wpIn_region (opsW_ok H.EV H.know (D:=E.dy) H.dies H.hand H.wf hxs (idx_ops ops) I FR h (fun u F' S' aI Z' a' w' hp I' cm lW hd=>Aw (H.sx u F' S' hp aI Z' w' a' I' lW (H.dst a a' w w' cm hd hD)) hs) ?_);intro F' S' aI Z' a' w' hk _ _ I' cm lW hd;exact sU rp .normal F' S' hk aI Z' w' a' I' lW (H.dst a a' w w' cm hd hD);exact h.elim
     rename_i id ops;split at h;rename_i xs hxs;split at h;rename_i IE;refine ZO H.EV H.know (H.hand IE) hxs h H.wf I FR ?_;intro F' S' aI Z' a' w' hk I' lW hd;exact sU rp .normal F' S' hk aI Z' w' a' I' lW (H.dst a a' w w' (fun hh=>by rw[IE] at hh;cases hh) hd hD);refine ZH H.EV hxs h H.wf (H.know _ _ _ _ I.rel) I.st FR ?_;intro F' S' aI Z' a' w' hk mv lW hd;exact sU rp .normal F' S' hk aI Z' w' a' (I.moves mv) lW (H.dst a a' w w' (mv.calm I.st _) hd hD);exact h.elim;rename_i c1 c2;have hs1:fY E.bO (0::rp)=some c1:=by simp[fY,hs,child]
     have:=IB c1 (0::rp) F S h hs1 η Z w a I FR hD;refine wpIn_seq ?_;simpa only[kp,hs] using this;rename_i x c1 c2;have hs1:fY E.bO (0::rp)=some c1:=by simp[fY,hs,child]
     have hs2:fY E.bO (1::rp)=some c2:=by simp[fY,hs,child]
     unfold condW at h;split at h;rename_i x' hx;split at h;rename_i hk;have:=IB c1 (0::rp) F S h hs1 η Z w a I FR hD;exact wpIn_cond_true (uZ FR hx hk) (by simpa only[kp,hs] using this);rename_i hk;have:=IB c2 (1::rp) F S h hs2 η Z w a I FR hD;exact wpIn_cond_false (uZ FR hx hk) (by simpa only[kp,hs] using this);split at h
     . rename_i c t ht;obtain⟨hc,h1,h2⟩:=iN h;have hev:=nR FR hx ht hc;have hp:∀ t',x'=.tmp t'->∃ y,F.get t'=some y:=by
        rintro t' rfl;cases hg:F.get t' with
        | some y=>exact⟨y,rfl⟩
        | none=>simp[wK,oC,hg] at ht
       cases t with
       | true =>
         have:=IB c1 (0::rp) _ S (h1 rfl) hs1 η Z w a I (LC FR hx hev hp) hD;exact wpIn_cond_true hev (by simpa only[kp,hs] using this)
       | false =>
         have:=IB c2 (1::rp) _ S (h2 rfl) hs2 η Z w a I (LC FR hx hev hp) hD;exact wpIn_cond_false hev (by simpa only[kp,hs] using this)
     exact h.elim;exact h.elim;rename_i id b;have hs1:fY E.bO (0::rp)=some b:=by simp[fY,hs,child]
     have:=IB b (0::rp) F S h hs1 η Z w a I FR hD;exact wpIn_block (by simpa only[kp,hs] using this);rename_i b;have hs1:fY E.bO (0::rp)=some b:=by simp[fY,hs,child]
     have:=IB b (0::rp) F S h hs1 η Z w a I FR hD;exact aC.Rq (by simpa only[kp,hs] using this);rename_i b;exact wpIn_loop' (VW H hs h I FR hD);rename_i id;exact wpIn_exit (sU rp (.exit id) F S h η Z w a I FR hD);exact wpIn_ret (sU rp .ret F S h η Z w a I FR hD);rename_i g ps assign body;rw[H.ay] at h;split at h;rename_i F' S' he;obtain⟨aI,I',lW,_⟩:=Dw I FR he;exact H.qL rp g ps assign body F' S' hs h aI Z w a I' lW hD;exact h.elim;exact h.elim
   · intro rp x F S h η Z w a I FR hD
     replace h:upW E (wk E n) rp x F S:=h;unfold upW at h;cases rp with
     | nil=>exact H.fin x F S h η Z w a I FR hD
     | cons d rp =>
       simp only at h;cases hs:fY E.bO rp with
       | none=>rw[hs] at h;exact h.elim
       | some c =>
         rw[hs] at h;simp only[kp,hs];cases c with
         | seq c1 c2 =>
           cases d with
           | zero =>
             have hs2:fY E.bO (1::rp)=some c2:=by simp[fY,hs,child]
             simp only at h ⊢;cases x with
             | normal =>
               have:=IB c2 (1::rp) F S h hs2 η Z w a I FR hD;simpa only[kp,hs,X.toExit,Exit.then] using this
             | exit id=>exact sU rp _ F S h η Z w a I FR hD
             | ret=>exact sU rp _ F S h η Z w a I FR hD
           | succ d=>exact sU rp x F S h η Z w a I FR hD
         | cond _ _ _=>exact sU rp x F S h η Z w a I FR hD
         | block id b =>
           have:=sU rp _ F S h η Z w a I FR hD;cases x with
           | normal=>exact this
           | ret=>exact this
           | exit i =>
             simp only[X.inBlock] at this;simp only[X.toExit,Exit.inBlock];by_cases hi:i=id;subst hi;have hb:acR i i=true:=by simp
             rw[hb] at this;simp only[if_true];exact this;have hb:acR i id=false:=by
              cases hh:acR i id with
              | false=>rfl
              | true=>exact absurd (adg hh) hi
             rw[hb] at this;simp only[hi,if_false];exact this
         | scope b =>
           have:=sU rp x F S h η Z w a I FR hD;cases x with
           | normal=>exact this
           | ret=>exact this
           | exit i=>exact this
         | loop b =>
           simp only at h;cases x with
           | normal=>exact VW H hs h I FR hD
           | exit id=>exact sU rp _ F S h η Z w a I FR hD
           | ret=>exact sU rp _ F S h η Z w a I FR hD
         | _=>exact h.elim
def ZP(P:Program):ResultVar->Option Q
 | .tmp t=>some (.move (.tmp t))
 | .cell a t=>match uR P (.load t (.tmp a)) with|some (.load d x)=>some (.load d x)|some (.uP n x)=>some (.uP n x)|_=>none
def EW(P:Program)(S:ak)(v:V)(t:TypeId):V×ak :=
 match v with
 | .c .nil=>match P.underlying t with
   | some (.slice el)=>match wQ P 4 el with
     | some d=>(.c (.sl S.next 0 0 1),S.add ⟨el,[.a 0 d []]⟩)
     | none=>(v,S)
   | _=>(v,S)
 | v=>(v,S)
def um(P:Program)(F:Fr):List ResultVar->List TypeId->ak->Option (Cd×List V×ak)
 | r :: rs, t :: ts, S => match ZP P r with
   | some q=>match eu F S q with
     | some (c,v)=>match EW P S v t with
       | (v',S1)=>match um P F rs ts S1 with
         | some (c',vs,S2)=>some (.and c c',v'::vs,S2)
         | none=>none
     | none=>none
   | none=>none
 | [],_,S=>some (.t,[],S)
 | _::_,[],_=>none
def aE:List V->A
 | [v]=>.p v
 | vs=>.aL vs
section
variable {P:Program} {base nt:Nat} {η:Eta} {Z:aF} {S:ak} {w:World} {F:Fr}
theorem VX{v:V}{t:TypeId}{u:Value}(R:St base η Z S w)(h:dP η Z v u):bX base η Z S w η Z (EW P S v t).2 w/\dP η Z (EW P S v t).1 u:=by
 unfold EW;split;split;split;refine⟨R.o5 (by rw[iI];rfl),by simp,.inl ⟨rfl,h.2.nil_eq⟩⟩;exact⟨bX.refl R,h⟩;exact⟨bX.refl R,h⟩;exact⟨bX.refl R,h⟩
theorem ZQ{s:Sem Value}{v:V}(h:cE P η Z w (do pure (Next.value (<-s))) v):∃ u,s.run P w=.ok u w/\dP η Z v u:=by
 obtain⟨u,h1,h2⟩:=h;simp only[Sem.run_bind,Sem.run_pure] at h1;cases hs:s.run P w with
 | ok u' w' =>
   rw[hs] at h1;simp only[Result.andThen_ok] at h1;cases h1;exact⟨u,rfl,h2⟩
 | halt hh w'=>rw[hs] at h1;cases h1
theorem ZR{a : Act}(FR : bD nt η Z F a.tmps){x' : Operand}{x : cj}(hx : cw x' = some x){c : Cd}{v : V}{q : Q}(hq : (∃ d, q = .load d x) ∨ ∃ n, q = .uP n x)(e : eu F S q = some (c, v))(hc : c) : ∃ ad, a.eval x' = .pointer (some ad) := by
 rcases hq with ⟨d,rfl⟩|⟨n,rfl⟩
 · simp only[eu] at e
   split at e;rename_i p m off hv;have hp:Cd.holds p:=by
    split at e;split at e;obtain⟨_,e⟩:=aC.aK e;cases e;exact hc.1;cases e;exact hc.1;cases e;cases e
   obtain⟨_,pl,_,hev⟩:=aO FR hx hv hp;exact⟨_,hev⟩;rename_i p m i j hv;have hp:Cd.holds p:=by
    split at e;cases e;exact hc.1;cases e
   obtain⟨_,pl,r0,_,_,hev⟩:=aO FR hx hv hp;exact⟨_,hev⟩;rename_i p m off i hv;have hp:Cd.holds p:=by
    split at e;obtain⟨_,e1⟩:=aC.aK e;cases e1;exact hc.1;split at e;split at e;obtain⟨_,e1⟩:=aC.aK e;cases e1;exact hc.1;split at e;cases e;exact hc.1;cases e;exact hc.1;cases e;cases e
   obtain⟨_,pl,_,hev⟩:=aO FR hx hv hp;exact⟨_,hev⟩;rename_i p cs off hv;cases e;obtain⟨b,o,cells,hu,_⟩:=(aO FR hx hv hc.1).2.rp;exact⟨_,hu⟩;rename_i p e' l i hv;cases e;obtain⟨b,o,cells,hu,_⟩:=(aO FR hx hv hc.1).2.re;exact⟨_,hu⟩;cases e
 simp only[eu] at e;split at e;rename_i p m off hv;have hp:Cd.holds p:=by
  split at e;obtain⟨_,e⟩:=aC.aK e;cases e;exact hc;cases e
 obtain⟨_,pl,_,hev⟩:=aO FR hx hv hp;exact⟨_,hev⟩;rename_i p cs off hv;cases e;obtain⟨b,o,cells,hu,_⟩:=(aO FR hx hv hc.1).2.rp;exact⟨_,hu⟩;cases e
theorem LD{a:Act}(FR:bD nt η Z F a.tmps){g:ResultVar->Sem Value}(g1:∀ t,g (.tmp t)=Pure.pure (a.tmps.getD t undef))(g2:∀ b t,g (.cell b t)=do loadVar t (<-asAddr (a.tmps.getD b undef))):∀{l:List ResultVar}{ts:List TypeId}{S S':ak}{c:Cd}{vs:List V},St base η Z S w->um P F l ts S=some (c,vs,S')->c->
 ∃ us,(l.mapM g:Sem (List Value)).run P w=.ok us w/\bp (dP η Z) vs us/\bX base η Z S w η Z S' w
 | [],ts,S,S',c,vs,R,e,_=>by
   simp only[um] at e;cases e;exact⟨[],by simp,trivial,bX.refl R⟩
 | r::l,[],S,S',c,vs,R,e,_=>by simp only[um] at e;cases e
 | r :: l, t :: ts, S, S', c, vs, R, e, hc => by
   simp only[um] at e;split at e;rename_i q hq;split at e;rename_i c1 v hv;split at e;rename_i c2 w6 S2 hrest;cases e;have key:∃ u,(g r).run P w=.ok u w/\dP η Z v u:=by
    cases r with
    | tmp t' =>
      simp only[ZP] at hq;cases hq;have:=fk (a:=a) FR (x':=.tmp t') (x:=.tmp t') rfl hv hc.1;exact⟨a.eval (.tmp t'),by rw[g1];rfl,this⟩
    | cell b t' =>
      simp only[ZP] at hq;have hld:uR P (.load t' (.tmp b))=some q/\((∃ d,q=.load d (.tmp b))∨∃ n,q=.uP n (.tmp b)):=by
       split at hq;rename_i d x hh;cases hq;refine⟨hh,.inl ⟨d,?_⟩⟩;simp only[uR,cw] at hh;split at hh;rename_i hx;obtain⟨d',_,e2⟩:=map_some hh;cases hx;cases e2;rfl;obtain⟨d',_,e2⟩:=map_some hh;cases e2;cases hh;rename_i m x hh;cases hq;refine⟨hh,.inr ⟨m,?_⟩⟩;simp only[uR,cw] at hh;split at hh;obtain⟨d',_,e2⟩:=map_some hh;cases e2;rename_i hx;obtain⟨d',_,e2⟩:=map_some hh;cases hx;cases e2;rfl;cases hh;cases hq
      obtain⟨ad,had⟩:=ZR (a:=a) FR (x':=.tmp b) (x:=.tmp b) rfl hld.2 hv hc.1;have hs:=Vc (P:=P) (o:={ dst:=none,op:=.load t' (.tmp b),type:=0,pos := "",after:=#[],guard:=none }) R FR hld.1 hv hc.1;have hs':cE P η Z w (do pure (Next.value (<-Instr.loadAt t' (a.eval (.tmp b))))) v:=hs;obtain⟨u,hu,hr⟩:=ZQ hs';refine⟨u,?_,hr⟩;rw[g2];have hgd:a.tmps.getD b undef=.pointer (some ad):=by simpa[Act.eval] using had
      rw[had] at hu;have xX:(loadVar t' ad).run P w=.ok u w:=by simpa[Instr.loadAt,Instr.sureAddr] using hu
      rw[hgd];simp only[Sem.run_bind];have:(asAddr (.pointer (some ad))).run P w=.ok ad w:=rfl;rw[this];simpa using xX
   obtain⟨u,hu,hr⟩:=key;obtain⟨mv,hr'⟩:=VX (P:=P) (t:=t) R hr;obtain⟨us,zO,hl,iE⟩:=LD FR g1 g2 mv.st hrest hc.2;exact⟨u::us,by simp only[List.mapM_cons,Sem.run_bind,hu,Sem.run_pure,Result.andThen_ok,zO],⟨hr',hl⟩,mv.trans iE⟩;cases e;cases e;cases e
theorem VY{vs:List V}{us:List Value}(h:bp (dP η Z) vs us):cN η Z (aE vs) (if hh:us.toArray.size=1 then us.toArray[0] else .tuple us.toArray):=by
 cases vs with
 | nil=>cases us with|nil=>exact⟨[],by simp,trivial⟩|cons _ _=>exact h.elim
 | cons v vs =>
   cases us with
   | nil=>exact h.elim
   | cons u us =>
     cases vs with
     | nil =>
       cases us with
       | nil=>simpa[aE,cN] using h.1
       | cons _ _=>exact h.2.elim
     | cons v' vs =>
       cases us with
       | nil=>exact h.2.elim
       | cons u' us =>
         refine⟨u::u'::us,?_,h⟩;simp
end
def u7(d:D):ak->List W->Option (Cd×List W×ak)
 | S,[]=>some (.t,[],S)
 | S,x::l=>match x with
   | .sl m off len sz=>match sS S d (.sl m off len sz) with
     | some (c,y,S1)=>match u7 d S1 l with|some (c',r,S')=>some (.and c c',d.w y::r,S')|none=>none
     | none=>none
   | .nil=>match sS S d .nil with
     | some (c,y,S1)=>match u7 d S1 l with|some (c',r,S')=>some (.and c c',d.w y::r,S')|none=>none
     | none=>none
   | x=>match u7 d S l with|some (c',r,S')=>some (c',x::r,S')|none=>none
def mG(S:ak):List (Option D)->List V->Option (Cd×List V×ak)
 | [],vs=>some (.t,vs,S)
 | _::_,[]=>none
 | none::ds,v::vs=>match mG S ds vs with|some (c,r,S')=>some (c,v::r,S')|none=>none
 | some d::ds,v::vs=>match v with
   | .c x=>match sS S d x with
     | some (c,y,S1)=>match mG S1 ds vs with|some (c',r,S')=>some (.and c c',.c (d.w y)::r,S')|none=>none
     | none=>none
   | .agg cs=>match u7 d S cs with
     | some (c,ys,S1)=>match mG S1 ds vs with|some (c',r,S')=>some (.and c c',.agg ys::r,S')|none=>none
     | none=>none
theorem DA{base:Nat}{η:Eta}{w:World}{d:D}:∀{cs r:List W}{us:List Value}{Z:aF}{S S':ak}{c:Cd},St base η Z S w->bp (aJ η Z) cs us->(∀ x∈cs,x≠.cL)->u7 d S cs=some (c,r,S')->c->∃ Z',bX base η Z S w η Z' S' w/\bp (aJ η Z') r us/\∀ x∈r,x≠.cL
 | [],r,us,Z,S,S',c,R,h,_,e,_=>by simp only[u7] at e;cases e;exact⟨Z,bX.refl R,h,by simp⟩
 | x :: l, r, us, Z, S, S', c, R, h, hd, e, hc => by
   cases us with
   | nil=>exact h.elim
   | cons u us =>
     have one:∀{x':W}{c1 c':Cd}{y:d.ty}{S1:ak}{r':List W},x=x'->sS S d x'=some (c1,y,S1)->u7 d S1 l=some (c',r',S')->c1->c'->r=d.w y::r'->∃ Z',bX base η Z S w η Z' S' w/\bp (aJ η Z') r (u::us)/\∀ x∈r,x≠.cL:=by
      rintro x' c1 c' y S1 r' rfl hf hr h1 h2 rfl;obtain⟨Z1,mv,hdr,_⟩:=mD R hf h1 h.1;obtain⟨Z2,iE,hl,hd2⟩:=DA mv.st (h.2.mono fun _ _=>aJ.mono (Eta.le.refl _) mv.step.cZ) (fun x hx=>hd x (acY _ hx)) hr h2;refine⟨Z2,mv.trans iE,⟨aJ.mono (Eta.le.refl _) iE.step.cZ ((D.gN d).2 hdr),hl⟩,?_⟩;intro z hz;rcases List.mem_cons.1 hz with rfl|hz;exact D.jA _ _;exact hd2 z hz
     simp only[u7] at e;split at e;split at e;rename_i c1 y S1 hf;split at e;rename_i c' r' S2 hr;cases e;exact one rfl hf hr hc.1 hc.2 rfl;cases e;cases e;split at e;rename_i c1 y S1 hf;split at e;rename_i c' r' S2 hr;cases e;exact one rfl hf hr hc.1 hc.2 rfl;cases e;cases e;split at e;rename_i c' r' S2 hr;cases e;obtain⟨Z2,iE,hl,hd2⟩:=DA R h.2 (fun x hx=>hd x (acY _ hx)) hr hc;refine⟨Z2,iE,⟨aJ.mono (Eta.le.refl _) iE.step.cZ h.1,hl⟩,?_⟩;intro z hz;rcases List.mem_cons.1 hz with rfl|hz;exact hd _ (by simp);exact hd2 z hz;cases e
theorem yE{base : Nat}{η : Eta}{w : World} : ∀{ds : List (Option D)}{vs r : List V}{us : List Value}{Z : aF}{S S' : ak}{c : Cd}, St base η Z S w → bp (dP η Z) vs us → mG S ds vs = some (c, r, S') → c → ∃ Z', bX base η Z S w η Z' S' w ∧ bp (dP η Z') r us
 | [],vs,r,us,Z,S,S',c,R,h,e,_=>by simp only[mG] at e;cases e;exact⟨Z,bX.refl R,h⟩
 | none::ds,v::vs,r,us,Z,S,S',c,R,h,e,hc=>by
   simp only[mG] at e;cases us with
   | nil=>exact h.elim
   | cons u us =>
     split at e;rename_i c' r' S1 hr;cases e;obtain⟨Z',mv,hl⟩:=yE R h.2 hr hc;exact⟨Z',mv,h.1.mono (Eta.le.refl _) mv.step.cZ,hl⟩;cases e
 | some d::ds,v::vs,r,us,Z,S,S',c,R,h,e,hc=>by
   simp only[mG] at e;cases us with
   | nil=>exact h.elim
   | cons u us =>
     split at e;split at e;rename_i c1 y S1 hf;split at e;rename_i c' r' S2 hr;cases e;obtain⟨Z1,mv,hd,_⟩:=mD R hf hc.1 h.1.2;obtain⟨Z2,iE,hl⟩:=yE mv.st (h.2.mono fun _ _=>dP.mono (Eta.le.refl _) mv.step.cZ) hr hc.2;exact⟨Z2,mv.trans iE,⟨D.jA _ _,aJ.mono (Eta.le.refl _) iE.step.cZ ((D.gN d).2 hd)⟩,hl⟩;cases e;cases e;split at e;rename_i c1 ys S1 hf;split at e;rename_i c' r' S2 hr;cases e;obtain⟨ws,hu,hd,hl0⟩:=h.1;obtain⟨Z1,mv,hl1,hd1⟩:=DA R hl0 hd hf hc.1;obtain⟨Z2,iE,hl⟩:=yE mv.st (h.2.mono fun _ _=>dP.mono (Eta.le.refl _) mv.step.cZ) hr hc.2;exact⟨Z2,mv.trans iE,⟨ws,hu,hd1,hl1.mono fun _ _=>aJ.mono (Eta.le.refl _) iE.step.cZ⟩,hl⟩;cases e;cases e
 | none::_,[],_,_,_,_,_,_,_,_,e,_=>by simp[mG] at e
 | some _::_,[],_,_,_,_,_,_,_,_,e,_=>by simp[mG] at e
structure BP(P:Program)(f:FuncId)(n:Nat):Prop where
 ent:enters P f=true
 go:∀(vs:Array Value)(w:World),vs.size=n->CallsDIn Fence.wide 0 P f vs .returning w fun e u' w'=>e=.returned (.tuple #[])/\u'=.returning/\Below w.heap.size w w'
def caps0(k:Nat):List A:=(u6 k).map fun x=>.p (.c (.ptr x.1 x.2))
structure LF(P:Program)(f:FuncId)(k:Nat)(got:Value->List Ob->Option (Cd×List Ob)):Prop where
 ent:enters P f=true
 idle:∀ base η Z w (vs:List Value),St base η Z (.ofList []) w->jf P Z->vs.length=k->(∀ v∈vs,v.oneCell'=true)->CallsDIn Fence.wide 0 P f vs.toArray .returning w fun e md w'=>(∃ v,e=.returned v)/\md=.returning/\Below w.heap.size w w'
 got:∀ u au c bg,got u au=some (c,bg)->c->au.length=k->∀ base η Z w vs,St base η Z (.ofList au) w->bp (cN η Z) (caps0 k) vs->jf P Z->CallsDIn Fence.wide 0 P f vs.toArray (.panicking [{ v:=u,recovered:=false }]) w fun e md w'=>(∃ v,e=.returned v)/\md=.panicking [{ v:=u,recovered:=true }]/\∃ aI Z',iF k base η Z (.ofList au) w aI Z' (.ofList bg) w'
structure EX(P:Program) where
 f:FuncId
 k:Nat
 got:Value->List Ob->Option (Cd×List Ob)
 ok:LF P f k got
structure bJ where
 P:Program
 Γ:bW
 fn:Func
 bO:Code
 ay:Nat
 aj:List Nat->List Nat
 yl:Bool:=false
 cx:List Nat->List (Nat×D):=fun _=>[]
 fz:List (Option D):=[]
 uj:List { x:FuncId×Nat // BP P x.1 x.2 }:=[]
 dies:List { x:FuncId×kH // j9 P x.1 x.2 }:=[]
 sx:Value->Prop:=fun _=>False
 tail:Option (EX P):=none
def bJ.Sl(s:bJ):List (FuncId×kH):=s.dies.map (·.1)
theorem bJ.PX(s:bJ):∀ x∈s.Sl,j9 s.P x.1 x.2:=by
 intro x h;unfold bJ.Sl at h;obtain⟨y,_,rfl⟩:=List.mem_map.1 h;exact y.2
def bJ.pnc(s:bJ)(u:Value):Prop:=match s.yl,s.uj with
 | false,[]=>s.sx u
 | _,_=>False
def bJ.dl(s:bJ):List (FuncId×Nat):=s.uj.map (·.1)
theorem bJ.dl_ok(s:bJ){x:FuncId×Nat}(h:x∈s.dl):BP s.P x.1 x.2:=by
 unfold bJ.dl at h;obtain⟨y,_,rfl⟩:=List.mem_map.1 h;exact y.2
def Marks(lo:Nat)(w:World)(ds:List Deferred):Prop:=∃ bs:List Nat,ds=bs.map (fun b=>({ target:=.collected b,args:=#[] }:Deferred))/\bs.Nodup/\∀ b∈bs,lo<=b/\w.heap[b]? = some (.deferred (some []))
theorem Marks.nil(lo:Nat)(w:World):Marks lo w []:=⟨[],rfl,by simp,by simp⟩
def Sn(yl:Bool)(lo:Nat)(a:Act)(w:World):Prop:=Marks lo w a.defers/\(yl=true->a.defers=[])
theorem Sn.calm{yl:Bool}{lo:Nat}{a a':Act}{w w':World}(cm:Calm yl w w')(hd:a'.defers=a.defers)(h:Sn yl lo a w):Sn yl lo a' w':=by
 refine⟨?_,fun hy=>hd.trans (h.2 hy)⟩;rw[hd];cases yl with
 | true=>rw[h.2 rfl];exact Marks.nil _ _
 | false =>
   obtain⟨bs,h1,h2,h3⟩:=h.1;exact⟨bs,h1,h2,fun b hb=>⟨(h3 b hb).1,cm rfl b _ (h3 b hb).2 rfl⟩⟩
def qM(yl:Bool)(dl:List (FuncId×Nat))(lo:Nat)(a:Act)(w:World):Prop:=(dl=[]->Sn yl lo a w)/\(dl≠[]->∀ d∈a.defers,yD dl d)
theorem qM.start(yl:Bool)(dl:List (FuncId×Nat))(lo:Nat)(tmps:Array Value)(w:World):qM yl dl lo { tmps,defers:=[] } w:=⟨fun _=>⟨Marks.nil _ _,fun _=>rfl⟩,fun _ d hd=>by cases hd⟩
theorem qM.calm{yl:Bool}{dl:List (FuncId×Nat)}{lo:Nat}{a a':Act}{w w':World}(cm:Calm yl w w')(hd:a'.defers=a.defers)(h:qM yl dl lo a w):qM yl dl lo a' w' :=
 ⟨fun e=>(h.1 e).calm cm hd,fun e d hd'=>h.2 e d (hd▸hd')⟩
theorem qM.push{yl:Bool}{dl:List (FuncId×Nat)}{lo:Nat}{a:Act}{w:World}{d:Deferred}(hd:yD dl d)(h:qM yl dl lo a w):qM yl dl lo { a with defers:=d::a.defers } w:=by
 refine⟨fun e=>?_,fun e d' hd'=>?_⟩;subst e;obtain⟨_,_,_,_,hm⟩:=hd;cases hm;rcases List.mem_cons.1 hd' with rfl|hd';exact hd;exact h.2 e d' hd'
inductive Fit(P:Program):Bool->Ctx->Nat->Prop where
 | fn (base ay:Nat) (jt:Eta) (Z0:aF) (M0:Nat->Prop) (w0:World):jf P Z0->Fit P false (Ctx.fn base ay jt Z0 M0 w0) w0.heap.size
 | it (C:Ctx):Hand P C->nX P C->Fit P true C 0
theorem Fit.knows{P:Program}{yl:Bool}{C:Ctx}{lo:Nat}(h:Fit P yl C lo):nX P C:=by
 cases h with
 | fn base ay jt Z0 M0 w0 hK=>exact fun g Z M w hR=>hK.mono hR.cZ
 | it _ _ hK=>exact hK
theorem Fit.hand{P:Program}{yl:Bool}{C:Ctx}{lo:Nat}(h:Fit P yl C lo)(hy:yl=true):Hand P C:=by
 cases h with
 | fn=>cases hy
 | it _ h _=>exact h
def GEnd(g:Option Gh):Prop:=match g with|none=>True|some g=>g.ys=[]
def DB(g:Option Gh)(p:Prop):Prop:=match g with|none=>p|some g=>g.ys=[]/\p
theorem gEnd_ok{g:Option Gh}{p:Prop}(h:DB g p):GEnd g/\p:=by
 cases g with
 | none=>exact⟨trivial,h⟩
 | some g=>exact h
def ZS(C:Ctx)(Qv:A->List Ob->Prop)(e:Ending)(w':World):Prop:=∃ u aI Z' r au g,e=.returned u/\Inv C aI Z' (.fF g au) w'/\cN aI Z' r u/\Qv r au/\GEnd g
def endP(s:bJ)(C:Ctx)(Qv:A->List Ob->Prop)(e:Ending)(w':World):Prop:=ZS C Qv e w'∨∃ u aI Z' S',e=.panicked [{ v:=u,recovered:=false }]/\Inv C aI Z' S' w'/\s.sx u
def CK(s:bJ)(C:Ctx)(Qv:A->List Ob->Prop):Post:=bodyPostM Fence.wide 0 s.P s.fn (endP s C Qv)
structure av(s:bJ)(Qv:A->List Ob->Prop)(rp:List Nat)(F:Fr)(S:ak):Prop where
 go:∀ C lo,s.ay=C.ay->Fit s.P s.yl C lo->∀ η Z w a,Inv C η Z S w->bD s.fn.ntmps η Z F a.tmps->qM s.yl s.dl lo a w->∀ b,fY s.bO rp=some (.loop b)->ul s.P Fence.wide b (kp s.P Fence.wide s.bO (CK s C Qv) rp) a w
structure GA(s:bJ)(Qv:A->List Ob->Prop)(rp:List Nat)(F:Fr)(S:ak):Prop where
 go:∀ C lo,s.ay=C.ay->Fit s.P s.yl C lo->∀ η Z w a,Inv C η Z S w->bD s.fn.ntmps η Z F a.tmps->qM s.yl s.dl lo a w->∀ g ps assign body,fY s.bO rp=some (.rangeFunc g ps assign body)->(Code.rangeFunc g ps assign body).wpIn Fence.wide 0 s.P (kp s.P Fence.wide s.bO (CK s C Qv) rp) a w
structure EY(s:bJ)(Qv:A->List Ob->Prop)(rp:List Nat)(F:Fr)(S:ak):Prop where
 go:∀ T,s.tail=some T->∀ C lo,s.ay=C.ay->Fit s.P s.yl C lo->∀ η Z w a (cs:List Value),Inv C η Z S w->bD s.fn.ntmps η Z F a.tmps->qM s.yl s.dl lo a w->bp (ic η) (u6 T.k) cs->kp s.P Fence.wide s.bO (CK s C Qv) rp .normal { a with defers:={ target:=.fn (.func T.f) cs.toArray,args:=#[] }::a.defers } w
def fr:List (Nat×A)->Fr
 | []=>.leaf
 | (s,x)::l=>T.set (fr l) s x
theorem of_eq{p q:Prop}(h:p=q)(hq:q):p:=h▸hq
def v8(s:bJ)(Qv:A->List Ob->Prop)(x:X)(F:Fr)(S:ak):Prop :=
 match x with
 | .exit _=>False
 | _ => match um s.P F s.fn.results.toList s.fn.resultTypes.toList S with
   | some (c,vs,S1)=>match mG S1 s.fz vs with
     | some (c2,w6,S2)=>(match sw s.ay w6 S2 with
       | some (vs',au)=>ij c.list (ij c2.list (DB S.cJ (Qv (aE vs') au)))
       | none=>False)
     | none=>False
   | none=>False
theorem Inv.taken{P:Program}{yl:Bool}{C:Ctx}{lo:Nat}(hf:Fit P yl C lo){η:Eta}{Z:aF}{S:ak}{w:World}(I:Inv C η Z S w){b:Nat}(hy:yl=false)(hb:lo<=b)(h:w.heap[b]? = some (.deferred (some []))):Inv C η Z S (w.putObj b (.deferred none)):=by
 have hne:∀ k,k≠b->(w.putObj b (.deferred none)).heap[k]? = w.heap[k]?:=fun k hk=>by
  simp only[World.putObj];rw[acS (Ne.symm hk)]
 have hsz:(w.putObj b (.deferred none)).heap.size=w.heap.size:=by simp[World.putObj]
 have hZ:∀ k c,Z k=some c->k≠b:=by
  rintro k c hk rfl;obtain⟨ty,fz,e⟩:=I.st.zs _ _ hk;rw[h] at e;cases e
 refine⟨I.st.wO (aF.le.refl _) (fun k c hk=>by rw[hne k (hZ k c hk)];exact I.st.zs k c hk) (by rw[hsz];exact acU _) (fun k ho=>hne k ?_) (fun k ho=>(I.st.nA ho).choose_spec.2.1),?_,I.ay⟩;rintro rfl;obtain⟨c,hc,_,hd⟩:=I.st.nA ho;rw[h] at hc;cases hc;cases hd;cases hf with
 | it=>cases hy
 | fn base ay jt Z0 M0 w0 _ =>
   have R:gb Z0 M0 w0 Z (Own η S) w:=I.rel;exact(⟨R.os,R.tape,R.output,by rw[hsz];exact R.size,fun k hk hn=>by rw[hne k (by omega)];exact R.block k hk hn,R.own,R.cZ,R.gT⟩:gb Z0 M0 w0 Z (Own η S) (w.putObj b (.deferred none)))
def bJ.env(s:bJ)(Qv:A->List Ob->Prop):Env:={ P:=s.P,Γ:=s.Γ,yl:=s.yl,nt:=s.fn.ntmps,bO:=s.bO,ay:=s.ay,aj:=s.aj,cx:=s.cx,zA:=av s Qv,qL:=GA s Qv,fin:=v8 s Qv,uj:=s.dl,dies:=s.Sl,pn:=fun u _ _=>s.pnc u,tlf:=s.tail.map fun T=>(T.f,T.k),tlp:=EY s Qv }
theorem qX{s : bJ}{Qv : A → List Ob → Prop}{C : Ctx}{lo : Nat}(hk : s.ay = C.ay)(hf : Fit s.P s.yl C lo){F : Fr}{S : ak} (h : match um s.P F s.fn.results.toList s.fn.resultTypes.toList S with
 | some (c,vs,S1)=>match mG S1 s.fz vs with
   | some (c2,w6,S2)=>(match sw s.ay w6 S2 with
     | some (vs',au)=>ij c.list (ij c2.list (DB S.cJ (Qv (aE vs') au)))
     | none=>False)
   | none=>False
 | none=>False) {η:Eta} {Z:aF} {a:Act} (FR:bD s.fn.ntmps η Z F a.tmps):∀{ds:List Deferred}{w:World},Inv C η Z S w->Marks lo w ds->(s.yl=true->ds=[])->LeavesInM Fence.wide 0 s.P s.fn a.tmps (endP s C Qv) ds .returning w
 | [], w, I, _, _ => by
   split at h
   . rename_i c vs S1 hres;split at h
     rotate_left
     exact h.elim;rename_i c2 w6 S2 hfz;split at h;rename_i vs' au hcan;obtain⟨hc,hq⟩:=iN h;obtain⟨hc2,hq⟩:=iN hq;obtain⟨hge,hq⟩:=gEnd_ok hq;rw[hk] at hcan;show ∃ v,(results s.fn a.tmps).run s.P w=.ok v w/\_;unfold results;simp only[Sem.run_bind]
     suffices key:∀(g:ResultVar->Sem Value),(∀ t,g (.tmp t)=Pure.pure (a.tmps.getD t undef))->(∀ b t,g (.cell b t)=do loadVar t (<-asAddr (a.tmps.getD b undef)))->
      ∃ v,((s.fn.results.mapM g:Sem (Array Value)).run s.P w).andThen (fun a w'=>(Pure.pure (if h:a.size=1 then a[0] else .tuple a):Sem Value).run s.P w')=.ok v w/\endP s C Qv (.returned v) w from key _ (fun _=>rfl) (fun _ _=>rfl)
     intro g g1 g2;obtain⟨us,zO,hl,mv⟩:=LD FR g1 g2 I.st hres hc;have hm:(s.fn.results.mapM g:Sem (Array Value)).run s.P w=.ok us.toArray w:=by
      rw[<-Array.toArray_toList (xs:=s.fn.results),List.mapM_toArray];simp only[Sem.run_map,zO,Result.andThen_ok]
     rw[hm];obtain⟨Z2,iE,hl2⟩:=yE (I.moves mv).st hl hfz hc2;obtain⟨aI,I',hl'⟩:=VT ((I.moves mv).moves iE) hl2 hcan;exact⟨_,rfl,.inl ⟨_,aI,Z2,aE vs',au,_,rfl,I',VY hl',hq,by rw[iE.step.gh,mv.step.gh];exact hge⟩⟩;exact h.elim
   exact h.elim
 | d :: ds, w, I, hm, hy => by
   have IE:s.yl=false:=by
    cases hs:s.yl with
    | false=>rfl
    | true=>have:=hy hs;cases this
   obtain⟨bs,h1,h2,h3⟩:=hm;cases bs with
   | nil=>cases h1
   | cons b bs =>
     simp only[adl,List.cons.injEq] at h1;obtain⟨rfl,rfl⟩:=h1;obtain⟨hb1,hb2⟩:=h3 b (by simp);refine⟨by simp,.inl ⟨b,_,rfl,run_takeDeferred hb2,?_⟩⟩;refine qX hk hf h FR (I.taken hf IE hb1 hb2) ⟨bs,rfl,(List.nodup_cons.1 h2).2,fun k hkk=>?_⟩ (fun h=>by rw[IE] at h;cases h);obtain⟨c1,c2⟩:=h3 k (by simp[hkk]);refine⟨c1,?_⟩;have hne:k≠b:=by rintro rfl;exact(List.nodup_cons.1 h2).1 hkk
     simp only[World.putObj];rw[acS (Ne.symm hne)];exact c2
theorem Inv.below{C:Ctx}{η:Eta}{Z:aF}{S:ak}{w w':World}(I:Inv C η Z S w)(hB:Below w.heap.size w w'):Inv C η Z S w':=by
 have hz:yu Z w':=fun b c hb=>by
  obtain⟨ty,fz,e⟩:=I.st.zs b c hb;exact⟨ty,fz,(hB.block b (dN e)).trans e⟩
 refine⟨I.st.wO (aF.le.refl _) hz hB.size (fun b ho=>?_) (fun b ho=>(I.st.nA ho).choose_spec.2.1),C.yx _ _ _ _ _ _ _ I.rel ⟨hB.os,hB.tape,hB.output,hB.size,fun b hb _=>hB.block b hb,fun _ h=>.inl h,aF.le.refl _,fun _ _ h=>.inl h⟩ hz,I.ay⟩;obtain⟨c,hc,_⟩:=I.st.nA ho;exact hB.block _ (dN hc)
theorem IG{s:bJ}{Qv:A->List Ob->Prop}{C:Ctx}{lo:Nat}(hk:s.ay=C.ay)(hf:Fit s.P s.yl C lo){F:Fr}{S:ak} (h:match um s.P F s.fn.results.toList s.fn.resultTypes.toList S with
 | some (c,vs,S1)=>match mG S1 s.fz vs with
   | some (c2,w6,S2)=>(match sw s.ay w6 S2 with
     | some (vs',au)=>ij c.list (ij c2.list (DB S.cJ (Qv (aE vs') au)))
     | none=>False)
   | none=>False
 | none=>False) {η:Eta} {Z:aF} {a:Act} (FR:bD s.fn.ntmps η Z F a.tmps):∀{ds:List Deferred}{w:World},Inv C η Z S w->(∀ d∈ds,yD s.dl d)->LeavesInM Fence.wide 0 s.P s.fn a.tmps (endP s C Qv) ds .returning w
 | [],w,I,_=>qX hk hf h FR I (Marks.nil lo w) (fun _=>rfl)
 | d::ds,w,I,hm=>by
   obtain⟨f,cs,args,rfl,hmem⟩:=hm d (by simp);have D:=s.dl_ok hmem;obtain⟨fn,body,h1,h2,h3⟩:=mF D.ent;have hinv:(invoke (.fn (.func f) cs) args).run s.P w=.ok (.enter f (args++cs)) w:=by
    simp only[invoke];simp[callFunc,h1,h3,h2]
   obtain⟨hFf,hgo⟩:=D.go (args++cs) w (by simp);refine⟨by simp,.inr ⟨(fun hh=>by simp[Fence.wide] at hh),.func f,cs,f,args++cs,rfl,hinv,fun _ _=>trivial,hFf,?_⟩⟩;intro c0 cs0 hm0 hroom;obtain⟨e1,u1,w1,VZ,⟨rfl,rfl,hB⟩,aU⟩:=hgo c0 cs0 hm0 hroom;refine⟨_,.returning,w1,VZ,?_,aU⟩;exact IG hk hf h FR (I.below hB) (fun d hd=>hm d (by simp[hd]))
theorem II{s:bJ}{Qv:A->List Ob->Prop}{C:Ctx}{lo:Nat}(hk:s.ay=C.ay)(hf:Fit s.P s.yl C lo){F:Fr}{S:ak} (h:match um s.P F s.fn.results.toList s.fn.resultTypes.toList S with
 | some (c,vs,S1)=>match mG S1 s.fz vs with
   | some (c2,w6,S2)=>(match sw s.ay w6 S2 with
     | some (vs',au)=>ij c.list (ij c2.list (DB S.cJ (Qv (aE vs') au)))
     | none=>False)
   | none=>False
 | none=>False) {η:Eta} {Z:aF} {a:Act} (FR:bD s.fn.ntmps η Z F a.tmps) {w:World} (I:Inv C η Z S w) (hd:qM s.yl s.dl lo a w):LeavesInM Fence.wide 0 s.P s.fn a.tmps (endP s C Qv) a.defers .returning w:=by
 by_cases hl:s.dl=[];exact qX hk hf h FR I (hd.1 hl).1 (hd.1 hl).2;exact IG hk hf h FR I (hd.2 hl)
theorem finW_ok{s:bJ}{Qv:A->List Ob->Prop}{C:Ctx}{lo:Nat}(hk:s.ay=C.ay)(hf:Fit s.P s.yl C lo){x:X}{F:Fr}{S:ak}(h:v8 s Qv x F S){η:Eta}{Z:aF}{w:World}{a:Act}(I:Inv C η Z S w)(FR:bD s.fn.ntmps η Z F a.tmps)(hd:qM s.yl s.dl lo a w):CK s C Qv x.toExit a w:=by
 unfold v8 at h;cases x with
 | normal=>exact II hk hf h FR I hd
 | exit id=>exact h.elim
 | ret=>exact II hk hf h FR I hd
theorem IJ{s:bJ}{Qv:A->List Ob->Prop}{C:Ctx}{lo:Nat}(hf:Fit s.P s.yl C lo)(IE:s.yl=false){u:Value}(hu:s.sx u){tmps:Array Value}:∀{ds:List Deferred}{η:Eta}{Z:aF}{S:ak}{w:World},Inv C η Z S w->Marks lo w ds->LeavesInM Fence.wide 0 s.P s.fn tmps (endP s C Qv) ds (.panicking [{ v:=u,recovered:=false }]) w
 | [],η,Z,S,w,I,_=>.inr ⟨u,η,Z,S,rfl,I,hu⟩
 | d :: ds, η, Z, S, w, I, hm => by
   obtain⟨bs,h1,h2,h3⟩:=hm;cases bs with
   | nil=>cases h1
   | cons b bs =>
     simp only[adl,List.cons.injEq] at h1;obtain⟨rfl,rfl⟩:=h1;obtain⟨hb1,hb2⟩:=h3 b (by simp);refine⟨by simp,.inl ⟨b,_,rfl,run_takeDeferred hb2,?_⟩⟩;refine IJ hf IE hu (I.taken hf IE hb1 hb2) ⟨bs,rfl,(List.nodup_cons.1 h2).2,fun k hkk=>?_⟩;obtain⟨c1,c2⟩:=h3 k (by simp[hkk]);refine⟨c1,?_⟩;have hne:k≠b:=by rintro rfl;exact(List.nodup_cons.1 h2).1 hkk
     simp only[World.putObj];rw[acS (Ne.symm hne)];exact c2
theorem pnc_ok{s:bJ}{Qv:A->List Ob->Prop}{C:Ctx}{lo:Nat}(hf:Fit s.P s.yl C lo){u:Value}(h:s.pnc u){η:Eta}{Z:aF}{S:ak}{w:World}{a:Act}(I:Inv C η Z S w)(hd:qM s.yl s.dl lo a w):CK s C Qv (Dx u) a w:=by
 unfold bJ.pnc at h;split at h;rename_i hy hdf;have V0:s.dl=[]:=by unfold bJ.dl;rw[hdf];rfl
 exact IJ hf hy h I (hd.1 V0).1;exact h.elim
theorem tA{s:bJ}(dV:bt s.P s.Γ){Qv:A->List Ob->Prop}{C:Ctx}{lo:Nat}(hk:s.ay=C.ay)(hf:Fit s.P s.yl C lo):Sound (s.env Qv) C Fence.wide (CK s C Qv) (qM s.yl s.dl lo) where
 ay:=hk
 EV:=dV
 know:=hf.knows
 hand:=hf.hand
 wf:=.inl rfl
 dst:=fun _ _ _ _ cm h h'=>h'.calm cm h
 BO:=fun _ _ _ hd h=>⟨rfl,h.push hd⟩
 dies:=s.PX
 tl := fun f m h => by
  refine⟨rfl,fun rp F S hA η Z w a cs I FR hd hcs=>?_⟩;have h:(s.tail.map fun T=>(T.f,T.k))=some (f,m):=h;cases ht:s.tail with
  | none=>rw[ht] at h;cases h
  | some T =>
    rw[ht] at h;cases h;exact hA.go T ht C lo hk hf η Z w a cs I FR hd hcs
 sx:=fun u _ _ h _ _ _ _ I _ hd=>pnc_ok hf h I hd
 zA:=fun _ b _ _ hs h η Z w a I FR hd=>h.go C lo hk hf η Z w a I FR hd b hs
 qL:=fun _ g ps assign body _ _ hs h η Z w a I FR hd=>h.go C lo hk hf η Z w a I FR hd g ps assign body hs
 fin:=fun _ _ _ h _ _ _ _ I FR hd=>finW_ok hk hf h I FR hd
theorem V1{s:bJ}(dV:bt s.P s.Γ){Qv:A->List Ob->Prop}{rp:List Nat}{F:Fr}{S:ak}{b:Code}(hs:fY s.bO rp=some (.loop b))(n:Nat)(h:wk (s.env Qv) n (.code b (0::rp) F S)):av s Qv rp F S:=by
 refine⟨fun C lo hk hf η Z w a I FR hd b' hs'=>?_⟩;rw[hs] at hs';cases hs';refine LA ?_;have hs1:fY s.bO (0::rp)=some b:=by simp[fY,hs,child]
 have:=(tw (tA dV (Qv:=Qv) hk hf) n).1 b (0::rp) F S h hs1 η Z w a I FR hd;have hkp:kp s.P Fence.wide s.bO (CK s C Qv) (0::rp)=Dz s.P Fence.wide b (kp s.P Fence.wide s.bO (CK s C Qv) rp):=by simp only[kp,hs]
 rw[<-hkp];exact this
def qv(args:List A):Fr:=T.ofList args
theorem DC{n:Nat}{η:Eta}{Z:aF}{args:List A}{vs:List Value}(hvs:bp (cN η Z) args vs)(hn:ac5 args.length n=true):bD n η Z (qv args) (vs.toArray++adv (n-vs.toArray.size) undef):=by
 have hvl:vs.length=args.length:=hvs.length.symm;have hn:args.length<=n:=Nat.le_of_ble_eq_true hn;refine⟨?_,?_⟩;simp;omega;intro i x hx;simp only[qv,T.aT] at hx;obtain⟨v,hv,hr⟩:=hvs.get hx;have hi:=(List.getElem?_eq_some_iff.1 hv).1;exact⟨v,by rw[Array.getElem?_append_left (by simpa using hi)];simpa using hv,hr⟩
theorem St.ofG{base:Nat}{η:Eta}{Z:aF}{g:Option Gh}{l:List Ob}{w:World}(R:St base η Z (.fF g l) w):St base η Z (.ofList l) w:=by
 cases g with
 | none=>exact R
 | some g=>exact⟨R.au,R.cJ,R.known,R.jB,R.zs,R.fresh,R.gO,R.sat⟩
theorem Ax{s:bJ}(dV:bt s.P s.Γ)(hy:s.yl=false){f:FuncId}(hf:s.P.funcs[f]? = some s.fn)(hb:s.fn.body=some s.bO){args:List A}{au:List Ob}(hn:ac5 args.length s.fn.ntmps=true){Qv:A->List Ob->Prop}(n:Nat)
 (h:wk (s.env Qv) n (.code s.bO [] (qv args) (.ofList au))) {base:Nat} {η:Eta} {Z:aF} {w:World} {vs:List Value} (R:St base η Z (.ofList au) w) (hvs:bp (cN η Z) args vs) (hK:jf s.P Z) :
 CallsIn Fence.wide 0 s.P f vs.toArray w fun e w'=>(∃ u aI Z' r bg,e=.returned u/\iF s.ay base η Z (.ofList au) w aI Z' (.ofList bg) w'/\cN aI Z' r u/\Qv r bg)∨(∃ u Z',e=.panicked [{ v:=u,recovered:=false }]/\iF 0 base η Z (.ofList au) w (fun _=>none) Z' (.ofList []) w'/\s.sx u):=by
 let C:Ctx:=Ctx.fn base s.ay η Z (Own η (.ofList au)) w;have fit:Fit s.P s.yl C w.heap.size:=by rw[hy];exact Fit.fn base s.ay η Z (Own η (.ofList au)) w hK
 have I:Inv C η Z (.ofList au) w:=⟨R,gb.refl _ _ _,fun _ _ _ h=>h⟩;have CG:=DC hvs hn;have:=(tw (tA dV (Qv:=Qv) (C:=C) rfl fit) n).1 s.bO [] _ _ h rfl η Z w { tmps:=vs.toArray++adv (s.fn.ntmps-vs.toArray.size) undef,defers:=[] } I CG (qM.start _ _ _ _ _);refine(callsIn_of_wp_marks hf hb trivial this).mono ?_;rintro e w' (⟨u,aI,Z',r,bg,g,rfl,I',hr,hq,_⟩|⟨u,aI,Z',S',rfl,I',hu⟩);have R':gb Z (Own η (.ofList au)) w Z' (Own aI (.fF g bg)) w':=I'.rel;exact .inl ⟨u,aI,Z',r,bg,rfl,⟨fun k p hk hp=>I'.ay k p hk hp,I'.st.ofG,⟨R'.os,R'.tape,R'.output,R'.size,R'.block,fun b hb=>R'.own b (oG.2 hb),R'.cZ,R'.gT,rfl⟩⟩,hr,hq⟩;have R':gb Z (Own η (.ofList au)) w Z' (Own aI S') w':=I'.rel;have s9:∀ n,(ak.ofList []).get n=none:=fun n=>by rw[ak.aT];simp
 have hst:St base (fun _=>none) Z' (.ofList []) w':=by
  refine⟨?_,?_,?_,?_,I'.st.zs,fun _ _=>rfl,I'.st.gO,?_⟩;intro n o p h;rw[s9] at h;cases h;intro n o h;rw[s9] at h;cases h;intro n o h;rw[s9] at h;cases h;intro n n' o o' p p' b h;rw[s9] at h;cases h;intro n o p h;rw[s9] at h;cases h
 have hown:∀ b,Own (fun _=>none) (.ofList []) b->Own η (.ofList au) b∨w.heap.size<=b:=by
  rintro b ⟨n,o,p,h,_⟩;rw[s9] at h;cases h
 exact .inr ⟨u,Z',rfl,⟨fun n p hn _=>absurd hn (Nat.not_lt_zero n),hst,⟨R'.os,R'.tape,R'.output,R'.size,R'.block,hown,R'.cZ,R'.gT,rfl⟩⟩,hu⟩
theorem IK{s:bJ}(dV:bt s.P s.Γ)(hy:s.yl=false){f:FuncId}(hf:s.P.funcs[f]? = some s.fn)(hb:s.fn.body=some s.bO){args:List A}{au:List Ob}(hn:ac5 args.length s.fn.ntmps=true){r0:A}{bY:List Ob}(n:Nat)
 (h:wk (s.env fun r o=>r=r0/\o=bY) n (.code s.bO [] (qv args) (.ofList au))) (hp:∀ u,¬s.sx u):bq s.P f s.ay args au r0 bY:=by
 intro base η Z w vs R hvs hK;refine(Ax dV hy hf hb hn n h R hvs hK).mono ?_;rintro e w' (⟨u,aI,Z',r,bg,rfl,mv,hr,rfl,rfl⟩|⟨u,Z',rfl,_,hu⟩);exact⟨u,aI,Z',rfl,mv,hr⟩;exact absurd hu (hp u)
theorem uo{s:bJ}(dV:bt s.P s.Γ)(hy:s.yl=false){f:FuncId}(hf:s.P.funcs[f]? = some s.fn)(hb:s.fn.body=some s.bO){args:List A}{au:List Ob}(hk:s.ay=au.length)(hn:ac5 args.length s.fn.ntmps=true){r0:A}{bY:List Ob}(n:Nat)
 (h:wk (s.env fun r o=>r=r0/\o=bY) n (.code s.bO [] (qv args) (.ofList au))) (hp:∀ u,¬s.sx u):bA s.P f args au r0 bY:=by
 have:=IK dV hy hf hb hn n h hp;rw[hk] at this;exact this
theorem ZT{s:bJ}(dV:bt s.P s.Γ)(hy:s.yl=false){f:FuncId}(hf:s.P.funcs[f]? = some s.fn)(hb:s.fn.body=some s.bO){args:List A}{au:List Ob}(hn:ac5 args.length s.fn.ntmps=true){b:Bool}{v:Value}(hpan:∀ u,s.sx u->b=true/\u=v){r0:A}{bY:List Ob}(n:Nat)
 (h:wk (s.env fun r o=>b=false/\r=r0/\o=bY) n (.code s.bO [] (qv args) (.ofList au))):(b=false->bq s.P f s.ay args au r0 bY)/\(b=true->yA s.P f args au v):=by
 refine⟨fun hb0 base η Z w vs R hvs hK=>?_,fun hb1 base η Z w vs R hvs hK=>?_⟩;refine(Ax dV hy hf hb hn n h R hvs hK).mono ?_;rintro e w' (⟨u,aI,Z',r,bg,rfl,mv,hr,_,rfl,rfl⟩|⟨u,Z',rfl,_,hu⟩);exact⟨u,aI,Z',rfl,mv,hr⟩;have:=(hpan u hu).1;rw[hb0] at this;cases this;refine(Ax dV hy hf hb hn n h R hvs hK).mono ?_;rintro e w' (⟨u,aI,Z',r,bg,rfl,mv,hr,h0,_⟩|⟨u,Z',rfl,mv,hu⟩);rw[hb1] at h0;cases h0;rw[(hpan u hu).2];exact⟨rfl,Z',mv⟩
def gQ(fn:Func):Code:=match fn.body with|some c=>c|none=>.skip
def w7:List (List Nat×List Nat)->List Nat->List Nat
 | [],_=>[]
 | (p,l)::r,rp=>bif p==rp then l else w7 r rp
def eJ(P:Program)(Γ:bW)(fn:Func)(ay:Nat)(aj:List (List Nat×List Nat)):bJ:={ P,Γ,fn,bO:=gQ fn,ay,aj:=w7 aj }
def Sq:List (List Nat×List (Nat×D))->List Nat->List (Nat×D)
 | [],_=>[]
 | (p,l)::r,rp=>bif p==rp then l else Sq r rp
def bG(P:Program)(Γ:bW)(fn:Func)(ay:Nat)(aj:List (List Nat×List Nat))(cx:List (List Nat×List (Nat×D)))(fz:List (Option D)):bJ:={ P,Γ,fn,bO:=gQ fn,ay,aj:=w7 aj,cx:=Sq cx,fz }
def loopBody(s:bJ)(rp:List Nat):Code:=match fY s.bO rp with|some (.loop b)=>b|_=>.skip
def V2(s:bJ)(rp:List Nat):Bool:=match fY s.bO rp with|some (.loop _)=>true|_=>false
theorem aN{s:bJ}(dV:bt s.P s.Γ){Qv:A->List Ob->Prop}{rp:List Nat}{F:Fr}{S:ak}(hs:V2 s rp=true)(n:Nat)(h:wk (s.env Qv) n (.code (loopBody s rp) (0::rp) F S)):av s Qv rp F S:=by
 unfold V2 at hs;split at hs;rename_i b hb;have:loopBody s rp=b:=by unfold loopBody;rw[hb]
 rw[this] at h;exact V1 dV hb n h;cases hs
def aD(r0:A)(bY:List Ob):A->List Ob->Prop:=fun r o=>r=r0/\o=bY
theorem bU{P:Program}{Γ:bW}{fn:Func}{aj:List (List Nat×List Nat)}(dV:bt P Γ){f:FuncId}(hf:P.funcs[f]? = some fn)(hb:fn.body.isSome=true){args:List A}{au:List Ob}{ay:Nat}(hk:ay=au.length)(hn:ac5 args.length fn.ntmps=true){r0:A}{bY:List Ob}(n:Nat)
 (h:wk ((eJ P Γ fn ay aj).env (aD r0 bY)) n (.code (gQ fn) [] (qv args) (.ofList au))):bA P f args au r0 bY:=by
 obtain⟨c,hc⟩:=Option.isSome_iff_exists.1 hb;exact uo (s:=eJ P Γ fn ay aj) dV rfl hf (by show fn.body=some (gQ fn);unfold gQ;rw[hc]) hk hn n h (fun _ h=>h)
theorem dJ{P:Program}{Γ:bW}{fn:Func}{aj:List (List Nat×List Nat)}{cx:List (List Nat×List (Nat×D))}{fz:List (Option D)}(dV:bt P Γ){f:FuncId}(hf:P.funcs[f]? = some fn)(hb:fn.body.isSome=true){args:List A}{au:List Ob}{ay:Nat}(hk:ay=au.length)(hn:ac5 args.length fn.ntmps=true){r0:A}{bY:List Ob}(n:Nat)
 (h:wk ((bG P Γ fn ay aj cx fz).env (aD r0 bY)) n (.code (gQ fn) [] (qv args) (.ofList au))):bA P f args au r0 bY:=by
 obtain⟨c,hc⟩:=Option.isSome_iff_exists.1 hb;exact uo (s:=bG P Γ fn ay aj cx fz) dV rfl hf (by show fn.body=some (gQ fn);unfold gQ;rw[hc]) hk hn n h (fun _ h=>h)
def PY(P:Program)(Γ:bW)(fn:Func)(ay:Nat)(aj:List (List Nat×List Nat))(cx:List (List Nat×List (Nat×D)))(fz:List (Option D))(uj:List { x:FuncId×Nat // BP P x.1 x.2 }):bJ:={ P,Γ,fn,bO:=gQ fn,ay,aj:=w7 aj,cx:=Sq cx,fz,uj }
theorem V3{P:Program}{Γ:bW}{fn:Func}{aj:List (List Nat×List Nat)}{cx:List (List Nat×List (Nat×D))}{fz:List (Option D)}(uj:List { x:FuncId×Nat // BP P x.1 x.2 })(dV:bt P Γ){f:FuncId}(hf:P.funcs[f]? = some fn)(hb:fn.body.isSome=true){args:List A}{au:List Ob}{ay:Nat}(hk:ay=au.length)(hn:ac5 args.length fn.ntmps=true){r0:A}{bY:List Ob}(n:Nat)
 (h:wk ((PY P Γ fn ay aj cx fz uj).env (aD r0 bY)) n (.code (gQ fn) [] (qv args) (.ofList au))):bA P f args au r0 bY:=by
 obtain⟨c,hc⟩:=Option.isSome_iff_exists.1 hb;exact uo (s:=PY P Γ fn ay aj cx fz uj) dV rfl hf (by show fn.body=some (gQ fn);unfold gQ;rw[hc]) hk hn n h (fun _ h=>h)
theorem bR{P:Program}{Γ:bW}{fn:Func}{aj:List (List Nat×List Nat)}{cx:List (List Nat×List (Nat×D))}{fz:List (Option D)}(dV:bt P Γ){f:FuncId}(hf:P.funcs[f]? = some fn)(hb:fn.body.isSome=true){args:List A}{au:List Ob}(ay:Nat)(hn:ac5 args.length fn.ntmps=true){r0:A}{bY:List Ob}(n:Nat)
 (h:wk ((bG P Γ fn ay aj cx fz).env (aD r0 bY)) n (.code (gQ fn) [] (qv args) (.ofList au))):bq P f ay args au r0 bY:=by
 obtain⟨c,hc⟩:=Option.isSome_iff_exists.1 hb;exact IK (s:=bG P Γ fn ay aj cx fz) dV rfl hf (by show fn.body=some (gQ fn);unfold gQ;rw[hc]) hn n h (fun _ h=>h)
def nY(P:Program)(Γ:bW)(dies:List { x:FuncId×kH // j9 P x.1 x.2 })(fn:Func)(ay:Nat)(aj:List (List Nat×List Nat))(cx:List (List Nat×List (Nat×D)))(fz:List (Option D))(b:Bool)(v:Value):bJ:={ P,Γ,fn,bO:=gQ fn,ay,aj:=w7 aj,cx:=Sq cx,fz,dies,sx:=fun u=>b=true/\u=v }
def iz(b:Bool)(r0:A)(bY:List Ob):A->List Ob->Prop:=fun r o=>b=false/\r=r0/\o=bY
theorem qY{P:Program}{Γ:bW}{dies:List { x:FuncId×kH // j9 P x.1 x.2 }}{fn:Func}{aj:List (List Nat×List Nat)}{cx:List (List Nat×List (Nat×D))}{fz:List (Option D)}(dV:bt P Γ){f:FuncId}(hf:P.funcs[f]? = some fn)(hb:fn.body.isSome=true){args:List A}{au:List Ob}(ay:Nat)(hn:ac5 args.length fn.ntmps=true){b:Bool}{v:Value}{r0:A}{bY:List Ob}(n:Nat)
 (h:wk ((nY P Γ dies fn ay aj cx fz b v).env (iz b r0 bY)) n (.code (gQ fn) [] (qv args) (.ofList au))):(b=false->bq P f ay args au r0 bY)/\(b=true->yA P f args au v):=by
 obtain⟨c,hc⟩:=Option.isSome_iff_exists.1 hb;exact ZT (s:=nY P Γ dies fn ay aj cx fz b v) dV rfl hf (by show fn.body=some (gQ fn);unfold gQ;rw[hc]) hn (fun _ h=>h) n h
def gq(d:D):A->Option d.ty
 | .p (.c x)=>d.of x
 | .dec b=>d.of (.bool b)
 | _=>none
abbrev dat(d:D)(x:d.ty):A:=.p (.c (d.w x))
theorem cF{η:Eta}{Z:aF}{d:D}{x:A}{y:d.ty}(e:gq d x=some y){v:Value}(h:cN η Z x v):cN η Z (dat d y) v:=by
 cases x with
 | p x =>
   cases x with
   | c x=>exact⟨D.jA _ _,(D.gN d).2 (lU e h.2)⟩
   | agg cs=>cases e
 | dec b =>
   have hv:v=.bool b:=h;have:aJ η Z (.bool b) v:=by simp[aJ,aV,hv]
   exact⟨D.jA _ _,(D.gN d).2 (lU e this)⟩
 | aL vs=>cases e
 | cond c v=>cases e
theorem bA.args{P:Program}{f:FuncId}{args args':List A}{au:List Ob}{r:A}{bg:List Ob}(h:bA P f args' au r bg)(ha:∀ η Z vs,bp (cN η Z) args vs->bp (cN η Z) args' vs):bA P f args au r bg :=
 fun base η Z w vs R hvs hK=>h base η Z w vs R (ha η Z vs hvs) hK
def LG(g:Cd×A×List Ob):bQ:={ cI:=[],f:=fun args au=>match args,au with | [],[]=>some g|_,_=>none }
theorem GD{P:Program}{f:FuncId}{g:Cd×A×List Ob}(he:enters P f=true)(h:g.1->bA P f [] [] g.2.1 g.2.2):aM P f (LG g):=by
 refine⟨he,fun args au c r bg e hc=>?_⟩;simp only[LG] at e;split at e;cases e;exact h hc;cases e
def kI(d1:D)(g:d1.ty->Cd×A×List Ob):bQ:={ cI:=[],f:=fun args au=>match args,au with | [x],[]=>(match gq d1 x with|some x=>some (g x)|_=>none)|_,_=>none }
theorem gE{P:Program}{f:FuncId}{d1:D}{g:d1.ty->Cd×A×List Ob}(he:enters P f=true)(h:∀ x,(g x).1->bA P f [dat d1 x] [] (g x).2.1 (g x).2.2):aM P f (kI d1 g):=by
 refine⟨he,fun args au c r bg e hc=>?_⟩;simp only[kI] at e;split at e;split at e;rename_i x y hy;have e:=Option.some.inj e;have h1:=h y (by rw[e];exact hc);rw[e] at h1;exact bA.args h1 fun η Z vs hv=>match vs,hv with | [_],⟨a,b⟩=>⟨cF hy a,b⟩
 cases e;cases e
def kJ(d1 d2:D)(g:d1.ty->d2.ty->Cd×A×List Ob):bQ:={ cI:=[],f:=fun args au=>match args,au with | [x,y],[]=>(match gq d1 x,gq d2 y with|some x,some y=>some (g x y)|_,_=>none)|_,_=>none }
theorem gF{P:Program}{f:FuncId}{d1 d2:D}{g:d1.ty->d2.ty->Cd×A×List Ob}(he:enters P f=true)(h:∀ x y,(g x y).1->bA P f [dat d1 x,dat d2 y] [] (g x y).2.1 (g x y).2.2):aM P f (kJ d1 d2 g):=by
 refine⟨he,fun args au c r bg e hc=>?_⟩;simp only[kJ] at e;split at e;split at e;rename_i x1 y1 hx hy;have e:=Option.some.inj e;have h1:=h x1 y1 (by rw[e];exact hc);rw[e] at h1;exact bA.args h1 fun η Z vs hv=>match vs,hv with | [_,_],⟨a,b,c⟩=>⟨cF hx a,cF hy b,c⟩
 cases e;cases e
def ZU(d1 d2 d3:D)(g:d1.ty->d2.ty->d3.ty->Cd×A×List Ob):bQ:={ cI:=[],f:=fun args au=>match args,au with | [x,y,z],[]=>(match gq d1 x,gq d2 y,gq d3 z with|some x,some y,some z=>some (g x y z)|_,_,_=>none)|_,_=>none }
theorem con3_ok{P:Program}{f:FuncId}{d1 d2 d3:D}{g:d1.ty->d2.ty->d3.ty->Cd×A×List Ob}(he:enters P f=true)(h:∀ x y z,(g x y z).1->bA P f [dat d1 x,dat d2 y,dat d3 z] [] (g x y z).2.1 (g x y z).2.2):aM P f (ZU d1 d2 d3 g):=by
 refine⟨he,fun args au c r bg e hc=>?_⟩;simp only[ZU] at e;split at e;split at e;rename_i x1 y1 z1 hx hy hz;have e:=Option.some.inj e;have h1:=h x1 y1 z1 (by rw[e];exact hc);rw[e] at h1;exact bA.args h1 fun η Z vs hv=>match vs,hv with | [_,_,_],⟨a,b,c,d⟩=>⟨cF hx a,cF hy b,cF hz c,d⟩
 cases e;cases e
theorem Ay{P:Program}{f:FuncId}{args:List A}{d:D}{y:d.ty}(h:∀(base:Nat) (η:Eta) (Z:aF) (w:World) vs,St base η Z (.ofList []) w->bp (cN η Z) args vs->jf P Z->Calls P f vs.toArray w fun e w'=>∃ u,e=.returned u/\(∀ Z:aF,cW Z d y u)/\Below w.heap.size w w'):bA P f args [] (dat d y) []:=by
 intro base η Z w vs R hvs hK;refine(callsIn_wide.2 (h base η Z w vs R hvs hK)).mono ?_;rintro e w' ⟨u,rfl,hu,hB⟩;have hstep:Step η Z (.ofList []) w η Z (.ofList []) w':=⟨hB.os,hB.tape,hB.output,hB.size,fun b hb _=>hB.block b hb,fun b h=>.inl h,aF.le.refl _,fun b c h=>.inl h,rfl⟩;refine⟨u,η,Z,rfl,⟨fun _ _ _ h=>h,⟨fun n o p h=>by rw[ak.aT] at h;simp at h,fun n o h=>by rw[ak.aT] at h;simp at h,fun n o h=>by rw[ak.aT] at h;simp at h,fun n n' o o' p p' b h=>by rw[ak.aT] at h;simp at h,fun b c hb=>?_,R.fresh,ade R.gO hB.size,fun n o p h=>by rw[ak.aT] at h;simp at h⟩,hstep⟩,D.jA _ _,(D.gN d).2 (hu Z)⟩;obtain⟨ty,fz,e⟩:=R.zs b c hb;exact⟨ty,fz,(hB.block b (dN e)).trans e⟩
def mH(w:World):aF:=fun b=>match w.heap[b]? with|some (.cells c _ _)=>some c|_=>none
theorem st_out(w:World):St w.heap.size (fun _=>none) (mH w) (.ofList []) w:=by
 refine⟨fun n o p h=>by rw[ak.aT] at h;simp at h,fun n o h=>by rw[ak.aT] at h;simp at h,fun n o h=>by rw[ak.aT] at h;simp at h,fun n n' o o' p p' b h=>by rw[ak.aT] at h;simp at h,fun b c hb=>?_,fun _ _=>rfl,acU _,fun n o p h=>by rw[ak.aT] at h;simp at h⟩;unfold mH at hb;split at hb;rename_i h;cases hb;exact⟨_,_,h⟩;cases hb
theorem V4{P:Program}{f:FuncId}{args:List A}{d:D}{y:d.ty}(h:bA P f args [] (dat d y) []){w:World}{vs:List Value}(hvs:bp (cN (fun _=>none) (mH w)) args vs)(hK:jf P (mH w))(hp:d.plain=true) :
 Calls P f vs.toArray w fun e w'=>∃ u,e=.returned u/\(∀ Z,cW Z d y u)/\Below w.heap.size w w':=by
 refine(callsIn_wide.1 (h w.heap.size _ _ w vs (st_out w) hvs hK)).mono ?_;rintro e w' ⟨u,aI,Z',rfl,mv,hr⟩;refine⟨u,rfl,fun Z=>?_,⟨mv.step.os,mv.step.tape,mv.step.output,mv.step.size,fun b hb=>mv.step.block b hb ?_⟩⟩
 . have:=(D.gN d).1 hr.2;cases d with
   | int k=>exact this
   | bool=>exact this
   | str=>exact this
   | sl d=>cases hp
 rintro⟨n,o,p,h,_⟩;rw[ak.aT] at h;simp at h
end Go.aW
