/- Runs at rest: they may be. -/
import Derived.Test.YtepmdidomecebaaGreatDoorLoad3
import Derived.Test.YtepmdidomecebaaGreatDoorRest1
import Derived.Test.YtepmdidomecebaaGreatDoorLoad4
import Derived.Test.YtepmdidomecebaaGreatDoorKnown1
import Derived.Test.YtepmdidomecebaaGreatDoorLoom4
namespace Go.Proofs.YtepmdidomecebaaGreatDoor
open Go.aJ Go.Words Go.cG
structure Yk (r:Rn):Prop where
 rest:cG.Rest r (if r.stat=1 then r.rows.length else if r.ph=0 then 0 else r.co.toNat)
 fin:r.stat=1->r.ph=3/\r.co=0/\r.ix=0
 yP:r.stat≠1->(r.ph=0/\r.co=0/\0<=r.ix/\(r.ix<1∨r.ix<r.sub.length))∨(r.ph=1/\0<=r.ix/\r.ix<r.av.length)∨(r.ph=2/\r.ix=0)
 co:r.stat≠1->0<=r.co/\r.co<r.rows.length/\Live r r.co.toNat
theorem Yk.of {r:Rn} (P:Sp r):Yk r:=by
 refine ⟨P.rest,P.fin,fun h=>?_,P.co⟩;rcases P.yP h with h | h | h
 . exact .inl ⟨h.1,h.2.1,h.2.2.1,.inr h.2.2.2⟩
 . exact .inr (.inl h)
 . exact .inr (.inr h)
structure uJ (r:Rn):Prop where
 fine:bS r
 mo:Mo r
 sp:Yk r
 B:Begins r.g r.au r.av r.sub
 n1:0<r.rows.length
 nl:r.rows.length<=r.au
 st:0<=r.stat/\r.stat<=2
theorem uJ.may {r:Rn} (H:uJ r):v8 r:=by
 have P:=H.sp;have F:bS r:=H.fine;have hrow:∀ l∈r.rows,Row (2*r.g).toNat r.rows.length l:=F.row;have hpar:jG r.par:=F.par;have hlen:r.par.length=r.rows.length:=F.len;have rz:1<=r.g:=F.g1;have sy:r.g<=16:=F.g2;have hst:=H.st;have hn:=H.n1;have mg:∀ a,a<r.rows.length->0<=r.par.getD a 0/\r.par.getD a 0<=a:=fun a ha=>hpar.2 a (by omega);have hco:0<=r.co/\r.co<r.rows.length/\r.par.getD r.co.toNat 0=r.co:=by
  by_cases h:r.stat=1
  . obtain ⟨_,h2,_⟩:=P.fin h;have:=mg 0 hn;rw [h2];exact ⟨by omega,by omega,by show r.par.getD 0 0=0;omega⟩
  . obtain ⟨h1,h2,h3⟩:=P.co h;refine ⟨h1,h2,?_⟩;unfold Live at h3;omega
 refine ⟨H.B,⟨rz,sy⟩,H.st,?_,?_,?_,?_,hn,H.nl,⟨H.mo.lo,H.mo.hi⟩,⟨hco.1,hco.2.1⟩,hco.2.2,?_,?_,?_,hlen,mg,fun l hl=>(hrow l hl).1,fun a c ha hc=>⟨fun hd=>?_,fun hl=>?_⟩⟩
 . by_cases h:r.stat=1
   . have:=P.fin h;omega
   . rcases P.yP h with h | h | h <;> omega
 . constructor
   . intro h3;refine Classical.byContradiction fun h=>?_;rcases P.yP h with h | h | h <;> omega
   . intro h;exact (P.fin h).1
 . intro h0;by_cases h:r.stat=1
   . exact (P.fin h).2.1
   . rcases P.yP h with h | h | h
     . exact h.2.1
     . omega
     . omega
 . intro h2;by_cases h:r.stat=1
   . exact (P.fin h).2.2
   . rcases P.yP h with h | h | h
     . omega
     . omega
     . exact h.2
 . by_cases h:r.stat=1
   . have:=P.fin h;omega
   . rcases P.yP h with h | h | h <;> omega
 . intro h0;by_cases h:r.stat=1
   . have:=P.fin h;omega
   . rcases P.yP h with h | h | h
     . exact h.2.2.2
     . omega
     . omega
 . intro h0;by_cases h:r.stat=1
   . have:=P.fin h;omega
   . rcases P.yP h with h | h | h
     . omega
     . exact h.2.2
     . omega
 . have h1:=P.rest.dd a c ha hc hd;have h2:=gk hrow ha hc;omega
 · have h2 := gk hrow ha hc
   by_cases hb:0<=bD r.rows a c
   . refine .inr ⟨hb,h2.2,?_,P.rest.nb a c ha hc hb⟩;have h3:=P.rest.live F ha hc hb;unfold Live at h3;omega
   . refine .inl ⟨by omega,?_,?_⟩
     . by_cases h:r.stat=1
       . have:=P.fin h;omega
       . have h5:=P.rest.cp a c ha;rw [if_neg h] at h5;by_cases h6:r.ph=0
         . rcases P.yP h with h | h | h
           . omega
           . omega
           . omega
         . rw [if_neg h6] at h5;have:=fun h7=>h5 h7 hc hl;omega
     . intro h;have h5:=P.rest.cp a c ha;rw [if_pos h] at h5;have:=h5 ha hc hl;omega
set_option maxRecDepth 100000
theorem Kq {x:Int} {n:Nat} (hn:n<100):∀ c∈jP x n,42<=c:=by
 have hd:∀ c∈oK n,42<=c:=by
  unfold oK;split <;> intro c hc <;> simp at hc <;> omega
 unfold jP;intro c hc;rcases List.mem_cons.1 hc with rfl | hc
 . omega
 . split at hc
   . simp at hc;rcases hc with rfl | rfl | hc
     . omega
     . omega
     . exact hd c hc
   . split at hc
     . simp at hc;rcases hc with rfl | hc
       . omega
       . exact hd c hc
     . cases hc
theorem AB:∀ ps:List (List Int),(∀ p∈ps,∀ c∈p,42<=c)->∀ c∈jH ps,42<=c
 | [],_,c,hc=>by cases hc
 | [p],h,c,hc=>h p (by simp) c hc
 | p :: q :: r, h, c, hc => by
   rw [jH] at hc;rcases List.mem_append.1 hc with hc | hc
   . exact h p (by simp) c hc
   . rcases List.mem_cons.1 hc with rfl | hc
     . omega
     . exact AB (q::r) (fun x hx=>h x (by simp [hx])) c hc
theorem KY {g:Int} {a:List Int} (ha:gq g a) (hl:a.length<100):∀ c∈o9 a,42<=c:=by
 unfold o9;split
 . intro c hc;simp at hc;omega
 . refine AB _ fun p hp=>?_;obtain ⟨y,hy,rfl⟩:=List.mem_map.1 hp;obtain ⟨x,n,rfl,_,_,_,h4⟩:=ny _ a (Nat.le_refl _) hl ha y hy;exact Kq h4
theorem yQ {c:Int}:∀ ls:List (List Int),(∀ l∈ls,∀ x∈l,x≠c)->eN c (ls.flatMap fun l=>l++[c])=ls++[[]]
 | [],_=>rfl
 | l::ls,h=>by
   rw [List.flatMap_cons,List.append_assoc,List.singleton_append,qI _ (h l (by simp)),yQ ls fun l hl=>h l (by simp [hl])];rfl
def wO (l:List Int):Prop:=∀ x∈l,0<=x/\x<256
theorem mE (s:ByteArray):wO (af s):=fun _ h=>oT h
theorem lT {a b:List Int} (h:wO a) (k:wO b):wO (a++b):=fun x hx=>(List.mem_append.1 hx).elim (h x) (k x)
theorem W5 (xs:List Int):wO (jA xs):=by
 intro x hx;obtain ⟨y,_,hy⟩:=List.mem_flatMap.1 hx;rcases List.mem_cons.1 hy with rfl | hy
 . omega
 . exact oT hy
def fO (s:ByteArray) (xs:List Int):List Int:=af s++jA xs
def pH (r:Rn):List Int:=af (gE++bH r.g)++af (jl++bH r.au)++af (gZ++bH r.most)++af (iC++bH r.stat)
def wq (r:Rn):Nat->Nat->List (List Int)
 | 0,_=>[]
 | n+1,i=>fO oR (r.par.getD i 0::r.rows.getD i [])::wq r n (i+1)
def p9 (tag:ByteArray) (ws:List (List Int)):List (List Int):=ws.map fun w=>af (tag++cV w)
def mw (r:Rn):List (List Int):=af jB::pH r::(p9 lq r.av++(p9 kP r.sub++(fO lA [r.ph,r.co,r.ix]::wq r r.rows.length 0)))
def sumOf (r:Rn):Int:=ld (aP (kS r))
def kF (ls:List (List Int)):List Int:=ls.flatMap fun l=>l++[10]
theorem mz (l:List Int) (ls:List (List Int)):kF (l::ls)=l++[10]++kF ls:=rfl
theorem wu (a b:List (List Int)):kF (a++b)=kF a++kF b:=List.flatMap_append
theorem MN (r:Rn):∀ n i,fA r n i=kF (wq r n i)
 | 0,_=>rfl
 | n+1,i=>by rw [fA,wq,mz,MN r n (i+1)];rfl
theorem Kr (tag:ByteArray) (ws:List (List Int)):lB tag ws=kF (p9 tag ws):=by
 unfold lB p9 kF;rw [List.flatMap_map];congr 1;funext w;unfold cP jA;simp
theorem MO (r:Rn):kS r=kF (mw r):=by
 unfold kS mw OQ;rw [MN,Kr,Kr,mz,mz,wu,wu,mz];have e1:cP jB []=af jB++[10]:=by unfold cP jA;simp
 have e2:cP lA [r.ph,r.co,r.ix]=fO lA [r.ph,r.co,r.ix]++[10]:=rfl;rw [e1,e2];unfold pH;simp only [List.append_assoc]
theorem En (r:Rn):dV r=kF (mw r++[fO iP [sumOf r]]):=by
 unfold dV fin;rw [wu,MO,mz];show _=_++(_++[]);rw [List.append_nil,<-MO];rfl
structure ox (r:Rn):Prop where
 g:1<=r.g/\r.g<=16
 au:kT r.au
 most:kT r.most
 stat:kT r.stat
 ph:kT r.ph
 co:kT r.co
 ix:kT r.ix
 par:∀ i,kT (r.par.getD i 0)
 rows:∀ l∈r.rows,∀ x∈l,kT x
 av:∀ w∈r.av,gq r.g w/\w.length<100
 sub:∀ w∈r.sub,gq r.g w/\w.length<100
theorem rU {x:Int} (h:kT x):∀ c∈af (bH x),c≠10:=fun c hc=>by have:=yC h c hc;omega
theorem PD {xs:List Int} (h:∀ x∈xs,kT x):∀ c∈jA xs,c≠10:=by
 intro c hc;obtain ⟨y,hy,hc⟩:=List.mem_flatMap.1 hc;rcases List.mem_cons.1 hc with rfl | hc
 . omega
 . exact rU (h y hy) c hc
theorem wv {s:ByteArray} (hs:∀ c∈af s,c≠10) {xs:List Int} (h:∀ x∈xs,kT x):∀ c∈fO s xs,c≠10:=by
 intro c hc;rcases List.mem_append.1 hc with hc | hc
 . exact hs c hc
 . exact PD h c hc
theorem lD {a b:ByteArray} (ha:∀ c∈af a,c≠10) (hb:∀ c∈af b,c≠10):∀ c∈af (a++b),c≠10:=by
 rw [cE];intro c hc;rcases List.mem_append.1 hc with hc | hc
 . exact ha c hc
 . exact hb c hc
theorem AE {g:Int} (hg:g<=16) {tag:ByteArray} (ht:∀ c∈af tag,c≠10) {ws:List (List Int)} (h:∀ w∈ws,gq g w/\w.length<100):∀ l∈p9 tag ws,∀ c∈l,c≠10:=by
 intro l hl;obtain ⟨w,hw,rfl⟩:=List.mem_map.1 hl;obtain ⟨h1,h2⟩:=h w hw;refine lD ht fun c hc=>?_;rw [tG hg h1 h2] at hc;have:=KY h1 h2 c hc;omega
theorem sY (r:Rn):∀ (n i:Nat) (l:List Int),l∈wq r n i->∃ j,l=fO oR (r.par.getD j 0::r.rows.getD j [])
 | 0,_,_,h=>by cases h
 | n+1,i,l,h=>by
   rcases List.mem_cons.1 h with rfl | h
   . exact ⟨i,rfl⟩
   . exact sY r n (i+1) l h
theorem ox.row {r:Rn} (H:ox r) (j:Nat):∀ x∈r.par.getD j 0::r.rows.getD j [],kT x:=by
 intro x hx;rcases List.mem_cons.1 hx with rfl | hx
 . exact H.par j
 . rw [List.getD_eq_getElem?_getD] at hx;cases hj:r.rows[j]? with
   | none=>rw [hj] at hx;cases hx
   | some l =>
     rw [hj] at hx;exact H.rows l (List.mem_of_getElem? hj) x hx
theorem TI:(∀ c∈af jB,c≠10)/\(∀ c∈af gE,c≠10)/\(∀ c∈af jl,c≠10)/\(∀ c∈af gZ,c≠10)/\(∀ c∈af iC,c≠10)/\(∀ c∈af lq,c≠10)/\(∀ c∈af kP,c≠10)/\(∀ c∈af lA,c≠10)/\(∀ c∈af oR,c≠10)/\(∀ c∈af iP,c≠10):=by decide
theorem yR (s:ByteArray):kT (ld s):=by
 have h:∀ (l:List Int) (h:Int),0<=h/\h<4294967296->0<=sP l h/\sP l h<4294967296:=by
  intro l
  induction l with
  | nil=>intro h hh;exact hh
  | cons c l ih =>
    intro h hh;rw [sP];refine ih _ ?_;simp only [IntKind.wrap,IntKind.bits,IntKind.signed];simp;omega
 have:=h (af s) 2166136261 ⟨by omega,by omega⟩;unfold ld;rw [wrap64 (by omega) (by omega)];exact ⟨by omega,by omega⟩
theorem PE {r:Rn} (H:ox r):∀ l∈mw r++[fO iP [sumOf r]],∀ c∈l,c≠10:=by
 obtain ⟨q1,q2,q3,q4,q5,q6,q7,q8,q9,aC⟩:=TI;have hg:=H.g;intro l hl;rcases List.mem_append.1 hl with hl | hl
 . unfold mw at hl;rcases List.mem_cons.1 hl with rfl | hl
   . exact q1
   rcases List.mem_cons.1 hl with rfl | hl
   . unfold pH;rw [<-cE,<-cE,<-cE];exact lD (lD (lD (lD q2 (rU ⟨by omega,by omega⟩)) (lD q3 (rU H.au))) (lD q4 (rU H.most))) (lD q5 (rU H.stat))
   rcases List.mem_append.1 hl with hl | hl
   . exact AE hg.2 q6 H.av l hl
   rcases List.mem_append.1 hl with hl | hl
   . exact AE hg.2 q7 H.sub l hl
   rcases List.mem_cons.1 hl with rfl | hl
   . refine wv q8 fun x hx=>?_;simp at hx;rcases hx with rfl | rfl | rfl
     . exact H.ph
     . exact H.co
     . exact H.ix
   . obtain ⟨j,rfl⟩:=sY r _ _ l hl;exact wv q9 (H.row j)
 . simp at hl;subst hl;refine wv aC fun x hx=>?_;simp at hx;subst hx;exact yR _
theorem lE (s:ByteArray) (xs:List Int):wO (fO s xs):=lT (mE s) (W5 xs)
theorem Ks:∀ ls:List (List Int),(∀ l∈ls,wO l)->wO (kF ls)
 | [],_=>fun _ h=>by cases h
 | l::ls,h=>lT (lT (h l (by simp)) (fun x hx=>by simp at hx;omega)) (Ks ls fun l hl=>h l (by simp [hl]))
theorem FU (r:Rn):∀ l∈mw r++[fO iP [sumOf r]],wO l:=by
 intro l hl;rcases List.mem_append.1 hl with hl | hl
 . unfold mw at hl;rcases List.mem_cons.1 hl with rfl | hl
   . exact mE _
   rcases List.mem_cons.1 hl with rfl | hl
   . exact lT (lT (lT (mE _) (mE _)) (mE _)) (mE _)
   rcases List.mem_append.1 hl with hl | hl
   . obtain ⟨w,_,rfl⟩:=List.mem_map.1 hl;exact mE _
   rcases List.mem_append.1 hl with hl | hl
   . obtain ⟨w,_,rfl⟩:=List.mem_map.1 hl;exact mE _
   rcases List.mem_cons.1 hl with rfl | hl
   . exact lE _ _
   . obtain ⟨j,rfl⟩:=sY r _ _ l hl;exact lE _ _
 . simp at hl;subst hl;exact lE _ _
def dB (r:Rn):List ByteArray:=(mw r++[fO iP [sumOf r]]).map aP
theorem PF {r:Rn} (H:ox r):bq 10 (aP (dV r))=dB r++[jf]:=by
 unfold bq dB;have hb:wO (dV r):=by rw [En];exact Ks _ (FU r)
 rw [eP hb,En];unfold kF;rw [yQ _ (PE H),List.map_append];rfl
theorem Eo (p t:ByteArray):pfx p (p++t)=true:=by
 unfold pfx;rw [cE,List.isPrefixOf_iff_prefix];exact List.prefix_append _ _
theorem MP (p t:ByteArray):oU p (p++t)=t:=by
 unfold oU;rw [if_pos (Eo p t)];apply iQ;have h:=cE p t;have hp:=aW p;have hz:(p++t).size=p.size+t.size:=ByteArray.size_append ..;rw [<-sQ,eP fun x hx=>oT (List.mem_of_mem_drop (List.mem_of_mem_take hx)),h,<-hp,List.drop_left,hz,List.take_of_length_le (by rw [aW];omega)]
theorem BA {p l:ByteArray} (h:(af p).head?≠(af l).head?) (hp:af p≠[]):pfx p l=false:=by
 unfold pfx;cases e:af p with
 | nil=>exact absurd e hp
 | cons x xs =>
   rw [e] at h;cases e2:af l with
   | nil=>rfl
   | cons y ys =>
     rw [e2] at h;rw [List.isPrefixOf];simp at h;simp [h]
def stops (tag:ByteArray) (rest:List ByteArray):Prop:=∀ l r,rest=l::r->pfx (tag++iI) l=false
theorem yS {g:Int} {tag:ByteArray} {rest:List ByteArray} (hr:stops tag rest):∀ (ws:List (List Int)),(∀ w∈ws,gj g (af (cV w))=some w)->dr g tag ((ws.map fun w=>(tag++iI)++cV w)++rest)=some ws
 | [],_=>by
   cases rest with
   | nil=>rfl
   | cons l r =>
     rw [List.map_nil,List.nil_append,dr,if_neg (by rw [hr l r rfl];decide)]
 | w::ws,h=>by
   rw [List.map_cons,List.cons_append,dr,if_pos (Eo _ _),MP,h w (by simp),yS hr ws fun w hw=>h w (by simp [hw])];rfl
theorem FV {tag:ByteArray} {rest:List ByteArray} (hr:stops tag rest):∀ (ts:List ByteArray),dN tag ((ts.map fun t=>(tag++iI)++t)++rest)=ts
 | []=>by
   cases rest with
   | nil=>rfl
   | cons l r =>
     rw [List.map_nil,List.nil_append,dN,if_neg (by rw [hr l r rfl];decide)]
 | t::ts=>by
   rw [List.map_cons,List.cons_append,dN,if_pos (Eo _ _),MP,FV hr ts]
theorem rV {x:Int} (h:kT x):∀ c∈af (bH x),c≠32:=fun c hc=>by have:=yC h c hc;omega
theorem oW {n:ByteArray} (hn:n≠⟨#[]⟩) {x:Int} (hx:kT x) (ns ws:List ByteArray):jT (n::ns) (n::bH x::ws)=(jT ns ws).map (x::·):=by
 rw [jT,vY hn,if_pos rfl];simp only [qU hx]
theorem FW {x:Int} (hx:kT x) (ns ws:List ByteArray):jT (⟨#[]⟩::ns) (bH x::ws)=(jT ns ws).map (x::·):=by
 rw [jT];unfold takeN;rw [if_pos rfl];simp only [qU hx]
theorem PG {r:Rn} (H:ox r):bq 32 (aP (pH r))=[wi,bH r.g,Bw,bH r.au,wj,bH r.most,wm,bH r.stat]:=by
 have hg:=H.g;have h1:kT r.g:=⟨by omega,by omega⟩;unfold bq;have hb:wO (pH r):=lT (lT (lT (mE _) (mE _)) (mE _)) (mE _);rw [eP hb];have e:pH r=af wi++[af (bH r.g),af Bw,af (bH r.au),af wj,af (bH r.most),af wm,af (bH r.stat)].flatMap fun q=>32::q:=by
  unfold pH;simp only [cE,List.flatMap_cons,List.flatMap_nil,List.append_nil,List.append_assoc,List.cons_append];rw [show af gE=af wi++[32] from rfl,show af jl=32::(af Bw++[32]) from rfl,show af gZ=32::(af wj++[32]) from rfl,show af iC=32::(af wm++[32]) from rfl];simp only [List.append_assoc,List.cons_append,List.nil_append]
 rw [e,tH (by decide) _ fun q hq=>?_]
 . simp only [List.map_cons,List.map_nil,lS]
 . simp only [List.mem_cons,List.not_mem_nil,or_false] at hq;rcases hq with rfl | rfl | rfl | rfl | rfl | rfl | rfl
   . exact rV h1
   . decide
   . exact rV H.au
   . decide
   . exact rV H.most
   . decide
   . exact rV H.stat
theorem wz {s:ByteArray} (hs:∀ x∈af s,x≠32) {xs:List Int} (hx:∀ x∈xs,kT x):bq 32 (aP (fO s xs))=s::xs.map bH:=by
 unfold bq;rw [eP (lE s xs)];unfold fO;rw [OU hs hx,List.map_cons,lS,List.map_map];congr 1;refine List.map_congr_left fun x _=>lS _
theorem KZ {r:Rn} (H:ox r):jT [wi,Bw,wj,wm] (bq 32 (aP (pH r)))=some [r.g,r.au,r.most,r.stat]:=by
 have hg:=H.g;rw [PG H,oW (by decide) ⟨by omega,by omega⟩,oW (by decide) H.au,oW (by decide) H.most,oW (by decide) H.stat];rfl
theorem TJ {r:Rn} (H:ox r):jT [lA,jf,jf] (bq 32 (aP (fO lA [r.ph,r.co,r.ix])))=some [r.ph,r.co,r.ix]:=by
 rw [wz (by decide) (fun x hx=>by simp at hx;rcases hx with rfl | rfl | rfl;exact H.ph;exact H.co;exact H.ix)];simp only [List.map_cons,List.map_nil];unfold jf;rw [oW (by decide) H.ph,FW H.co,FW H.ix];rfl
theorem PI (r:Rn):jT [iP] (bq 32 (aP (fO iP [sumOf r])))=some [sumOf r]:=by
 rw [wz (by decide) (fun x hx=>by simp at hx;subst hx;exact yR _)];simp only [List.map_cons,List.map_nil];rw [oW (x:=sumOf r) (by decide) (yR _)];rfl
def ol (r:Rn) (i:Nat):ByteArray:=aP (fO (bH (r.par.getD i 0)) (r.rows.getD i []))
theorem TK (r:Rn) (i:Nat):aP (fO oR (r.par.getD i 0::r.rows.getD i []))=(bU++iI)++ol r i:=by
 apply iQ;unfold ol;rw [cE,eP (lE _ _),eP (lE _ _)];unfold fO;rw [show af (bU++iI)=af oR++[32] from rfl];show af oR++(32::af (bH _)++jA _)=_;simp only [List.append_assoc,List.cons_append,List.nil_append]
theorem FX (r:Rn):∀ n i,(wq r n i).map aP=((List.range' i n).map (ol r)).map fun t=>(bU++iI)++t
 | 0,_=>rfl
 | n+1,i=>by
   rw [wq,List.map_cons,TK,FX r n (i+1),List.range'_succ];rfl
theorem wA {r:Rn} (H:ox r) (i:Nat):bq 32 (ol r i)=bH (r.par.getD i 0)::(r.rows.getD i []).map bH :=
 wz (rV (H.par i)) fun x hx=>H.row i x (List.mem_cons_of_mem _ hx)
theorem yT {r:Rn} (H:ox r) (i:Nat):bN (ol r i)=r.par.getD i 0::r.rows.getD i []:=by
 unfold bN;rw [wA H i,List.map_cons,List.map_map,qU (H.par i)];congr 1;have:∀ x∈r.rows.getD i [],((fun w=>(fK (af w)).getD 0) ∘ bH) x=x:=fun x hx=>by
  show (fK (af (bH x))).getD 0=x;rw [qU (H.row i x (List.mem_cons_of_mem _ hx))];rfl
 rw [List.map_congr_left this,List.map_id']
theorem ZH {r:Rn} (H:ox r) (i:Nat) (hl:(r.rows.getD i []).length=(2*r.g).toNat):l5 r.g (ol r i):=by
 have hg:=H.g;refine ⟨?_,⟨hg.1,hg.2⟩,fun w hw=>?_,?_⟩
 . unfold ol;rw [lR];unfold fO;have h1:=eI (r.par.getD i 0) (by have:=H.par i;unfold kT at this;exact ⟨by omega,by omega⟩);have h2:=sO (r.rows.getD i []) fun x hx=>by have:=H.row i x (List.mem_cons_of_mem _ hx);unfold kT at this;exact ⟨by omega,by omega⟩
   rw [List.length_append,aW];omega
 . rw [wA H i] at hw;rcases List.mem_cons.1 hw with rfl | hw
   . rw [qU (H.par i)];rfl
   . obtain ⟨x,hx,rfl⟩:=List.mem_map.1 hw;rw [qU (H.row i x (List.mem_cons_of_mem _ hx))];rfl
 . rw [wA H i,List.length_cons,List.length_map,hl];omega
theorem Dq {α:Type} (l:List α) (d:α):(List.range' 0 l.length).map (fun i=>l.getD i d)=l:=by
 apply List.ext_getElem?;intro i;rw [List.getElem?_map];rcases Nat.lt_or_ge i l.length with h | h
 . rw [List.getElem?_range' h,List.getElem?_eq_getElem h];simp [List.getD_eq_getElem?_getD,h]
 . rw [List.getElem?_eq_none (by simpa using h),List.getElem?_eq_none h];rfl
theorem ZI {r:Rn} (H:ox r):sW ((List.range' 0 r.rows.length).map (ol r))=r.rows:=by
 unfold sW;rw [List.map_map];refine (List.map_congr_left fun i _=>?_).trans (Dq r.rows []);show (bN (ol r i)).tail=_;rw [yT H];rfl
theorem ZJ {r:Rn} (H:ox r) (hl:r.par.length=r.rows.length):hdF ((List.range' 0 r.rows.length).map (ol r))=r.par:=by
 unfold hdF;rw [List.map_map,<-hl];refine (List.map_congr_left fun i _=>?_).trans (Dq r.par 0);show (bN (ol r i)).headD 0=_;rw [yT H];rfl
theorem Kt {r:Rn} (H:ox r):∀ (n i:Nat) (live:Int),qv live i ((List.range' i n).map (ol r))=live+((List.range' i n).countP fun j=>decide (r.par.getD j 0=(j:Int)):Nat)
 | 0,_,live=>by simp [qv]
 | n+1,i,live=>by
   rw [List.range'_succ,List.map_cons,qv,Kt H n (i+1),List.countP_cons];unfold yJ;rw [yT H];show (if r.par.getD i 0=(i:Int) then live+1 else live)+_=_;by_cases h:r.par.getD i 0=(i:Int)
   . rw [if_pos h,if_pos (decide_eq_true h)];omega
   . rw [if_neg h,if_neg (by rw [decide_eq_false h];decide)];omega
theorem TL {r:Rn} (H:ox r) (hl:r.par.length=r.rows.length) (ha:r.live=al r.par):qv 0 0 ((List.range' 0 r.rows.length).map (ol r))=r.live:=by
 rw [Kt H,ha];unfold al;rw [hl,List.range_eq_range'];simp
theorem ZK:lq=cB++iI:=iQ (by rw [cE];rfl)
theorem ZL:kP=cx++iI:=iQ (by rw [cE];rfl)
theorem Dr (tag:ByteArray) (ws:List (List Int)):(p9 tag ws).map aP=ws.map fun w=>tag++cV w:=by
 unfold p9;rw [List.map_map];exact List.map_congr_left fun w _=>lS _
def Ds (r:Rn):ByteArray:=aP (fO lA [r.ph,r.co,r.ix])
def oX (r:Rn):ByteArray:=aP (fO iP [sumOf r])
def uK (r:Rn):List ByteArray:=(List.range' 0 r.rows.length).map (ol r)
theorem FY (r:Rn):dB r=jB::aP (pH r)::((r.av.map fun w=>(cB++iI)++cV w)++((r.sub.map fun w=>(cx++iI)++cV w)++(Ds r::(((uK r).map fun t=>(bU++iI)++t)++[oX r])))):=by
 unfold dB mw;simp only [List.map_cons,List.map_append,List.cons_append,List.append_assoc,List.map_nil];rw [Dr,Dr,FX,lS,ZK,ZL];rfl
theorem PJ (r:Rn):(dB r).length=4+r.av.length+r.sub.length+r.rows.length:=by
 rw [FY];unfold uK;simp only [List.length_cons,List.length_append,List.length_map,List.length_range',List.length_nil];omega
def oo (r:Rn):lV:={ s:=aP (dV r),L:=dB r,h:=⟨r.g,r.au,r.most,r.stat⟩,R:=r.av,S:=r.sub,p:=⟨r.ph,r.co,r.ix⟩,eK:=sumOf r,live:=r.live,rows:=r.rows,par:=r.par,i1:=2+r.av.length,i2:=2+r.av.length+r.sub.length,i4:=2+r.av.length+r.sub.length+1+r.rows.length }
def forget (r:Rn):Rn:={ r with dl:=[],dn:=0 }
theorem ldv_rn (r:Rn):(oo r).rn=forget r:=rfl
theorem sZ (r:Rn):∀ n i,fA (forget r) n i=fA r n i
 | 0,_=>rfl
 | n+1,i=>by rw [fA,fA,sZ r n (i+1)];rfl
theorem tL (r:Rn):dV (forget r)=dV r:=by
 unfold dV kS;rw [sZ];rfl
theorem yU {r:Rn} (H:Sv r):Sv (forget r):=⟨H.n0,H.n1,H.pl,H.rl,H.pr,H.g,H.au,H.most,H.stat,H.ph,H.co,H.ix,H.av,H.sub,H.nr,H.ns⟩
theorem K2 {r:Rn} (F:bS r):bS (forget r):=⟨F.g1,F.g2,F.len,F.par,F.row,Nat.zero_le _,(fun x hx=>by cases hx),F.live,F.sum⟩
theorem K3 {r:Rn} (H:uJ r):uJ (forget r):=⟨K2 H.fine,⟨H.mo.lo,H.mo.hi⟩,⟨⟨H.sp.rest.nb,H.sp.rest.dd,H.sp.rest.cp⟩,H.sp.fin,H.sp.yP,H.sp.co⟩,H.B,H.n1,H.nl,H.st⟩
theorem yV {tag:ByteArray}:∀ (ws:List (List Int)),(∀ w∈ws,gq 16 w/\w.length<100)->(lB tag ws).length<=(tag.size+601)*ws.length
 | [],_=>Nat.zero_le _
 | w::ws,h=>by
   obtain ⟨h1,h2⟩:=h w (by simp);have ih:=yV (tag:=tag) ws fun w hw=>h w (by simp [hw]);have hz:=nX (Int.le_refl 16) h1 h2;have hl:=jY (tag++cV w) [] (fun x hx=>by cases hx);have ha:(tag++cV w).size=tag.size+(cV w).size:=ByteArray.size_append ..;show (cP _ _++lB tag ws).length<=_;rw [List.length_append,List.length_cons];simp only [List.length_nil] at hl;have:(tag.size+601)*(ws.length+1)=(tag.size+601)*ws.length+(tag.size+601):=by rw [Nat.mul_add,Nat.mul_one]
   omega
theorem yX {r:Rn} (H:Sv r):∀ n i,i+n<=r.rows.length->(fA r n i).length<=730*n
 | 0,_,_=>Nat.zero_le _
 | n+1,i,h=>by
   have ih:=yX H n (i+1) (by omega);have hm:=fw (l:=r.rows) (a:=i) (by omega);obtain ⟨h1,h2⟩:=H.rl _ hm;have hp:r.par.getD i 0∈r.par:=gO (by have:=H.pl;omega);have hl:=jY oR (r.par.getD i 0::r.rows.getD i []) fun x hx=>by
    rcases List.mem_cons.1 hx with rfl | hx
    . exact H.pr _ hp
    . exact h2 x hx
   rw [List.length_cons] at hl;have Gy:oR.size=3:=rfl;rw [fA,List.length_append];unfold Gu;omega
theorem Ku {r:Rn} (H:Sv r):(kS r).length<=870000:=by
 have h1:=eI r.g H.g;have h2:=eI r.au H.au;have h3:=eI r.most H.most;have h4:=eI r.stat H.stat;have a1:(gE++bH r.g).size=5+(bH r.g).size:=ByteArray.size_append ..;have a2:(jl++bH r.au).size=7+(bH r.au).size:=ByteArray.size_append ..;have a3:(gZ++bH r.most).size=6+(bH r.most).size:=ByteArray.size_append ..;have a4:(iC++bH r.stat).size=8+(bH r.stat).size:=ByteArray.size_append ..;have g0:(cP jB []).length=8:=rfl;have w1:=yV (tag:=lq) r.av H.av;have w2:=yV (tag:=kP) r.sub H.sub;have z1:lq.size=4:=rfl;have z2:kP.size=4:=rfl;rw [z1] at w1;rw [z2] at w2;have sL:=H.nr;have hns:=H.ns;have hn1:=H.n1;have hr:=yX H r.rows.length 0 (by omega);have ha:=jY lA [r.ph,r.co,r.ix] (fun x hx=>by simp at hx;rcases hx with rfl | rfl | rfl;exact H.ph;exact H.co;exact H.ix);have z3:lA.size=2:=rfl;simp only [List.length_cons,List.length_nil] at ha;unfold kS OQ;simp only [List.length_append,aW,List.length_cons,List.length_nil];omega
theorem MQ (r:Rn):dV r=kS r++(fO iP [sumOf r]++[10]):=rfl
theorem FZ (r:Rn):(oX r).size=(fO iP [sumOf r]).length:=lR _
theorem wB (s:ByteArray) (xs:List Int) (h:∀ x∈xs,ji x):(fO s xs).length<=s.size+22*xs.length:=by
 have:=sO xs h;unfold fO;rw [List.length_append,aW];omega
theorem shl {r:Rn} (H:ox r) (S:Sv r):uG (dB r):=by
 have hb:=Ku S;have h1:=eI r.g S.g;have h2:=eI r.au S.au;have h3:=eI r.most S.most;have h4:=eI r.stat S.stat;have a1:(gE++bH r.g).size=5+(bH r.g).size:=ByteArray.size_append ..;have a2:(jl++bH r.au).size=7+(bH r.au).size:=ByteArray.size_append ..;have a3:(gZ++bH r.most).size=6+(bH r.most).size:=ByteArray.size_append ..;have a4:(iC++bH r.stat).size=8+(bH r.stat).size:=ByteArray.size_append ..;have hw:∀ {tag:ByteArray} {ws:List (List Int)},tag.size<=10->(∀ w∈ws,gq 16 w/\w.length<100)->∀ l∈p9 tag ws,l.length<=20000:=by
  intro tag ws ht hw l hl;obtain ⟨w,hw',rfl⟩:=List.mem_map.1 hl;obtain ⟨q1,q2⟩:=hw w hw';have hz:=nX (Int.le_refl 16) q1 q2;have ha:(tag++cV w).size=tag.size+(cV w).size:=ByteArray.size_append ..;rw [aW];omega
 intro b hb;obtain ⟨l,hl,rfl⟩:=List.mem_map.1 hb;rw [lR];rcases List.mem_append.1 hl with hl | hl
 . unfold mw at hl;rcases List.mem_cons.1 hl with rfl | hl
   . decide
   rcases List.mem_cons.1 hl with rfl | hl
   . unfold pH;simp only [List.length_append,aW];omega
   rcases List.mem_append.1 hl with hl | hl
   . exact hw (by decide) S.av l hl
   rcases List.mem_append.1 hl with hl | hl
   . exact hw (by decide) S.sub l hl
   rcases List.mem_cons.1 hl with rfl | hl
   . have:=wB lA [r.ph,r.co,r.ix] (fun x hx=>by simp at hx;rcases hx with rfl | rfl | rfl;exact S.ph;exact S.co;exact S.ix);have z:lA.size=2:=rfl;simp only [List.length_cons,List.length_nil] at this;omega
   . obtain ⟨j,rfl⟩:=sY r _ _ l hl;have:=wB oR _ fun x hx=>by have:=H.row j x hx;unfold kT at this;exact ⟨by omega,by omega⟩
     have z:oR.size=3:=rfl;have EV:(r.rows.getD j []).length<=32:=by
      rw [List.getD_eq_getElem?_getD];cases hj:r.rows[j]? with
      | none=>exact Nat.zero_le _
      | some l=>exact (S.rl l (List.mem_of_getElem? hj)).1
     rw [List.length_cons] at this;omega
 . simp at hl;subst hl;have:=wB iP [sumOf r] (fun x hx=>by simp at hx;subst hx;exact wrap_i64 _);have z:iP.size=3:=rfl;simp only [List.length_cons,List.length_nil] at this;omega
theorem Kv (r:Rn) (rest:List ByteArray) (tag:ByteArray) (h:tag=cB∨tag=cx):stops tag (Ds r::rest):=by
 intro l q e;cases e;refine BA ?_ ?_
 . unfold Ds;rw [eP (lE _ _)];rcases h with rfl | rfl
   . rw [cE];intro h;cases h
   . rw [cE];intro h;cases h
 . rcases h with rfl | rfl
   . rw [cE];intro h;cases h
   . rw [cE];intro h;cases h
theorem TM (r:Rn) (rest:List ByteArray):stops bU (oX r::rest):=by
 intro l q e;cases e;refine BA ?_ ?_
 . unfold oX;rw [eP (lE _ _),cE];intro h;cases h
 . rw [cE];intro h;cases h
theorem TN (r:Rn) (rest:List ByteArray):stops cB ((r.sub.map fun w=>(cx++iI)++cV w)++(Ds r::rest)):=by
 cases hs:r.sub with
 | nil=>exact Kv r rest cB (.inl rfl)
 | cons w ws =>
   intro l q e;cases e;refine BA ?_ ?_
   . rw [cE,cE,cE];intro h;cases h
   . rw [cE];intro h;cases h
theorem BB {α:Type} (a b:List α):(a++b).drop a.length=b:=List.drop_left
theorem W6 (r:Rn):(aP (dV r)).extract 0 (kS r).length=aP (kS r):=by
 have hb:wO (dV r):=by rw [En];exact Ks _ (FU r)
 have h:=sQ (aP (dV r)) 0 (kS r).length;rw [eP hb,List.drop_zero,Nat.sub_zero,MQ,List.take_left] at h;exact h.symm
theorem ZM {r:Rn} (R:uJ r) (H:ox r) (S:Sv r):rT (oo r):=by
 have hg:=H.g;have hlb:=PJ r;have hle:=FY r;have sL:=S.nr;have hns:=S.ns;have hn1:=S.n1;have hn0:=S.n0;have hbl:=Ku S;have hpl:=S.pl;obtain ⟨_,hr100,_⟩:=Jr R.B.eK;have hs100:=R.B.subs.1;have hpr:∀ w,gq r.g w/\w.length<100->gj r.g (af (cV w))=some w:=fun w hw=>by
  rw [tG hg.2 hw.1 hw.2];exact N9 hg.2 hw.1 hw.2
 have hcs:=wB iP [sumOf r] (fun x hx=>by simp at hx;subst hx;exact wrap_i64 _);have z:iP.size=3:=rfl;simp only [List.length_cons,List.length_nil] at hcs;have hsz:(aP (dV r)).size=(kS r).length+((fO iP [sumOf r]).length+1):=by
  rw [lR,MQ,List.length_append,List.length_append,List.length_singleton]
 have d2:(dB r).drop 2=(r.av.map fun w=>(cB++iI)++cV w)++((r.sub.map fun w=>(cx++iI)++cV w)++(Ds r::(((uK r).map fun t=>(bU++iI)++t)++[oX r]))):=by rw [hle];rfl
 have d3:(dB r).drop (2+r.av.length)=(r.sub.map fun w=>(cx++iI)++cV w)++(Ds r::(((uK r).map fun t=>(bU++iI)++t)++[oX r])):=by
  rw [<-List.drop_drop,d2];have:=BB (r.av.map fun w=>(cB++iI)++cV w) ((r.sub.map fun w=>(cx++iI)++cV w)++(Ds r::(((uK r).map fun t=>(bU++iI)++t)++[oX r])));rw [List.length_map] at this;exact this
 have d4:(dB r).drop (2+r.av.length+r.sub.length)=Ds r::(((uK r).map fun t=>(bU++iI)++t)++[oX r]):=by
  rw [<-List.drop_drop,d3];have:=BB (r.sub.map fun w=>(cx++iI)++cV w) (Ds r::(((uK r).map fun t=>(bU++iI)++t)++[oX r]));rw [List.length_map] at this;exact this
 have d5:(dB r).drop (2+r.av.length+r.sub.length+1)=((uK r).map fun t=>(bU++iI)++t)++[oX r]:=by
  rw [<-List.drop_drop,d4];rfl
 have htl:(uK r).length=r.rows.length:=by unfold uK;simp
 have d6:(dB r).drop (2+r.av.length+r.sub.length+1+r.rows.length)=[oX r]:=by
  rw [<-List.drop_drop,d5];have:=BB ((uK r).map fun t=>(bU++iI)++t) [oX r];rw [List.length_map,htl] at this;exact this
 have gd:∀ (i:Nat) (b:ByteArray) (q:List ByteArray),(dB r).drop i=b::q->(dB r).getD i ⟨#[]⟩=b:=by
  intro i b q h;have:((dB r).drop i)[0]? = some b:=by rw [h];rfl
  rw [List.getElem?_drop,Nat.add_zero] at this;rw [List.getD_eq_getElem?_getD,this];rfl
 have n2:((oo r).i2).toNat=2+r.av.length+r.sub.length:=by show ((2:Int)+r.av.length+r.sub.length).toNat=_;omega
 have n4:((oo r).i4).toNat=2+r.av.length+r.sub.length+1+r.rows.length:=by show ((2:Int)+r.av.length+r.sub.length+1+r.rows.length).toNat=_;omega
 have tails:dN bU ((dB r).drop (((oo r).i2).toNat+1))=uK r:=by
  rw [n2,d5];exact FV (TM r []) (uK r)
 have hfl:∀ {i:Int} {b:ByteArray} {q:List ByteArray} {ns:List ByteArray} {res:List Int},i≠(dB r).length->(dB r).drop i.toNat=b::q->jT ns (bq 32 b)=some res->fG (dB r) i ns=some res:=by
  intro i b q ns res h1 h2 h3;unfold fG;rw [if_neg h1,gd _ _ _ h2,h3]
 refine { sz:=?_,sh:=shl H S,len:=?_,spl:=PF H,h0:=?_,hd:=?_,g:=⟨hg.1,hg.2⟩,av:=?_,rl:=hr100,e1:=rfl,subs:=?_,sl:=hs100,e2:=rfl,at':=?_,lv:=?_,rws:=?_,prs:=?_,tn:=?_,tok:=?_,e4:=rfl,fin:=?_,sum:=?_,eK:=?_,chs:=?_,may:=(K3 R).may,sv:=yU S,back:=?_ }
 . show (aP (dV r)).size<=_;omega
 . show (dB r).length<=_;omega
 . show (dB r).headD jf=_;rw [hle];rfl
 . exact hfl (i:=1) (by omega) (by rw [hle];rfl) (KZ H)
 . show dr r.g cB ((dB r).drop 2)=some r.av;rw [d2];exact yS (TN r _) r.av fun w hw=>hpr w (H.av w hw)
 . show dr r.g cx ((dB r).drop ((2:Int)+r.av.length).toNat)=some r.sub;rw [show ((2:Int)+r.av.length).toNat=2+r.av.length by omega,d3];exact yS (Kv r _ cx (.inr rfl)) r.sub fun w hw=>hpr w (H.sub w hw)
 . exact hfl (i:=2+r.av.length+r.sub.length) (by omega) (by rw [show ((2:Int)+r.av.length+r.sub.length).toNat=2+r.av.length+r.sub.length by omega];exact d4) (TJ H)
 . show qv 0 0 (dN bU ((dB r).drop (((oo r).i2).toNat+1)))=r.live;rw [tails];exact TL H hpl R.fine.live
 . show sW (dN bU ((dB r).drop (((oo r).i2).toNat+1)))=r.rows;rw [tails];exact ZI H
 . show hdF (dN bU ((dB r).drop (((oo r).i2).toNat+1)))=r.par;rw [tails];exact ZJ H hpl
 . show r.rows≠[];intro h;rw [h] at hn0;simp at hn0
 . show ∀ t∈dN bU ((dB r).drop (((oo r).i2).toNat+1)),l5 r.g t;rw [tails];intro t ht;obtain ⟨i,hi,rfl⟩:=List.mem_map.1 ht;have hi:=(List.mem_range'_1.1 hi).2;have hrow:∀ l∈r.rows,Row (2*r.g).toNat r.rows.length l:=R.fine.row;exact ZH H i (hrow _ (fw (by omega))).1
 . show (2:Int)+r.av.length+r.sub.length+1+r.rows.length+1=(dB r).length;omega
 . simp only [oo];exact hfl (i:=2+r.av.length+r.sub.length+1+r.rows.length) (b:=oX r) (q:=[]) (ns:=[iP]) (res:=[sumOf r]) (by omega) (by rw [show ((2:Int)+r.av.length+r.sub.length+1+r.rows.length).toNat=2+r.av.length+r.sub.length+1+r.rows.length by omega];exact d6) (PI r)
 . have hx:(aP (dV r)).size-((dB r).getD (((oo r).i4).toNat) ⟨#[]⟩).size-1=(kS r).length:=by
    rw [n4,gd _ _ _ d6,FZ,hsz];generalize (fO iP [sumOf r]).length=k;generalize (kS r).length=m;omega
   have e1:(oo r).eK=sumOf r:=by simp only [oo]
   have e2:(oo r).s=aP (dV r):=by simp only [oo]
   have e3:(oo r).L=dB r:=by simp only [oo]
   have e4:jf=⟨#[]⟩:=rfl;rw [e1,e2,e3,e4,hx,W6];unfold sumOf;rfl
 . show ((dB r).getD (((oo r).i4).toNat) ⟨#[]⟩).size<(aP (dV r)).size;rw [n4,gd _ _ _ d6,FZ,hsz];omega
 . show aP (dV (forget r))=aP (dV r);rw [tL]
def MR:bw:=Ig (.t,.dec true,[])
theorem PK:aH Tryz.prog 24 MR:=DT (by kernel_rfl) fun _=>by
 intro base η Z w vs R0 hv hK;refine (Pw base η Z w vs R0 hv hK).mono ?_;rintro e w' ⟨u,aB,Z',h4,h5,h6⟩;exact ⟨u,aB,Z',h4,h5,h6.2⟩
structure Bk (X:Rn):Prop where
 rest:uJ X
 txt:ox X
 sv:Sv X
def Kw (X:Rn):bw:={ refs:=[],f:=fun args aj=>match args,aj with
 | [y],[]=>match gb .str y with
   | some s=>some (.p (s=aP (dV X)/\Bk X),.aF [.c (.ptr 0 0),.agg [.int .i64 0,.int .i64 0]],obs (forget X))
   | none=>none
 | _,_=>none }
theorem TP (X:Rn):aH Tryz.prog 16 (Kw X):=by
 refine ⟨by kernel_rfl,fun args aj c r aR e hc=>?_⟩;simp only [Kw] at e;split at e
 . split at e
   . rename_i h1;cases e;obtain ⟨rfl,H⟩:=hc;have:=WZ (oo X) (ZM H.rest H.txt H.sv);rw [ldv_rn] at this;exact this.args fun η Z vs hv=>match vs,hv with
      | [_],⟨a1,_⟩=>⟨ck h1 a1,trivial⟩
   . cases e
 . cases e
theorem TQ {r:Rn} (F:bS r) (m:Mo r) (h0:0<r.rows.length) (h1:r.rows.length<=1000) (hg:1<=r.g/\r.g<=3) (hr:p8 r.g r.av) (hs:p8 r.g r.sub) (hl:0<=r.au/\r.au<=1000000) (hst:0<=r.stat/\r.stat<=2) (hp:(0<=r.ph/\r.ph<=3)/\(0<=r.co/\r.co<=r.rows.length)/\(0<=r.ix/\r.ix<=1000)):ox r:=by
 have hlen:r.par.length=r.rows.length:=F.len;have hpar:jG r.par:=F.par;have hrow:∀ l∈r.rows,Row (2*r.g).toNat r.rows.length l:=F.row;have hlo:=m.lo;have hhi:=m.hi;have hlp:=F.Bv h0;have hw:∀ {rs:List (List Int)},p8 r.g rs->∀ w∈rs,gq r.g w/\w.length<100:=fun H w hw=>by
  obtain ⟨a,b⟩:=H.w w hw;exact ⟨fun x hx=>by have:=b x hx;omega,by omega⟩
 refine ⟨by omega,⟨by omega,by omega⟩,⟨by omega,by omega⟩,⟨by omega,by omega⟩,⟨by omega,by omega⟩,⟨by omega,by omega⟩,⟨by omega,by omega⟩,fun i=>?_,fun l hl x hx=>?_,hw hr,hw hs⟩
 . rcases Nat.lt_or_ge i r.par.length with h | h
   . have:=hpar.2 i h;exact ⟨by omega,by omega⟩
   . rw [List.getD_eq_getElem?_getD,List.getElem?_eq_none h];exact ⟨by show (-1:Int)<=0;omega,by show (0:Int)<_;omega⟩
 . have:=(hrow l hl).2 x hx;exact ⟨by omega,by omega⟩
theorem TR {g au:Int} {av sub:List (List Int)} {a c:Nat} (ha:a<(eD g au av sub).rows.length) (hc:c<(2*g).toNat):bD (eD g au av sub).rows a c=-1:=by
 have ha:a<1:=ha;have:a=0:=by omega
 subst this;show ([List.replicate (2*g).toNat (-1:Int)].getD 0 []).getD c 0=-1;rw [List.getD_cons_zero,List.getD_eq_getElem?_getD,List.getElem?_replicate,if_pos hc];rfl
theorem Kx (g au:Int) (av sub:List (List Int)):cG.Rest (eD g au av sub) 0:=by
 refine ⟨fun a c ha hc h=>?_,fun a c ha hc hl=>?_,fun a c ha hK=>by omega⟩
 . rw [TR ha hc] at h;omega
 . rw [TR ha hc];omega
theorem rn0_ps (g au:Int) (av sub:List (List Int)):Ps (eD g au av sub):=⟨Kx g au av sub,fun _=>rfl,fun h=>by cases h⟩
theorem bk_rn0 {g:Int} {av sub:List (List Int)} (B:Begins g 200 av sub) (hg:1<=g/\g<=3) (hr:p8 g av) (hs:p8 g sub):Bk (eD g 200 av sub):=by
 have G:=B.good;have m0:=Kg g 200 av sub;have l0:(eD g 200 av sub).rows.length=1:=rfl;refine ⟨⟨G.fine,m0,⟨Kx g 200 av sub,(fun h=>by cases h),fun _=>.inl ⟨rfl,rfl,Int.le_refl _,.inl (by show (0:Int)<1;omega)⟩,fun _=>⟨Int.le_refl _,by show (0:Int)<(1:Nat);omega,rfl⟩⟩,B,by omega,by show ((1:Nat):Int)<=200;omega,⟨Int.le_refl _,by show (0:Int)<=2;omega⟩⟩,?_,?_⟩
 . exact TQ G.fine m0 (by omega) (by omega) hg hr hs ⟨by show (0:Int)<=200;omega,by show (200:Int)<=_;omega⟩ ⟨Int.le_refl _,by show (0:Int)<=2;omega⟩ ⟨⟨Int.le_refl _,by show (0:Int)<=3;omega⟩,⟨Int.le_refl _,by show (0:Int)<=(1:Nat);omega⟩,⟨Int.le_refl _,by show (0:Int)<=1000;omega⟩⟩
 . exact Yf G.fine m0 (by omega) (by omega) hg hr hs ⟨by show (0:Int)<=200;omega,by show (200:Int)<=_;omega⟩ ⟨Int.le_refl _,by show (0:Int)<=2;omega⟩ ⟨⟨Int.le_refl _,by show (0:Int)<=3;omega⟩,⟨Int.le_refl _,by show (0:Int)<=(1:Nat);omega⟩,⟨Int.le_refl _,by show (0:Int)<=1000;omega⟩⟩
theorem ZN {g:Int} {av sub:List (List Int)} (B:Begins g 200 av sub) (hg:1<=g/\g<=3) (hr:p8 g av) (hs:p8 g sub) {N:Int} (hN:1<=N):Bk (bM (eD g 200 av sub) N).1:=by
 have G:=B.good;have X:=Kb G (Kg g 200 av sub) rfl hN;have hsp:Sp (bM (eD g 200 av sub) N).1:=by
  rw [step_eq rfl hN];exact run_sp G (rn0_ps g 200 av sub) rfl N.toNat
 have x1:=X.len;have x2:=X.ou;have x3:=X.au;have l0:(eD g 200 av sub).rows.length=1:=rfl;have hl:(eD g 200 av sub).au=200:=rfl;obtain ⟨e1,e2,e3,e4⟩:=X.same;have e1:(bM (eD g 200 av sub) N).1.g=g:=e1;have e2:(bM (eD g 200 av sub) N).1.av=av:=e2;have e3:(bM (eD g 200 av sub) N).1.sub=sub:=e3;have e4:(bM (eD g 200 av sub) N).1.au=200:=e4;have xp:0<(bM (eD g 200 av sub) N).1.rows.length:=by omega
 refine ⟨⟨X.fine,X.mo,Yk.of hsp,by rw [e1,e2,e3,e4];exact B,xp,by omega,X.stat⟩,?_,?_⟩
 . exact TQ X.fine X.mo xp (by omega) (by rw [e1];exact hg) (by rw [e1,e2];exact hr) (by rw [e1,e3];exact hs) (by rw [e4];omega) X.stat X.pos
 . exact Yf X.fine X.mo xp (by omega) (by rw [e1];exact hg) (by rw [e1,e2];exact hr) (by rw [e1,e3];exact hs) (by rw [e4];omega) X.stat X.pos
def TS (n:Int) (gg:Int×List (List Int)) (ww:List (List Int)):Rn:=if 0<bt n 120 then (bM (eD gg.1 200 gg.2 ww) (bt n 120)).1 else eD gg.1 200 gg.2 ww
noncomputable def gBk (X:Rn):bF:=[(24,MR),(25,MB),(26,Ej),(27,zD),(13,cNew),(15,CS),(28,OD),(14,Gs),(17,OT),(16,Kw X)]
theorem gBk_ok (X:Rn):aS Tryz.prog (gBk X):=ai PK (ai Pk (ai Dk (ai rN (ai Za (ai Bj (ai Jj (ai Bl (ai JD (ai (TP X) ay)))))))))
theorem W7 (which n:Int) (l k:List Int):aT Tryz.prog 5 [nI which,nI n,aZ l,aZ k] [] (bB true) []:=by
 refine bI (live:=[]) (gBk_ok (TS n (cA which l) (gF k (cA which l).1))) Tryz.func5 (by kernel_rfl) (keep:=0) rfl (by kernel_rfl) 300 ?_;apply of_eq (q:=let q1:=(eD (cA which l).fst (200:Int) (cA which l).snd (gF k (cA which l).fst));let q5:=(bM q1 (bt n (120:Int)));let q6:=decide ((0:Int)=(0:Int));let q7:=(A.p (V.agg (List.take (2:Nat) (List.drop (0:Nat) (Ob.mk 25 (Fd.c (W.int .i64 (cA which l).fst)::Fd.c (W.rd (D.int .i64).sl (cA which l).snd)::List.append._f [] PUnit.unit [])).cells))));let aC:=decide ((60:Int)<(l.length:Int));let aM:=(q6&&(q6&&true));let aQ:=(TS n (cA which l) (gF k (cA which l).fst));let br:=((2:Int)*q1.g);let aV:=((2:Int)*q5.fst.g);let aU:=(1:Nat);let dm:=([]:List Ob);let q2:=(forget aQ);let q3:=decide ((if (0:Nat)<q2.rows.length then q2.stat else (0:Int))=if (0:Nat)<q5.fst.rows.length then q5.fst.stat else (0:Int));let q4:=decide ((if (0:Nat)<q2.rows.length then q2.stat else (0:Int))=if (0:Nat)<aU then q1.stat else (0:Int));let q8:=decide ((↑q5.fst.rows.length:Int)=(↑q2.rows.length:Int));let q9:=decide ((↑aU:Int)=(↑q2.rows.length:Int));let bg:=((2:Int)*q2.g);let bJ:=decide (aP (dV q2)=aP (dV q5.fst));let bK:=decide (aP (dV q2)=aP (dV q1));(aC=false->aC=false)/\(aC=false->aC=false)/\(aC=false->aC=false)/\((bif aC then true else decide ((30:Int)<(k.length:Int)))=true->ak [V.c (W.bool true)]=bB true/\dm=[])/\((bif aC then true else decide ((30:Int)<(k.length:Int)))=false->l.length<=(1000:Nat)/\(((1:Int)<=(cA which l).fst/\(cA which l).fst<=(16:Int))/\k.length<=(1000:Nat))/\Begins (cA which l).fst (200:Int) (cA which l).snd (gF k (cA which l).fst)/\(R1.pure Cd.t q7).v=(R1.pure Cd.t q7).v/\(R1.pure Cd.t q7).v=(R1.pure Cd.t q7).v/\((!q6)=false->(!q6)=false)/\((!q6)=false->(!q6)=false)/\((bif !q6 then true else false)=true->ak [V.c (W.bool false)]=bB true/\dm=[])/\((bif !q6 then true else false)=false->((1:Int)<=(120:Int)/\(120:Int)<=(1000:Int))/\(decide ((0:Int)<bt n (120:Int))=true->((aU=aU/\aU=aU/\br.toNat=br.toNat)/\(0:Nat)<aU/\bt n (120:Int)<=(1000000:Int)/\((1:Int)<=bt n (120:Int)->q1.stat=(0:Int)->dZ q1))/\((q5.fst.rows.length=q5.fst.rows.length/\q5.fst.par.length=q5.fst.par.length/\aV.toNat=aV.toNat)/\Sv q5.fst)/\(aP (dV q5.fst)=aP (dV aQ)/\Bk aQ)/\((!aM)=false->(!aM)=false)/\((!aM)=false->(!aM)=false)/\((bif !aM then true else false)=true->ak [V.c (W.bool false)]=bB true/\dm=[])/\((bif !aM then true else false)=false->((q5.fst.rows.length=q5.fst.rows.length/\q5.fst.par.length=q5.fst.par.length/\aV.toNat=aV.toNat)/\True)/\((q2.rows.length=q2.rows.length/\q2.par.length=q2.par.length/\bg.toNat=bg.toNat)/\True)/\((q2.rows.length=q2.rows.length/\q2.par.length=q2.par.length/\bg.toNat=bg.toNat)/\Sv q2)/\((q5.fst.rows.length=q5.fst.rows.length/\q5.fst.par.length=q5.fst.par.length/\aV.toNat=aV.toNat)/\Sv q5.fst)/\(bJ=true->bJ=true/\((q2.rows.length=q2.rows.length/\q2.par.length=q2.par.length/\bg.toNat=bg.toNat)/\True)/\((q5.fst.rows.length=q5.fst.rows.length/\q5.fst.par.length=q5.fst.par.length/\aV.toNat=aV.toNat)/\True)/\(q3=true->q3=true)/\(q3=true->q3=true)/\(q3=true->q3=true)/\((bif q3 then q8 else false)=true->(bif q3 then q8 else false)=true)/\((bif q3 then q8 else false)=true->(bif q3 then q8 else false)=true)/\((bif q3 then q8 else false)=true->(bif q3 then q8 else false)=true)/\ak [V.c (W.bool (bif bif q3 then q8 else false then decide ((if (0:Nat)<q5.fst.rows.length then q5.fst.live else (0:Int))=if (0:Nat)<q2.rows.length then q2.live else (0:Int)) else false))]=bB true/\dm=[])/\(bJ=!true->ak [V.c (W.bool false)]=bB true/\dm=[])))/\(decide ((0:Int)<bt n (120:Int))=false->((aU=aU/\aU=aU/\br.toNat=br.toNat)/\Sv q1)/\(aP (dV q1)=aP (dV aQ)/\Bk aQ)/\((!aM)=false->(!aM)=false)/\((!aM)=false->(!aM)=false)/\((bif !aM then true else false)=true->ak [V.c (W.bool false)]=bB true/\dm=[])/\((bif !aM then true else false)=false->((aU=aU/\aU=aU/\br.toNat=br.toNat)/\True)/\((q2.rows.length=q2.rows.length/\q2.par.length=q2.par.length/\bg.toNat=bg.toNat)/\True)/\((q2.rows.length=q2.rows.length/\q2.par.length=q2.par.length/\bg.toNat=bg.toNat)/\Sv q2)/\((aU=aU/\aU=aU/\br.toNat=br.toNat)/\Sv q1)/\(bK=true->bK=true/\((q2.rows.length=q2.rows.length/\q2.par.length=q2.par.length/\bg.toNat=bg.toNat)/\True)/\((aU=aU/\aU=aU/\br.toNat=br.toNat)/\True)/\(q4=true->q4=true)/\(q4=true->q4=true)/\(q4=true->q4=true)/\((bif q4 then q9 else false)=true->(bif q4 then q9 else false)=true)/\((bif q4 then q9 else false)=true->(bif q4 then q9 else false)=true)/\((bif q4 then q9 else false)=true->(bif q4 then q9 else false)=true)/\ak [V.c (W.bool (bif bif q4 then q9 else false then decide ((if (0:Nat)<aU then q1.live else (0:Int))=if (0:Nat)<q2.rows.length then q2.live else (0:Int)) else false))]=bB true/\dm=[])/\(bK=!true->ak [V.c (W.bool false)]=bB true/\dm=[])))))) (by kernel_rfl)
 try simp only [imp_self,true_and,and_true,Bool.cond_true_left,Bool.cond_false_right,Bool.or_eq_true,Bool.or_eq_false_iff,Bool.and_eq_true,Bool.and_eq_false_imp,Bool.not_eq_true',Bool.not_eq_false',decide_eq_true_eq,decide_eq_false_iff_not,Int.not_lt,List.drop_zero]
 have tn:=kq n 120 (by omega);obtain ⟨hg,hr⟩:=Pp which l;have hs:=Dl hg.1 k;have B:=Pt 200 (by omega) hg hr hs;have K0:=bk_rn0 B hg hr hs;have K1:=fun h:0<bt n 120=>ZN B hg hr hs (N:=bt n 120) (by omega);have E1:0<bt n 120->TS n (cA which l) (gF k (cA which l).1)=(bM (eD (cA which l).1 200 (cA which l).2 (gF k (cA which l).1)) (bt n 120)).1:=fun h=>if_pos h;have E0:¬ 0<bt n 120->TS n (cA which l) (gF k (cA which l).1)=eD (cA which l).1 200 (cA which l).2 (gF k (cA which l).1):=fun h=>if_neg h;have G:=B.good;generalize TS n (cA which l) (gF k (cA which l).1)=X at *;generalize bt n 120=N at *;generalize cA which l=gg at *;generalize gF k gg.1=ww at *;generalize hr0:eD gg.1 200 gg.2 ww=r0 at *;refine ⟨fun _=>rfl,fun hlk=>⟨by omega,⟨by omega,by omega⟩,B,fun h=>absurd trivial h,fun _=>⟨by omega,fun hN=>?_,fun hN=>?_⟩⟩⟩
 . have e:=E1 hN;have K:=K1 hN;subst e;refine ⟨⟨by omega,by omega,fun _ _=>G⟩,K.sv,⟨rfl,K⟩,fun h=>absurd (h trivial trivial) (by decide),fun _=>⟨yU K.sv,K.sv,fun h=>⟨h,?_⟩,fun h=>?_⟩⟩
   . refine congrArg (fun b=>A.p (V.c (W.bool b))) ?_;simp [forget];exact ⟨decide_eq_true rfl,decide_eq_true rfl⟩
   . exact absurd h (by rw [tL];simp)
 . have e:=E0 (by omega);rw [e];have hf:(forget r0).rows.length=1:=by rw [<-hr0];rfl
   refine ⟨K0.sv,⟨rfl,K0⟩,fun h=>absurd (h trivial trivial) (by decide),fun _=>⟨yU K0.sv,K0.sv,fun h=>⟨h,?_⟩,fun h=>?_⟩⟩
   . refine congrArg (fun b=>A.p (V.c (W.bool b))) ?_;rw [hf];simp [forget]
   . exact absurd h (by rw [tL];simp)
theorem W8:zA (fun args=>aT Tryz.prog 5 args [] (dat .bool true) []) [.int .i64,.int .i64,.sl (.int .i64),.sl (.int .i64)] [] :=
 fun w _ n _ l _ k _=>W7 w n l k
end Go.Proofs.YtepmdidomecebaaGreatDoor
