/- Does a list have an element twice? The program's function, for any list. -/
import Derived.Test.YtnbjjocbncblaaaGreatDoorAgn2
import Derived.Sort.EncStr
import Derived.Sort.Grow
namespace Go.Proofs.YtnbjjocbncblaaaGreatDoor
open Go.aN Go.RowKit
set_option maxRecDepth 100000
abbrev nH(n:Nat):A:=.p (.c (.sl 0 0 n 1))
theorem Qn(tot:List ByteArray)(hl:tot.length<=100000):∀(ys acc:List ByteArray),acc++ys=tot->nT V0 (aW (nH tot.length) [cw tot]) [0,1,0,1] .str ys (fr [(2,.p (.c (.ptr 0 0)))]) (.ofList [⟨40,[.c (.sl 1 0 acc.length 1)]⟩,cw acc])
 | [],acc,h=>by
   rw[List.append_nil] at h;subst h;refine DB aD rfl 100 ?_;apply of_eq (q:=ax [V.c (W.sl 0 0 acc.length 1)]=nH acc.length/\[Ob.mk 9 [Fd.a 0 D.str acc]]=[cw acc]) (by kernel_rfl)
   try simp only[sL]
   rfl
 | y::ys,acc,h=>by
   have bE:acc.length+1+ys.length=tot.length:=by rw[<-h];simp;omega
   have ih:=Qn tot hl ys (acc++[y]) (by rw[<-h];simp);rw[List.length_append,List.length_singleton] at ih;refine Af (d:=.str) (y:=y) aD 1 (by kernel_rfl) 200 ?_;apply of_eq (q:=(0:Nat)+1<=1/\((0:Nat)+acc.length<=acc.length/\((acc.length+1)*16).le (140737488355328:Nat))/\nT V0 (aW (nH tot.length) [cw tot]) [0,1,0,1] D.str ys (fr [(2,aR 0 0)]) (af.ofList [Ob.mk 40 [fS 1 0 (acc.length+1)],Ob.mk 9 [Fd.a 0 D.str (List.take acc.length (List.drop (0:Nat) acc)++List.take (1:Nat) (List.drop (0:Nat) [y]))]])) (by kernel_rfl)
   try simp only[sL]
   exact⟨by show (acc.length+1)*16<=140737488355328;omega,ih⟩
theorem aq_rngL(y:ByteArray)(ys:List ByteArray)(hl:(y::ys).length<=100000):nT V0 (aW (nH (y::ys).length) [cw (y::ys)]) [0,1,0,1] .str (y::ys) (fr [(2,.p (.c (.ptr 0 0)))]) (.ofList [⟨40,[.c .nil]⟩]):=by
 have ih:=Qn (y::ys) hl ys [y] rfl;refine Af (d:=.str) (y:=y) aD 1 (by kernel_rfl) 200 ?_;apply of_eq (q:=(0:Nat)+1<=1/\((1:Nat)*16).le (140737488355328:Nat)/\nT V0 (aW (nH (y::ys).length) [cw (y::ys)]) [0,1,0,1] D.str ys (fr [(2,aR 0 0)]) (af.ofList [Ob.mk 40 [fS 1 0 1],Ob.mk 9 [Fd.a 0 D.str (List.take (1:Nat) (List.drop (0:Nat) [y]))]])) (by kernel_rfl)
 try simp only[sL]
 exact⟨by show 1*16<=140737488355328;omega,ih⟩
theorem aq_semL(L:List ByteArray)(hl:L.length<=100000):eX Tryz.prog 93 0 [.p (.c .nil),FV] [xj L] (nH L.length) [cw L]:=by
 cases L with
 | nil=>exact V1
 | cons y ys =>
   refine jW (aK:=[([0,1,0,1],[2,6])]) (eZ:=[]) (fz:=[]) aD Tryz.func93 (by kernel_rfl) 0 (by kernel_rfl) 100 ?_;apply of_eq (q:=CK (eG Tryz.prog [] Tryz.f93 (0:Nat) [([0,1,0,1],[2,6])] [] []) (aW (nH (y::ys).length) [cw (y::ys)]) [0,1,0,1] (fr [(2,aR 0 0),(6,aP (W.func 79 [(1,(0:Nat))]))]) (af.ofList [Ob.mk 40 [Fd.c W.nil],Ob.mk 40 [Fd.c (W.rd D.str (y::ys))]])) (by kernel_rfl)
   try simp only[sL]
   exact Fs rfl (by kernel_rfl) (P0 (y::ys) (by omega)) (aq_rngL y ys hl)
def qL(l:List ByteArray):Prop:=l.length<=100000
noncomputable def Zk:cV:={ cC:=[false,true],aj:=some 0,f:=fun args ai=>match args,ai with
 | [.p (.c .nil),.p (.c (.func f [(0,0)]))],[⟨ty,[.c (.rd .str l)]⟩]=>bif Nat.beq f 79&&Nat.beq ty 40 then some (.p (qL l),nH (List.length (α:=ByteArray) l),[cw l]) else none
 | _,_=>none }
theorem cAqL_ok:bt Tryz.prog 93 Zk:=by
 refine⟨by kernel_rfl,fun args ai c r aV e hc=>?_⟩;simp only[Zk] at e;split at e;rename_i f ty l;obtain⟨hb,e1⟩:=ah.ay e;clear e;simp only[Bool.and_eq_true,Nat.beq_eq] at hb;obtain⟨rfl,rfl⟩:=hb;cases e1;exact aq_semL l hc;cases e
noncomputable def gColL:bX:=[(93,Zk)]
theorem Zl:bh Tryz.prog gColL:=aq cAqL_ok aD
theorem Zm(L:List ByteArray)(hl:qL L):eX Tryz.prog 77 0 [FV] [xj L] (nH L.length) [cw L]:=by
 refine jW (aK:=[]) (eZ:=[]) (fz:=[]) Zl Tryz.func77 (by kernel_rfl) 0 (by kernel_rfl) 100 ?_;apply of_eq (q:=qL L/\ax [V.c (W.sl 0 0 L.length 1)]=nH L.length/\[Ob.mk 9 [Fd.a 0 D.str L]]=[cw L]) (by kernel_rfl)
 try simp only[sL]
 exact⟨hl,rfl⟩
noncomputable def SV:cV:={ cC:=[true],aj:=some 0,f:=fun args ai=>match args,ai with
 | [.p (.c (.func f [(0,0)]))],[⟨ty,[.c (.rd .str l)]⟩]=>bif Nat.beq f 79&&Nat.beq ty 40 then some (.p (qL l),nH (List.length (α:=ByteArray) l),[cw l]) else none
 | _,_=>none }
theorem Zn:bt Tryz.prog 77 SV:=by
 refine⟨by kernel_rfl,fun args ai c r aV e hc=>?_⟩;simp only[SV] at e;split at e;rename_i f ty l;obtain⟨hb,e1⟩:=ah.ay e;clear e;simp only[Bool.and_eq_true,Nat.beq_eq] at hb;obtain⟨rfl,rfl⟩:=hb;cases e1;exact Zm l hc;cases e
abbrev cpL:List (List Nat×List Nat):=[([0,1,0,1,1],[0,3]),([0,1,0,1,0,1,0,0,1,0,0,1,0,1,1],[0,3,4,5])]
noncomputable def Qo:bg:=dK Tryz.prog [] Tryz.f43 1 cpL
def qq(b:Nat):Nat->List ByteArray->Nat->Nat->Nat×List ByteArray
 | 0,o,k,_=>(k,spl o k (List.replicate (o.length-k) eS))
 | j+1,o,k,k2=>bif decide (o.getD (b+k2) eS=o.getD (b+k2-1) eS) then qq b j o k (k2+1) else qq b j (o.set k (o.getD (b+k2) eS)) (k+1) (k2+1)
def lq(n:Nat):Nat->List ByteArray->Nat->Nat×List ByteArray
 | 0,o,_=>(n,o)
 | j+1,o,k=>bif decide (o.getD k eS=o.getD (k-1) eS) then qq k (n-k-1) o k 1 else lq n j o (k+1)
theorem Ih(b:Nat):∀(j:Nat)(o:List ByteArray)(k k2:Nat),(qq b j o k k2).1<=k+j
 | 0,o,k,k2=>Nat.le_refl _
 | j+1,o,k,k2=>by
   unfold qq;cases decide (o.getD (b+k2) eS=o.getD (b+k2-1) eS) with
   | true=>have:=Ih b j o k (k2+1);simp only[cond_true];omega
   | false=>have:=Ih b j (o.set k (o.getD (b+k2) eS)) (k+1) (k2+1);simp only[cond_false];omega
theorem SW(b n:Nat)(hb:b<n)(R:A)(O:List Ob):∀(j:Nat)(o:List ByteArray)(k k2:Nat),j=n-b-k2->1<=k2->k2<=n-b->k+1<=b+k2->o.length=n->n<=100000->R=nH (qq b j o k k2).1->O=[cw (qq b j o k k2).2]->
 aJ Qo (aW R O) [0,1,0,1,0,1,0,0,1,0,0,1,0,1,1] (fr [(0,nH n),(3,nI k),(4,.p (.c (.sl 0 b (n-b) 1))),(5,nI k2)]) (.ofList [cw o])
 | j, o, k, k2, hj, h1, h2, hk, ho, hn, hR, hO => by
   refine ct aD (by kernel_rfl) 200 ?_;apply of_eq (q:=let q0:=IntKind.i64.wrap;let q2:=(k2:Int);let q3:=(↑(n-b):Int);let q4:=(k:Int);let q1:=decide (o.getD (b+k2) (ByteArray.mk #[])=o.getD (b+(q0 (q2-1)).toNat) (ByteArray.mk #[]));(decide (q2<q3)=true->((0:Int)<=q2/\q2<q3)/\b+k2<o.length/\((0:Int)<=q0 (q2-1)/\q0 (q2-1)<q3)/\b+(q0 (q2-1)).toNat<o.length/\((!q1)=true->((0:Int)<=q2/\q2<q3)/\b+k2<o.length/\((0:Int)<=q4/\q4<(n:Int))/\(0:Nat)+k<o.length/\aJ Qo (aW R O) [0,1,0,1,0,1,0,0,1,0,0,1,0,1,1] (fr [(0,aS 0 0 n),(3,nI (q0 (q4+1))),(4,aS 0 b (n-b)),(5,nI (q0 (q2+1)))]) (af.ofList [Ob.mk 9 [Fd.a 0 D.str (o.set ((0:Nat)+k) (o.getD (b+k2) (ByteArray.mk #[])))]]))/\((!q1)=false->aJ Qo (aW R O) [0,1,0,1,0,1,0,0,1,0,0,1,0,1,1] (fr [(0,aS 0 0 n),(3,nI q4),(4,aS 0 b (n-b)),(5,nI (q0 (q2+1)))]) (af.ofList [Ob.mk 9 [Fd.a 0 D.str o]])))/\(decide (q2<q3)=false->((0:Int)<=q4/\q4<=(n:Int)/\(n:Int)<=(n:Int))/\(0:Nat)+k*1+((n:Int)-q4).toNat<=o.length/\((0:Int)<=0/\(0:Int)<=q4/\q4<=(n:Int))/\ax [V.c (W.sl (0:Nat) ((0:Nat)+0*1) (q4-0).toNat (1:Nat))]=R/\[Ob.mk 9 [Fd.a 0 D.str (spl o ((0:Nat)+k*1) (List.replicate ((n:Int)-q4).toNat (ByteArray.mk #[])))]]=O)) (by kernel_rfl)
   try simp only[sL]
   rw[wrap64 (n:=(k2:Int)-1) (by omega) (by omega),wrap64 (n:=(k2:Int)+1) (by omega) (by omega),wrap64 (n:=(k:Int)+1) (by omega) (by omega),show ((k2:Int)-1).toNat=k2-1 by omega,show b+(k2-1)=b+k2-1 by omega];refine⟨fun h=>?_,fun h=>?_⟩
   . have h3:k2<n-b:=by omega
     cases j with
     | zero=>omega
     | succ j =>
       refine⟨⟨by omega,by omega⟩,by omega,⟨by omega,by omega⟩,by omega,fun hne=>?_,fun heq=>?_⟩;have e:qq b (j+1) o k k2=qq b j (o.set k (o.getD (b+k2) eS)) (k+1) (k2+1):=by rw[qq,decide_eq_false (p:=o.getD (b+k2) eS=o.getD (b+k2-1) eS) hne];rfl
       rw[e] at hR hO;exact⟨⟨by omega,by omega⟩,by omega,⟨by omega,by omega⟩,by omega,SW b n hb R O j _ (k+1) (k2+1) (by omega) (by omega) (by omega) (by omega) (by rw[List.length_set];exact ho) hn hR hO⟩;have e:qq b (j+1) o k k2=qq b j o k (k2+1):=by rw[qq,decide_eq_true (p:=o.getD (b+k2) eS=o.getD (b+k2-1) eS) heq];rfl
       rw[e] at hR hO;exact SW b n hb R O j o k (k2+1) (by omega) (by omega) (by omega) (by omega) ho hn hR hO
   obtain rfl:j=0:=by omega
   have e1:((n:Int)-(k:Int)).toNat=n-k:=by omega
   have e2:((k:Int)-0).toNat=k:=by omega
   rw[e1,e2];refine⟨⟨by omega,by omega⟩,by omega,⟨by omega,by omega⟩,hR.symm,?_⟩;rw[hO];show [cw (spl o k (List.replicate (n-k) eS))]=[cw (spl o k (List.replicate (o.length-k) eS))];rw[ho]
theorem Wz(n:Nat)(R:A)(O:List Ob):∀(j:Nat)(o:List ByteArray)(k:Nat),j=n-k->1<=k->k<=n->o.length=n->n<=100000->R=nH (lq n j o k).1->O=[cw (lq n j o k).2]->
 aJ Qo (aW R O) [0,1,0,1,1] (fr [(0,nH n),(3,nI k)]) (.ofList [cw o])
 | j, o, k, hj, h1, h2, ho, hn, hR, hO => by
   refine ct aD (by kernel_rfl) 200 ?_;apply of_eq (q:=let q0:=IntKind.i64.wrap;let q2:=(k:Int);let q1:=decide (o.getD ((0:Nat)+k) (ByteArray.mk #[])=o.getD ((0:Nat)+(q0 (q2-1)).toNat) (ByteArray.mk #[]));(decide (q2<(n:Int))=true->((0:Int)<=q2/\q2<(n:Int))/\(0:Nat)+k<o.length/\((0:Int)<=q0 (q2-1)/\q0 (q2-1)<(n:Int))/\(0:Nat)+(q0 (q2-1)).toNat<o.length/\(q1=true->((0:Int)<=q2/\q2<=(n:Int)/\(n:Int)<=(n:Int))/\aJ Qo (aW R O) [0,1,0,1,0,1,0,0,1,0,0,1,0,1,1] (fr [(0,aS 0 0 n),(3,nI q2),(4,aS 0 ((0:Nat)+k*1) ((n:Int)-q2).toNat),(5,nI (1))]) (af.ofList [Ob.mk 9 [Fd.a 0 D.str o]]))/\(q1=false->aJ Qo (aW R O) [0,1,0,1,1] (fr [(0,aS 0 0 n),(3,nI (q0 (q2+1)))]) (af.ofList [Ob.mk 9 [Fd.a 0 D.str o]])))/\(decide (q2<(n:Int))=false->ax [V.c (W.sl 0 0 n 1)]=R/\[Ob.mk 9 [Fd.a 0 D.str o]]=O)) (by kernel_rfl)
   try simp only[sL]
   rw[wrap64 (n:=(k:Int)-1) (by omega) (by omega),wrap64 (n:=(k:Int)+1) (by omega) (by omega),show ((k:Int)-1).toNat=k-1 by omega,show ((n:Int)-(k:Int)).toNat=n-k by omega];refine⟨fun h=>?_,fun h=>?_⟩
   . have h3:k<n:=by omega
     cases j with
     | zero=>omega
     | succ j =>
       refine⟨⟨by omega,by omega⟩,by omega,⟨by omega,by omega⟩,by omega,fun heq=>?_,fun hne=>?_⟩;have e:lq n (j+1) o k=qq k (n-k-1) o k 1:=by rw[lq,decide_eq_true (p:=o.getD k eS=o.getD (k-1) eS) heq];rfl
       rw[e] at hR hO;exact⟨⟨by omega,by omega⟩,SW k n h3 R O (n-k-1) o k 1 (by omega) (by omega) (by omega) (by omega) ho hn hR hO⟩;have e:lq n (j+1) o k=lq n j o (k+1):=by rw[lq,decide_eq_false (p:=o.getD k eS=o.getD (k-1) eS) hne];rfl
       rw[e] at hR hO;exact Wz n R O j o (k+1) (by omega) (by omega) (by omega) ho hn hR hO
   obtain rfl:j=0:=by omega
   exact⟨hR.symm,hO.symm⟩
theorem N9(o:List ByteArray)(n:Nat)(ho:o.length=n)(hn:n<=100000):br Tryz.prog 43 [nH n] [cw o] (nH (lq n (n-1) o 1).1) [cw (lq n (n-1) o 1).2]:=by
 refine bn (aK:=cpL) aD Tryz.func43 (by kernel_rfl) (aj:=1) rfl (by kernel_rfl) 100 ?_;apply of_eq (q:=let q1:=(lq n (n-1) o (1:Nat));(decide ((n:Int)<2)=true->ax [V.c (W.sl 0 0 n 1)]=nH q1.fst/\[Ob.mk 9 [Fd.a 0 D.str o]]=[cw q1.snd])/\(decide ((n:Int)<2)=false->aJ (dK Tryz.prog [] Tryz.f43 (1:Nat) cpL) (aW (nH q1.fst) [cw q1.snd]) [0,1,0,1,1] (fr [(0,aS 0 0 n),(3,nI (1))]) (af.ofList [Ob.mk 9 [Fd.a 0 D.str o]]))) (by kernel_rfl)
 try simp only[sL]
 refine⟨fun h=>?_,fun h=>?_⟩;have:n-1=0:=by omega
 rw[this];exact⟨rfl,rfl⟩;exact Wz n _ _ (n-1) o 1 (by omega) (by omega) (by omega) ho hn rfl rfl
theorem Qp(n:Nat)(o:List ByteArray):∀(j k:Nat),j=n-k->1<=k->((lq n j o k).1=n/\∀ i,k<=i->i<n->o.getD i eS≠o.getD (i-1) eS)∨((lq n j o k).1<n/\∃ i,1<=i/\i<n/\o.getD i eS=o.getD (i-1) eS)
 | 0,k,hj,hk=>.inl ⟨rfl,fun i h1 h2=>by omega⟩
 | j + 1, k, hj, hk => by
   by_cases h:o.getD k eS=o.getD (k-1) eS;have e:lq n (j+1) o k=qq k (n-k-1) o k 1:=by rw[lq,decide_eq_true h];rfl
   have:=Ih k (n-k-1) o k 1;rw[e];exact .inr ⟨by omega,k,hk,by omega,h⟩;have e:lq n (j+1) o k=lq n j o (k+1):=by rw[lq,decide_eq_false h];rfl
   rw[e];rcases Qp n o j (k+1) (by omega) (by omega) with ⟨a,b⟩|h';refine .inl ⟨a,fun i h1 h2=>?_⟩;by_cases hi:i=k;rw[hi];exact h;exact b i (by omega) h2;exact .inr h'
def ko(o:List ByteArray):List (List UInt8):=(o.map fun x=>x.data.toList).mergeSort fun x y=>decide (x<=y)
def lu(o:List ByteArray):List ByteArray:=(ko o).map fun l=>⟨l.toArray⟩
theorem mo(o:List ByteArray):(ko o).length=o.length:=by unfold ko;rw[List.length_mergeSort,List.length_map]
theorem zZ(o:List ByteArray):(lu o).length=o.length:=by unfold lu;rw[List.length_map,mo]
def Gm(f:Nat):Prop:=∀(blk off cap:Nat)(zs:List (List UInt8))(w:World),Sort.Holds encStr w blk off zs.toArray->blk<w.heap.size->zs.length<4611686018427387904->
 Calls Tryz.prog f #[.slice (some ⟨blk,off,none⟩) zs.length cap] w fun e w'=>e=.returned (.tuple #[])/\∃ n os,w'=Sort.grow (Sort.putRow encStr (Sort.ahead w n) blk off (zs.mergeSort fun x y=>decide (x<=y)).toArray) os
theorem oP(o:List ByteArray):(cw o).cells=o.map W.str:=by
 show (o.map (D.str.w)++[])=_;rw[List.append_nil];rfl
theorem Zo{f : Nat}(hS : Gm f)(o : List ByteArray)(hne : o ≠ [])(hl : o.length ≤ 100000) : br Tryz.prog f [nH o.length] [cw o] (.bG []) [cw (lu o)] := by
 intro base η Z w vs R hvs hK;have hpos:=List.length_pos_iff.2 hne
 match vs,hvs with
 | [v], ⟨⟨_, hx⟩, _⟩ =>
   have hx:au η Z (.sl 0 0 o.length 1) v:=hx;rcases hx with ⟨h0,_⟩|⟨pl,cap,ad,hpl,rfl,hcap,hroom,had⟩;omega;have hca:ad=⟨pl.block,pl.off+0,none⟩:=by
    rcases had with rfl|rfl;omega;rfl
   subst hca;have hget:(af.ofList [cw o]).get 0=some (cw o):=rfl;obtain⟨hbase,hz0,L⟩:=R.ai 0 (cw o) pl hget hpl;have hcw:(cw o).cells=List.map (D.w .str) o:=oP o;have hm:¬(cw o).gF:=Ob.fY hcw;have Kk:¬(cw o).wb:=Ob.qu hcw;have hnb:¬(cw o).bytes:=fun h=>by
    cases o with
    | nil=>exact hne rfl
    | cons x o =>
      obtain⟨n,e⟩:=h (.str x) (by rw[oP];exact List.mem_cons_self ..);cases e
   obtain⟨c,fz,hc,hroom',hv',pR⟩:=L.there hm;have hfz:=pR.strong hnb;have hsize:=L.size hm;have bK:(cw o).cells.length=o.length:=by rw[oP,List.length_map]
   have hH:Sort.Holds encStr w pl.block (pl.off+0) (o.map fun x=>x.data.toList).toArray:=by
    intro j hj;have hj:j<o.length:=by simpa using hj
    obtain⟨v,e1,e2,_⟩:=hv' j (.str o[j]) (by rw[oP,List.getElem?_map,List.getElem?_eq_getElem hj];rfl);have e2:v=.string o[j]:=e2;subst e2;refine⟨?_,?_⟩;have e3:(o.map fun x=>x.data.toList).toArray[j]! = o[j].data.toList:=by
     rw[getElem!_pos _ j (by simpa using hj)];simp
    rw[e3];show w.cell? ⟨pl.block,pl.off+0+j,none⟩=some (Value.string ⟨o[j].data.toList.toArray⟩);simp only[World.cell?,hc,Nat.add_zero,e1];rw[show (⟨o[j].data.toList.toArray⟩:ByteArray)=o[j] by rw[Array.toArray_toList]];rfl;simp only[World.frozen?,hc];have:=hfz (pl.off+0+j) (by omega) (by omega);simpa using this
   refine(callsIn_wide.2 (by
    have:=hS pl.block (pl.off+0) cap (o.map fun x=>x.data.toList) w hH (cM hc) (by rw[List.length_map];omega);rw[List.length_map] at this;exact this)).mono ?_
   rintro e w' ⟨rfl,n,os,rfl⟩;have hw1:(Sort.putRow encStr (Sort.ahead w n) pl.block (pl.off+0) (ko o).toArray).heap=w.heap.modify pl.block (Sort.onCells (Sort.putCells encStr (pl.off+0) (ko o).toArray)):=rfl;have G : qR base η Z (.ofList [cw o]) w η (.ofList [cw (lu o)]) (Sort.putRow encStr (Sort.ahead w n) pl.block (pl.off + 0) (ko o).toArray) := by
    refine R.write (n:=0) (o:=cw o) (o':=cw (lu o)) hget hpl rfl rfl rfl ?_ ?_ ?_;rw[hw1,Array.size_modify];intro b hb;rw[hw1,Array.getElem?_modify,if_neg (fun h=>hb h.symm)]
    · refine fk.plain (Ob.fY (d := .str) (oP (lu o))) ⟨Sort.putCells encStr (pl.off + 0) (ko o).toArray c, fz, ?_, ?_, ?_, pR.plain hnb Kk⟩ ?_
      rw[hw1,Array.getElem?_modify,if_pos rfl,hc];rfl;unfold Sort.putCells;rw[Array.size_mapIdx];exact hroom'
      . intro i x hx;rw[oP,List.getElem?_map] at hx;cases hg:(lu o)[i]? with
        | none=>rw[hg] at hx;cases hx
        | some y =>
          rw[hg] at hx;have hx:W.str y=x:=Option.some.inj hx;subst hx;have hi:i<(ko o).length:=by
           have:=(List.getElem?_eq_some_iff.1 hg).1;rw[zZ] at this;rw[mo];exact this
          have hy:y=⟨(ko o)[i].toArray⟩:=by
           unfold lu at hg;rw[List.getElem?_map,List.getElem?_eq_getElem hi] at hg;exact(Option.some.inj hg).symm
          have hio:i<o.length:=by rw[mo] at hi;exact hi
          refine⟨encStr (ko o)[i],?_,?_,rfl⟩;unfold Sort.putCells;rw[Array.getElem?_mapIdx,Array.getElem?_eq_getElem (show pl.off+i<c.size by omega)];simp only[Option.map_some];rw[if_pos (by simp;omega)];have:(ko o).toArray[pl.off+i-(pl.off+0)]! = (ko o)[i]:=by
           rw[show pl.off+i-(pl.off+0)=i by omega,getElem!_pos _ i (by simpa using hi)];simp
          rw[this];rw[hy];rfl
      rw[oP,List.length_map,zZ,<-bK];exact hsize
   have hz:∀ b cs,Z b=some cs->∃ ty fz,(Sort.grow (Sort.putRow encStr (Sort.ahead w n) pl.block (pl.off+0) (ko o).toArray) os).heap[b]? = some (.cells cs ty fz):=fun b cs hb=>by
    obtain⟨ty,fz,e⟩:=G.st.zs b cs hb;refine⟨ty,fz,?_⟩;show (_++os)[b]? = _;rw[Array.getElem?_append_left (cM e)];exact e
   have hsz:(Sort.putRow encStr (Sort.ahead w n) pl.block (pl.off+0) (ko o).toArray).heap.size<=(Sort.grow (Sort.putRow encStr (Sort.ahead w n) pl.block (pl.off+0) (ko o).toArray) os).heap.size:=by
    show _<=(_++os).size;rw[Array.size_append];omega
   have hold:∀ b,b<(Sort.putRow encStr (Sort.ahead w n) pl.block (pl.off+0) (ko o).toArray).heap.size->(Sort.grow (Sort.putRow encStr (Sort.ahead w n) pl.block (pl.off+0) (ko o).toArray) os).heap[b]? = (Sort.putRow encStr (Sort.ahead w n) pl.block (pl.off+0) (ko o).toArray).heap[b]?:=fun b hb=>by
    show (_++os)[b]? = _;rw[Array.getElem?_append_left hb]
   have hown:∀ b,Go.aN.Own η (.ofList [cw (lu o)]) b->b<(Sort.putRow encStr (Sort.ahead w n) pl.block (pl.off+0) (ko o).toArray).heap.size/\Z b=none:=fun b ⟨k,ob,q,h1,h2,h3⟩=>⟨G.st.kq h1 h2 h3,(G.st.all h1 h2 h3).2.1⟩;refine⟨.tuple #[],η,Z,rfl,⟨fun _ _ _ h=>h,G.st.uM (ar.le.refl _) hz hsz (fun b hb=>hold b (hown b hb).1) (fun b hb=>(hown b hb).2),G.step.trans ⟨rfl,rfl,rfl,hsz,fun b hb _=>hold b hb,fun b h=>.inl h,ar.le.refl _,fun b c h=>.inl h,rfl⟩⟩,?_⟩;exact⟨[],rfl,trivial⟩
theorem srt_le(o:List ByteArray):(ko o).Pairwise fun x y=>x<=y:=by
 have:=List.pairwise_mergeSort (le:=fun x y:List UInt8=>decide (x<=y)) (fun a b c h1 h2=>by
  rw[decide_eq_true_eq] at h1 h2 ⊢;exact List.le_trans h1 h2) (fun a b=>by
  rw[Bool.or_eq_true,decide_eq_true_eq,decide_eq_true_eq];exact List.le_total a b) (o.map fun x=>x.data.toList)
 refine List.Pairwise.imp ?_ this;intro a b h
 rwa [decide_eq_true_eq] at h
theorem JN:∀{l:List (List UInt8)},l.Pairwise (fun x y=>x<=y)->(∀ i,(h:i+1<l.length)->l[i+1]≠l[i])->l.Nodup
 | [],_,_=>List.nodup_nil
 | [x],_,_=>by simp
 | x :: y :: l, hp, hn => by
   rw[List.pairwise_cons] at hp;have ih:=JN (l:=y::l) hp.2 fun i h=>by
    have:=hn (i+1) (by simp only[List.length_cons] at h ⊢;omega);exact this
   rw[List.nodup_cons];refine⟨fun hm=>?_,ih⟩;have h0:y≠x:=hn 0 (by simp);rcases List.mem_cons.1 hm with h|h;exact h0 h.symm;have h1:=hp.1 y (List.mem_cons_self ..);have h2:y<=x:=(List.pairwise_cons.1 hp.2).1 x h;exact h0 (List.le_antisymm h2 h1)
theorem JO(o:List ByteArray):(ko o).Nodup↔o.Nodup:=by
 unfold ko;rw[(List.mergeSort_perm _ _).nodup_iff];refine⟨fun h=>?_,fun h=>?_⟩;exact List.Pairwise.imp (fun {a b} hab e=>hab (by rw[e])) (List.pairwise_map.1 h);refine List.pairwise_map.2 (List.Pairwise.imp (fun {a b} hab e=>hab ?_) h);have e:a.data.toList=b.data.toList:=e;cases a;cases b;congr 1;exact Array.toList_inj.1 e
theorem z8{o:List ByteArray}{i:Nat}(h:i<o.length):(lu o).getD i eS=⟨((ko o)[i]'(by rw[mo];exact h)).toArray⟩:=by
 unfold lu;rw[List.getD_eq_getElem?_getD,List.getElem?_map,List.getElem?_eq_getElem (by rw[mo];exact h)];rfl
theorem dup_eq(o:List ByteArray):decide ((lq o.length (o.length-1) (lu o) 1).1<o.length)=lf o:=by
 unfold lf;rcases Qp o.length (lu o) (o.length-1) 1 rfl (Nat.le_refl _) with ⟨h1,h2⟩|⟨h1,i,h2,h3,h4⟩;have hn:o.Nodup:=by
  rw[<-JO];refine JN (srt_le o) fun i hi=>?_;rw[mo] at hi;have:=h2 (i+1) (by omega) hi;rw[z8 hi,Nat.add_sub_cancel,z8 (by omega:i<o.length)] at this;intro e;exact this (by rw[e])
 rw[decide_eq_false (by omega),decide_eq_true hn];rfl;have hn:¬o.Nodup:=by
  rw[<-JO];intro hn;rw[z8 h3,z8 (by omega:i-1<o.length)] at h4;have e:(ko o)[i]'(by rw[mo];exact h3)=(ko o)[i-1]'(by rw[mo];omega):=by
   have:=congrArg (fun b:ByteArray=>b.data.toList) h4;simpa using this
  exact List.pairwise_iff_getElem.1 hn (i-1) i (by rw[mo];omega) (by rw[mo];exact h3) (by omega) e.symm
 rw[decide_eq_true h1,decide_eq_false hn];rfl
variable (hS:Gm 78)
include hS
omit hS in
theorem Zp(hS:Gm 78)(o:List ByteArray)(hl:o.length<=100000):br Tryz.prog 78 [nH o.length] [cw o] (.bG []) [cw (lu o)]:=by
 by_cases hne:o=[];subst hne;have e:lu []=[]:=List.eq_nil_of_length_eq_zero (by rw[zZ];rfl);rw[e];exact JH;exact Zo hS o hne hl
omit hS in
def nS(n:Nat)(o:List ByteArray):Prop:=o.length=n/\n<=100000
omit hS in
def Zq:cV:={ cC:=[true],f:=fun args ai=>match args,ai with
 | [.p (.c (.sl 0 0 n 1))],[⟨ty,[.a 0 .str o]⟩]=>bif Nat.beq ty 9 then some (.p (nS n o),.bG [],[cw (lu o)]) else none
 | _,_=>none }
theorem cSoL_ok:bt Tryz.prog 78 Zq:=by
 refine⟨by kernel_rfl,fun args ai c r aV e hc=>?_⟩;simp only[Zq] at e;split at e;rename_i n ty o;obtain⟨hb,e1⟩:=ah.ay e;clear e;cases Nat.eq_of_beq_eq_true hb;cases e1;obtain⟨rfl,h2⟩:=hc;exact Zp hS o h2;cases e
omit hS in
noncomputable def gSdL:bX:=[(77,SV),(78,Zq)]
theorem gSdL_ok:bh Tryz.prog gSdL:=aq Zn (aq (cSoL_ok hS) aD)
theorem SX(L:List ByteArray)(hl:qL L):eX Tryz.prog 41 0 [FV] [xj L] (nH L.length) [cw (lu L)]:=by
 refine jW (aK:=[]) (eZ:=[]) (fz:=[]) (gSdL_ok hS) Tryz.func41 (by kernel_rfl) 0 (by kernel_rfl) 100 ?_;apply of_eq (q:=qL L/\nS L.length L/\ax [V.c (W.sl 0 0 L.length 1)]=nH L.length/\[Ob.mk 9 [Fd.a 0 D.str (lu L)]]=[cw (lu L)]) (by kernel_rfl)
 try simp only[sL]
 exact⟨hl,⟨rfl,hl⟩,rfl⟩
omit hS in
noncomputable def Zs:cV:={ cC:=[true],aj:=some 0,f:=fun args ai=>match args,ai with
 | [.p (.c (.func f [(0,0)]))],[⟨ty,[.c (.rd .str l)]⟩]=>bif Nat.beq f 79&&Nat.beq ty 40 then some (.p (qL l),nH (List.length (α:=ByteArray) l),[cw (lu l)]) else none
 | _,_=>none }
theorem cSdL_ok:bt Tryz.prog 41 Zs:=by
 refine⟨by kernel_rfl,fun args ai c r aV e hc=>?_⟩;simp only[Zs] at e;split at e;rename_i f ty l;obtain⟨hb,e1⟩:=ah.ay e;clear e;simp only[Bool.and_eq_true,Nat.beq_eq] at hb;obtain⟨rfl,rfl⟩:=hb;cases e1;exact SX hS l hc;cases e
omit hS in
def Zt:cV:={ cC:=[true],f:=fun args ai=>match args,ai with
 | [.p (.c (.sl 0 0 n 1))],[⟨ty,[.a 0 .str o]⟩]=>bif Nat.beq ty 9 then some (.p (nS n o),nH (lq n (n-1) o 1).1,[cw (lq n (n-1) o 1).2]) else none
 | _,_=>none }
omit hS in
theorem cCpL_ok:bt Tryz.prog 43 Zt:=by
 refine⟨by kernel_rfl,fun args ai c r aV e hc=>?_⟩;simp only[Zt] at e;split at e;rename_i n ty o;obtain⟨hb,e1⟩:=ah.ay e;clear e;cases Nat.eq_of_beq_eq_true hb;cases e1;obtain⟨h1,h2⟩:=hc;exact N9 o n h1 h2;cases e
omit hS in
noncomputable def gDbL:bX:=[(42,Hx),(41,Zs),(43,Zt)]
theorem gDbL_ok:bh Tryz.prog gDbL:=aq FW (aq (cSdL_ok hS) (aq cCpL_ok aD))
theorem SY(L:List ByteArray)(hl:qL L):br Tryz.prog 17 [pq L] [] (bB (lf L)) []:=by
 refine bn (aK:=[]) (gDbL_ok hS) Tryz.func17 (by kernel_rfl) (aj:=0) rfl (by kernel_rfl) 100 ?_;apply of_eq (q:=qL L/\nS L.length (lu L)/\ax [vB (decide ((↑(lq L.length (L.length-1) (lu L) (1:Nat)).fst:Int)<(L.length:Int)))]=bB (lf L)/\([]:List Ob)=[]) (by kernel_rfl)
 try simp only[sL]
 have e:decide (((lq L.length (L.length-1) (lu L) 1).1:Int)<(L.length:Int))=lf L:=(decide_eq_decide.2 Int.ofNat_lt).trans (dup_eq L);rw[e];exact⟨hl,⟨zZ L,hl⟩,rfl⟩
theorem Qq:bt Tryz.prog 17 (FX qL):=fJ (by kernel_rfl) fun l h=>SY hS l h
end Go.Proofs.YtnbjjocbncblaaaGreatDoor
