/- The reader of words: its leaves on both ways. -/
import Derived.Test.YtmajgbnpplgaoaaGreatDoorLoad1
import Derived.Test.YtmajgbnpplgaoaaGreatDoorLoom4
namespace Go.Proofs.YtmajgbnpplgaoaaGreatDoor
open Go.ax Go.Words
set_option maxRecDepth 100000
def cK (e i:Int):Value:=.iface 189 (.agg #[.int .i64 e,.int .i64 i])
theorem Ut (o:Ob) (e k:Int):dQ Tryz.prog 122 [jW,nI e,nI k] [o] (cK e k):=by
 refine (dw (dies:=[]) (aq:=[]) (cE:=[]) (fz:=[]) aC Tryz.func122 (by kernel_rfl) 1 (by kernel_rfl) (b:=true) (r0:=.aL []) (bL:=[]) 100 ?_).2 rfl
 apply of_eq (q:=true=true/\Value.iface (189:Nat) (Value.agg #[Value.int .i64 e,Value.int .i64 k])=cK e k) (by kernel_rfl)
 try simp only [sL]
 rfl
def qZ:dK:={ cF:=[true,false,false],f:=fun args ak=>match args,ak with
 | [.p (.c (.ptr a b)),.p (.c (.int .i64 e)),.p (.c (.int .i64 k))],[o]=>bif Nat.beq a 0&&Nat.beq b 0 then some (.t,none,cK e k) else none
 | _,_=>none }
theorem oL:cZ Tryz.prog 122 qZ:=by
 refine ⟨by kernel_rfl,fun args ak c b u e hc hb=>?_⟩
 simp only [qZ] at e
 split at e
 . obtain ⟨j5,e1⟩:=au.aH e
   clear e
   simp only [Bool.and_eq_true,Nat.beq_eq] at j5
   obtain ⟨rfl,rfl⟩:=j5
   cases e1
   exact Ut _ _ _
 . cases e
def iP:List { x:FuncId×dK // cZ Tryz.prog x.1 x.2 }:=[⟨(122,qZ),oL⟩]
def mr (l:List Int) (c:Int) (i:Nat):Bool:=!cx l c i
theorem Qh (c:Int) (s:ByteArray) (i o n:Int) (h:At s i):(mr (af s) c i.toNat=false->bA Tryz.prog 143 1 [jW,xY c] [cN s i o n] (.aL []) [cN s (bE (af s) c i.toNat) o n])/\(mr (af s) c i.toNat=true->dQ Tryz.prog 143 [jW,xY c] [cN s i o n] (cK 11 (bE (af s) c i.toNat))):=by
 refine dw (dies:=iP) (aq:=[]) (cE:=[]) (fz:=[]) S6 Tryz.func143 (by kernel_rfl) 1 (by kernel_rfl) 100 ?_
 apply of_eq (q:=let q1:=(↑(bE (af s) c i.toNat):Int);At s i/\((!cx (af s) c i.toNat)=true->mr (af s) c i.toNat=true/\cK (11:Int) q1=cK (11:Int) q1)/\((!cx (af s) c i.toNat)=false->mr (af s) c i.toNat=false/\aB []=A.aL []/\[Ob.mk 173 [Fd.c (W.str s),fI q1,fI o,fI n]]=[cN s q1 o n])) (by kernel_rfl)
 try simp only [sL]
 unfold mr
 exact ⟨h,fun h1=>by rw [h1];rfl,fun h1=>⟨by rw [h1];rfl,rfl⟩⟩
theorem Uu (w:List Int) (k:Int) (s:ByteArray) (i o n:Int) (hw:w.length<=1000000):(decide (4000<w.length)=false->bA Tryz.prog 131 1 [jW,bF w,nI k] [cN s i o n] (bF w) [cN s i o n])/\(decide (4000<w.length)=true->dQ Tryz.prog 131 [jW,bF w,nI k] [cN s i o n] (cK 4 k)):=by
 refine dw (dies:=iP) (aq:=[]) (cE:=[]) (fz:=[]) aC Tryz.func131 (by kernel_rfl) 1 (by kernel_rfl) 100 ?_
 apply of_eq (q:=(decide ((4000:Int)<(w.length:Int))=true->decide ((4000:Nat)<w.length)=true/\cK (4:Int) k=cK (4:Int) k)/\(decide ((4000:Int)<(w.length:Int))=false->decide ((4000:Nat)<w.length)=false/\aB [V.c (wR w)]=bF w/\[Ob.mk 173 [Fd.c (W.str s),fI i,fI o,fI n]]=[cN s i o n])) (by kernel_rfl)
 try simp only [sL]
 refine ⟨fun h1=>?_,fun h1=>⟨by omega,rfl⟩⟩
 first | omega | exact ⟨by omega,rfl⟩
theorem Qi (w:List Int) (m:Nat) (k:Int) (s:ByteArray) (i o n:Int) (h:m<=w.length/\w.length<=1000000):(decide (4000<m)=false->bA Tryz.prog 131 2 [jW,gL 1 m,nI k] [cN s i o n,aD w] (gL 1 m) [cN s i o n,aD w])/\(decide (4000<m)=true->dQ Tryz.prog 131 [jW,gL 1 m,nI k] [cN s i o n,aD w] (cK 4 k)):=by
 refine dw (dies:=iP) (aq:=[]) (cE:=[]) (fz:=[]) aC Tryz.func131 (by kernel_rfl) 2 (by kernel_rfl) 100 ?_
 apply of_eq (q:=(decide ((4000:Int)<(m:Int))=true->decide ((4000:Nat)<m)=true/\cK (4:Int) k=cK (4:Int) k)/\(decide ((4000:Int)<(m:Int))=false->decide ((4000:Nat)<m)=false/\aB [V.c (W.sl (1:Nat) (0:Nat) m (1:Nat))]=gL (1:Nat) m/\[Ob.mk 173 [Fd.c (W.str s),fI i,fI o,fI n],aD w]=[cN s i o n,aD w])) (by kernel_rfl)
 try simp only [sL]
 exact ⟨fun h1=>by omega,fun h1=>⟨by omega,rfl⟩⟩
noncomputable def sExX (b:Bool) (u:Value):bD:=cD Tryz.prog Te iP Tryz.f138 1 [([0,0,1,1],[0,3])] [] [] b u
theorem GV (s:ByteArray) (hs:s.size<=1000000) (o n:Int) (f:Nat):∀ (m i:Nat),m=s.size-i->i<=s.size->f<=i->fD (af s) i=fD (af s) f->
 av (sExX (!gB (af s) f) (cK 11 f)) (ez (!gB (af s) f) (nI (gO (af s) f)) [cN s (fD (af s) f) o n]) [0,0,1,1] (fr [(0,jW),(3,nI f)]) (.ofList [⟨173,[.c (.str s),.c (.int .i64 i),.c (.int .i64 o),.c (.int .i64 n)]⟩])
 | m, i, hm, hi, hf, hj => by
   refine aX Dq (by kernel_rfl) 100 ?_
   apply of_eq (q:=let q4:=(↑(s.extract f i).size:Int);let q5:=decide ((1:Int)<q4)=true;let q6:=decide (q4<1)=false;let q7:=decide ((i:Int)<(s.size:Int));let q8:=decide ((48:Int)<=jH s i);let q1:=(bif decide (q4<1) then true else decide ((4:Int)<q4))=false;let q2:=(bif q7 then q8 else false)=true;let q3:=q7=true;(q3->q3)/\(q3->q3)/\(q3->q3)/\(q3->q3)/\(q3->q3)/\(q3->q3)/\(q3->q3)/\(q3->q3)/\(q3->(0:Int)<=(i:Int)/\(i:Int)<(s.size:Int))/\(q3->q3)/\(q3->q3)/\(q2->q2)/\(q2->q2)/\(q2->q2)/\(q2->q2)/\(q2->q2)/\(q2->q2)/\(q2->q2)/\(q2->q2)/\(q2->(0:Int)<=(i:Int)/\(i:Int)<(s.size:Int))/\(q2->q2)/\(q2->q2)/\((bif bif q7 then q8 else false then decide (jH s i<=57) else false)=true->av (sExX (!gB (af s) f) (cK (11:Int) (f:Int))) (ez (!gB (af s) f) (nI (gO (af s) f)) [cN s (↑(fD (af s) f):Int) o n]) [0,0,1,1] (fr [(0,aR 0 0),(3,nI (f:Int))]) (ai.ofList [Ob.mk 173 [Fd.c (W.str s),fI (IntKind.i64.wrap ((i:Int)+1)),fI o,fI n]]))/\((bif bif q7 then q8 else false then decide (jH s i<=57) else false)=false->((0:Int)<=(f:Int)/\(f:Int)<=(i:Int)/\(i:Int)<=(s.size:Int))/\(q6->q6)/\(q6->q6)/\(q6->q6)/\(q1->q1)/\(q1->q1)/\(q1->q1)/\(q1/\q5->q1/\q5)/\(q1/\q5->(0:Int)<=0/\(0:Int)<q4)/\(q1/\q5->q1/\q5)/\(q1->q1)/\(q1->q5->q1/\q5)/\(q1->q1)/\((bif bif decide (q4<1) then true else decide ((4:Int)<q4) then true else bif decide ((1:Int)<q4) then decide (jH (s.extract f i) (0:Nat)=48) else false)=true->(!gB (af s) f)=true/\cK (11:Int) (f:Int)=cK (11:Int) (f:Int))/\((bif bif decide (q4<1) then true else decide ((4:Int)<q4) then true else bif decide ((1:Int)<q4) then decide (jH (s.extract f i) (0:Nat)=48) else false)=false->Gw (s.extract f i)/\(!gB (af s) f)=false/\aB [vI (num (af (s.extract f i)))]=nI (gO (af s) f)/\[Ob.mk 173 [Fd.c (W.str s),fI (i:Int),fI o,fI n]]=[cN s (↑(fD (af s) f):Int) o n]))) (by kernel_rfl)
   try simp only [sL]
   simp only [kT]
   have hl:=bq s
   refine ⟨fun h=>by omega,fun h=>by omega,fun h=>?_,fun h=>?_⟩
   . have hd:jI ((af s).getD i 0)=true:=Y5 ⟨h.1.2,h.2⟩
     rw [wrap64 (by omega) (by omega)]
     cases m with
     | zero=>omega
     | succ m=>exact GV s hs o n f m (i+1) (by omega) (by omega) (by omega) (by rw [<-wT ⟨by omega,hd⟩];exact hj)
   . have hnd:¬ (i<(af s).length/\jI ((af s).getD i 0)=true):=by
      rintro ⟨h1,h2⟩
      have:=mF h2
      have:=h ⟨by omega,this.1⟩
      omega
     rw [vE hnd] at hj
     have hsz:(s.extract f i).size=i-f:=by rw [ByteArray.size_extract];omega
     have hby:af (s.extract f i)=((af s).drop f).take (i-f):=by
      unfold af
      rw [ByteArray.data_extract,Array.toList_extract,List.extract_eq_take_drop,List.map_take,List.map_drop]
     have Sm:∀ c∈af (s.extract f i),jI c=true:=by
      rw [hby]
      intro c hc
      obtain ⟨k,hk,rfl⟩:=List.mem_iff_getElem.1 hc
      rw [List.length_take,List.length_drop] at hk
      rw [List.getElem_take,List.getElem_drop]
      have:=wV (af s) _ f rfl (f+k) (by omega) (by rw [<-hj];omega)
      rw [List.getD_eq_getElem?_getD,List.getElem?_eq_getElem (by omega)] at this
      exact this
     have h0:1<i-f->(af (s.extract f i)).getD 0 0=(af s).getD f 0:=by
      intro h1
      rw [hby,List.getD_eq_getElem?_getD,List.getElem?_take_of_lt (by omega),List.getElem?_drop,Nat.add_zero,<-List.getD_eq_getElem?_getD]
     have hex:gB (af s) f=decide (f<i/\i<=f+4/\¬ (f+1<i/\(af s).getD f 0=48)):=by unfold gB;rw [<-hj]
     rw [hsz]
     refine ⟨by omega,fun h1=>by omega,fun h1 h2=>by omega,fun h1=>?_,fun h1=>⟨⟨Sm,by omega,by omega⟩,?_,?_,?_⟩⟩
     . rw [hex]
       refine decide_eq_false ?_
       rintro ⟨a1,a2,a3⟩
       rcases h1 with h1 | h1
       . omega
       . exact a3 ⟨by omega,by rw [<-h0 (by omega)];exact h1.2⟩
     . rw [hex]
       refine decide_eq_true ⟨by omega,by omega,?_⟩
       rintro ⟨a1,a2⟩
       exact h1.2 (by omega) (by rw [h0 (by omega)];exact a2)
     . unfold gO
       rw [<-hj,hby]
       rfl
     . rw [<-hj]
theorem Hv (s:ByteArray) (i o n:Int) (h:At s i):((!gB (af s) i.toNat)=false->bA Tryz.prog 138 1 [jW] [cN s i o n] (nI (gO (af s) i.toNat)) [cN s (fD (af s) i.toNat) o n])/\((!gB (af s) i.toNat)=true->dQ Tryz.prog 138 [jW] [cN s i o n] (cK 11 i)):=by
 refine dw (dies:=iP) (aq:=[([0,0,1,1],[0,3])]) (cE:=[]) (fz:=[]) Dq Tryz.func138 (by kernel_rfl) 1 (by kernel_rfl) 100 ?_
 apply of_eq (q:=av (cD Tryz.prog Te iP Tryz.f138 (1:Nat) [([0,0,1,1],[0,3])] [] [] (!gB (af s) i.toNat) (cK (11:Int) i)) (ez (!gB (af s) i.toNat) (nI (gO (af s) i.toNat)) [cN s (↑(fD (af s) i.toNat):Int) o n]) [0,0,1,1] (fr [(0,aR 0 0),(3,nI i)]) (ai.ofList [Ob.mk 173 [Fd.c (W.str s),fI i,fI o,fI n]])) (by kernel_rfl)
 try simp only [sL,Int.reduceEq,Int.reduceNe,Nat.reduceAdd]
 obtain ⟨h1,h2,h3⟩:=h
 have:=GV s h1 o n i.toNat _ i.toNat rfl (by omega) (Nat.le_refl _) rfl
 rw [toNat_cast h2] at this
 exact this
def HX:dK:={ cF:=[true,true,false],f:=fun args ak=>match args,ak with
 | [.p (.c (.ptr a b)),.p (.c (.rd (.int .i64) w)),.p (.c (.int .i64 k))],[o]=>bif Nat.beq a 0&&Nat.beq b 0 then (match qf o with | some _=>some (.p (List.length (α:=Int) w<=1000000),some (decide (4000<List.length (α:=Int) w)),cK 4 k) | none=>none) else none
 | [.p (.c (.ptr a b)),.p (.c (.sl x y m z)),.p (.c (.int .i64 k))],[o,o2]=>bif Nat.beq a 0&&(Nat.beq b 0&&(Nat.beq x 1&&(Nat.beq y 0&&Nat.beq z 1))) then (match qf o,Y6 o2 with | some _,some w=>some (.p (m<=List.length (α:=Int) w/\List.length (α:=Int) w<=1000000),some (decide (4000<m)),cK 4 k) | _,_=>none) else none
 | _,_=>none }
theorem DW {b:Bool} (h:some b≠some false):b=true:=by cases b with | true=>rfl | false=>exact absurd rfl h
theorem KM:cZ Tryz.prog 131 HX:=by
 refine ⟨by kernel_rfl,fun args ak c b u e hc hb=>?_⟩
 simp only [HX] at e
 split at e
 . obtain ⟨j5,e⟩:=au.aH e
   simp only [Bool.and_eq_true,Nat.beq_eq] at j5
   obtain ⟨rfl,rfl⟩:=j5
   split at e
   . rename_i p hr
     obtain ⟨s,i,q,n⟩:=p
     rw [kU hr]
     cases e
     exact (Uu _ _ s i q n hc).2 (DW hb)
   . cases e
 . obtain ⟨j5,e⟩:=au.aH e
   simp only [Bool.and_eq_true,Nat.beq_eq] at j5
   obtain ⟨rfl,rfl,rfl,rfl,rfl⟩:=j5
   split at e
   . rename_i p w hr hw
     obtain ⟨s,i,q,n⟩:=p
     rw [kU hr,S9 hw]
     cases e
     exact (Qi _ _ _ s i q n hc).2 (DW hb)
   . cases e
 . cases e
def Qj (g:ByteArray->Int->Int->Int->Prop×Bool×Int×Int):dK:={ cF:=[true],f:=fun args ak=>match args,ak with
 | [.p (.c (.ptr a b))],[o]=>bif Nat.beq a 0&&Nat.beq b 0 then (match qf o with | some (s,i,o,n)=>some (.p (g s i o n).1,some (g s i o n).2.1,cK (g s i o n).2.2.1 (g s i o n).2.2.2) | none=>none) else none
 | _,_=>none }
theorem NK {f:FuncId} {g:ByteArray->Int->Int->Int->Prop×Bool×Int×Int} (he:enters Tryz.prog f=true) (h:∀ s i o n,(g s i o n).1->(g s i o n).2.1=true->dQ Tryz.prog f [jW] [cN s i o n] (cK (g s i o n).2.2.1 (g s i o n).2.2.2)):cZ Tryz.prog f (Qj g):=by
 refine ⟨he,fun args ak c b u e hc hb=>?_⟩
 simp only [Qj] at e
 split at e
 . obtain ⟨j5,e⟩:=au.aH e
   simp only [Bool.and_eq_true,Nat.beq_eq] at j5
   obtain ⟨rfl,rfl⟩:=j5
   split at e
   . rename_i s i o n hr
     rw [kU hr]
     cases e
     exact h s i o n hc (by cases hx:(g s i o n).2.1 with | true=>rfl | false=>rw [hx] at hb;exact absurd rfl hb)
   . cases e
 . cases e
def Zo:dK:=Qj fun s i _ _=>(At s i,!gB (af s) i.toNat,11,i)
theorem XJ:cZ Tryz.prog 138 Zo:=NK (by kernel_rfl) fun s i o n h hb=>(Hv s i o n h).2 hb
abbrev gQ:=Nat->Int×Nat
def xA (R:Int->List Int->Nat->j7) (d:Nat):bP:=JQ fun s i o n=>(.p ((At s i/\RG n/\o=50-(d:Int))/\(R n (af s) d i.toNat).isNone=false),bF (gv (R n (af s) d i.toNat)).1,[cN s (gv (R n (af s) d i.toNat)).2 o n])
def xB (R:Int->List Int->Nat->j7) (E:Int->List Int->Nat->gQ) (d:Nat):dK:=Qj fun s i o n=>((At s i/\RG n/\o=50-(d:Int)),(R n (af s) d i.toNat).isNone,(E n (af s) d i.toNat).1,(E n (af s) d i.toNat).2)
structure gk (f:FuncId) (R:Int->List Int->Nat->j7) (E:Int->List Int->Nat->gQ) (d:Nat):Prop where
 con:aV Tryz.prog f (xA R d)
 die:cZ Tryz.prog f (xB R E d)
theorem s6 {f:FuncId} {R:Int->List Int->Nat->j7} {E:Int->List Int->Nat->gQ} {d:Nat} (he:enters Tryz.prog f=true) (h:∀ s i n,At s i->RG n->((R n (af s) d i.toNat).isNone=false->bA Tryz.prog f 1 [jW] [cN s i (50-(d:Int)) n] (bF (gv (R n (af s) d i.toNat)).1) [cN s (gv (R n (af s) d i.toNat)).2 (50-(d:Int)) n])/\((R n (af s) d i.toNat).isNone=true->dQ Tryz.prog f [jW] [cN s i (50-(d:Int)) n] (cK (E n (af s) d i.toNat).1 (E n (af s) d i.toNat).2))):gk f R E d :=
 ⟨E7 he fun s i o n hc=>by obtain ⟨⟨h1,h2,rfl⟩,h4⟩:=hc;exact (h s i n h1 h2).1 h4,
  NK he fun s i o n hc hb=>by obtain ⟨h1,h2,rfl⟩:=hc;exact (h s i n h1 h2).2 hb⟩
def xC (item:j7) (ie:gQ) (l:List Int):gQ:=fun i=>match item i with
 | none=>ie i
 | some (w,j)=>if 4000<w.length then (4,i) else if gB l (bE l 45 (bE l 94 j))=true then (4,i) else (11,bE l 45 (bE l 94 j))
noncomputable def gFacX (d:Nat):bS:=[(136,xA ia d),(131,Az),(133,vH),(121,vF),(137,cTu),(138,Y7),(139,cRep)]
theorem XK {d:Nat} {E:Int->List Int->Nat->gQ} (h:gk 136 ia E d):bt Tryz.prog (gFacX d):=ar h.con (ar Dp (ar qV (ar su (ar SZ (ar WB (ar aao aC))))))
def diFac {d:Nat} {E:Int->List Int->Nat->gQ} (h:gk 136 ia E d):List { x:FuncId×dK // cZ Tryz.prog x.1 x.2 }:=[⟨(122,qZ),oL⟩,⟨(136,xB ia E d),h.die⟩,⟨(131,HX),KM⟩,⟨(138,Zo),XJ⟩]
theorem Mv {d:Nat} {E:Int->List Int->Nat->gQ} (hI:gk 136 ia E d):gk 132 jG (fun n l d=>xC (gZ n l d) (E n l d) l) d:=s6 (by kernel_rfl) fun s i n h hn=>by
 refine dw (dies:=diFac hI) (aq:=[]) (cE:=[]) (fz:=[some dI]) (XK hI) Tryz.func132 (by kernel_rfl) 1 (by kernel_rfl) 100 ?_
 apply of_eq (q:=let q2:=(af s);let q4:=(xC (gZ n q2 d) (E n q2 d) q2 i.toNat);let q5:=(jG n q2 d i.toNat);let q7:=((50:Int)-(d:Int));let aW:=cK (4:Int) i=cK q4.fst (↑q4.snd:Int);let bM:=q5.isNone=true;let cS:=(ia n q2 d i.toNat);let q3:=(gv cS);let q8:=(bE q2 (94:Int) q3.snd);let q1:=(bE q2 (45:Int) q8);let q6:=(aZ q2 q1);let q9:=decide ((4000:Int)<IntKind.i64.wrap (gO q2 q1*(↑(fQ q3.fst).length:Int)));let bG:=decide ((4000:Int)<IntKind.i64.wrap (gO q2 q6*(↑q3.fst.length:Int)));(At s i/\RG n/\(50:Int)-(d:Int)=50-(d:Int))/\(cS.isNone=true->bM/\cK (E n q2 d i.toNat).fst (↑(E n q2 d i.toNat).snd:Int)=cK q4.fst (↑q4.snd:Int))/\(cS.isNone=false->((At s i/\RG n/\(50:Int)-(d:Int)=50-(d:Int))/\cS.isNone=false)/\q3.fst.length<=1000000/\(decide ((4000:Nat)<q3.fst.length)=true->bM/\aW)/\(decide ((4000:Nat)<q3.fst.length)=false->q3.fst.length<=4000/\At s (↑q3.snd:Int)/\((!cx q2 (94:Int) q3.snd)=true->q5.isNone=false/\aB [V.c (wR q3.fst)]=bF (gv q5).fst/\[Ob.mk 173 [Fd.c (W.str s),fI (↑q8:Int),fI q7,fI n]]=[cN s (↑(gv q5).snd:Int) q7 n])/\((!cx q2 (94:Int) q3.snd)=false->At s (↑q8:Int)/\(cx q2 (45:Int) q8=true->q3.fst.length<=1000000/\At s (↑q1:Int)/\((!gB q2 q1)=true->bM/\cK (11:Int) (↑q1:Int)=cK q4.fst (↑q4.snd:Int))/\((!gB q2 q1)=false->(At s (↑q1:Int)/\gB q2 q1=true)/\(q9=true->bM/\aW)/\(q9=false->((0:Int)<=gO q2 q1/\gO q2 q1<=100000/\(fQ q3.fst).length<=100000/\(gO q2 q1).toNat*(fQ q3.fst).length<=1000000)/\q5.isNone=false/\aB [V.c (wR (pw (fQ q3.fst) (gO q2 q1).toNat))]=bF (gv q5).fst/\[Ob.mk 173 [Fd.c (W.str s),fI (↑(fD q2 q1):Int),fI q7,fI n]]=[cN s (↑(gv q5).snd:Int) q7 n])))/\(cx q2 (45:Int) q8=false->At s (↑q1:Int)/\At s (↑q6:Int)/\((!gB q2 q6)=true->bM/\cK (11:Int) (↑q6:Int)=cK q4.fst (↑q4.snd:Int))/\((!gB q2 q6)=false->(At s (↑q6:Int)/\gB q2 q6=true)/\(bG=true->bM/\aW)/\(bG=false->((0:Int)<=gO q2 q6/\gO q2 q6<=100000/\q3.fst.length<=100000/\(gO q2 q6).toNat*q3.fst.length<=1000000)/\q5.isNone=false/\aB [V.c (wR (pw q3.fst (gO q2 q6).toNat))]=bF (gv q5).fst/\[Ob.mk 173 [Fd.c (W.str s),fI (↑(fD q2 q6):Int),fI q7,fI n]]=[cN s (↑(gv q5).snd:Int) q7 n]))))))) (by kernel_rfl)
 try simp only [sL]
 have ic:i.toNat<=(af s).length:=by rw [bq];have:=h.2;omega
 have hi0:=toNat_cast h.2.1
 cases hv:gZ n (af s) d i.toNat with
 | none =>
   have e1:ia n (af s) d i.toNat=none:=hv
   have eF:jG n (af s) d i.toNat=none:=by unfold jG uG;rw [hv]
   have eE:xC (gZ n (af s) d) (E n (af s) d) (af s) i.toNat=E n (af s) d i.toNat:=by unfold xC;rw [hv]
   rw [e1,eF,eE]
   exact ⟨⟨h,hn⟩,fun _=>⟨rfl,rfl⟩,fun g=>by cases g⟩
 | some vk =>
 obtain ⟨v,k⟩:=vk
 have e1:ia n (af s) d i.toNat=some (v,k):=hv
 obtain ⟨f1,f2⟩:=mO d _ v k ic hv
 have a1:=kY h.1 f2
 have a2:=kY h.1 (gP (c:=94) f2)
 have a3:=kY h.1 (gP (c:=45) (gP (c:=94) f2))
 have tl:(fQ v).length=v.length:=by simp [fQ]
 have eF:jG n (af s) d i.toNat=(if 4000<v.length then none else if cx (af s) 94 k=true then
  (if gB (af s) (bE (af s) 45 (bE (af s) 94 k))=true then
   (if 4000<gO (af s) (bE (af s) 45 (bE (af s) 94 k))*v.length then none else some (pw (if cx (af s) 45 (bE (af s) 94 k)=true then fQ v else v) (gO (af s) (bE (af s) 45 (bE (af s) 94 k))).toNat,fD (af s) (bE (af s) 45 (bE (af s) 94 k)))) else none)
  else some (v,bE (af s) 94 k)):=by unfold jG uG;rw [hv]
 have eE:xC (gZ n (af s) d) (E n (af s) d) (af s) i.toNat=(if 4000<v.length then (4,i.toNat) else if gB (af s) (bE (af s) 45 (bE (af s) 94 k))=true then (4,i.toNat) else (11,bE (af s) 45 (bE (af s) 94 k))):=by unfold xC;rw [hv]
 rw [e1,eF,eE]
 dsimp only [Option.getD_some,gv,Option.isNone_some]
 refine ⟨⟨h,hn⟩,(fun g=>by cases g),fun _=>⟨⟨⟨h,hn⟩,rfl⟩,by omega,fun g=>?_,fun g=>⟨by omega,a1,fun g2=>?_,fun g2=>⟨a2,fun g3=>?_,fun g3=>?_⟩⟩⟩⟩
 . rw [if_pos g,if_pos g]
   exact ⟨rfl,by rw [hi0]⟩
 . rw [if_neg g,if_neg (by rw [g2];simp)]
   exact ⟨rfl,rfl,rfl⟩
 . rw [if_neg g,if_neg g,if_pos g2,if_pos g3]
   generalize hK:bE (af s) 45 (bE (af s) 94 k)=K at *
   have hx:=fun h=>GP (l:=af s) (k:=K) h
   refine ⟨by omega,a3,fun h0=>?_,fun h0=>⟨⟨a3,h0⟩,?_⟩⟩
   . rw [if_neg (by rw [h0];simp),if_neg (by rw [h0];simp)]
     exact ⟨rfl,rfl⟩
   . obtain ⟨x1,x2⟩:=hx h0
     rw [if_pos h0,if_pos h0]
     generalize gO (af s) K=x at *
     have hx0:0<=x*(v.length:Int):=Int.mul_nonneg x1 (by omega)
     have hxb:x*(v.length:Int)<=10000*4000:=Int.mul_le_mul (by omega) (by omega) (by omega) (by omega)
     have hxt:((x.toNat*v.length:Nat):Int)=x*v.length:=by simp [Int.toNat_of_nonneg x1]
     rw [tl,wrap64 (n:=x*(v.length:Int)) (by omega) (by omega)]
     refine ⟨fun h1=>?_,fun h1=>?_⟩
     . rw [if_pos h1]
       exact ⟨rfl,by rw [hi0]⟩
     . rw [if_neg (by omega)]
       exact ⟨⟨x1,by omega,by omega,by omega⟩,rfl,rfl,rfl⟩
 . have et:(if cx (af s) 45 (bE (af s) 94 k)=true then fQ v else v)=v:=if_neg (by rw [g3];simp)
   rw [if_neg g,if_neg g,if_pos g2,et,Ue g3]
   generalize hK:bE (af s) 45 (bE (af s) 94 k)=K at *
   have hx:=fun h=>GP (l:=af s) (k:=K) h
   refine ⟨a3,a3,fun h0=>?_,fun h0=>⟨⟨a3,h0⟩,?_⟩⟩
   . rw [if_neg (by rw [h0];simp),if_neg (by rw [h0];simp)]
     exact ⟨rfl,rfl⟩
   . obtain ⟨x1,x2⟩:=hx h0
     rw [if_pos h0,if_pos h0]
     generalize gO (af s) K=x at *
     have hx0:0<=x*(v.length:Int):=Int.mul_nonneg x1 (by omega)
     have hxb:x*(v.length:Int)<=10000*4000:=Int.mul_le_mul (by omega) (by omega) (by omega) (by omega)
     have hxt:((x.toNat*v.length:Nat):Int)=x*v.length:=by simp [Int.toNat_of_nonneg x1]
     rw [wrap64 (n:=x*(v.length:Int)) (by omega) (by omega)]
     refine ⟨fun h1=>?_,fun h1=>?_⟩
     . rw [if_pos h1]
       exact ⟨rfl,by rw [hi0]⟩
     . rw [if_neg (by omega)]
       exact ⟨⟨x1,by omega,by omega,by omega⟩,rfl,rfl,rfl⟩
def rf (xX:j7) (fe:gQ) (l:List Int):Nat->List Int->gQ
 | 0,_,_=>(0,0)
 | m+1,acc,i=>match xX (aZ l i) with
   | none=>fe (aZ l i)
   | some (w,j)=>if 4000<(acc++w).length then (4,aZ l i) else rf xX fe l m (acc++w) (bE l 42 j)
def zI (l:List Int) (f:j7):Prop:=∀ i w j,i<=l.length->f i=some (w,j)->i<=j
noncomputable def XL (d:Nat):bS:=[(132,xA jG d),(131,Az),(133,vH),(121,vF)]
theorem NM {d:Nat} {E:Int->List Int->Nat->gQ} (h:gk 132 jG E d):bt Tryz.prog (XL d):=ar h.con (ar Dp (ar qV (ar su aC)))
def XM {d:Nat} {E:Int->List Int->Nat->gQ} (h:gk 132 jG E d):List { x:FuncId×dK // cZ Tryz.prog x.1 x.2 }:=[⟨(132,xB jG E d),h.die⟩,⟨(131,HX),KM⟩]
noncomputable def sWoX {d:Nat} {E:Int->List Int->Nat->gQ} (h:gk 132 jG E d) (b:Bool) (u:Value):bD:=cD Tryz.prog (XL d) (XM h) Tryz.f120 1 [([0,1,1],[0,3])] [] [some dI] b u
theorem DX {d:Nat} {E:Int->List Int->Nat->gQ} (hI:gk 132 jG E d) (s:ByteArray) (n:Int) (hn:RG n) (hf:zI (af s) (jG n (af s) d)) (V:Option (List Int×Nat)) (U:Int×Nat):∀ (m:Nat) (i:Nat) (acc:List Int),At s i->(af s).length<i+m->qx (jG n (af s) d) (af s) m acc i=V->(V=none->rf (jG n (af s) d) (E n (af s) d) (af s) m acc i=U)->acc.length<=4000->
 av (sWoX hI V.isNone (cK U.1 U.2)) (ez V.isNone (bF (gv V).1) [cN s (gv V).2 (50-(d:Int)) n]) [0,1,1] (fr [(0,jW),(3,gL 1 acc.length)]) (.ofList [⟨173,[.c (.str s),.c (.int .i64 i),.c (.int .i64 (50-(d:Int))),.c (.int .i64 n)]⟩,aD acc])
 | 0,i,acc,h,hm,e,e2,hl=>by have:=h.2;rw [bq] at hm;omega
 | m + 1, i, acc, h, hm, e, e2, hl => by
   refine aX (NM hI) (by kernel_rfl) 100 ?_
   apply of_eq (q:=let q5:=(aZ (af s) i);let q1:=(jG n (af s) d q5);let q2:=(List.take acc.length (List.drop (0:Nat) acc)++(gv q1).fst);let q3:=Ob.mk 173 [Fd.c (W.str s),fI (↑(bE (af s) (42:Int) (gv q1).snd):Int),fI ((50:Int)-(d:Int)),fI n];let q4:=(acc.length+(gv q1).fst.length);let q6:=decide ((4000:Nat)<acc.length+(gv q1).fst.length);At s (i:Int)/\(At s (↑q5:Int)/\RG n/\(50:Int)-(d:Int)=50-(d:Int))/\(q1.isNone=true->V.isNone=true/\cK (E n (af s) d q5).fst (↑(E n (af s) d q5).snd:Int)=cK U.fst (U.snd:Int))/\(q1.isNone=false->((At s (↑q5:Int)/\RG n/\(50:Int)-(d:Int)=50-(d:Int))/\q1.isNone=false)/\((0:Nat)+acc.length<=acc.length/\q4*8<=140737488355328)/\(acc.length+(gv q1).fst.length<=q2.length/\q2.length<=1000000)/\(q6=true->V.isNone=true/\cK (4:Int) (↑q5:Int)=cK U.fst (U.snd:Int))/\(q6=false->(acc.length+(gv q1).fst.length<=4000/\acc.length+(gv q1).fst.length<=q2.length)/\At s (↑(gv q1).snd:Int)/\((!cx (af s) (42:Int) (gv q1).snd)=true->(0:Nat)+q4<=q2.length/\V.isNone=false/\aB [ax.V.c (wR (List.take q4 (List.drop (0:Nat) q2)))]=bF (gv V).fst/\[q3]=[cN s (↑(gv V).snd:Int) ((50:Int)-(d:Int)) n])/\((!cx (af s) (42:Int) (gv q1).snd)=false->av (sWoX hI V.isNone (cK U.fst (U.snd:Int))) (ez V.isNone (bF (gv V).fst) [cN s (↑(gv V).snd:Int) ((50:Int)-(d:Int)) n]) [0,1,1] (fr [(0,A.p (ax.V.c (W.ptr 0 0))),(3,A.p (ax.V.c (W.sl 1 0 q4 (1:Nat))))]) (ai.ofList [q3,aD q2]))))) (by kernel_rfl)
   try simp only [sL]
   rw [qx] at e
   rw [rf] at e2
   have ic:i<=(af s).length:=by rw [bq];have:=h.2;omega
   obtain ⟨hs1,hsk⟩:=jz (af s) _ i rfl ic
   cases hv:jG n (af s) d (aZ (af s) i) with
   | none =>
     rw [hv] at e e2
     have e:none=V:=e
     subst e
     have e2:=e2 rfl
     rw [<-e2]
     exact ⟨h,⟨kY h.1 hsk,hn⟩,fun _=>⟨rfl,rfl⟩,fun g=>by cases g⟩
   | some vk =>
   obtain ⟨v,k⟩:=vk
   rw [hv] at e e2
   dsimp only at e e2
   obtain ⟨f1,f2⟩:=xh (mO d) _ v k hsk hv
   have f3:=hf _ _ _ hsk hv
   dsimp only [Option.getD_some,gv,Option.isNone_some]
   have hla:(acc++v).length=acc.length+v.length:=List.length_append
   rw [hla] at e e2 ⊢
   refine ⟨h,⟨kY h.1 hsk,hn⟩,(fun g=>by cases g),fun _=>⟨⟨⟨kY h.1 hsk,hn⟩,rfl⟩,by omega,⟨by omega,by omega⟩,fun g=>?_,fun g=>⟨⟨by omega,by omega⟩,kY h.1 f2,fun g2=>?_,fun g2=>?_⟩⟩⟩
   . rw [if_pos g] at e e2
     subst e
     rw [<-e2 rfl]
     exact ⟨rfl,rfl⟩
   . rw [if_neg g,if_neg (by rw [g2];simp)] at e
     subst e
     refine ⟨Nat.le_refl _,rfl,?_,rfl⟩
     rw [<-hla,List.take_length]
     rfl
   . rw [if_neg g,if_pos g2] at e
     rw [if_neg g] at e2
     have hlt:=lI g2
     have hk2:=(jz (af s) _ k rfl f2).1
     have ht:bE (af s) 42 k=aZ (af s) k+1:=by unfold bE;rw [if_pos g2]
     rw [<-hla]
     exact DX hI s n hn hf V U m _ (acc++v) (kY h.1 (gP f2)) (by omega) e e2 (by omega)
theorem Uv {d:Nat} {E:Int->List Int->Nat->gQ} (hI:gk 132 jG E d) (hf:∀ s n,zI (af s) (jG n (af s) d)):gk 120 cQ (fun n l d=>rf (jG n l d) (E n l d) l (l.length+1) []) d:=s6 (by kernel_rfl) fun s i n h hn=>by
 refine dw (dies:=XM hI) (aq:=[([0,1,1],[0,3])]) (cE:=[]) (fz:=[some dI]) (NM hI) Tryz.func120 (by kernel_rfl) 1 (by kernel_rfl) 100 ?_
 apply of_eq (q:=let q1:=(rf (jG n (af s) d) (E n (af s) d) (af s) ((af s).length+1) [] i.toNat);let q2:=(cQ n (af s) d i.toNat);av (cD Tryz.prog (XL d) (XM hI) Tryz.f120 (1:Nat) [([0,1,1],[0,3])] [] [some dI] q2.isNone (cK q1.fst (↑q1.snd:Int))) (ez q2.isNone (bF (gv q2).fst) [cN s (↑(gv q2).snd:Int) ((50:Int)-(d:Int)) n]) [0,1,1] (fr [(0,aR 0 0),(3,aS 1 0 0)]) (ai.ofList [Ob.mk 173 [Fd.c (W.str s),fI i,fI ((50:Int)-(d:Int)),fI n],aD ([])])) (by kernel_rfl)
 try simp only [sL,Int.reduceEq,Int.reduceNe,Nat.reduceAdd]
 have:=DX hI s n hn (hf s n) _ _ ((af s).length+1) i.toNat [] (by rw [toNat_cast h.2.1];exact h) (by omega) rfl (fun _=>rfl) (by simp)
 rw [toNat_cast h.2.1] at this
 exact this
def DY:dK:={ cF:=[true,false],f:=fun args ak=>match args,ak with
 | [.p (.c (.ptr a b)),.p (.c (.int .u8 c))],[o]=>bif Nat.beq a 0&&Nat.beq b 0 then (match qf o with | some (s,i,_,_)=>some (.p (At s i),some (mr (af s) c i.toNat),cK 11 (bE (af s) c i.toNat)) | none=>none) else none
 | _,_=>none }
theorem GW:cZ Tryz.prog 143 DY:=by
 refine ⟨by kernel_rfl,fun args ak c b u e hc hb=>?_⟩
 simp only [DY] at e
 split at e
 . obtain ⟨j5,e⟩:=au.aH e
   simp only [Bool.and_eq_true,Nat.beq_eq] at j5
   obtain ⟨rfl,rfl⟩:=j5
   split at e
   . rename_i s i o n hr
     rw [kU hr]
     cases e
     exact (Qh _ s i o n hc).2 (DW hb)
   . cases e
 . cases e
def qm (l:List Int) (c:Int) (r:Option (List Int×Nat)) (er:Int×Nat):Int×Nat:=match r with
 | none=>er
 | some (_,k)=>(11,bE l c k)
def rK (word:j7) (we:gQ) (l:List Int):gQ:=fun i=>match endP l 44 (word i) with
 | none=>qm l 44 (word i) (we i)
 | some (_,k)=>we k
noncomputable def gCmX (d:Nat):bS:=[(120,xA cQ d),(143,JR),(137,cTu),(144,cCat)]
theorem aaP {d:Nat} {E:Int->List Int->Nat->gQ} (h:gk 120 cQ E d):bt Tryz.prog (gCmX d):=ar h.con (ar Gu (ar SZ (ar aag aC)))
def diCm {d:Nat} {E:Int->List Int->Nat->gQ} (h:gk 120 cQ E d):List { x:FuncId×dK // cZ Tryz.prog x.1 x.2 }:=[⟨(120,xB cQ E d),h.die⟩,⟨(143,DY),GW⟩]
theorem KN {d:Nat} {E:Int->List Int->Nat->gQ} (hI:gk 120 cQ E d):gk 142 kX (fun n l d=>rK (cQ n l d) (E n l d) l) d:=s6 (by kernel_rfl) fun s i n h hn=>by
 refine dw (dies:=diCm hI) (aq:=[]) (cE:=[]) (fz:=[some dI]) (aaP hI) Tryz.func142 (by kernel_rfl) 1 (by kernel_rfl) 100 ?_
 apply of_eq (q:=let q5:=RG n/\(50:Int)-(d:Int)=50-(d:Int);let q8:=(af s);let q2:=(cQ n q8 d i.toNat);let q3:=(rK (cQ n q8 d) (E n q8 d) q8 i.toNat);let q6:=(kX n q8 d i.toNat);let q1:=(bE q8 (44:Int) (gv q2).snd);let q4:=(cQ n q8 d q1);let q7:=(List.take (4:Nat) (List.drop (0:Nat) [fQ (gv q2).fst,fQ (gv q4).fst,(gv q2).fst,(gv q4).fst]));(At s i/\q5)/\(q2.isNone=true->q6.isNone=true/\cK (E n q8 d i.toNat).fst (↑(E n q8 d i.toNat).snd:Int)=cK q3.fst (↑q3.snd:Int))/\(q2.isNone=false->((At s i/\q5)/\q2.isNone=false)/\At s (↑(gv q2).snd:Int)/\(mr q8 (44:Int) (gv q2).snd=true->q6.isNone=true/\cK (11:Int) (↑q1:Int)=cK q3.fst (↑q3.snd:Int))/\(mr q8 (44:Int) (gv q2).snd=false->(At s (↑(gv q2).snd:Int)/\cx q8 (44:Int) (gv q2).snd=true)/\(At s (↑q1:Int)/\q5)/\(q4.isNone=true->q6.isNone=true/\cK (E n q8 d q1).fst (↑(E n q8 d q1).snd:Int)=cK q3.fst (↑q3.snd:Int))/\(q4.isNone=false->((At s (↑q1:Int)/\q5)/\q4.isNone=false)/\(gv q2).fst.length<=1000000/\(gv q4).fst.length<=1000000/\(0:Nat)+4<=4/\((4:Nat)<=100/\q7.flatten.length<=1000000)/\q6.isNone=false/\aB [V.c (wR q7.flatten)]=bF (gv q6).fst/\[Ob.mk 173 [Fd.c (W.str s),fI (↑(gv q4).snd:Int),fI ((50:Int)-(d:Int)),fI n]]=[cN s (↑(gv q6).snd:Int) ((50:Int)-(d:Int)) n])))) (by kernel_rfl)
 try simp only [sL]
 have ic:i.toNat<=(af s).length:=by rw [bq];have:=h.2;omega
 cases hx:cQ n (af s) d i.toNat with
 | none =>
   have eF:kX n (af s) d i.toNat=none:=by unfold kX sS endP;rw [hx]
   have eE:rK (cQ n (af s) d) (E n (af s) d) (af s) i.toNat=E n (af s) d i.toNat:=by unfold rK endP qm;rw [hx]
   rw [eF,eE]
   exact ⟨⟨h,hn⟩,fun _=>⟨rfl,rfl⟩,fun g=>by cases g⟩
 | some xk =>
 obtain ⟨x,k⟩:=xk
 obtain ⟨f1,f2⟩:=qY d _ x k ic hx
 have a1:=kY h.1 f2
 have a2:=kY h.1 (gP (c:=44) f2)
 dsimp only [Option.getD_some,gv,Option.isNone_some]
 cases hs:cx (af s) 44 k with
 | false =>
   have eF:kX n (af s) d i.toNat=none:=by unfold kX sS endP;rw [hx];simp only [hs];rfl
   have eE:rK (cQ n (af s) d) (E n (af s) d) (af s) i.toNat=(11,bE (af s) 44 k):=by unfold rK endP qm;rw [hx];simp only [hs];rfl
   rw [eF,eE]
   have hno:mr (af s) 44 k=true:=by unfold mr;rw [hs];rfl
   rw [hno]
   exact ⟨⟨h,hn⟩,(fun g=>by cases g),fun _=>⟨⟨⟨h,hn⟩,rfl⟩,a1,fun _=>⟨rfl,rfl⟩,fun g=>by cases g⟩⟩
 | true =>
   have hno:mr (af s) 44 k=false:=by unfold mr;rw [hs];rfl
   rw [hno]
   have ee:endP (af s) 44 (some (x,k))=some (x,bE (af s) 44 k):=by unfold endP;simp only [hs];rfl
   cases hy:cQ n (af s) d (bE (af s) 44 k) with
   | none =>
     have eF:kX n (af s) d i.toNat=none:=by unfold kX sS;rw [hx,ee];simp only [hy]
     have eE:rK (cQ n (af s) d) (E n (af s) d) (af s) i.toNat=E n (af s) d (bE (af s) 44 k):=by unfold rK;rw [hx,ee]
     rw [eF,eE]
     exact ⟨⟨h,hn⟩,(fun g=>by cases g),fun _=>⟨⟨⟨h,hn⟩,rfl⟩,a1,(fun g=>by cases g),fun _=>⟨⟨a1,rfl⟩,⟨a2,hn⟩,fun _=>⟨rfl,rfl⟩,fun g=>by cases g⟩⟩⟩
   | some ym =>
     obtain ⟨y,m⟩:=ym
     obtain ⟨f3,f4⟩:=qY d _ y _ (gP f2) hy
     have eF:kX n (af s) d i.toNat=some (fQ x++fQ y++x++y,m):=by unfold kX sS;rw [hx,ee];simp only [hy]
     rw [eF]
     dsimp only [Option.getD_some,gv,Option.isNone_some]
     refine ⟨⟨h,hn⟩,(fun g=>by cases g),fun _=>⟨⟨⟨h,hn⟩,rfl⟩,a1,(fun g=>by cases g),fun _=>⟨⟨a1,rfl⟩,⟨a2,hn⟩,(fun g=>by cases g),fun _=>⟨⟨⟨a2,hn⟩,rfl⟩,by omega,by omega,⟨by omega,?_⟩,rfl,?_,rfl⟩⟩⟩⟩
     . simp [fQ];omega
     . simp [aB,bF]
abbrev DZ (E:Int->List Int->Nat->gQ) (n:Int) (l:List Int) (d:Nat):gQ:=rK (cQ n l d) (E n l d) l
noncomputable def gWiX (d:Nat):bS:=[(120,xA cQ d),(142,xA kX d),(143,JR)]
theorem NN {d:Nat} {E:Int->List Int->Nat->gQ} (h:gk 120 cQ E d):bt Tryz.prog (gWiX d):=ar h.con (ar (KN h).con (ar Gu aC))
def diWi {d:Nat} {E:Int->List Int->Nat->gQ} (h:gk 120 cQ E d):List { x:FuncId×dK // cZ Tryz.prog x.1 x.2 }:=[⟨(122,qZ),oL⟩,⟨(120,xB cQ E d),h.die⟩,⟨(142,xB kX (DZ E) d),(KN h).die⟩,⟨(143,DY),GW⟩]
theorem KO {d:Nat} (hd:d<=49) {E:Int->List Int->Nat->gQ} (hI:gk 120 cQ E d) (c:Int) (s:ByteArray) (i n:Int) (h:At s i/\i<s.size) (hn:RG n) (r:Option (List Int×Nat)) (er:Int×Nat) (hr:r=endP (af s) c (cQ n (af s) d (i.toNat+1))) (he:er=qm (af s) c (cQ n (af s) d (i.toNat+1)) (E n (af s) d (i.toNat+1))) :
 (r.isNone=false->bA Tryz.prog 141 1 [jW,.p (.c (.fB 120 0 0)),xY c] [cN s i (49-(d:Int)) n] (bF (gv r).1) [cN s (gv r).2 (49-(d:Int)) n])/\(r.isNone=true->dQ Tryz.prog 141 [jW,.p (.c (.fB 120 0 0)),xY c] [cN s i (49-(d:Int)) n] (cK er.1 er.2)):=by
 refine dw (dies:=diWi hI) (aq:=[]) (cE:=[]) (fz:=[some dI]) (NN hI) Tryz.func141 (by kernel_rfl) 1 (by kernel_rfl) 100 ?_
 apply of_eq (q:=let q0:=IntKind.i64.wrap;let q2:=(q0 (i+1));let q3:=RG n/\q0 ((49:Int)-(d:Int)+1)=50-(d:Int);let q1:=(cQ n (af s) d q2.toNat);(decide ((49:Int)-(d:Int)=50)=true->r.isNone=true/\cK (10:Int) i=cK er.fst (er.snd:Int))/\(decide ((49:Int)-(d:Int)=50)=false->(At s q2/\q3)/\(q1.isNone=true->r.isNone=true/\cK (E n (af s) d q2.toNat).fst (↑(E n (af s) d q2.toNat).snd:Int)=cK er.fst (er.snd:Int))/\(q1.isNone=false->((At s q2/\q3)/\q1.isNone=false)/\At s (↑(gv q1).snd:Int)/\(mr (af s) c (gv q1).snd=true->r.isNone=true/\cK (11:Int) (↑(bE (af s) c (gv q1).snd):Int)=cK er.fst (er.snd:Int))/\(mr (af s) c (gv q1).snd=false->(At s (↑(gv q1).snd:Int)/\cx (af s) c (gv q1).snd=true)/\r.isNone=false/\aB [V.c (wR (gv q1).fst)]=bF (gv r).fst/\[Ob.mk 173 [Fd.c (W.str s),fI (↑(bE (af s) c (gv q1).snd):Int),fI (q0 (q0 ((49:Int)-(d:Int)+1)-1)),fI n]]=[cN s (↑(gv r).snd:Int) ((49:Int)-(d:Int)) n])))) (by kernel_rfl)
 try simp only [sL]
 have ic:i.toNat+1<=(af s).length:=by rw [bq];have:=h.1.2;omega
 have hbs:=h.1.1
 rw [wrap64 (n:=i+1) (by have:=h.1.2;omega) (by have:=h.1.2;omega),wrap64 (n:=49-(d:Int)+1) (by omega) (by omega),wrap64 (n:=49-(d:Int)+1-1) (by omega) (by omega),show (i+1).toNat=i.toNat+1 by have:=h.1.2;omega]
 have hA:At s (i+1):=⟨hbs,by have:=h.1.2;omega,by have:=h.1.2;omega⟩
 have zJ:49-(d:Int)+1=50-(d:Int):=by omega
 subst hr
 subst he
 cases hx:cQ n (af s) d (i.toNat+1) with
 | none=>exact ⟨fun g=>by omega,fun _=>⟨⟨hA,hn,zJ⟩,fun _=>⟨rfl,rfl⟩,fun g=>by cases g⟩⟩
 | some xk =>
 obtain ⟨x,k⟩:=xk
 obtain ⟨f1,f2⟩:=qY d _ x k ic hx
 have a1:=kY hbs f2
 rw [show 49-(d:Int)+1-1=49-(d:Int) by omega]
 cases hs:cx (af s) c k with
 | false =>
   have ee:endP (af s) c (some (x,k))=none:=by unfold endP;simp only [hs];rfl
   have hno:mr (af s) c k=true:=by unfold mr;rw [hs];rfl
   rw [ee]
   exact ⟨fun g=>by omega,fun _=>⟨⟨hA,hn,zJ⟩,(fun g=>by cases g),fun _=>⟨⟨⟨hA,hn,zJ⟩,rfl⟩,a1,fun _=>⟨rfl,rfl⟩,fun g=>by rw [show (gv (some (x,k))).2=k from rfl,hno] at g;cases g⟩⟩⟩
 | true =>
   have ee:endP (af s) c (some (x,k))=some (x,bE (af s) c k):=by unfold endP;simp only [hs];rfl
   have hno:mr (af s) c k=false:=by unfold mr;rw [hs];rfl
   rw [ee]
   exact ⟨fun g=>by omega,fun _=>⟨⟨hA,hn,zJ⟩,(fun g=>by cases g),fun _=>⟨⟨⟨hA,hn,zJ⟩,rfl⟩,a1,(fun g=>by rw [show (gv (some (x,k))).2=k from rfl,hno] at g;cases g),fun _=>⟨⟨a1,hs⟩,rfl,rfl,rfl⟩⟩⟩⟩
theorem KP {d:Nat} (hd:d<=49) {E:Int->List Int->Nat->gQ} (hI:gk 120 cQ E d) (c:Int) (s:ByteArray) (i n:Int) (h:At s i/\i<s.size) (hn:RG n) (r:Option (List Int×Nat)) (er:Int×Nat) (hr:r=endP (af s) c (kX n (af s) d (i.toNat+1))) (he:er=qm (af s) c (kX n (af s) d (i.toNat+1)) (DZ E n (af s) d (i.toNat+1))) :
 (r.isNone=false->bA Tryz.prog 141 1 [jW,.p (.c (.fB 142 0 0)),xY c] [cN s i (49-(d:Int)) n] (bF (gv r).1) [cN s (gv r).2 (49-(d:Int)) n])/\(r.isNone=true->dQ Tryz.prog 141 [jW,.p (.c (.fB 142 0 0)),xY c] [cN s i (49-(d:Int)) n] (cK er.1 er.2)):=by
 refine dw (dies:=diWi hI) (aq:=[]) (cE:=[]) (fz:=[some dI]) (NN hI) Tryz.func141 (by kernel_rfl) 1 (by kernel_rfl) 100 ?_
 apply of_eq (q:=let q0:=IntKind.i64.wrap;let q2:=(q0 (i+1));let q3:=RG n/\q0 ((49:Int)-(d:Int)+1)=50-(d:Int);let q1:=(kX n (af s) d q2.toNat);(decide ((49:Int)-(d:Int)=50)=true->r.isNone=true/\cK (10:Int) i=cK er.fst (er.snd:Int))/\(decide ((49:Int)-(d:Int)=50)=false->(At s q2/\q3)/\(q1.isNone=true->r.isNone=true/\cK (DZ E n (af s) d q2.toNat).fst (↑(DZ E n (af s) d q2.toNat).snd:Int)=cK er.fst (er.snd:Int))/\(q1.isNone=false->((At s q2/\q3)/\q1.isNone=false)/\At s (↑(gv q1).snd:Int)/\(mr (af s) c (gv q1).snd=true->r.isNone=true/\cK (11:Int) (↑(bE (af s) c (gv q1).snd):Int)=cK er.fst (er.snd:Int))/\(mr (af s) c (gv q1).snd=false->(At s (↑(gv q1).snd:Int)/\cx (af s) c (gv q1).snd=true)/\r.isNone=false/\aB [V.c (wR (gv q1).fst)]=bF (gv r).fst/\[Ob.mk 173 [Fd.c (W.str s),fI (↑(bE (af s) c (gv q1).snd):Int),fI (q0 (q0 ((49:Int)-(d:Int)+1)-1)),fI n]]=[cN s (↑(gv r).snd:Int) ((49:Int)-(d:Int)) n])))) (by kernel_rfl)
 try simp only [sL]
 have ic:i.toNat+1<=(af s).length:=by rw [bq];have:=h.1.2;omega
 have hbs:=h.1.1
 rw [wrap64 (n:=i+1) (by have:=h.1.2;omega) (by have:=h.1.2;omega),wrap64 (n:=49-(d:Int)+1) (by omega) (by omega),wrap64 (n:=49-(d:Int)+1-1) (by omega) (by omega),show (i+1).toNat=i.toNat+1 by have:=h.1.2;omega]
 have hA:At s (i+1):=⟨hbs,by have:=h.1.2;omega,by have:=h.1.2;omega⟩
 have zJ:49-(d:Int)+1=50-(d:Int):=by omega
 subst hr
 subst he
 cases hx:kX n (af s) d (i.toNat+1) with
 | none=>exact ⟨fun g=>by omega,fun _=>⟨⟨hA,hn,zJ⟩,fun _=>⟨rfl,rfl⟩,fun g=>by cases g⟩⟩
 | some xk =>
 obtain ⟨x,k⟩:=xk
 obtain ⟨f1,f2⟩:=Cp (qY d) _ x k ic hx
 have a1:=kY hbs f2
 rw [show 49-(d:Int)+1-1=49-(d:Int) by omega]
 cases hs:cx (af s) c k with
 | false =>
   have ee:endP (af s) c (some (x,k))=none:=by unfold endP;simp only [hs];rfl
   have hno:mr (af s) c k=true:=by unfold mr;rw [hs];rfl
   rw [ee]
   exact ⟨fun g=>by omega,fun _=>⟨⟨hA,hn,zJ⟩,(fun g=>by cases g),fun _=>⟨⟨⟨hA,hn,zJ⟩,rfl⟩,a1,fun _=>⟨rfl,rfl⟩,fun g=>by rw [show (gv (some (x,k))).2=k from rfl,hno] at g;cases g⟩⟩⟩
 | true =>
   have ee:endP (af s) c (some (x,k))=some (x,bE (af s) c k):=by unfold endP;simp only [hs];rfl
   have hno:mr (af s) c k=false:=by unfold mr;rw [hs];rfl
   rw [ee]
   exact ⟨fun g=>by omega,fun _=>⟨⟨hA,hn,zJ⟩,(fun g=>by cases g),fun _=>⟨⟨⟨hA,hn,zJ⟩,rfl⟩,a1,(fun g=>by rw [show (gv (some (x,k))).2=k from rfl,hno] at g;cases g),fun _=>⟨⟨a1,hs⟩,rfl,rfl,rfl⟩⟩⟩⟩
def NP (E:Int->List Int->Nat->gQ) (g:Nat) (n:Int) (l:List Int) (d:Nat):gQ:=bif Nat.beq g 120 then E n l d else DZ E n l d
def KQ (d:Nat):bP:={ cF:=[true,true,false],f:=fun args ak=>match args,ak with
 | [.p (.c (.ptr a b)),.p (.c (.fB g x y)),.p (.c (.int .u8 c))],[o]=>bif Nat.beq a 0&&(Nat.beq b 0&&(Nat.beq x 0&&(Nat.beq y 0&&(Nat.beq g 120||Nat.beq g 142)))) then (match qf o with
   | some (s,i,o,n)=>some (.p ((At s i/\i<s.size/\RG n/\o=49-(d:Int))/\(endP (af s) c (zD g n (af s) d (i.toNat+1))).isNone=false),bF (gv (endP (af s) c (zD g n (af s) d (i.toNat+1)))).1,[cN s (gv (endP (af s) c (zD g n (af s) d (i.toNat+1)))).2 o n])
   | none=>none) else none
 | _,_=>none }
def KR (E:Int->List Int->Nat->gQ) (d:Nat):dK:={ cF:=[true,true,false],f:=fun args ak=>match args,ak with
 | [.p (.c (.ptr a b)),.p (.c (.fB g x y)),.p (.c (.int .u8 c))],[o]=>bif Nat.beq a 0&&(Nat.beq b 0&&(Nat.beq x 0&&(Nat.beq y 0&&(Nat.beq g 120||Nat.beq g 142)))) then (match qf o with
   | some (s,i,o,n)=>some (.p (At s i/\i<s.size/\RG n/\o=49-(d:Int)),some (endP (af s) c (zD g n (af s) d (i.toNat+1))).isNone,cK (qm (af s) c (zD g n (af s) d (i.toNat+1)) (NP E g n (af s) d (i.toNat+1))).1 (qm (af s) c (zD g n (af s) d (i.toNat+1)) (NP E g n (af s) d (i.toNat+1))).2)
   | none=>none) else none
 | _,_=>none }
theorem Uw {d:Nat} (hd:d<=49) {E:Int->List Int->Nat->gQ} (hI:gk 120 cQ E d):aV Tryz.prog 141 (KQ d):=by
 refine ⟨by kernel_rfl,fun args ak c r bp e hc=>?_⟩
 simp only [KQ] at e
 split at e
 . have hb':=au.aH e
   clear e
   obtain ⟨hb,e⟩:=hb'
   simp only [Bool.and_eq_true,Bool.or_eq_true,Nat.beq_eq] at hb
   obtain ⟨rfl,rfl,rfl,rfl,hg⟩:=hb
   split at e
   . rename_i s i o n hr
     rw [kU hr]
     cases e
     obtain ⟨⟨h1,h2,h3,rfl⟩,h4⟩:=hc
     rcases hg with rfl | rfl
     . exact (KO hd hI _ s i n ⟨h1,h2⟩ h3 _ _ rfl rfl).1 h4
     . exact (KP hd hI _ s i n ⟨h1,h2⟩ h3 _ _ rfl rfl).1 h4
   . cases e
 . cases e
theorem Ux {d:Nat} (hd:d<=49) {E:Int->List Int->Nat->gQ} (hI:gk 120 cQ E d):cZ Tryz.prog 141 (KR E d):=by
 refine ⟨by kernel_rfl,fun args ak c b u e hc rN=>?_⟩
 simp only [KR] at e
 split at e
 . have hb':=au.aH e
   clear e
   obtain ⟨hb,e⟩:=hb'
   simp only [Bool.and_eq_true,Bool.or_eq_true,Nat.beq_eq] at hb
   obtain ⟨rfl,rfl,rfl,rfl,hg⟩:=hb
   split at e
   . rename_i s i o n hr
     rw [kU hr]
     cases e
     obtain ⟨h1,h2,h3,rfl⟩:=hc
     rcases hg with rfl | rfl
     . exact (KO hd hI _ s i n ⟨h1,h2⟩ h3 _ _ rfl rfl).2 (DW rN)
     . exact (KP hd hI _ s i n ⟨h1,h2⟩ h3 _ _ rfl rfl).2 (DW rN)
   . cases e
 . cases e
theorem aaQ (g:Nat) (c:Int) (s:ByteArray) (i n:Int):dQ Tryz.prog 141 [jW,.p (.c (.fB g 0 0)),xY c] [cN s i 50 n] (cK 10 i):=by
 refine (dw (dies:=iP) (aq:=[]) (cE:=[]) (fz:=[some dI]) aC Tryz.func141 (by kernel_rfl) 1 (by kernel_rfl) (b:=true) (r0:=bF []) (bL:=[]) 100 ?_).2 rfl
 apply of_eq (q:=let q1:=(ez true (bF []) []);let q2:=(IntKind.i64.wrap ((50:Int)+1));let q3:=(cK (10:Int) i);let q4:=aP (W.fB g (0:Nat) (0:Nat));let q6:=(aR 0 ((0:Nat)+2));let q7:=(IntKind.i64.wrap (i+1));let q8:=(aR 0 0);let q9:=decide ((50:Int)=50);let bG:=(1:Nat);let bM:=(Ob.mk 173 [Fd.c (W.str s),fI q7,fI q2,fI n]);let cS:=(Ob.mk 173 [Fd.c (W.str s),fI i,fI q2,fI n]);let cA:=(ai.ofList [cN s i (50:Int) n]);let bU:=(((cA.add (aD ([]))).put (0:Nat) cS).put (0:Nat) bM);let fA:=(iM.mk (some (34:Nat)) none (O.call (bO.tmp (33:Nat)) []));let q5:=(eN (eN (eN (eN (eN (pq [jW,q4,xY c]) (some (6:Nat)) (aS 1 0 0)) (some (8:Nat)) q8) (some (9:Nat)) q8) (some (10:Nat)) q6) (some (11:Nat)) (nI (50)));let aW:=(eN (eN (eN (eN (eN (eN (eN (eN (eN (eN (eN (eN (eN (eN (eN (eN (eN (eC (eN q5 (some (12:Nat)) (bB (q9))) (bO.tmp (12:Nat)) false) (some (19:Nat)) q8) (some (20:Nat)) q8) (some (21:Nat)) q6) (some (22:Nat)) (nI (50))) (some (23:Nat)) (nI q2)) (some (24:Nat)) q8) (some (25:Nat)) q6) none (A.aL [])) (some (26:Nat)) q8) (some (27:Nat)) q8) (some (28:Nat)) (aR 0 1)) (some (29:Nat)) (nI i)) (some (30:Nat)) (nI q7)) (some (31:Nat)) q8) (some (32:Nat)) (aR 0 1)) none (A.aL [])) (some (33:Nat)) (q4));(q9=true->true=true/\cK (10:Int) i=cK (10:Int) i)/\(q9=false->Option.rec (ET ((cD Tryz.prog [] iP Tryz.f141 bG [] [] [some dI] true q3).env q1).yl ((cD Tryz.prog [] iP Tryz.f141 bG [] [] [some dI] true q3).env q1).Γ aW bU fA fun F' S'=>uE._f ((cD Tryz.prog [] iP Tryz.f141 bG [] [] [some dI] true q3).env q1).yl ((cD Tryz.prog [] iP Tryz.f141 bG [] [] [some dI] true q3).env q1).Γ ((cD Tryz.prog [] iP Tryz.f141 bG [] [] [some dI] true q3).env q1).dy [iM.mk (some (7:Nat)) none (O.q (Q.move (bO.tmp (34:Nat))))] ⟨uE._f ((cD Tryz.prog [] iP Tryz.f141 bG [] [] [some dI] true q3).env q1).yl ((cD Tryz.prog [] iP Tryz.f141 bG [] [] [some dI] true q3).env q1).Γ ((cD Tryz.prog [] iP Tryz.f141 bG [] [] [some dI] true q3).env q1).dy [] PUnit.unit,PUnit.unit⟩ F' S' fun F' S'=>Nat.rec (motive:=fun x=>ax.Task->Prop) (fun x=>False) (fun x ih=>HI ((cD Tryz.prog [] iP Tryz.f141 bG [] [] [some dI] true q3).env q1) ih) (80:Nat) (Task.up [0,1,1,1,1] au.X.normal F' S')) (fun val=>match val.snd.fst with | none=>gE val.fst.list (((cD Tryz.prog [] iP Tryz.f141 bG [] [] [some dI] true q3).env q1).dy.pn val.snd.snd.fst aW val.snd.snd.snd) | some b=>gE val.fst.list ((b=true->((cD Tryz.prog [] iP Tryz.f141 bG [] [] [some dI] true q3).env q1).dy.pn val.snd.snd.fst aW val.snd.snd.snd)/\(b=false->ET ((cD Tryz.prog [] iP Tryz.f141 bG [] [] [some dI] true q3).env q1).yl ((cD Tryz.prog [] iP Tryz.f141 bG [] [] [some dI] true q3).env q1).Γ aW bU fA fun F' S'=>uE._f ((cD Tryz.prog [] iP Tryz.f141 bG [] [] [some dI] true q3).env q1).yl ((cD Tryz.prog [] iP Tryz.f141 bG [] [] [some dI] true q3).env q1).Γ ((cD Tryz.prog [] iP Tryz.f141 bG [] [] [some dI] true q3).env q1).dy [iM.mk (some (7:Nat)) none (O.q (Q.move (bO.tmp (34:Nat))))] ⟨uE._f ((cD Tryz.prog [] iP Tryz.f141 bG [] [] [some dI] true q3).env q1).yl ((cD Tryz.prog [] iP Tryz.f141 bG [] [] [some dI] true q3).env q1).Γ ((cD Tryz.prog [] iP Tryz.f141 bG [] [] [some dI] true q3).env q1).dy [] PUnit.unit,PUnit.unit⟩ F' S' fun F' S'=>Nat.rec (motive:=fun x=>ax.Task->Prop) (fun x=>False) (fun x ih=>HI ((cD Tryz.prog [] iP Tryz.f141 bG [] [] [some dI] true q3).env q1) ih) (80:Nat) (Task.up [0,1,1,1,1] au.X.normal F' S')))) (Jz ((cD Tryz.prog [] iP Tryz.f141 bG [] [] [some dI] true q3).env q1).dy.Δ aW bU (O.call (bO.tmp (33:Nat)) [])))) (by kernel_rfl)
 try simp only [sL]
 exact fun h=>absurd trivial h
def KS:dK:={ cF:=[true,true,false],f:=fun args ak=>match args,ak with
 | [.p (.c (.ptr a b)),.p (.c (.fB g x y)),.p (.c (.int .u8 c))],[o]=>bif Nat.beq a 0&&(Nat.beq b 0&&(Nat.beq x 0&&Nat.beq y 0)) then (match qf o with
   | some (s,i,o,n)=>some (.p (o=50),none,cK 10 i)
   | none=>none) else none
 | _,_=>none }
theorem Uy:cZ Tryz.prog 141 KS:=by
 refine ⟨by kernel_rfl,fun args ak c b u e hc rN=>?_⟩
 simp only [KS] at e
 split at e
 . obtain ⟨hb,e⟩:=au.aH e
   simp only [Bool.and_eq_true,Nat.beq_eq] at hb
   obtain ⟨rfl,rfl,rfl,rfl⟩:=hb
   split at e
   . rename_i s i o n hr
     rw [kU hr]
     cases e
     have hc:o=50:=hc
     subst hc
     exact aaQ _ _ s i n
   . cases e
 . cases e
def jw (n:Int) (l:List Int):Nat->gQ
 | 0,i=>if cx l 40 i=true∨cx l 91 i=true then (10,aZ l i) else (11,aZ l i)
 | d+1,i=>if cx l 40 i=true then qm l 41 (cQ n l d (aZ l i+1)) (rf (jG n l d) (xC (gZ n l d) (jw n l d) l) l (l.length+1) [] (aZ l i+1))
  else if cx l 91 i=true then qm l 93 (kX n l d (aZ l i+1)) (rK (cQ n l d) (rf (jG n l d) (xC (gZ n l d) (jw n l d) l) l (l.length+1) []) l (aZ l i+1))
  else (11,aZ l i)
def diIt0:List { x:FuncId×dK // cZ Tryz.prog x.1 x.2 }:=[⟨(122,qZ),oL⟩,⟨(141,KS),Uy⟩]
theorem Qk:gk 136 ia jw 0:=s6 (by kernel_rfl) fun s i n h hn=>by
 refine dw (dies:=diIt0) (aq:=[]) (cE:=[]) (fz:=[some dI]) aaN Tryz.func136 (by kernel_rfl) 1 (by kernel_rfl) 100 ?_
 apply of_eq (q:=let q0:=IntKind.i64.wrap;let q8:=((50:Int)-(↑(0:Nat):Int));let bG:=(af s);let q5:=(ia n bG (0:Nat) i.toNat);let q6:=(jw n bG (0:Nat) i.toNat);let q9:=(aZ bG i.toNat);let q4:=(aZ bG q9);let q7:=(bE bG (49:Int) q4);let bM:=decide (q0 (IntKind.u8.wrap (jH s q7-97))<n);let cS:=decide ((97:Int)<=jH s q7);let q2:=(↑q7:Int);let aW:=decide (q2<(s.size:Int));let cA:=(q0 (q2+1)-1);let q1:=(bif aW then cS else false)=true;let q3:=aW=true;At s i/\(cx bG (40:Int) i.toNat=true->(50:Int)-(↑(0:Nat):Int)=50/\q5.isNone=true/\cK (10:Int) (↑q9:Int)=cK q6.fst (↑q6.snd:Int))/\(cx bG (40:Int) i.toNat=false->At s (↑q9:Int)/\(cx bG (91:Int) q9=true->(50:Int)-(↑(0:Nat):Int)=50/\q5.isNone=true/\cK (10:Int) (↑q4:Int)=cK q6.fst (↑q6.snd:Int))/\(cx bG (91:Int) q9=false->At s (↑q4:Int)/\(cx bG (49:Int) q4=true->(0:Nat)<=0/\q5.isNone=false/\aB [V.c (wR (List.take (0:Nat) (List.drop (0:Nat) [])))]=bF (gv q5).fst/\[Ob.mk 173 [Fd.c (W.str s),fI q2,fI q8,fI n]]=[cN s (↑(gv q5).snd:Int) q8 n])/\(cx bG (49:Int) q4=false->(q3->q3)/\(q3->q3)/\(q3->q3)/\(q3->q3)/\(q3->q3)/\(q3->q3)/\(q3->q3)/\(q3->q3)/\(q3->(0:Int)<=q2/\q2<(s.size:Int))/\(q3->q3)/\(q3->q3)/\(q1->q1)/\(q1->q1)/\(q1->q1)/\(q1->q1)/\(q1->q1)/\(q1->q1)/\(q1->q1)/\(q1->q1)/\(q1->(0:Int)<=q2/\q2<(s.size:Int))/\(q1->q1)/\(q1->q1)/\(q1->q1)/\(q1->q1)/\(q1->q1)/\(q1->q1)/\(q1->q1)/\(q1->q1)/\(q1->q1)/\A.cond (q1) (vI n)=A.cond (q1) (vI n)/\(q1->q1)/\A.cond (q1) (vI n)=A.cond (q1) (vI n)/\((bif bif aW then cS else false then bM else false)=true->((0:Int)<=q0 cA/\q0 cA<(s.size:Int))/\(0:Nat)+1<=1/\q5.isNone=false/\aB [V.c (wR (List.take (1:Nat) (List.drop (0:Nat) [q0 (q0 (IntKind.u8.wrap (jH s (q0 cA).toNat-97))+1)])))]=bF (gv q5).fst/\[Ob.mk 173 [Fd.c (W.str s),fI (q0 (q2+1)),fI q8,fI n]]=[cN s (↑(gv q5).snd:Int) q8 n])/\((bif bif aW then cS else false then bM else false)=false->q5.isNone=true/\cK (11:Int) q2=cK q6.fst (↑q6.snd:Int)))))) (by kernel_rfl)
 try simp only [sL]
 have ic:i.toNat<=(af s).length:=by rw [bq];have:=h.2;omega
 simp only [nS,zE,GQ]
 obtain ⟨hat,_⟩:=vG h
 refine ⟨h,fun g=>?_,fun g0=>⟨hat,fun g=>?_,fun g1=>⟨hat,?_⟩⟩⟩
 . have eF:ia n (af s) 0 i.toNat=none:=by unfold ia;rw [gZ,if_pos (.inl g)]
   have eE:jw n (af s) 0 i.toNat=(10,aZ (af s) i.toNat):=by rw [jw,if_pos (.inl g)]
   rw [eF,eE]
   exact ⟨by omega,rfl,rfl⟩
 . have eF:ia n (af s) 0 i.toNat=none:=by unfold ia;rw [gZ,if_pos (.inr g)]
   have eE:jw n (af s) 0 i.toNat=(10,aZ (af s) i.toNat):=by rw [jw,if_pos (.inr g)]
   rw [eF,eE]
   exact ⟨by omega,rfl,rfl⟩
 have eF:ia n (af s) 0 i.toNat=nH n (af s) i.toNat:=by unfold ia;rw [gZ,if_neg (by rw [g0,g1];simp)]
 have eE:jw n (af s) 0 i.toNat=(11,aZ (af s) i.toNat):=by rw [jw,if_neg (by rw [g0,g1];simp)]
 have hl:=bq s
 have hsz:=h.1
 have hb:=vW s (aZ (af s) i.toNat)
 cases D1:cx (af s) 49 i.toNat with
 | true =>
   have eL:nH n (af s) i.toNat=some ([],bE (af s) 49 i.toNat):=by unfold nH;rw [if_pos D1]
   rw [eF,eL]
   exact ⟨fun _=>⟨rfl,rfl,rfl⟩,fun g=>by cases g⟩
 | false =>
   have ht:bE (af s) 49 i.toNat=aZ (af s) i.toNat:=by unfold bE;rw [D1];simp
   rw [ht,eF,eE]
   have eL:nH n (af s) i.toNat=(if aZ (af s) i.toNat<(af s).length/\97<=(af s).getD (aZ (af s) i.toNat) 0/\(af s).getD (aZ (af s) i.toNat) 0-97<n then some ([(af s).getD (aZ (af s) i.toNat) 0-96],aZ (af s) i.toNat+1) else none):=by unfold nH;rw [if_neg (by rw [D1];simp)]
   rw [eL]
   clear eL eF eE ht D1
   have hsk:=(jz (af s) _ i.toNat rfl ic).2
   generalize aZ (af s) i.toNat=p at *
   have w1:IntKind.i64.wrap ((p:Int)+1)=(p:Int)+1:=wrap64 (by omega) (by omega)
   have w2:IntKind.i64.wrap ((p:Int)+1-1)=(p:Int):=by rw [wrap64 (by omega) (by omega)];omega
   simp only [w1,w2,Int.toNat_natCast,kT]
   refine ⟨(fun g=>by cases g),fun _=>⟨fun g=>by omega,fun g=>by omega,fun g=>?_,fun g=>?_⟩⟩
   . have hA:IntKind.i64.wrap (IntKind.u8.wrap ((af s).getD p 0-97))=(af s).getD p 0-97:=by rw [Dm (by omega) (by omega),wrap64 (by omega) (by omega)]
     have hB:IntKind.i64.wrap ((af s).getD p 0-97+1)=(af s).getD p 0-96:=by rw [wrap64 (by omega) (by omega)];omega
     rw [hA] at g ⊢
     rw [hB,if_pos ⟨by omega,by omega,by omega⟩]
     exact ⟨⟨by omega,by omega⟩,rfl,rfl,rfl⟩
   . rw [if_neg]
     . first | exact ⟨rfl,rfl⟩ | exact ⟨rfl,trivial⟩
     . rintro ⟨c1,c2,c3⟩
       have hA:IntKind.i64.wrap (IntKind.u8.wrap ((af s).getD p 0-97))=(af s).getD p 0-97:=by rw [Dm (by omega) (by omega),wrap64 (by omega) (by omega)]
       rw [hA] at g
       have:=g ⟨by omega,c2⟩
       omega
abbrev jg (n:Int) (l:List Int) (d:Nat):gQ:=rf (jG n l d) (xC (gZ n l d) (jw n l d) l) l (l.length+1) []
noncomputable def gItX (d:Nat):bS:=[(140,HL),(133,vH),(141,KQ d)]
theorem aaR {d:Nat} (hd:d<=49) (hI:gk 120 cQ jg d):bt Tryz.prog (gItX d):=ar Cc (ar qV (ar (Uw hd hI) aC))
def diIt {d:Nat} (hd:d<=49) (hI:gk 120 cQ jg d):List { x:FuncId×dK // cZ Tryz.prog x.1 x.2 }:=[⟨(122,qZ),oL⟩,⟨(141,KR jg d),Ux hd hI⟩]
theorem Ql {d:Nat} (hd:d<=49) (hI:gk 120 cQ jg d):gk 136 ia jw (d+1):=s6 (by kernel_rfl) fun s i n h hn=>by
 refine dw (dies:=diIt hd hI) (aq:=[]) (cE:=[]) (fz:=[some dI]) (aaR hd hI) Tryz.func136 (by kernel_rfl) 1 (by kernel_rfl) 100 ?_
 apply of_eq (q:=let q0:=IntKind.i64.wrap;let q3:=(af s);let q5:=(aZ q3 i.toNat);let q6:=(ia n q3 (d+1) i.toNat);let q7:=(zD (120:Nat) n q3 d (aZ q3 i.toNat+1));let q8:=(endP q3 (93:Int) (zD (142:Nat) n q3 d (aZ q3 q5+1)));let q9:=((50:Int)-(↑(d+1):Int));let aW:=RG n/\(50:Int)-(↑(d+1):Int)=49-(d:Int);let bG:=(bE q3 (49:Int) (aZ q3 q5));let bM:=(jw n q3 (d+1) i.toNat);let cS:=(qm q3 (93:Int) (zD (142:Nat) n q3 d (aZ q3 q5+1)) (NP jg (142:Nat) n q3 d (aZ q3 q5+1)));let cA:=(s.size:Int);let bU:=(↑(aZ q3 q5):Int);let fA:=(endP q3 (41:Int) q7);let eB:=(qm q3 (41:Int) q7 (NP jg (120:Nat) n q3 d (aZ q3 i.toNat+1)));let fu:=decide (q0 (IntKind.u8.wrap (jH s bG-97))<n);let cX:=decide ((97:Int)<=jH s bG);let eu:=(↑(gv q6).snd:Int);let q2:=(↑bG:Int);let q4:=decide (q2<cA)=true;let fw:=(q0 (q2+1)-1);let q1:=(bif decide (q2<cA) then cX else false)=true;At s i/\(cx q3 (40:Int) i.toNat=true->(At s (↑q5:Int)/\(↑q5:Int)<cA/\aW)/\(fA.isNone=true->q6.isNone=true/\cK eB.fst (↑eB.snd:Int)=cK bM.fst (↑bM.snd:Int))/\(fA.isNone=false->((At s (↑q5:Int)/\(↑q5:Int)<cA/\aW)/\fA.isNone=false)/\q6.isNone=false/\aB [V.c (wR (gv fA).fst)]=bF (gv q6).fst/\[Ob.mk 173 [Fd.c (W.str s),fI (↑(gv fA).snd:Int),fI q9,fI n]]=[cN s eu q9 n]))/\(cx q3 (40:Int) i.toNat=false->At s (↑q5:Int)/\(cx q3 (91:Int) q5=true->(At s bU/\bU<cA/\aW)/\(q8.isNone=true->q6.isNone=true/\cK cS.fst (↑cS.snd:Int)=cK bM.fst (↑bM.snd:Int))/\(q8.isNone=false->((At s bU/\bU<cA/\aW)/\q8.isNone=false)/\q6.isNone=false/\aB [V.c (wR (gv q8).fst)]=bF (gv q6).fst/\[Ob.mk 173 [Fd.c (W.str s),fI (↑(gv q8).snd:Int),fI q9,fI n]]=[cN s eu q9 n]))/\(cx q3 (91:Int) q5=false->At s bU/\(cx q3 (49:Int) (aZ q3 q5)=true->(0:Nat)<=0/\q6.isNone=false/\aB [V.c (wR (List.take (0:Nat) (List.drop (0:Nat) [])))]=bF (gv q6).fst/\[Ob.mk 173 [Fd.c (W.str s),fI q2,fI q9,fI n]]=[cN s eu q9 n])/\(cx q3 (49:Int) (aZ q3 q5)=false->(q4->q4)/\(q4->q4)/\(q4->q4)/\(q4->q4)/\(q4->q4)/\(q4->q4)/\(q4->q4)/\(q4->q4)/\(q4->(0:Int)<=q2/\q2<cA)/\(q4->q4)/\(q4->q4)/\(q1->q1)/\(q1->q1)/\(q1->q1)/\(q1->q1)/\(q1->q1)/\(q1->q1)/\(q1->q1)/\(q1->q1)/\(q1->(0:Int)<=q2/\q2<cA)/\(q1->q1)/\(q1->q1)/\(q1->q1)/\(q1->q1)/\(q1->q1)/\(q1->q1)/\(q1->q1)/\(q1->q1)/\(q1->q1)/\A.cond (q1) (vI n)=A.cond (q1) (vI n)/\(q1->q1)/\A.cond (q1) (vI n)=A.cond (q1) (vI n)/\((bif bif decide (q2<cA) then cX else false then fu else false)=true->((0:Int)<=q0 fw/\q0 fw<cA)/\(0:Nat)+1<=1/\q6.isNone=false/\aB [V.c (wR (List.take (1:Nat) (List.drop (0:Nat) [q0 (q0 (IntKind.u8.wrap (jH s (q0 fw).toNat-97))+1)])))]=bF (gv q6).fst/\[Ob.mk 173 [Fd.c (W.str s),fI (q0 (q2+1)),fI q9,fI n]]=[cN s eu q9 n])/\((bif bif decide (q2<cA) then cX else false then fu else false)=false->q6.isNone=true/\cK (11:Int) q2=cK bM.fst (↑bM.snd:Int)))))) (by kernel_rfl)
 try simp only [sL]
 have ic:i.toNat<=(af s).length:=by rw [bq];have:=h.2;omega
 simp only [nS,zE,GQ]
 obtain ⟨hat,_⟩:=vG h
 refine ⟨h,fun g=>?_,fun g0=>⟨hat,fun g=>?_,fun g1=>⟨hat,?_⟩⟩⟩
 . skip
   have hr:zD 120 n (af s) d (aZ (af s) i.toNat+1)=cQ n (af s) d (aZ (af s) i.toNat+1):=rfl
   have SH:NP jg 120 n (af s) d (aZ (af s) i.toNat+1)=jg n (af s) d (aZ (af s) i.toNat+1):=rfl
   have eF:ia n (af s) (d+1) i.toNat=endP (af s) 41 (cQ n (af s) d (aZ (af s) i.toNat+1)):=by unfold ia;rw [gZ,if_pos g];rfl
   have eE:jw n (af s) (d+1) i.toNat=qm (af s) 41 (cQ n (af s) d (aZ (af s) i.toNat+1)) (jg n (af s) d (aZ (af s) i.toNat+1)):=by rw [jw,if_pos g]
   rw [hr,SH,eF,eE]
   have hlt:=(lI g).1
   rw [bq] at hlt
   have hc:At s (aZ (af s) i.toNat)/\(aZ (af s) i.toNat:Int)<s.size/\RG n/\50-((d+1:Nat):Int)=49-(d:Int):=⟨hat,by omega,hn,by omega⟩
   exact ⟨hc,fun g2=>⟨g2,rfl⟩,fun g2=>⟨⟨hc,g2⟩,g2,rfl,rfl⟩⟩
 . skip
   have hr:zD 142 n (af s) d (aZ (af s) i.toNat+1)=kX n (af s) d (aZ (af s) i.toNat+1):=rfl
   have SH:NP jg 142 n (af s) d (aZ (af s) i.toNat+1)=rK (cQ n (af s) d) (jg n (af s) d) (af s) (aZ (af s) i.toNat+1):=rfl
   have eF:ia n (af s) (d+1) i.toNat=endP (af s) 93 (kX n (af s) d (aZ (af s) i.toNat+1)):=by unfold ia;rw [gZ,if_neg (by rw [g0];simp),if_pos g];rfl
   have eE:jw n (af s) (d+1) i.toNat=qm (af s) 93 (kX n (af s) d (aZ (af s) i.toNat+1)) (rK (cQ n (af s) d) (jg n (af s) d) (af s) (aZ (af s) i.toNat+1)):=by rw [jw,if_neg (by rw [g0];simp),if_pos g]
   rw [hr,SH,eF,eE]
   have hlt:=(lI g).1
   rw [bq] at hlt
   have hc:At s (aZ (af s) i.toNat)/\(aZ (af s) i.toNat:Int)<s.size/\RG n/\50-((d+1:Nat):Int)=49-(d:Int):=⟨hat,by omega,hn,by omega⟩
   exact ⟨hc,fun g2=>⟨g2,rfl⟩,fun g2=>⟨⟨hc,g2⟩,g2,rfl,rfl⟩⟩
 have eF:ia n (af s) (d+1) i.toNat=nH n (af s) i.toNat:=by unfold ia;rw [gZ,if_neg (by rw [g0];simp),if_neg (by rw [g1];simp)]
 have eE:jw n (af s) (d+1) i.toNat=(11,aZ (af s) i.toNat):=by rw [jw,if_neg (by rw [g0];simp),if_neg (by rw [g1];simp)]
 have hl:=bq s
 have hsz:=h.1
 have hb:=vW s (aZ (af s) i.toNat)
 cases D1:cx (af s) 49 i.toNat with
 | true =>
   have eL:nH n (af s) i.toNat=some ([],bE (af s) 49 i.toNat):=by unfold nH;rw [if_pos D1]
   rw [eF,eL]
   exact ⟨fun _=>⟨rfl,rfl,rfl⟩,fun g=>by cases g⟩
 | false =>
   have ht:bE (af s) 49 i.toNat=aZ (af s) i.toNat:=by unfold bE;rw [D1];simp
   rw [ht,eF,eE]
   have eL:nH n (af s) i.toNat=(if aZ (af s) i.toNat<(af s).length/\97<=(af s).getD (aZ (af s) i.toNat) 0/\(af s).getD (aZ (af s) i.toNat) 0-97<n then some ([(af s).getD (aZ (af s) i.toNat) 0-96],aZ (af s) i.toNat+1) else none):=by unfold nH;rw [if_neg (by rw [D1];simp)]
   rw [eL]
   clear eL eF eE ht D1
   have hsk:=(jz (af s) _ i.toNat rfl ic).2
   generalize aZ (af s) i.toNat=p at *
   have w1:IntKind.i64.wrap ((p:Int)+1)=(p:Int)+1:=wrap64 (by omega) (by omega)
   have w2:IntKind.i64.wrap ((p:Int)+1-1)=(p:Int):=by rw [wrap64 (by omega) (by omega)];omega
   simp only [w1,w2,Int.toNat_natCast,kT]
   refine ⟨(fun g=>by cases g),fun _=>⟨fun g=>by omega,fun g=>by omega,fun g=>?_,fun g=>?_⟩⟩
   . have hA:IntKind.i64.wrap (IntKind.u8.wrap ((af s).getD p 0-97))=(af s).getD p 0-97:=by rw [Dm (by omega) (by omega),wrap64 (by omega) (by omega)]
     have hB:IntKind.i64.wrap ((af s).getD p 0-97+1)=(af s).getD p 0-96:=by rw [wrap64 (by omega) (by omega)];omega
     rw [hA] at g ⊢
     rw [hB,if_pos ⟨by omega,by omega,by omega⟩]
     exact ⟨⟨by omega,by omega⟩,rfl,rfl,rfl⟩
   . rw [if_neg]
     . first | exact ⟨rfl,rfl⟩ | exact ⟨rfl,trivial⟩
     . rintro ⟨c1,c2,c3⟩
       have hA:IntKind.i64.wrap (IntKind.u8.wrap ((af s).getD p 0-97))=(af s).getD p 0-97:=by rw [Dm (by omega) (by omega),wrap64 (by omega) (by omega)]
       rw [hA] at g
       have:=g ⟨by omega,c2⟩
       omega
theorem s7 {l:List Int} {c:Int} {i:Nat} (h:i<=l.length):i<=bE l c i:=by
 have:=(jz l _ i rfl h).1
 unfold bE
 split <;> omega
theorem NQ {l:List Int} {item:j7} (hF:mq l 16000 item) (h:zI l item):zI l (uG item l):=by
 intro i w j hi e
 unfold uG at e
 split at e
 . cases e
 . rename_i v k hv
   have h1:=h i v k hi hv
   obtain ⟨_,h2⟩:=hF i v k hi hv
   have a1:=s7 (c:=94) h2
   have a2:=gP (c:=94) h2
   have a3:=s7 (c:=45) a2
   have a4:=gP (c:=45) a2
   have a5:=(Aw l _ _ rfl a4).1
   split at e
   . cases e
   . split at e
     . split at e
       . split at e
         . cases e
         . cases e;omega
       . cases e
     . cases e;omega
theorem KT {l:List Int} {xX:j7} (hF:mq l 16000 xX) (h:zI l xX):∀ (m:Nat) (acc:List Int),zI l (qx xX l m acc)
 | 0,acc=>fun i w j _ e=>by cases e
 | m + 1, acc => fun i w j hi e => by
   rw [qx] at e
   obtain ⟨b1,b2⟩:=jz l _ i rfl hi
   split at e
   . cases e
   . rename_i v k hv
     have h1:=h _ v k b2 hv
     obtain ⟨_,h2⟩:=hF _ v k b2 hv
     have a1:=s7 (c:=42) h2
     split at e
     . cases e
     . split at e
       . have:=KT hF h m _ _ w j (gP h2) e
         omega
       . cases e
         omega
theorem Fg {l:List Int} {c:Int} {N:Nat} {i:Nat} {f:j7} (hF:mq l N f) (h:zI l f) (hi:i<=l.length) {w:List Int} {j:Nat} (e:endP l c (f i)=some (w,j)):i<=j:=by
 unfold endP at e
 split at e
 . cases e
 . rename_i v k hv
   have h1:=h i v k hi hv
   obtain ⟨_,h2⟩:=hF i v k hi hv
   have a1:=s7 (c:=c) h2
   split at e
   . cases e;omega
   . cases e
theorem aaS {l:List Int} {f:j7} (hF:mq l 4000 f) (h:zI l f):zI l (sS f l):=by
 intro i w j hi e
 unfold sS at e
 split at e
 . cases e
 . rename_i x k hx
   obtain ⟨_,h2⟩:=xj hF hi hx
   have h3:=Fg hF h hi hx
   split at e
   . cases e
   . rename_i y m hy
     have h4:=h _ _ _ h2 hy
     cases e
     omega
theorem NR {l:List Int} {g:Int}:zI l (nH g l):=by
 intro i w j hi e
 have b:=(jz l _ i rfl hi).1
 unfold nH at e
 split at e
 . cases e;exact s7 hi
 . split at e
   . cases e;omega
   . cases e
theorem KU {l:List Int} {g:Int}:∀ d:Nat,zI l (gZ g l d)
 | 0=>fun i w j hi e=>by
   rw [gZ] at e
   split at e
   . cases e
   . exact NR i w j hi e
 | d + 1 => fun i w j hi e => by
   have b:=(jz l _ i rfl hi).1
   have hF:=xh (mO (l:=l) (g:=g) d)
   have hw:=tX hF (l.length+1) []
   have hv:=KT hF (NQ (mO d) (KU (l:=l) (g:=g) d)) (l.length+1) []
   rw [gZ] at e
   split at e
   . rename_i hs
     have:=Fg hw hv (i:=aZ l i+1) (by have:=(lI hs).1;omega) e
     omega
   . split at e
     . rename_i hs
       have:=Fg (Cp hw) (aaS hw hv) (i:=aZ l i+1) (by have:=(lI hs).1;omega) e
       omega
     . exact NR i w j hi e
theorem zK {d:Nat} (h:gk 136 ia jw d):gk 120 cQ jg d :=
 Uv (Mv h) fun _ _=>NQ (mO d) (KU d)
theorem xD:∀ d:Nat,d<=50->gk 120 cQ jg d
 | 0,_=>zK Qk
 | d+1,h=>zK (Ql (by omega) (xD d (by omega)))
end Go.Proofs.YtmajgbnpplgaoaaGreatDoor
namespace Go.Proofs.YtmajgbnpplgaoaaGreatDoor
open Go.ax Go.Words
open Go.RowKit
set_option maxRecDepth 100000
noncomputable def Zp:bD:=bN Tryz.prog [] Tryz.f119 2 [] [] []
noncomputable def KV:Code:=match ol Zp.bQ with | some (_,_,r)=>r | none=>.skip
abbrev mw (x:W):Ob:=⟨43,[.c x]⟩
abbrev kJ (e i:Int):Ob:=⟨39,[.c (.int .i64 e),.c (.int .i64 i)]⟩
theorem aaT (e i:Int):∀ base η Z w vs,St base η Z (.ofList [mw .nil,kJ 0 0]) w->aT (cr η Z) (Df 2) vs->gT Tryz.prog Z->CallsDIn Fence.wide 0 Tryz.prog 119 vs.toArray (.panicking [{ v:=cK e i,recovered:=false }]) w fun ex md w'=>(∃ v,ex=.returned v)/\md=.panicking [{ v:=cK e i,recovered:=true }]/\∃ aE Z',fF 2 base η Z (.ofList [mw .nil,kJ 0 0]) w aE Z' (.ofList [mw .nil,kJ e i]) w':=by
 intro base η Z w vs R hvs hK
 refine CallsDIn.mono (sR (s:=Zp) (n:=200) (bn:=KV) (d1:=7) (d2:=4) aC rfl Tryz.func119 (by kernel_rfl) (by kernel_rfl) (by kernel_rfl) (by kernel_rfl) (by kernel_rfl) (args:=[.p (.c (.ptr 0 0)),.p (.c (.ptr 1 0))]) (by kernel_rfl) (m:=.panicking [{ v:=cK e i,recovered:=false }]) (m':=.panicking [{ v:=cK e i,recovered:=true }]) (x:=.val (cK e i)) (v:=cK e i) (fun η Z=>by first | rfl | trivial | exact ⟨rfl,rfl⟩) (by intro h;cases h) (fun c0 cs=>by first | exact ⟨rfl,rfl⟩ | done) (Qv:=fun _ o=>o=[mw .nil,kJ e i]) ?_ R hvs hK) ?_
 . skip
   apply of_eq (q:=let q1:=(A.p (V.agg (List.take (2:Nat) (List.drop ((0:Nat)+0) (Ob.mk 189 (fI e::fI i::List.append._f [] PUnit.unit [])).cells))));(false=true->[Ob.mk 43 [Fd.c W.nil],Ob.mk 39 [fI (0),fI (0)]]=[mw W.nil,kJ e i])/\(false=false->((!true)=true->False)/\((!true)=false->(R1.pure Cd.t q1).v=(R1.pure Cd.t q1).v/\(R1.pure Cd.t q1).v=(R1.pure Cd.t q1).v/\[Ob.mk 43 [Fd.c W.nil],Ob.mk 39 [fI e,fI i]]=[mw W.nil,kJ e i]))) (by kernel_rfl)
   try simp only [sL]
   exact ⟨fun h=>(by cases h),fun _ h=>(by cases h)⟩
 . rintro ex md w' ⟨h1,h2,aE,Z',r,bp,mv,ho⟩
   subst ho
   exact ⟨h1,h2,aE,Z',mv⟩
theorem aaU (e i:Int) (l:List Int):∀ base η Z w vs,St base η Z (.ofList [mw (.rd (.int .i64) l),kJ 0 0]) w->aT (cr η Z) (Df 2) vs->gT Tryz.prog Z->CallsDIn Fence.wide 0 Tryz.prog 119 vs.toArray (.panicking [{ v:=cK e i,recovered:=false }]) w fun ex md w'=>(∃ v,ex=.returned v)/\md=.panicking [{ v:=cK e i,recovered:=true }]/\∃ aE Z',fF 2 base η Z (.ofList [mw (.rd (.int .i64) l),kJ 0 0]) w aE Z' (.ofList [mw .nil,kJ e i]) w':=by
 intro base η Z w vs R hvs hK
 refine CallsDIn.mono (sR (s:=Zp) (n:=200) (bn:=KV) (d1:=7) (d2:=4) aC rfl Tryz.func119 (by kernel_rfl) (by kernel_rfl) (by kernel_rfl) (by kernel_rfl) (by kernel_rfl) (args:=[.p (.c (.ptr 0 0)),.p (.c (.ptr 1 0))]) (by kernel_rfl) (m:=.panicking [{ v:=cK e i,recovered:=false }]) (m':=.panicking [{ v:=cK e i,recovered:=true }]) (x:=.val (cK e i)) (v:=cK e i) (fun η Z=>by first | rfl | trivial | exact ⟨rfl,rfl⟩) (by intro h;cases h) (fun c0 cs=>by first | exact ⟨rfl,rfl⟩ | done) (Qv:=fun _ o=>o=[mw .nil,kJ e i]) ?_ R hvs hK) ?_
 . skip
   apply of_eq (q:=let q1:=(A.p (V.agg (List.take (2:Nat) (List.drop ((0:Nat)+0) (Ob.mk 189 (fI e::fI i::List.append._f [] PUnit.unit [])).cells))));(false=true->[Ob.mk 43 [Fd.c (wR l)],Ob.mk 39 [fI (0),fI (0)]]=[mw W.nil,kJ e i])/\(false=false->((!true)=true->False)/\((!true)=false->(R1.pure Cd.t q1).v=(R1.pure Cd.t q1).v/\(R1.pure Cd.t q1).v=(R1.pure Cd.t q1).v/\[Ob.mk 43 [Fd.c W.nil],Ob.mk 39 [fI e,fI i]]=[mw W.nil,kJ e i]))) (by kernel_rfl)
   try simp only [sL]
   exact ⟨fun h=>(by cases h),fun _ h=>(by cases h)⟩
 . rintro ex md w' ⟨h1,h2,aE,Z',r,bp,mv,ho⟩
   subst ho
   exact ⟨h1,h2,aE,Z',mv⟩
def Qm (u:Value) (ak:List Ob):Option (Cd×List Ob):=match u,ak with
 | .iface t (.agg ⟨[.int .i64 e,.int .i64 i]⟩),[⟨t0,[.c .nil]⟩,⟨t1,[.c (.int .i64 0),.c (.int .i64 0)]⟩]=>bif Nat.beq t 189&&(Nat.beq t0 43&&Nat.beq t1 39) then some (.t,[mw .nil,kJ e i]) else none
 | .iface t (.agg ⟨[.int .i64 e,.int .i64 i]⟩),[⟨t0,[.c (.rd (.int .i64) _)]⟩,⟨t1,[.c (.int .i64 0),.c (.int .i64 0)]⟩]=>bif Nat.beq t 189&&(Nat.beq t0 43&&Nat.beq t1 39) then some (.t,[mw .nil,kJ e i]) else none
 | _,_=>none
theorem Qn {k base:Nat} {η aE:Eta} {Z Z':aA} {S':ai} {w w':World} (mv:fF k base η Z (.ofList []) w aE Z' S' w'):Below w.heap.size w w':=by
 have hno:∀ b,¬ Go.ax.Own η (.ofList []) b:=by
  rintro b ⟨n,o,p,h,_⟩
  rw [ai.aU] at h
  simp at h
 exact ⟨mv.step.os,mv.step.tape,mv.step.output,mv.step.size,fun b hb=>mv.step.block b hb (hno b)⟩
theorem GX:Dg Tryz.prog 119 2 Qm:=by
 refine ⟨by kernel_rfl,fun base η Z w vs R0 hK hl hv=>?_,fun u ak c bp e hc hl=>?_⟩
 . match vs,hl with
   | [v1,v2],_ =>
     refine CallsDIn.mono (sR (s:={ Zp with ay:=0 }) (n:=100) (bn:=KV) (d1:=7) (d2:=4) aC rfl Tryz.func119 (by kernel_rfl) (by kernel_rfl) (by kernel_rfl) (by kernel_rfl) (by kernel_rfl) (args:=[.p (.c (.val v1)),.p (.c (.val v2))]) (by kernel_rfl) (m:=.returning) (m':=.returning) (x:=.dM) (v:=.nilIface) (fun η Z=>by first | rfl | trivial | exact ⟨rfl,rfl⟩) (by intro h;cases h) (fun c0 cs=>⟨rfl,rfl⟩) (Qv:=fun _ _=>True) ?_ R0 ⟨⟨(by intro h;cases h),rfl,hv v1 (by simp)⟩,⟨(by intro h;cases h),rfl,hv v2 (by simp)⟩,trivial⟩ hK) ?_
     . skip
       apply of_eq (q:=((!false)=true->True)/\((!false)=false->((!false)=true->False)/\((!false)=false->False))) (by kernel_rfl)
       try simp only [sL]
       trivial
     . rintro e md w' ⟨h1,h2,aE,Z',r,bp,mv,_⟩
       exact ⟨h1,h2,Qn mv⟩
 . unfold Qm at e
   split at e
   . obtain ⟨hb,e1⟩:=au.aH e
     clear e
     simp only [Bool.and_eq_true] at hb
     cases Nat.eq_of_beq_eq_true hb.1
     cases Nat.eq_of_beq_eq_true hb.2.1
     cases Nat.eq_of_beq_eq_true hb.2.2
     cases e1
     exact aaT _ _
   . obtain ⟨hb,e1⟩:=au.aH e
     clear e
     simp only [Bool.and_eq_true] at hb
     cases Nat.eq_of_beq_eq_true hb.1
     cases Nat.eq_of_beq_eq_true hb.2.1
     cases Nat.eq_of_beq_eq_true hb.2.2
     cases e1
     exact aaU _ _ _
   . cases e
noncomputable def gPaX:bS:=[(120,xA cQ 50),(121,vF)]
theorem NS:bt Tryz.prog gPaX:=ar (xD 50 (by omega)).con (ar su aC)
def diPa:List { x:FuncId×dK // cZ Tryz.prog x.1 x.2 }:=[⟨(122,qZ),oL⟩,⟨(120,xB cQ jg 50),(xD 50 (by omega)).die⟩]
noncomputable def sPaX:bD:={ cD Tryz.prog gPaX diPa Tryz.f98 0 [] [] [some dI,none] false (cK 0 0) with tail:=some { f:=119,k:=2,got:=Qm,ok:=GX,arg:=true } }
def jo (g:Int) (s:ByteArray):List Int×Int×Int :=
 if g<1∨16<g then ([],2,0) else if 20000<s.size then ([],4,20000) else match cQ g (af s) 50 0 with
 | none=>([],(jg g (af s) 50 0).1,(jg g (af s) 50 0).2)
 | some (w,j)=>if aZ (af s) j<s.size then ([],11,aZ (af s) j) else (w,0,0)
abbrev GY (r:List Int×Int×Int):A:=.aL [.c (.rd (.int .i64) r.1),.agg [.int .i64 r.2.1,.int .i64 r.2.2]]
theorem Qo (s:ByteArray) (g:Int) (hs:s.size<=900000):bw Tryz.prog 98 [.p (.c (.str s)),nI g] [] (GY (jo g s)) []:=by
 refine wM (s:=sPaX) NS rfl Tryz.func98 (by kernel_rfl) rfl (by kernel_rfl) 400 ?_ (fun u h=>by cases h.1)
 apply of_eq (q:=let q1:=decide (g<1);let q2:=V.c (wR (List.take (0:Nat) (List.drop (0:Nat) [])));(q1=false->q1=false)/\(q1=false->q1=false)/\((bif q1 then true else decide ((16:Int)<g))=true->(0:Nat)<=0/\aB [q2,V.agg [wI (2),wI (0)]]=GY (jo g s)/\([]:List Ob)=[])/\((bif q1 then true else decide ((16:Int)<g))=false->(decide ((20000:Int)<(s.size:Int))=true->(0:Nat)<=0/\aB [q2,V.agg [wI (4),wI (20000)]]=GY (jo g s)/\([]:List Ob)=[])/\(decide ((20000:Int)<(s.size:Int))=false->Dh sPaX (fun r o=>r=GY (jo g s)/\o=[]) [0,1,1,1] (((((au.T.leaf.node (some (nI (s.size:Int))) au.T.leaf).node (some (nI g)) au.T.leaf).node none (au.T.leaf.node (some (A.cond (q1=false) (vB (decide ((16:Int)<g))))) au.T.leaf)).node (some (nI g)) ((au.T.leaf.node (some (bB (q1))) au.T.leaf).node (some (aR 1 0)) au.T.leaf)).node (some (aP (W.str s))) ((((au.T.leaf.node (some (A.dec false)) au.T.leaf).node (some (bB (q1))) au.T.leaf).node (some (aR 0 0)) (au.T.leaf.node (some (A.dec false)) au.T.leaf)).node none ((au.T.leaf.node (some (A.cond (q1=false) (vI g))) au.T.leaf).node none (au.T.leaf.node (some (aP (W.str s))) au.T.leaf)))) (ai.ofList [Ob.mk 43 [Fd.c W.nil],Ob.mk 39 [fI (0),fI (0)]])))) (by kernel_rfl)
 try simp only [sL]
 refine ⟨fun h=>?_,fun h=>⟨fun h2=>?_,fun h2=>?_⟩⟩
 . unfold jo;rw [if_pos h];rfl
 . unfold jo;rw [if_neg (by omega),if_pos (by omega)];rfl
 refine Gm (T:={ f:=119,k:=2,got:=Qm,ok:=GX,arg:=true }) NS rfl rfl rfl rfl 400 ?_
 apply of_eq (q:=let q1:=(cQ g (af s) (50:Nat) (0:Nat));let q2:=(↑(aZ (af s) (gv q1).snd):Int);let q3:=V.c (wR (List.take (0:Nat) (List.drop (0:Nat) [])));(At s (0:Int)/\RG g/\(0:Int)=50-(↑(50:Nat):Int))/\(q1.isNone=true->(0:Nat)<=0/\aB [q3,V.agg [wI (jg g (af s) (50:Nat) (0:Nat)).fst,wI (↑(jg g (af s) (50:Nat) (0:Nat)).snd:Int)]]=GY (jo g s)/\([]:List Ob)=[])/\(q1.isNone=false->((At s (0:Int)/\RG g/\(0:Int)=50-(↑(50:Nat):Int))/\q1.isNone=false)/\At s (↑(gv q1).snd:Int)/\(decide (q2<(s.size:Int))=true->(0:Nat)<=0/\aB [q3,V.agg [wI (11),wI q2]]=GY (jo g s)/\([]:List Ob)=[])/\(decide (q2<(s.size:Int))=false->aB [V.c (wR (gv q1).fst),V.agg [wI (0),wI (0)]]=GY (jo g s)/\([]:List Ob)=[]))) (by kernel_rfl)
 try simp only [sL]
 have hl:=bq s
 have hA:At s 0:=⟨by omega,by omega,by omega⟩
 have n1:¬ (g<1∨16<g):=by omega
 have n2:¬ 20000<s.size:=by omega
 cases hv:cQ g (af s) 50 0 with
 | none =>
   have e:jo g s=([],(jg g (af s) 50 0).1,((jg g (af s) 50 0).2:Int)):=by unfold jo;rw [if_neg n1,if_neg n2,hv]
   rw [e]
   exact ⟨⟨hA,h,by omega⟩,fun _=>rfl,fun g=>by cases g⟩
 | some vk =>
 obtain ⟨v,k⟩:=vk
 obtain ⟨f1,f2⟩:=qY 50 0 v k (Nat.zero_le _) hv
 have e:jo g s=(if aZ (af s) k<s.size then ([],11,(aZ (af s) k:Int)) else (v,0,0)):=by unfold jo;rw [if_neg n1,if_neg n2,hv]
 rw [e]
 dsimp only [Option.getD_some,gv,Option.isNone_some]
 refine ⟨⟨hA,h,by omega⟩,(fun g=>by cases g),fun _=>⟨⟨⟨hA,h,by omega⟩,rfl⟩,kY (by omega) f2,fun h3=>?_,fun h3=>?_⟩⟩
 . rw [if_pos (by omega)];rfl
 . rw [if_neg (by omega)];rfl
def NT:bP:=jU .str (.int .i64) fun s g=>(.p ((show ByteArray from s).size<=900000),GY (jo (show Int from g) (show ByteArray from s)),[])
theorem Qp:aV Tryz.prog 98 NT:=fT (by kernel_rfl) fun s g h=>Qo s g h
end Go.Proofs.YtmajgbnpplgaoaaGreatDoor
namespace Go.Proofs.YtmajgbnpplgaoaaGreatDoor
open Go.ax Go.Words
set_option maxRecDepth 100000
end Go.Proofs.YtmajgbnpplgaoaaGreatDoor
namespace Go.Proofs.YtmajgbnpplgaoaaGreatDoor
open Go.ax Go.Words Go.cU
set_option maxRecDepth 100000
noncomputable def gTxX:bS:=[(35,DU),(98,NT)]
theorem AJ:bt Tryz.prog gTxX:=ar Cr (ar Qp aC)
def iN (g:Int) (s:ByteArray):List Int:=(jo g s).1
def cV (g:Int) (s:ByteArray) (n:Nat):Bool:=!(decide ((jo g s).2.1=0)&&!decide (n=100))
theorem D2 {g:Int} {s:ByteArray} {n:Nat} (h:¬ (jo g s).2.1=0∨n=100):cV g s n=true:=by
 unfold cV
 rcases h with h | h
 . rw [decide_eq_false h];rfl
 . rw [decide_eq_true h];simp
theorem rW {b:Bool} (h:(some b:Option Bool)≠some false):b=true:=by cases b <;> simp_all
theorem HY {g:Int} {s:ByteArray} {n:Nat} (h:(jo g s).2.1=0) (h2:n≠100):cV g s n=false:=by
 unfold cV
 rw [decide_eq_true h,decide_eq_false h2];rfl
theorem D3 (L:List ByteArray) (a:Int) (h:Hd) (s:ByteArray) (hs:s.size<=900000):(cV h.g s 0=false->bA Tryz.prog 79 2 [pX,.p (.c .nil),ck s] [aO L a (.ptr 1 0),bX h (.nil) .nil] (.p (.c (.sl 2 0 1 1))) [aO L a (.ptr 1 0),bX h (.nil) .nil,eD [iN h.g s]])/\(cV h.g s 0=true->dQ Tryz.prog 79 [pX,.p (.c .nil),ck s] [aO L a (.ptr 1 0),bX h (.nil) .nil] (aY 11 a)):=by
 refine dw (dies:=sZ) (aq:=[]) (cE:=[]) (fz:=[]) AJ Tryz.func79 (by kernel_rfl) 2 (by kernel_rfl) 100 ?_
 apply of_eq (q:=let q1:=decide ((jo h.g s).snd.fst=0);s.size<=900000/\((!q1)=false->(!q1)=false)/\((!q1)=false->(!q1)=false)/\((!q1)=false->(!q1)=false)/\((bif !q1 then true else decide ((0:Int)=100))=true->cV h.g s (0:Nat)=true/\aY (11:Int) a=aY (11:Int) a)/\((bif !q1 then true else decide ((0:Int)=100))=false->(0:Nat)+1<=1/\(1:Nat)*24<=140737488355328/\cV h.g s (0:Nat)=false/\aB [V.c (W.sl (2:Nat) (0:Nat) (1:Nat) (1:Nat))]=aS 2 0 1/\[Ob.mk 87 [Fd.c (W.rd D.str L),fI a,Fd.c (W.ptr (1:Nat) (0:Nat))],Ob.mk 60 [fI h.g,Fd.c W.nil,Fd.c W.nil,fI h.aJ,fI h.aQ,fI (0),fI h.aI,fI (0),fI (0),fI (0),Fd.c W.nil,Fd.c W.nil,Fd.c W.nil],Ob.mk 43 [Fd.a 0 (D.int .i64).sl (List.take (1:Nat) (List.drop (0:Nat) [(jo h.g s).fst]))]]=[aO L a (W.ptr 1 0),bX h W.nil W.nil,eD [iN h.g s]])) (by kernel_rfl)
 try simp only [sL,Int.reduceEq]
 exact ⟨hs,fun h1=>D2 (h1.imp_right fun h=>h.elim),fun h1=>⟨by omega,HY h1 (by omega),rfl,rfl⟩⟩
theorem D4 (L:List ByteArray) (a:Int) (h:Hd) (s:ByteArray) (l:List (List Int)) (hs:s.size<=900000) (hl:l.length<=100):(cV h.g s l.length=false->bA Tryz.prog 79 2 [pX,.p (.c (.sl 2 0 l.length 1)),ck s] [aO L a (.ptr 1 0),bX h (.sl 2 0 l.length 1) .nil,eD l] (.p (.c (.sl 2 0 (l.length+1) 1))) [aO L a (.ptr 1 0),bX h (.ct) .nil,eD (l++[iN h.g s])])/\(cV h.g s l.length=true->dQ Tryz.prog 79 [pX,.p (.c (.sl 2 0 l.length 1)),ck s] [aO L a (.ptr 1 0),bX h (.sl 2 0 l.length 1) .nil,eD l] (aY 11 a)):=by
 refine dw (dies:=sZ) (aq:=[]) (cE:=[]) (fz:=[]) AJ Tryz.func79 (by kernel_rfl) 2 (by kernel_rfl) 100 ?_
 apply of_eq (q:=let q1:=decide ((jo h.g s).snd.fst=0);s.size<=900000/\((!q1)=false->(!q1)=false)/\((!q1)=false->(!q1)=false)/\((!q1)=false->(!q1)=false)/\((bif !q1 then true else decide ((l.length:Int)=100))=true->cV h.g s l.length=true/\aY (11:Int) a=aY (11:Int) a)/\((bif !q1 then true else decide ((l.length:Int)=100))=false->(0:Nat)+1<=1/\((0:Nat)+l.length<=l.length/\(l.length+1)*24<=140737488355328)/\cV h.g s l.length=false/\aB [V.c (W.sl (2:Nat) (0:Nat) (l.length+1) (1:Nat))]=aS 2 0 (l.length+1)/\[Ob.mk 87 [Fd.c (W.rd D.str L),fI a,Fd.c (W.ptr (1:Nat) (0:Nat))],Ob.mk 60 [fI h.g,Fd.c W.ct,Fd.c W.nil,fI h.aJ,fI h.aQ,fI (0),fI h.aI,fI (0),fI (0),fI (0),Fd.c W.nil,Fd.c W.nil,Fd.c W.nil],Ob.mk 43 [Fd.a 0 (D.int .i64).sl (List.take l.length (List.drop (0:Nat) l)++List.take (1:Nat) (List.drop (0:Nat) [(jo h.g s).fst]))]]=[aO L a (W.ptr 1 0),bX h W.ct W.nil,eD (l++[iN h.g s])])) (by kernel_rfl)
 try simp only [sL]
 exact ⟨hs,fun h1=>D2 (h1.imp_right fun h=>by omega),fun h1=>⟨by omega,HY h1.1 (by omega),rfl,rfl⟩⟩
def KW:bP:={ cF:=[true,true,false],roots:=some [true,false,false],ay:=some 2,f:=fun args ak=>match args,ak with
 | [.p (.c (.ptr 0 0)),.p (.c .nil),y],[o1,o2]=>match iL o1,iT o2,fH .str y with
   | some (L,a),some (h,.nil,.nil),some s=>some (.p ((show ByteArray from s).size<=900000/\cV h.g s 0=false),.p (.c (.sl 2 0 1 1)),[aO L a (.ptr 1 0),bX h (.nil) .nil,eD [iN h.g s]])
   | _,_,_=>none
 | [.p (.c (.ptr 0 0)),.p (.c (.sl 2 0 n 1)),y],[o1,o2,o3]=>match iL o1,iT o2,uJ o3,fH .str y with
   | some (L,a),some (h,.sl 2 0 m 1,.nil),some l,some s=>some (.p ((n=l.length/\m=l.length/\(show ByteArray from s).size<=900000/\l.length<=100)/\cV h.g s l.length=false),.p (.c (.sl 2 0 (l.length+1) 1)),[aO L a (.ptr 1 0),bX h (.ct) .nil,eD (l++[iN h.g s])])
   | _,_,_,_=>none
 | _,_=>none }
def KX:dK:={ cF:=[true,true,false],roots:=some [true,false,false],f:=fun args ak=>match args,ak with
 | [.p (.c (.ptr 0 0)),.p (.c .nil),y],[o1,o2]=>match iL o1,iT o2,fH .str y with
   | some (_,a),some (h,.nil,.nil),some s=>some (.p ((show ByteArray from s).size<=900000),some (cV h.g s 0),aY 11 a)
   | _,_,_=>none
 | [.p (.c (.ptr 0 0)),.p (.c (.sl 2 0 n 1)),y],[o1,o2,o3]=>match iL o1,iT o2,uJ o3,fH .str y with
   | some (_,a),some (h,.sl 2 0 m 1,.nil),some l,some s=>some (.p (n=l.length/\m=l.length/\(show ByteArray from s).size<=900000/\l.length<=100),some (cV h.g s l.length),aY 11 a)
   | _,_,_,_=>none
 | _,_=>none }
theorem Uz:aV Tryz.prog 79 KW:=by
 refine ⟨by kernel_rfl,fun args ak c r bp e hc=>?_⟩
 simp only [KW] at e
 split at e
 . split at e
   . rename_i h1 h2 h3
     cases e
     rw [d9 h1,fj h2]
     intro base η Z w vs R0 hv hK
     match vs,hv with
     | [u,v,t],⟨a1,a2,a3,_⟩=>exact (D3 _ _ _ _ hc.1).1 hc.2 base η Z w _ R0 ⟨a1,a2,cg h3 a3,trivial⟩ hK
   . cases e
 . split at e
   . rename_i h1 h2 h3 h4
     cases e
     obtain ⟨⟨rfl,rfl,q1,q2⟩,q3⟩:=hc
     rw [d9 h1,fj h2,oK h3]
     intro base η Z w vs R0 hv hK
     match vs,hv with
     | [u,v,t],⟨a1,a2,a3,_⟩=>exact (D4 _ _ _ _ _ q1 q2).1 q3 base η Z w _ R0 ⟨a1,a2,cg h4 a3,trivial⟩ hK
   . cases e
 . cases e
theorem UA:cZ Tryz.prog 79 KX:=by
 refine ⟨by kernel_rfl,fun args ak c b u e hc hb=>?_⟩
 simp only [KX] at e
 split at e
 . split at e
   . rename_i h1 h2 h3
     cases e
     rw [d9 h1,fj h2]
     intro base η Z w vs R0 hv hK
     match vs,hv with
     | [u,v,t],⟨a1,a2,a3,_⟩=>exact (D3 _ _ _ _ hc).2 (rW hb) base η Z w _ R0 ⟨a1,a2,cg h3 a3,trivial⟩ hK
   . cases e
 . split at e
   . rename_i h1 h2 h3 h4
     cases e
     obtain ⟨rfl,rfl,q1,q2⟩:=hc
     rw [d9 h1,fj h2,oK h3]
     intro base η Z w vs R0 hv hK
     match vs,hv with
     | [u,v,t],⟨a1,a2,a3,_⟩=>exact (D4 _ _ _ _ _ q1 q2).2 (rW hb) base η Z w _ R0 ⟨a1,a2,cg h4 a3,trivial⟩ hK
   . cases e
 . cases e
noncomputable def gRelXR:bS:=[(79,KW)]
theorem GZ:bt Tryz.prog gRelXR:=ar Uz aC
def UB:List { x:FuncId×dK // cZ Tryz.prog x.1 x.2 }:=[⟨(79,KX),UA⟩]
theorem D5 (L:List ByteArray) (a:Int) (h:Hd) (s:ByteArray) (hs:s.size<=900000):(cV h.g s 0=false->bA Tryz.prog 60 2 [pX,ck s] [aO L a (.ptr 1 0),bX h (.nil) .nil] (.aL []) [aO L a (.ptr 1 0),bX h (.sl 2 0 1 1) .nil,eD [iN h.g s]])/\(cV h.g s 0=true->dQ Tryz.prog 60 [pX,ck s] [aO L a (.ptr 1 0),bX h (.nil) .nil] (aY 11 a)):=by
 refine dw (dies:=UB) (aq:=[]) (cE:=[]) (fz:=[]) GZ Tryz.func60 (by kernel_rfl) 2 (by kernel_rfl) 100 ?_
 apply of_eq (q:=let q1:=(R1.pure (Cd.t.and Cd.t) (aR 1 0)).v=(R1.pure (Cd.t.and Cd.t) (aR 1 0)).v;s.size<=900000/\cV h.g s (0:Nat)=true/\(cV h.g s (0:Nat)=true/\aY (11:Int) a=aY (11:Int) a)/\q1/\q1/\True∨(s.size<=900000/\cV h.g s (0:Nat)=false)/\q1/\q1/\cV h.g s (0:Nat)=false/\aB []=A.aL []/\[Ob.mk 87 [Fd.c (W.rd D.str L),fI a,Fd.c (W.ptr (1:Nat) (0:Nat))],Ob.mk 60 [fI h.g,fS 2 0 1,Fd.c W.nil,fI h.aJ,fI h.aQ,fI (0),fI h.aI,fI (0),fI (0),fI (0),Fd.c W.nil,Fd.c W.nil,Fd.c W.nil],Ob.mk 43 [Fd.a 0 (D.int .i64).sl [iN h.g s]]]=[aO L a (W.ptr 1 0),bX h (W.sl 2 0 1 1) W.nil,eD [iN h.g s]]) (by kernel_rfl)
 try simp only [sL]
 cases hf:cV h.g s 0 with
 | false=>exact .inr ⟨⟨hs,rfl⟩,rfl,rfl⟩
 | true=>exact .inl ⟨hs,rfl,rfl⟩
theorem D6 (L:List ByteArray) (a:Int) (h:Hd) (s:ByteArray) (l:List (List Int)) (hs:s.size<=900000) (hl:l.length<=100):(cV h.g s l.length=false->bA Tryz.prog 60 2 [pX,ck s] [aO L a (.ptr 1 0),bX h (.sl 2 0 l.length 1) .nil,eD l] (.aL []) [aO L a (.ptr 1 0),bX h (.sl 2 0 (l.length+1) 1) .nil,eD (l++[iN h.g s])])/\(cV h.g s l.length=true->dQ Tryz.prog 60 [pX,ck s] [aO L a (.ptr 1 0),bX h (.sl 2 0 l.length 1) .nil,eD l] (aY 11 a)):=by
 refine dw (dies:=UB) (aq:=[]) (cE:=[]) (fz:=[]) GZ Tryz.func60 (by kernel_rfl) 2 (by kernel_rfl) 100 ?_
 apply of_eq (q:=let q1:=(R1.pure (Cd.t.and Cd.t) (aR 1 0)).v=(R1.pure (Cd.t.and Cd.t) (aR 1 0)).v;let q2:=l.length=l.length/\s.size<=900000/\l.length<=100;(l.length=l.length/\q2)/\cV h.g s l.length=true/\(cV h.g s l.length=true/\aY (11:Int) a=aY (11:Int) a)/\q1/\q1/\True∨((l.length=l.length/\q2)/\cV h.g s l.length=false)/\q1/\q1/\cV h.g s l.length=false/\aB []=A.aL []/\[Ob.mk 87 [Fd.c (W.rd D.str L),fI a,Fd.c (W.ptr (1:Nat) (0:Nat))],Ob.mk 60 [fI h.g,fS 2 0 (l.length+1),Fd.c W.nil,fI h.aJ,fI h.aQ,fI (0),fI h.aI,fI (0),fI (0),fI (0),Fd.c W.nil,Fd.c W.nil,Fd.c W.nil],Ob.mk 43 [Fd.a 0 (D.int .i64).sl (l++[iN h.g s])]]=[aO L a (W.ptr 1 0),bX h (W.sl 2 0 (l.length+1) 1) W.nil,eD (l++[iN h.g s])]) (by kernel_rfl)
 try simp only [sL]
 cases hf:cV h.g s l.length with
 | false=>exact .inr ⟨⟨⟨hs,hl⟩,rfl⟩,rfl,rfl⟩
 | true=>exact .inl ⟨⟨hs,hl⟩,rfl,rfl⟩
theorem D7 (L:List ByteArray) (a:Int) (h:Hd) (R:List (List Int)) (s:ByteArray) (hs:s.size<=900000):(cV h.g s 0=false->bA Tryz.prog 79 2 [pX,.p (.c .nil),ck s] [aO L a (.ptr 1 0),bX h (.rd (.sl (.int .i64)) R) (.nil)] (.p (.c (.sl 2 0 1 1))) [aO L a (.ptr 1 0),bX h (.rd (.sl (.int .i64)) R) (.nil),eD [iN h.g s]])/\(cV h.g s 0=true->dQ Tryz.prog 79 [pX,.p (.c .nil),ck s] [aO L a (.ptr 1 0),bX h (.rd (.sl (.int .i64)) R) (.nil)] (aY 11 a)):=by
 refine dw (dies:=sZ) (aq:=[]) (cE:=[]) (fz:=[]) AJ Tryz.func79 (by kernel_rfl) 2 (by kernel_rfl) 100 ?_
 apply of_eq (q:=let q1:=decide ((jo h.g s).snd.fst=0);s.size<=900000/\((!q1)=false->(!q1)=false)/\((!q1)=false->(!q1)=false)/\((!q1)=false->(!q1)=false)/\((bif !q1 then true else decide ((0:Int)=100))=true->cV h.g s (0:Nat)=true/\aY (11:Int) a=aY (11:Int) a)/\((bif !q1 then true else decide ((0:Int)=100))=false->(0:Nat)+1<=1/\(1:Nat)*24<=140737488355328/\cV h.g s (0:Nat)=false/\aB [V.c (W.sl (2:Nat) (0:Nat) (1:Nat) (1:Nat))]=aS 2 0 1/\[Ob.mk 87 [Fd.c (W.rd D.str L),fI a,Fd.c (W.ptr (1:Nat) (0:Nat))],Ob.mk 60 [fI h.g,fL R,Fd.c W.nil,fI h.aJ,fI h.aQ,fI (0),fI h.aI,fI (0),fI (0),fI (0),Fd.c W.nil,Fd.c W.nil,Fd.c W.nil],Ob.mk 43 [Fd.a 0 (D.int .i64).sl (List.take (1:Nat) (List.drop (0:Nat) [(jo h.g s).fst]))]]=[aO L a (W.ptr 1 0),bX h (wL R) W.nil,eD [iN h.g s]])) (by kernel_rfl)
 try simp only [sL,Int.reduceEq]
 exact ⟨hs,fun h1=>D2 (h1.imp_right fun h=>h.elim),fun h1=>⟨by omega,HY h1 (by omega),rfl,rfl⟩⟩
theorem D8 (L:List ByteArray) (a:Int) (h:Hd) (R:List (List Int)) (s:ByteArray) (l:List (List Int)) (hs:s.size<=900000) (hl:l.length<=100):(cV h.g s l.length=false->bA Tryz.prog 79 2 [pX,.p (.c (.sl 2 0 l.length 1)),ck s] [aO L a (.ptr 1 0),bX h (.rd (.sl (.int .i64)) R) (.sl 2 0 l.length 1),eD l] (.p (.c (.sl 2 0 (l.length+1) 1))) [aO L a (.ptr 1 0),bX h (.rd (.sl (.int .i64)) R) (.ct),eD (l++[iN h.g s])])/\(cV h.g s l.length=true->dQ Tryz.prog 79 [pX,.p (.c (.sl 2 0 l.length 1)),ck s] [aO L a (.ptr 1 0),bX h (.rd (.sl (.int .i64)) R) (.sl 2 0 l.length 1),eD l] (aY 11 a)):=by
 refine dw (dies:=sZ) (aq:=[]) (cE:=[]) (fz:=[]) AJ Tryz.func79 (by kernel_rfl) 2 (by kernel_rfl) 100 ?_
 apply of_eq (q:=let q1:=decide ((jo h.g s).snd.fst=0);s.size<=900000/\((!q1)=false->(!q1)=false)/\((!q1)=false->(!q1)=false)/\((!q1)=false->(!q1)=false)/\((bif !q1 then true else decide ((l.length:Int)=100))=true->cV h.g s l.length=true/\aY (11:Int) a=aY (11:Int) a)/\((bif !q1 then true else decide ((l.length:Int)=100))=false->(0:Nat)+1<=1/\((0:Nat)+l.length<=l.length/\(l.length+1)*24<=140737488355328)/\cV h.g s l.length=false/\aB [V.c (W.sl (2:Nat) (0:Nat) (l.length+1) (1:Nat))]=aS 2 0 (l.length+1)/\[Ob.mk 87 [Fd.c (W.rd D.str L),fI a,Fd.c (W.ptr (1:Nat) (0:Nat))],Ob.mk 60 [fI h.g,fL R,Fd.c W.ct,fI h.aJ,fI h.aQ,fI (0),fI h.aI,fI (0),fI (0),fI (0),Fd.c W.nil,Fd.c W.nil,Fd.c W.nil],Ob.mk 43 [Fd.a 0 (D.int .i64).sl (List.take l.length (List.drop (0:Nat) l)++List.take (1:Nat) (List.drop (0:Nat) [(jo h.g s).fst]))]]=[aO L a (W.ptr 1 0),bX h (wL R) W.ct,eD (l++[iN h.g s])])) (by kernel_rfl)
 try simp only [sL]
 exact ⟨hs,fun h1=>D2 (h1.imp_right fun h=>by omega),fun h1=>⟨by omega,HY h1.1 (by omega),rfl,rfl⟩⟩
def KY:bP:={ cF:=[true,true,false],roots:=some [true,false,false],ay:=some 2,f:=fun args ak=>match args,ak with
 | [.p (.c (.ptr 0 0)),.p (.c .nil),y],[o1,o2]=>match iL o1,iT o2,fH .str y with
   | some (L,a),some (h,.rd (.sl (.int .i64)) R,.nil),some s=>some (.p ((show ByteArray from s).size<=900000/\cV h.g s 0=false),.p (.c (.sl 2 0 1 1)),[aO L a (.ptr 1 0),bX h (.rd (.sl (.int .i64)) R) (.nil),eD [iN h.g s]])
   | _,_,_=>none
 | [.p (.c (.ptr 0 0)),.p (.c (.sl 2 0 n 1)),y],[o1,o2,o3]=>match iL o1,iT o2,uJ o3,fH .str y with
   | some (L,a),some (h,.rd (.sl (.int .i64)) R,.sl 2 0 m 1),some l,some s=>some (.p ((n=l.length/\m=l.length/\(show ByteArray from s).size<=900000/\l.length<=100)/\cV h.g s l.length=false),.p (.c (.sl 2 0 (l.length+1) 1)),[aO L a (.ptr 1 0),bX h (.rd (.sl (.int .i64)) R) (.ct),eD (l++[iN h.g s])])
   | _,_,_,_=>none
 | _,_=>none }
def KZ:dK:={ cF:=[true,true,false],roots:=some [true,false,false],f:=fun args ak=>match args,ak with
 | [.p (.c (.ptr 0 0)),.p (.c .nil),y],[o1,o2]=>match iL o1,iT o2,fH .str y with
   | some (_,a),some (h,.rd (.sl (.int .i64)) R,.nil),some s=>some (.p ((show ByteArray from s).size<=900000),some (cV h.g s 0),aY 11 a)
   | _,_,_=>none
 | [.p (.c (.ptr 0 0)),.p (.c (.sl 2 0 n 1)),y],[o1,o2,o3]=>match iL o1,iT o2,uJ o3,fH .str y with
   | some (_,a),some (h,.rd (.sl (.int .i64)) R,.sl 2 0 m 1),some l,some s=>some (.p (n=l.length/\m=l.length/\(show ByteArray from s).size<=900000/\l.length<=100),some (cV h.g s l.length),aY 11 a)
   | _,_,_,_=>none
 | _,_=>none }
theorem UC:aV Tryz.prog 79 KY:=by
 refine ⟨by kernel_rfl,fun args ak c r bp e hc=>?_⟩
 simp only [KY] at e
 split at e
 . split at e
   . rename_i h1 h2 h3
     cases e
     rw [d9 h1,fj h2]
     intro base η Z w vs R0 hv hK
     match vs,hv with
     | [u,v,t],⟨a1,a2,a3,_⟩=>exact (D7 _ _ _ _ _ hc.1).1 hc.2 base η Z w _ R0 ⟨a1,a2,cg h3 a3,trivial⟩ hK
   . cases e
 . split at e
   . rename_i h1 h2 h3 h4
     cases e
     obtain ⟨⟨rfl,rfl,q1,q2⟩,q3⟩:=hc
     rw [d9 h1,fj h2,oK h3]
     intro base η Z w vs R0 hv hK
     match vs,hv with
     | [u,v,t],⟨a1,a2,a3,_⟩=>exact (D8 _ _ _ _ _ _ q1 q2).1 q3 base η Z w _ R0 ⟨a1,a2,cg h4 a3,trivial⟩ hK
   . cases e
 . cases e
theorem UD:cZ Tryz.prog 79 KZ:=by
 refine ⟨by kernel_rfl,fun args ak c b u e hc hb=>?_⟩
 simp only [KZ] at e
 split at e
 . split at e
   . rename_i h1 h2 h3
     cases e
     rw [d9 h1,fj h2]
     intro base η Z w vs R0 hv hK
     match vs,hv with
     | [u,v,t],⟨a1,a2,a3,_⟩=>exact (D7 _ _ _ _ _ hc).2 (rW hb) base η Z w _ R0 ⟨a1,a2,cg h3 a3,trivial⟩ hK
   . cases e
 . split at e
   . rename_i h1 h2 h3 h4
     cases e
     obtain ⟨rfl,rfl,q1,q2⟩:=hc
     rw [d9 h1,fj h2,oK h3]
     intro base η Z w vs R0 hv hK
     match vs,hv with
     | [u,v,t],⟨a1,a2,a3,_⟩=>exact (D8 _ _ _ _ _ _ q1 q2).2 (rW hb) base η Z w _ R0 ⟨a1,a2,cg h4 a3,trivial⟩ hK
   . cases e
 . cases e
noncomputable def gRelXS:bS:=[(79,KY)]
theorem G4:bt Tryz.prog gRelXS:=ar UC aC
def UE:List { x:FuncId×dK // cZ Tryz.prog x.1 x.2 }:=[⟨(79,KZ),UD⟩]
theorem D9 (L:List ByteArray) (a:Int) (h:Hd) (R:List (List Int)) (s:ByteArray) (hs:s.size<=900000):(cV h.g s 0=false->bA Tryz.prog 61 2 [pX,ck s] [aO L a (.ptr 1 0),bX h (.rd (.sl (.int .i64)) R) (.nil)] (.aL []) [aO L a (.ptr 1 0),bX h (.rd (.sl (.int .i64)) R) (.sl 2 0 1 1),eD [iN h.g s]])/\(cV h.g s 0=true->dQ Tryz.prog 61 [pX,ck s] [aO L a (.ptr 1 0),bX h (.rd (.sl (.int .i64)) R) (.nil)] (aY 11 a)):=by
 refine dw (dies:=UE) (aq:=[]) (cE:=[]) (fz:=[]) G4 Tryz.func61 (by kernel_rfl) 2 (by kernel_rfl) 100 ?_
 apply of_eq (q:=let q1:=(R1.pure (Cd.t.and Cd.t) (aR 1 0)).v=(R1.pure (Cd.t.and Cd.t) (aR 1 0)).v;s.size<=900000/\cV h.g s (0:Nat)=true/\(cV h.g s (0:Nat)=true/\aY (11:Int) a=aY (11:Int) a)/\q1/\q1/\True∨(s.size<=900000/\cV h.g s (0:Nat)=false)/\q1/\q1/\cV h.g s (0:Nat)=false/\aB []=A.aL []/\[Ob.mk 87 [Fd.c (W.rd D.str L),fI a,Fd.c (W.ptr (1:Nat) (0:Nat))],Ob.mk 60 [fI h.g,fL R,fS 2 0 1,fI h.aJ,fI h.aQ,fI (0),fI h.aI,fI (0),fI (0),fI (0),Fd.c W.nil,Fd.c W.nil,Fd.c W.nil],Ob.mk 43 [Fd.a 0 (D.int .i64).sl [iN h.g s]]]=[aO L a (W.ptr 1 0),bX h (wL R) (W.sl 2 0 1 1),eD [iN h.g s]]) (by kernel_rfl)
 try simp only [sL]
 cases hf:cV h.g s 0 with
 | false=>exact .inr ⟨⟨hs,rfl⟩,rfl,rfl⟩
 | true=>exact .inl ⟨hs,rfl,rfl⟩
theorem Ea (L:List ByteArray) (a:Int) (h:Hd) (R:List (List Int)) (s:ByteArray) (l:List (List Int)) (hs:s.size<=900000) (hl:l.length<=100):(cV h.g s l.length=false->bA Tryz.prog 61 2 [pX,ck s] [aO L a (.ptr 1 0),bX h (.rd (.sl (.int .i64)) R) (.sl 2 0 l.length 1),eD l] (.aL []) [aO L a (.ptr 1 0),bX h (.rd (.sl (.int .i64)) R) (.sl 2 0 (l.length+1) 1),eD (l++[iN h.g s])])/\(cV h.g s l.length=true->dQ Tryz.prog 61 [pX,ck s] [aO L a (.ptr 1 0),bX h (.rd (.sl (.int .i64)) R) (.sl 2 0 l.length 1),eD l] (aY 11 a)):=by
 refine dw (dies:=UE) (aq:=[]) (cE:=[]) (fz:=[]) G4 Tryz.func61 (by kernel_rfl) 2 (by kernel_rfl) 100 ?_
 apply of_eq (q:=let q1:=(R1.pure (Cd.t.and Cd.t) (aR 1 0)).v=(R1.pure (Cd.t.and Cd.t) (aR 1 0)).v;let q2:=l.length=l.length/\s.size<=900000/\l.length<=100;(l.length=l.length/\q2)/\cV h.g s l.length=true/\(cV h.g s l.length=true/\aY (11:Int) a=aY (11:Int) a)/\q1/\q1/\True∨((l.length=l.length/\q2)/\cV h.g s l.length=false)/\q1/\q1/\cV h.g s l.length=false/\aB []=A.aL []/\[Ob.mk 87 [Fd.c (W.rd D.str L),fI a,Fd.c (W.ptr (1:Nat) (0:Nat))],Ob.mk 60 [fI h.g,fL R,fS 2 0 (l.length+1),fI h.aJ,fI h.aQ,fI (0),fI h.aI,fI (0),fI (0),fI (0),Fd.c W.nil,Fd.c W.nil,Fd.c W.nil],Ob.mk 43 [Fd.a 0 (D.int .i64).sl (l++[iN h.g s])]]=[aO L a (W.ptr 1 0),bX h (wL R) (W.sl 2 0 (l.length+1) 1),eD (l++[iN h.g s])]) (by kernel_rfl)
 try simp only [sL]
 cases hf:cV h.g s l.length with
 | false=>exact .inr ⟨⟨⟨hs,hl⟩,rfl⟩,rfl,rfl⟩
 | true=>exact .inl ⟨⟨hs,hl⟩,rfl,rfl⟩
def rL (g:Int) (tag:ByteArray):Nat->List ByteArray->Option (List (List Int))
 | _,[]=>some []
 | n,l::ls=>if pfx (tag++pV) l=true then (if cV g (mP (tag++pV) l) n=true then none else (rL g tag (n+1) ls).map (iN g (mP (tag++pV) l)::·)) else some []
def Qq (g:Int) (tag:ByteArray):Nat->List ByteArray->Nat
 | _,[]=>0
 | n,l::ls=>if pfx (tag++pV) l=true then (if cV g (mP (tag++pV) l) n=true then 0 else Qq g tag (n+1) ls+1) else 0
def jZ (b:Bool) (e n:Nat) (W:List (List Int)) (g:Int) (tag:ByteArray) (i:Nat) (l:List (List Int)) (ls:List ByteArray):Prop:=match rL g tag l.length ls with
 | none=>b=true/\e=i+Qq g tag l.length ls
 | some ws=>b=false/\W=l++ws/\n=i+ws.length
theorem xE {b:Bool} {e n:Nat} {W:List (List Int)} {g:Int} {tag:ByteArray} {L:List ByteArray} {i:Nat} {l:List (List Int)} (hi:i<=L.length) (h:gS L i tag=true) (H:jZ b e n W g tag i l (L.drop i)):i<L.length/\(cV g (cT L i tag) l.length=true->b=true/\e=i)/\(cV g (cT L i tag) l.length=false->jZ b e n W g tag (i+1) (l++[iN g (cT L i tag)]) (L.drop (i+1))):=by
 obtain ⟨h0,h1⟩:=zH (L:=L) (i:=i) (tag:=tag) hi
 rcases Nat.lt_or_ge i L.length with hl | hl
 . obtain ⟨e1,e2,e3⟩:=h1 hl
   have e4:pfx (tag++pV) (L.getD i ⟨#[]⟩)=true:=by rw [<-e1];exact h
   refine ⟨hl,fun hf=>?_,fun hf=>?_⟩
   . rw [e2] at hf
     unfold jZ at H
     rw [e3,rL,if_pos e4,if_pos hf] at H
     rw [Qq,if_pos e4,if_pos hf] at H
     exact H
   . rw [e2] at hf ⊢
     unfold jZ at H ⊢
     have hf':¬ cV g (mP (tag++pV) (L.getD i ⟨#[]⟩)) l.length=true:=by rw [hf];decide
     rw [e3,rL,if_pos e4,if_neg hf'] at H
     rw [Qq,if_pos e4,if_neg hf'] at H
     rw [List.length_append,List.length_singleton]
     cases hw:rL g tag (l.length+1) (L.drop (i+1)) with
     | none =>
       rw [hw] at H
       exact ⟨H.1,by have:=H.2;omega⟩
     | some ws =>
       rw [hw] at H
       refine ⟨H.1,by rw [H.2.1];simp,?_⟩
       have:=H.2.2
       rw [List.length_cons] at this
       omega
 . rw [(h0 (by omega)).1] at h;cases h
theorem xG {b:Bool} {e n:Nat} {W:List (List Int)} {g:Int} {tag:ByteArray} {L:List ByteArray} {i:Nat} {l:List (List Int)} (hi:i<=L.length) (h:gS L i tag=false) (H:jZ b e n W g tag i l (L.drop i)):b=false/\W=l/\n=i:=by
 obtain ⟨h0,h1⟩:=zH (L:=L) (i:=i) (tag:=tag) hi
 unfold jZ at H
 have hw:rL g tag l.length (L.drop i)=some []:=by
  rcases Nat.lt_or_ge i L.length with hl | hl
  . obtain ⟨e1,e2,e3⟩:=h1 hl
    rw [e3,rL,if_neg (by rw [<-e1,h];decide)]
  . rw [(h0 (by omega)).2]
    rfl
 rw [hw] at H
 simpa using H
theorem nD {L:List ByteArray} {i:Nat} {tag:ByteArray} (hi:i<L.length) (hL:mQ L):(cT L i tag).size<=900000:=by
 obtain ⟨_,h1⟩:=zH (L:=L) (i:=i) (tag:=tag) (by omega)
 rw [(h1 hi).2.1]
 exact Nat.le_trans (Us _ _) (hL _ (s5 hi))
theorem NU {g:Int} {s:ByteArray}:cV g s 100=true:=D2 (.inr rfl)
def K2:bP:={ cF:=[true,false],ay:=some 2,f:=fun args ak=>match args,ak with
 | [.p (.c (.ptr 0 0)),y],[o1,o2]=>match iL o1,iT o2,fH .str y with
   | some (L,a),some (h,.nil,.nil),some s=>some (.p ((show ByteArray from s).size<=900000/\cV h.g s 0=false),.aL [],[aO L a (.ptr 1 0),bX h (.sl 2 0 1 1) .nil,eD [iN h.g s]])
   | _,_,_=>none
 | [.p (.c (.ptr 0 0)),y],[o1,o2,o3]=>match iL o1,iT o2,uJ o3,fH .str y with
   | some (L,a),some (h,.sl 2 0 m 1,.nil),some l,some s=>some (.p ((m=l.length/\(show ByteArray from s).size<=900000/\l.length<=100)/\cV h.g s l.length=false),.aL [],[aO L a (.ptr 1 0),bX h (.sl 2 0 (l.length+1) 1) .nil,eD (l++[iN h.g s])])
   | _,_,_,_=>none
 | _,_=>none }
def K3:dK:={ cF:=[true,false],f:=fun args ak=>match args,ak with
 | [.p (.c (.ptr 0 0)),y],[o1,o2]=>match iL o1,iT o2,fH .str y with
   | some (_,a),some (h,.nil,.nil),some s=>some (.p ((show ByteArray from s).size<=900000),some (cV h.g s 0),aY 11 a)
   | _,_,_=>none
 | [.p (.c (.ptr 0 0)),y],[o1,o2,o3]=>match iL o1,iT o2,uJ o3,fH .str y with
   | some (_,a),some (h,.sl 2 0 m 1,.nil),some l,some s=>some (.p (m=l.length/\(show ByteArray from s).size<=900000/\l.length<=100),some (cV h.g s l.length),aY 11 a)
   | _,_,_,_=>none
 | _,_=>none }
theorem UF:aV Tryz.prog 60 K2:=by
 refine ⟨by kernel_rfl,fun args ak c r bp e hc=>?_⟩
 simp only [K2] at e
 split at e
 . split at e
   . rename_i h1 h2 h3
     cases e
     rw [d9 h1,fj h2]
     intro base η Z w vs R0 hv hK
     match vs,hv with
     | [u,t],⟨a1,a3,_⟩=>exact (D5 _ _ _ _ hc.1).1 hc.2 base η Z w _ R0 ⟨a1,cg h3 a3,trivial⟩ hK
   . cases e
 . split at e
   . rename_i h1 h2 h3 h4
     cases e
     obtain ⟨⟨rfl,q1,q2⟩,q3⟩:=hc
     rw [d9 h1,fj h2,oK h3]
     intro base η Z w vs R0 hv hK
     match vs,hv with
     | [u,t],⟨a1,a3,_⟩=>exact (D6 _ _ _ _ _ q1 q2).1 q3 base η Z w _ R0 ⟨a1,cg h4 a3,trivial⟩ hK
   . cases e
 . cases e
theorem UG:cZ Tryz.prog 60 K3:=by
 refine ⟨by kernel_rfl,fun args ak c b u e hc hb=>?_⟩
 simp only [K3] at e
 split at e
 . split at e
   . rename_i h1 h2 h3
     cases e
     rw [d9 h1,fj h2]
     intro base η Z w vs R0 hv hK
     match vs,hv with
     | [u,t],⟨a1,a3,_⟩=>exact (D5 _ _ _ _ hc).2 (rW hb) base η Z w _ R0 ⟨a1,cg h3 a3,trivial⟩ hK
   . cases e
 . split at e
   . rename_i h1 h2 h3 h4
     cases e
     obtain ⟨rfl,q1,q2⟩:=hc
     rw [d9 h1,fj h2,oK h3]
     intro base η Z w vs R0 hv hK
     match vs,hv with
     | [u,t],⟨a1,a3,_⟩=>exact (D6 _ _ _ _ _ q1 q2).2 (rW hb) base η Z w _ R0 ⟨a1,cg h4 a3,trivial⟩ hK
   . cases e
 . cases e
noncomputable def K4:bS:=[(63,dD.con),(60,K2)]
theorem zL:bt Tryz.prog K4:=ar xw.1 (ar UF aC)
def K5:List { x:FuncId×dK // cZ Tryz.prog x.1 x.2 }:=[⟨(60,K3),UG⟩]
noncomputable def HZ (b:Bool) (u:Value):bD:=cD Tryz.prog K4 K5 Tryz.f37 2 Fe [] [] b u
theorem K6 (L:List ByteArray) (hL:L.length<=900000/\mQ L) (h:Hd) (b:Bool) (e n:Nat) (W:List (List Int)):∀ (k i:Nat) (x:List Int) (l:List (List Int)),k=L.length-i->i<=L.length->(x::l).length<=100->jZ b e n W h.g ef i (x::l) (L.drop i)->
 av (HZ b (aY 11 e)) (ez b (.aL []) (aO L n (.ptr 1 0)::tY h W)) XH (fr [(0,pX),(1,ck ef),(4,.p (.c (.fB 60 0 0))),(5,ck (cT L i ef)),(6,bB (gS L i ef))]) (.ofList [aO L i (.ptr 1 0),bX h (.sl 2 0 (x::l).length 1) .nil,eD (x::l)])
 | k, i, x, l, hk, hi, hn, H => by
   refine aX zL (by kernel_rfl) 100 ?_
   apply of_eq (q:=let q1:=Fd.c (ax.W.int .i64 (0));let q2:=(IntKind.i64.wrap ((i:Int)+1));let q3:=(cT L (i:Int) ef);let q4:=Fd.c ax.W.nil;(gS L (i:Int) ef=true->((x::l).length=(x::l).length/\q3.size<=900000/\(x::l).length<=100)/\(cV h.g q3 (x::l).length=true->b=true/\aY (11:Int) (i:Int)=aY (11:Int) (e:Int))/\(cV h.g q3 (x::l).length=false->(((x::l).length=(x::l).length/\q3.size<=900000/\(x::l).length<=100)/\cV h.g q3 (x::l).length=false)/\(dD.c L q2 ef/\dD.b L q2 ef=false)/\av (HZ b (aY (11:Int) (e:Int))) (ez b (A.aL []) (aO L (n:Int) (ax.W.ptr 1 0)::tY h W)) [0,1,1] (fr [(0,aP (ax.W.ptr 0 0)),(1,aP (ax.W.str ef)),(4,aP (ax.W.fB (60:Nat) (0:Nat) (0:Nat))),(5,aP (ax.W.str (cT L q2 ef))),(6,aP (ax.W.bool (gS L q2 ef)))]) (ai.ofList [Ob.mk 87 [Fd.c (ax.W.rd D.str L),Fd.c (ax.W.int .i64 (dD.n L q2 ef)),Fd.c (ax.W.ptr 1 0)],Ob.mk 60 [Fd.c (ax.W.int .i64 h.g),Fd.c (ax.W.sl 2 0 ((x::l).length+1) 1),q4,Fd.c (ax.W.int .i64 h.aJ),Fd.c (ax.W.int .i64 h.aQ),q1,Fd.c (ax.W.int .i64 h.aI),q1,q1,q1,q4,q4,q4],Ob.mk 43 [Fd.a 0 (D.int .i64).sl (x::l++[iN h.g q3])]])))/\(gS L (i:Int) ef=false->b=false/\aB []=A.aL []/\[Ob.mk 87 [Fd.c (ax.W.rd D.str L),Fd.c (ax.W.int .i64 (i:Int)),Fd.c (ax.W.ptr (1:Nat) (0:Nat))],Ob.mk 60 [Fd.c (ax.W.int .i64 h.g),Fd.c (ax.W.sl (2:Nat) (0:Nat) (x::l).length (1:Nat)),q4,Fd.c (ax.W.int .i64 h.aJ),Fd.c (ax.W.int .i64 h.aQ),q1,Fd.c (ax.W.int .i64 h.aI),q1,q1,q1,q4,q4,q4],Ob.mk 43 [Fd.a 0 (D.int .i64).sl (x::l)]]=aO L (n:Int) (ax.W.ptr 1 0)::tY h W)) (by kernel_rfl)
   try simp only [sL]
   refine ⟨fun h1=>?_,fun h1=>?_⟩
   . obtain ⟨q1,q2,q3⟩:=xE hi h1 H
     have hz:=nD (tag:=ef) q1 hL.2
     rw [List.length_cons] at hn q2 q3
     refine ⟨⟨hz,hn⟩,fun h2=>?_,fun h2=>⟨⟨⟨hz,hn⟩,h2⟩,⟨⟨by rw [wrap64 (by omega) (by omega)];omega,by decide⟩,rfl⟩,?_⟩⟩
     . obtain ⟨a,rfl⟩:=q2 h2
       exact ⟨a,rfl⟩
     . rw [wrap64 (n:=(i:Int)+1) (by omega) (by omega)]
       have hn2:l.length+1≠100:=fun h9=>by rw [h9,NU] at h2;cases h2
       cases k with
       | zero=>omega
       | succ k =>
         have:=K6 L hL h b e n W k (i+1) x (l++[iN h.g (cT L i ef)]) (by omega) (by omega) (by simp;omega) (q3 h2)
         have e1:(x::(l++[iN h.g (cT L i ef)])).length=l.length+1+1:=by simp
         rw [e1] at this
         exact this
   . obtain ⟨rfl,rfl,rfl⟩:=xG hi h1 H
     exact ⟨rfl,rfl,rfl⟩
theorem XO (L:List ByteArray) (hL:L.length<=900000/\mQ L) (h:Hd) (b:Bool) (e n:Nat) (W:List (List Int)) (i:Nat) (hi:i<=L.length) (H:jZ b e n W h.g ef i [] (L.drop i)) :
 av (HZ b (aY 11 e)) (ez b (.aL []) (aO L n (.ptr 1 0)::tY h W)) XH (fr [(0,pX),(1,ck ef),(4,.p (.c (.fB 60 0 0))),(5,ck (cT L i ef)),(6,bB (gS L i ef))]) (.ofList [aO L i (.ptr 1 0),bX h (.nil) .nil]):=by
 refine aX zL (by kernel_rfl) 100 ?_
 apply of_eq (q:=let q1:=Fd.c (ax.W.int .i64 (0));let q2:=(IntKind.i64.wrap ((i:Int)+1));let q3:=(cT L (i:Int) ef);let q4:=Fd.c ax.W.nil;(gS L (i:Int) ef=true->q3.size<=900000/\(cV h.g q3 (0:Nat)=true->b=true/\aY (11:Int) (i:Int)=aY (11:Int) (e:Int))/\(cV h.g q3 (0:Nat)=false->(q3.size<=900000/\cV h.g q3 (0:Nat)=false)/\(dD.c L q2 ef/\dD.b L q2 ef=false)/\av (HZ b (aY (11:Int) (e:Int))) (ez b (A.aL []) (aO L (n:Int) (ax.W.ptr 1 0)::tY h W)) [0,1,1] (fr [(0,aP (ax.W.ptr 0 0)),(1,aP (ax.W.str ef)),(4,aP (ax.W.fB (60:Nat) (0:Nat) (0:Nat))),(5,aP (ax.W.str (cT L q2 ef))),(6,aP (ax.W.bool (gS L q2 ef)))]) (ai.ofList [Ob.mk 87 [Fd.c (ax.W.rd D.str L),Fd.c (ax.W.int .i64 (dD.n L q2 ef)),Fd.c (ax.W.ptr 1 0)],Ob.mk 60 [Fd.c (ax.W.int .i64 h.g),Fd.c (ax.W.sl 2 0 1 1),q4,Fd.c (ax.W.int .i64 h.aJ),Fd.c (ax.W.int .i64 h.aQ),q1,Fd.c (ax.W.int .i64 h.aI),q1,q1,q1,q4,q4,q4],Ob.mk 43 [Fd.a 0 (D.int .i64).sl [iN h.g q3]]])))/\(gS L (i:Int) ef=false->b=false/\aB []=A.aL []/\[Ob.mk 87 [Fd.c (ax.W.rd D.str L),Fd.c (ax.W.int .i64 (i:Int)),Fd.c (ax.W.ptr (1:Nat) (0:Nat))],Ob.mk 60 [Fd.c (ax.W.int .i64 h.g),q4,q4,Fd.c (ax.W.int .i64 h.aJ),Fd.c (ax.W.int .i64 h.aQ),q1,Fd.c (ax.W.int .i64 h.aI),q1,q1,q1,q4,q4,q4]]=aO L (n:Int) (ax.W.ptr 1 0)::tY h W)) (by kernel_rfl)
 try simp only [sL,Int.reduceEq,Int.reduceNe,Nat.reduceAdd]
 refine ⟨fun h1=>?_,fun h1=>?_⟩
 . obtain ⟨q1,q2,q3⟩:=xE hi h1 H
   have hz:=nD (tag:=ef) q1 hL.2
   refine ⟨hz,fun h2=>?_,fun h2=>⟨⟨hz,h2⟩,⟨⟨by rw [wrap64 (by omega) (by omega)];omega,by decide⟩,rfl⟩,?_⟩⟩
   . obtain ⟨a,rfl⟩:=q2 h2
     exact ⟨a,rfl⟩
   . rw [wrap64 (n:=(i:Int)+1) (by omega) (by omega)]
     exact K6 L hL h b e n W _ (i+1) _ [] rfl (by omega) (by simp) (q3 h2)
 . obtain ⟨rfl,rfl,rfl⟩:=xG hi h1 H
   exact ⟨rfl,rfl,rfl⟩
theorem UH (L:List ByteArray) (hL:L.length<=900000/\mQ L) (h:Hd) (b:Bool) (e n:Nat) (W:List (List Int)) (i:Nat) (hi:i<=L.length) (H:jZ b e n W h.g ef i [] (L.drop i)):(b=false->bA Tryz.prog 37 2 [pX,ck ef] [aO L i (.ptr 1 0),bX h (.nil) .nil] (.aL []) (aO L n (.ptr 1 0)::tY h W))/\(b=true->dQ Tryz.prog 37 [pX,ck ef] [aO L i (.ptr 1 0),bX h (.nil) .nil] (aY 11 e)):=by
 refine dw (dies:=K5) (aq:=Fe) (cE:=[]) (fz:=[]) zL Tryz.func37 (by kernel_rfl) 2 (by kernel_rfl) 100 ?_
 apply of_eq (q:=let q1:=Fd.c (ax.W.int .i64 (0));(dD.c L (i:Int) ef/\dD.b L (i:Int) ef=false)/\av (cD Tryz.prog K4 K5 Tryz.f37 (2:Nat) Fe [] [] b (aY (11:Int) (e:Int))) (ez b (A.aL []) (aO L (n:Int) (ax.W.ptr 1 0)::tY h W)) [0,1,1] (fr [(0,aP (ax.W.ptr 0 0)),(1,aP (ax.W.str ef)),(4,aP (ax.W.fB (60:Nat) (0:Nat) (0:Nat))),(5,aP (ax.W.str (cT L (i:Int) ef))),(6,aP (ax.W.bool (gS L (i:Int) ef)))]) (ai.ofList [Ob.mk 87 [Fd.c (ax.W.rd D.str L),Fd.c (ax.W.int .i64 (dD.n L (i:Int) ef)),Fd.c (ax.W.ptr 1 0)],Ob.mk 60 [Fd.c (ax.W.int .i64 h.g),Fd.c ax.W.nil,Fd.c ax.W.nil,Fd.c (ax.W.int .i64 h.aJ),Fd.c (ax.W.int .i64 h.aQ),q1,Fd.c (ax.W.int .i64 h.aI),q1,q1,q1,Fd.c ax.W.nil,Fd.c ax.W.nil,Fd.c ax.W.nil]])) (by kernel_rfl)
 try simp only [sL,Int.reduceEq,Int.reduceNe,Nat.reduceAdd]
 exact ⟨⟨⟨by omega,by decide⟩,rfl⟩,XO L hL h b e n W i hi H⟩
theorem Eb (L:List ByteArray) (a:Int) (h:Hd) (b:Bool) (e n:Nat) (W:List (List Int)) (hc:(0<=a/\a<=L.length)/\(L.length<=900000/\mQ L)/\jZ b e n W h.g ef a.toNat [] (L.drop a.toNat)):(b=false->bA Tryz.prog 37 2 [pX,ck ef] [aO L a (.ptr 1 0),bX h (.nil) .nil] (.aL []) [aO L n (.ptr 1 0),bX h (.rd (.sl (.int .i64)) W) .nil])/\(b=true->dQ Tryz.prog 37 [pX,ck ef] [aO L a (.ptr 1 0),bX h (.nil) .nil] (aY 11 e)):=by
 obtain ⟨⟨q0,q1⟩,q2,q3⟩:=hc
 have ha:(a.toNat:Int)=a:=by omega
 obtain ⟨k1,k2⟩:=UH L q2 h b e n W a.toNat (by omega) q3
 rw [ha] at k1 k2
 refine ⟨fun hb=>?_,k2⟩
 refine (k1 hb).post 2 (Nat.le_refl _) (fun η aE Z Z' u _ _ ⟨us,hu,hl⟩=>⟨us,hu,(by cases us with | nil=>trivial | cons _ _=>exact hl.elim)⟩) ?_
 match W with
 | []=>exact fnR L _ h 
 | w::ws=>exact fzR L _ h (w::ws)
def K7:bP:={ cF:=[true,false],ay:=some 2,f:=fun args ak=>match args,ak with
 | [.p (.c (.ptr 0 0)),y],[o1,o2]=>match iL o1,iT o2,fH .str y with
   | some (L,a),some (h,.rd (.sl (.int .i64)) R,.nil),some s=>some (.p ((show ByteArray from s).size<=900000/\cV h.g s 0=false),.aL [],[aO L a (.ptr 1 0),bX h (.rd (.sl (.int .i64)) R) (.sl 2 0 1 1),eD [iN h.g s]])
   | _,_,_=>none
 | [.p (.c (.ptr 0 0)),y],[o1,o2,o3]=>match iL o1,iT o2,uJ o3,fH .str y with
   | some (L,a),some (h,.rd (.sl (.int .i64)) R,.sl 2 0 m 1),some l,some s=>some (.p ((m=l.length/\(show ByteArray from s).size<=900000/\l.length<=100)/\cV h.g s l.length=false),.aL [],[aO L a (.ptr 1 0),bX h (.rd (.sl (.int .i64)) R) (.sl 2 0 (l.length+1) 1),eD (l++[iN h.g s])])
   | _,_,_,_=>none
 | _,_=>none }
def K8:dK:={ cF:=[true,false],f:=fun args ak=>match args,ak with
 | [.p (.c (.ptr 0 0)),y],[o1,o2]=>match iL o1,iT o2,fH .str y with
   | some (_,a),some (h,.rd (.sl (.int .i64)) R,.nil),some s=>some (.p ((show ByteArray from s).size<=900000),some (cV h.g s 0),aY 11 a)
   | _,_,_=>none
 | [.p (.c (.ptr 0 0)),y],[o1,o2,o3]=>match iL o1,iT o2,uJ o3,fH .str y with
   | some (_,a),some (h,.rd (.sl (.int .i64)) R,.sl 2 0 m 1),some l,some s=>some (.p (m=l.length/\(show ByteArray from s).size<=900000/\l.length<=100),some (cV h.g s l.length),aY 11 a)
   | _,_,_,_=>none
 | _,_=>none }
theorem UI:aV Tryz.prog 61 K7:=by
 refine ⟨by kernel_rfl,fun args ak c r bp e hc=>?_⟩
 simp only [K7] at e
 split at e
 . split at e
   . rename_i h1 h2 h3
     cases e
     rw [d9 h1,fj h2]
     intro base η Z w vs R0 hv hK
     match vs,hv with
     | [u,t],⟨a1,a3,_⟩=>exact (D9 _ _ _ _ _ hc.1).1 hc.2 base η Z w _ R0 ⟨a1,cg h3 a3,trivial⟩ hK
   . cases e
 . split at e
   . rename_i h1 h2 h3 h4
     cases e
     obtain ⟨⟨rfl,q1,q2⟩,q3⟩:=hc
     rw [d9 h1,fj h2,oK h3]
     intro base η Z w vs R0 hv hK
     match vs,hv with
     | [u,t],⟨a1,a3,_⟩=>exact (Ea _ _ _ _ _ _ q1 q2).1 q3 base η Z w _ R0 ⟨a1,cg h4 a3,trivial⟩ hK
   . cases e
 . cases e
theorem UJ:cZ Tryz.prog 61 K8:=by
 refine ⟨by kernel_rfl,fun args ak c b u e hc hb=>?_⟩
 simp only [K8] at e
 split at e
 . split at e
   . rename_i h1 h2 h3
     cases e
     rw [d9 h1,fj h2]
     intro base η Z w vs R0 hv hK
     match vs,hv with
     | [u,t],⟨a1,a3,_⟩=>exact (D9 _ _ _ _ _ hc).2 (rW hb) base η Z w _ R0 ⟨a1,cg h3 a3,trivial⟩ hK
   . cases e
 . split at e
   . rename_i h1 h2 h3 h4
     cases e
     obtain ⟨rfl,q1,q2⟩:=hc
     rw [d9 h1,fj h2,oK h3]
     intro base η Z w vs R0 hv hK
     match vs,hv with
     | [u,t],⟨a1,a3,_⟩=>exact (Ea _ _ _ _ _ _ q1 q2).2 (rW hb) base η Z w _ R0 ⟨a1,cg h4 a3,trivial⟩ hK
   . cases e
 . cases e
noncomputable def K9:bS:=[(63,dD.con),(61,K7)]
theorem zM:bt Tryz.prog K9:=ar xw.1 (ar UI aC)
def La:List { x:FuncId×dK // cZ Tryz.prog x.1 x.2 }:=[⟨(61,K8),UJ⟩]
noncomputable def H6 (b:Bool) (u:Value):bD:=cD Tryz.prog K9 La Tryz.f37 2 Ff [] [] b u
theorem Lb (L:List ByteArray) (hL:L.length<=900000/\mQ L) (h:Hd) (R:List (List Int)) (b:Bool) (e n:Nat) (W:List (List Int)):∀ (k i:Nat) (x:List Int) (l:List (List Int)),k=L.length-i->i<=L.length->(x::l).length<=100->jZ b e n W h.g ep i (x::l) (L.drop i)->
 av (H6 b (aY 11 e)) (ez b (.aL []) (aO L n (.ptr 1 0)::tZ h R W)) XI (fr [(0,pX),(1,ck ep),(4,.p (.c (.fB 61 0 0))),(5,ck (cT L i ep)),(6,bB (gS L i ep))]) (.ofList [aO L i (.ptr 1 0),bX h (.rd (.sl (.int .i64)) R) (.sl 2 0 (x::l).length 1),eD (x::l)])
 | k, i, x, l, hk, hi, hn, H => by
   refine aX zM (by kernel_rfl) 100 ?_
   apply of_eq (q:=let q1:=Fd.c (ax.W.int .i64 (0));let q2:=(IntKind.i64.wrap ((i:Int)+1));let q3:=(cT L (i:Int) ep);let q4:=Fd.c ax.W.nil;(gS L (i:Int) ep=true->((x::l).length=(x::l).length/\q3.size<=900000/\(x::l).length<=100)/\(cV h.g q3 (x::l).length=true->b=true/\aY (11:Int) (i:Int)=aY (11:Int) (e:Int))/\(cV h.g q3 (x::l).length=false->(((x::l).length=(x::l).length/\q3.size<=900000/\(x::l).length<=100)/\cV h.g q3 (x::l).length=false)/\(dD.c L q2 ep/\dD.b L q2 ep=false)/\av (H6 b (aY (11:Int) (e:Int))) (ez b (A.aL []) (aO L (n:Int) (ax.W.ptr 1 0)::tZ h R W)) [0,1,1] (fr [(0,aP (ax.W.ptr 0 0)),(1,aP (ax.W.str ep)),(4,aP (ax.W.fB (61:Nat) (0:Nat) (0:Nat))),(5,aP (ax.W.str (cT L q2 ep))),(6,aP (ax.W.bool (gS L q2 ep)))]) (ai.ofList [Ob.mk 87 [Fd.c (ax.W.rd D.str L),Fd.c (ax.W.int .i64 (dD.n L q2 ep)),Fd.c (ax.W.ptr 1 0)],Ob.mk 60 [Fd.c (ax.W.int .i64 h.g),Fd.c (ax.W.rd (D.int .i64).sl R),Fd.c (ax.W.sl 2 0 ((x::l).length+1) 1),Fd.c (ax.W.int .i64 h.aJ),Fd.c (ax.W.int .i64 h.aQ),q1,Fd.c (ax.W.int .i64 h.aI),q1,q1,q1,q4,q4,q4],Ob.mk 43 [Fd.a 0 (D.int .i64).sl (x::l++[iN h.g q3])]])))/\(gS L (i:Int) ep=false->b=false/\aB []=A.aL []/\[Ob.mk 87 [Fd.c (ax.W.rd D.str L),Fd.c (ax.W.int .i64 (i:Int)),Fd.c (ax.W.ptr (1:Nat) (0:Nat))],Ob.mk 60 [Fd.c (ax.W.int .i64 h.g),Fd.c (ax.W.rd (D.int .i64).sl R),Fd.c (ax.W.sl (2:Nat) (0:Nat) (x::l).length (1:Nat)),Fd.c (ax.W.int .i64 h.aJ),Fd.c (ax.W.int .i64 h.aQ),q1,Fd.c (ax.W.int .i64 h.aI),q1,q1,q1,q4,q4,q4],Ob.mk 43 [Fd.a 0 (D.int .i64).sl (x::l)]]=aO L (n:Int) (ax.W.ptr 1 0)::tZ h R W)) (by kernel_rfl)
   try simp only [sL]
   refine ⟨fun h1=>?_,fun h1=>?_⟩
   . obtain ⟨q1,q2,q3⟩:=xE hi h1 H
     have hz:=nD (tag:=ep) q1 hL.2
     rw [List.length_cons] at hn q2 q3
     refine ⟨⟨hz,hn⟩,fun h2=>?_,fun h2=>⟨⟨⟨hz,hn⟩,h2⟩,⟨⟨by rw [wrap64 (by omega) (by omega)];omega,by decide⟩,rfl⟩,?_⟩⟩
     . obtain ⟨a,rfl⟩:=q2 h2
       exact ⟨a,rfl⟩
     . rw [wrap64 (n:=(i:Int)+1) (by omega) (by omega)]
       have hn2:l.length+1≠100:=fun h9=>by rw [h9,NU] at h2;cases h2
       cases k with
       | zero=>omega
       | succ k =>
         have:=Lb L hL h R b e n W k (i+1) x (l++[iN h.g (cT L i ep)]) (by omega) (by omega) (by simp;omega) (q3 h2)
         have e1:(x::(l++[iN h.g (cT L i ep)])).length=l.length+1+1:=by simp
         rw [e1] at this
         exact this
   . obtain ⟨rfl,rfl,rfl⟩:=xG hi h1 H
     exact ⟨rfl,rfl,rfl⟩
theorem XP (L:List ByteArray) (hL:L.length<=900000/\mQ L) (h:Hd) (R:List (List Int)) (b:Bool) (e n:Nat) (W:List (List Int)) (i:Nat) (hi:i<=L.length) (H:jZ b e n W h.g ep i [] (L.drop i)) :
 av (H6 b (aY 11 e)) (ez b (.aL []) (aO L n (.ptr 1 0)::tZ h R W)) XI (fr [(0,pX),(1,ck ep),(4,.p (.c (.fB 61 0 0))),(5,ck (cT L i ep)),(6,bB (gS L i ep))]) (.ofList [aO L i (.ptr 1 0),bX h (.rd (.sl (.int .i64)) R) (.nil)]):=by
 refine aX zM (by kernel_rfl) 100 ?_
 apply of_eq (q:=let q1:=Fd.c (ax.W.int .i64 (0));let q2:=(IntKind.i64.wrap ((i:Int)+1));let q3:=(cT L (i:Int) ep);let q4:=Fd.c ax.W.nil;(gS L (i:Int) ep=true->q3.size<=900000/\(cV h.g q3 (0:Nat)=true->b=true/\aY (11:Int) (i:Int)=aY (11:Int) (e:Int))/\(cV h.g q3 (0:Nat)=false->(q3.size<=900000/\cV h.g q3 (0:Nat)=false)/\(dD.c L q2 ep/\dD.b L q2 ep=false)/\av (H6 b (aY (11:Int) (e:Int))) (ez b (A.aL []) (aO L (n:Int) (ax.W.ptr 1 0)::tZ h R W)) [0,1,1] (fr [(0,aP (ax.W.ptr 0 0)),(1,aP (ax.W.str ep)),(4,aP (ax.W.fB (61:Nat) (0:Nat) (0:Nat))),(5,aP (ax.W.str (cT L q2 ep))),(6,aP (ax.W.bool (gS L q2 ep)))]) (ai.ofList [Ob.mk 87 [Fd.c (ax.W.rd D.str L),Fd.c (ax.W.int .i64 (dD.n L q2 ep)),Fd.c (ax.W.ptr 1 0)],Ob.mk 60 [Fd.c (ax.W.int .i64 h.g),Fd.c (ax.W.rd (D.int .i64).sl R),Fd.c (ax.W.sl 2 0 1 1),Fd.c (ax.W.int .i64 h.aJ),Fd.c (ax.W.int .i64 h.aQ),q1,Fd.c (ax.W.int .i64 h.aI),q1,q1,q1,q4,q4,q4],Ob.mk 43 [Fd.a 0 (D.int .i64).sl [iN h.g q3]]])))/\(gS L (i:Int) ep=false->b=false/\aB []=A.aL []/\[Ob.mk 87 [Fd.c (ax.W.rd D.str L),Fd.c (ax.W.int .i64 (i:Int)),Fd.c (ax.W.ptr (1:Nat) (0:Nat))],Ob.mk 60 [Fd.c (ax.W.int .i64 h.g),Fd.c (ax.W.rd (D.int .i64).sl R),q4,Fd.c (ax.W.int .i64 h.aJ),Fd.c (ax.W.int .i64 h.aQ),q1,Fd.c (ax.W.int .i64 h.aI),q1,q1,q1,q4,q4,q4]]=aO L (n:Int) (ax.W.ptr 1 0)::tZ h R W)) (by kernel_rfl)
 try simp only [sL,Int.reduceEq,Int.reduceNe,Nat.reduceAdd]
 refine ⟨fun h1=>?_,fun h1=>?_⟩
 . obtain ⟨q1,q2,q3⟩:=xE hi h1 H
   have hz:=nD (tag:=ep) q1 hL.2
   refine ⟨hz,fun h2=>?_,fun h2=>⟨⟨hz,h2⟩,⟨⟨by rw [wrap64 (by omega) (by omega)];omega,by decide⟩,rfl⟩,?_⟩⟩
   . obtain ⟨a,rfl⟩:=q2 h2
     exact ⟨a,rfl⟩
   . rw [wrap64 (n:=(i:Int)+1) (by omega) (by omega)]
     exact Lb L hL h R b e n W _ (i+1) _ [] rfl (by omega) (by simp) (q3 h2)
 . obtain ⟨rfl,rfl,rfl⟩:=xG hi h1 H
   exact ⟨rfl,rfl,rfl⟩
theorem UK (L:List ByteArray) (hL:L.length<=900000/\mQ L) (h:Hd) (R:List (List Int)) (b:Bool) (e n:Nat) (W:List (List Int)) (i:Nat) (hi:i<=L.length) (H:jZ b e n W h.g ep i [] (L.drop i)):(b=false->bA Tryz.prog 37 2 [pX,ck ep] [aO L i (.ptr 1 0),bX h (.rd (.sl (.int .i64)) R) (.nil)] (.aL []) (aO L n (.ptr 1 0)::tZ h R W))/\(b=true->dQ Tryz.prog 37 [pX,ck ep] [aO L i (.ptr 1 0),bX h (.rd (.sl (.int .i64)) R) (.nil)] (aY 11 e)):=by
 refine dw (dies:=La) (aq:=Ff) (cE:=[]) (fz:=[]) zM Tryz.func37 (by kernel_rfl) 2 (by kernel_rfl) 100 ?_
 apply of_eq (q:=let q1:=Fd.c (ax.W.int .i64 (0));(dD.c L (i:Int) ep/\dD.b L (i:Int) ep=false)/\av (cD Tryz.prog K9 La Tryz.f37 (2:Nat) Ff [] [] b (aY (11:Int) (e:Int))) (ez b (A.aL []) (aO L (n:Int) (ax.W.ptr 1 0)::tZ h R W)) [0,1,1] (fr [(0,aP (ax.W.ptr 0 0)),(1,aP (ax.W.str ep)),(4,aP (ax.W.fB (61:Nat) (0:Nat) (0:Nat))),(5,aP (ax.W.str (cT L (i:Int) ep))),(6,aP (ax.W.bool (gS L (i:Int) ep)))]) (ai.ofList [Ob.mk 87 [Fd.c (ax.W.rd D.str L),Fd.c (ax.W.int .i64 (dD.n L (i:Int) ep)),Fd.c (ax.W.ptr 1 0)],Ob.mk 60 [Fd.c (ax.W.int .i64 h.g),Fd.c (ax.W.rd (D.int .i64).sl R),Fd.c ax.W.nil,Fd.c (ax.W.int .i64 h.aJ),Fd.c (ax.W.int .i64 h.aQ),q1,Fd.c (ax.W.int .i64 h.aI),q1,q1,q1,Fd.c ax.W.nil,Fd.c ax.W.nil,Fd.c ax.W.nil]])) (by kernel_rfl)
 try simp only [sL,Int.reduceEq,Int.reduceNe,Nat.reduceAdd]
 exact ⟨⟨⟨by omega,by decide⟩,rfl⟩,XP L hL h R b e n W i hi H⟩
theorem Ec (L:List ByteArray) (a:Int) (h:Hd) (R:List (List Int)) (b:Bool) (e n:Nat) (W:List (List Int)) (hc:(0<=a/\a<=L.length)/\(L.length<=900000/\mQ L)/\jZ b e n W h.g ep a.toNat [] (L.drop a.toNat)):(b=false->bA Tryz.prog 37 2 [pX,ck ep] [aO L a (.ptr 1 0),bX h (.rd (.sl (.int .i64)) R) (.nil)] (.aL []) [aO L n (.ptr 1 0),bX h (.rd (.sl (.int .i64)) R) (.rd (.sl (.int .i64)) W)])/\(b=true->dQ Tryz.prog 37 [pX,ck ep] [aO L a (.ptr 1 0),bX h (.rd (.sl (.int .i64)) R) (.nil)] (aY 11 e)):=by
 obtain ⟨⟨q0,q1⟩,q2,q3⟩:=hc
 have ha:(a.toNat:Int)=a:=by omega
 obtain ⟨k1,k2⟩:=UK L q2 h R b e n W a.toNat (by omega) q3
 rw [ha] at k1 k2
 refine ⟨fun hb=>?_,k2⟩
 refine (k1 hb).post 2 (Nat.le_refl _) (fun η aE Z Z' u _ _ ⟨us,hu,hl⟩=>⟨us,hu,(by cases us with | nil=>trivial | cons _ _=>exact hl.elim)⟩) ?_
 match W with
 | []=>exact fnS L _ h R 
 | w::ws=>exact fzS L _ h R (w::ws)
end Go.Proofs.YtmajgbnpplgaoaaGreatDoor
