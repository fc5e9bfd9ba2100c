/- The reader of checkpoints: rows. -/
import Derived.Test.YtmajgbnpplgaoaaGreatDoorLoad1
import Derived.Test.YtmajgbnpplgaoaaGreatDoorEng1
import Derived.Test.YtmajgbnpplgaoaaGreatDoorWords2
import Derived.Test.YtmajgbnpplgaoaaGreatDoorSave1
namespace Go.Proofs.YtmajgbnpplgaoaaGreatDoor
open Go.ax Go.Words Go.cU
set_option maxRecDepth 100000
structure Pl where
 ph:Int
 co:Int
 ix:Int
abbrev gu (h:Hd) (R S:List (List Int)) (p:Pl) (aq:Int) (tb pr:W):Ob:=⟨60,[.c (.int .i64 h.g),.c (.rd (.sl (.int .i64)) R),.c (.rd (.sl (.int .i64)) S),.c (.int .i64 h.aJ),.c (.int .i64 h.aQ),.c (.int .i64 aq),.c (.int .i64 h.aI),.c (.int .i64 p.ph),.c (.int .i64 p.co),.c (.int .i64 p.ix),.c tb,.c pr,.c .nil]⟩
abbrev pN (g:Int) (ah:List (List Int)):Ob:=⟨22,[.c (.th (2*g).toNat ah)]⟩
def cn (s:ByteArray):List Int:=(bI 32 s).map fun w=>(dU (af w)).getD 0
abbrev pRw:List Nat:=[0,1,0,1]
abbrev zN:List (List Nat×List Nat):=[(pRw,[0,4,8,9,10])]
def rm:Ob->Option (Hd×List (List Int)×List (List Int)×Pl×Int×W×W)
 | ⟨t,[.c (.int .i64 g),.c (.rd (.sl (.int .i64)) R),.c (.rd (.sl (.int .i64)) S),.c (.int .i64 aJ),.c (.int .i64 aQ),.c (.int .i64 aq),.c (.int .i64 aI),.c (.int .i64 ph),.c (.int .i64 co),.c (.int .i64 ix),.c tb,.c pr,.c .nil]⟩=>bif Nat.beq t 60 then some (⟨g,aJ,aQ,aI⟩,R,S,⟨ph,co,ix⟩,aq,tb,pr) else none
 | _=>none
theorem oM {o:Ob} {h:Hd} {R S:List (List Int)} {p:Pl} {aq:Int} {tb pr:W} (e:rm o=some (h,R,S,p,aq,tb,pr)):o=gu h R S p aq tb pr:=by
 unfold rm at e
 split at e
 . obtain ⟨hb,e1⟩:=au.aH e
   clear e
   cases Nat.eq_of_beq_eq_true hb
   cases e1
   rfl
 . cases e
def Qr:Ob->Option (Nat×List (List Int))
 | ⟨t,[.c (.th k ah)]⟩=>bif Nat.beq t 22 then some (k,ah) else none
 | _=>none
theorem NV {o:Ob} {k:Nat} {ah:List (List Int)} (e:Qr o=some (k,ah)):o=⟨22,[.c (.th k ah)]⟩:=by
 unfold Qr at e
 split at e
 . obtain ⟨hb,e1⟩:=au.aH e
   clear e
   cases Nat.eq_of_beq_eq_true hb
   cases e1
   rfl
 . cases e
def Ed:Ob->Option (List Int)
 | ⟨t,[.a 0 (.int .i64) l]⟩=>bif Nat.beq t 3 then some l else none
 | _=>none
theorem G5 {o:Ob} {l:List Int} (e:Ed o=some l):o=aD l:=by
 unfold Ed at e
 split at e
 . obtain ⟨hb,e1⟩:=au.aH e
   clear e
   cases Nat.eq_of_beq_eq_true hb
   cases e1
   rfl
 . cases e
def zO (aq:Int) (n:Nat) (s:ByteArray):Int:=if (cn s).headD 0=n then aq+1 else aq
def lvF (aq:Int) (n:Nat):List ByteArray->Int
 | []=>aq
 | s::l=>lvF (zO aq n s) (n+1) l
def tlF (l:List ByteArray):List (List Int):=l.map fun s=>(cn s).tail
def hdF (l:List ByteArray):List Int:=l.map fun s=>(cn s).headD 0
def cO:ByteArray:=⟨#[114,111,119]⟩
abbrev XQ:List Nat:=[0,1,1]
abbrev Fh:List (List Nat×List Nat):=[(XQ,[0,1,4,5,6])]
abbrev XR (h:Hd) (R S:List (List Int)) (p:Pl) (aq:Int) (ah:List (List Int)) (aj:List Int):List Ob:=[gu h R S p aq (.sl 2 0 ah.length 1) (.sl 3 0 aj.length 1),pN h.g ah,aD aj]
theorem UL {aq:Int} {n:Nat} {s:ByteArray} (h:0<=aq/\aq<=n):0<=zO aq n s/\zO aq n s<=(n+1:Nat):=by
 unfold zO;split <;> omega
def ew (g:Int) (s:ByteArray):Bool:=!((bI 32 s).all fun w=>(dU (af w)).isSome)||!decide (((bI 32 s).length:Int)-1=2*g)
theorem Lc {g:Int} {s:ByteArray} {i:Nat} (hi:i<(bI 32 s).length) (h:(dU (af ((bI 32 s).getD i ⟨#[]⟩))).isNone=true):ew g s=true:=by
 unfold ew
 rw [Bool.or_eq_true,Bool.not_eq_true']
 left
 rw [List.all_eq_false]
 refine ⟨_,s5 hi,?_⟩
 cases hv:dU (af ((bI 32 s).getD i ⟨#[]⟩)) with
 | none=>simp
 | some _=>rw [hv] at h;cases h
theorem Ld {g:Int} {s:ByteArray} (h:¬ ((bI 32 s).length:Int)-1=2*g):ew g s=true:=by
 unfold ew
 rw [decide_eq_false h];simp
theorem NW {g:Int} {s:ByteArray} (h:((bI 32 s).length:Int)-1=2*g) (hn:∀ j,j<(bI 32 s).length->(dU (af ((bI 32 s).getD j ⟨#[]⟩))).isSome=true):ew g s=false:=by
 unfold ew
 rw [decide_eq_true h,Bool.not_true,Bool.or_false,Bool.not_eq_false',List.all_eq_true]
 intro w hw
 obtain ⟨j,hj,rfl⟩:=List.mem_iff_getElem.1 hw
 have:=hn j hj
 rw [List.getD_eq_getElem?_getD,List.getElem?_eq_getElem hj] at this
 exact this
structure vO (g:Int) (s:ByteArray):Prop where
 sz:s.size<=900000
 lo:-1<=g
 hi:g<=10000000000
noncomputable def Zq (b:Bool) (u:Value):bD:=cD Tryz.prog NI zF Tryz.f62 2 zN [] [] b u
theorem NX (s:ByteArray):∃ x t,cn s=x::t/\(cn s).length=(bI 32 s).length:=by
 have hl:(cn s).length=(bI 32 s).length:=by unfold cn;rw [List.length_map]
 have h0:bI 32 s≠[]:=by unfold bI;intro h;exact zB _ _ (List.map_eq_nil_iff.1 h)
 cases h:cn s with
 | nil=>rw [h] at hl;exact absurd (List.eq_nil_of_length_eq_zero hl.symm) h0
 | cons x t=>exact ⟨x,t,rfl,by rw [<-h];exact hl⟩
set_option maxHeartbeats 1000000 in
theorem Le (L : List ByteArray) (a : Int) (h : Hd) (R S : List (List Int)) (p : Pl) (aq : Int) (hlv : 0 ≤ aq ∧ aq ≤ 1000000) (s : ByteArray) (H : vO h.g s) : ∀ (k i : Nat) (l : List Int), k = (bI 32 s).length - i → i ≤ (bI 32 s).length → l = (cn s).take i → (∀ j, j < i → (dU (af ((bI 32 s).getD j ⟨#[]⟩))).isSome = true) →
 av (Zq (ew h.g s) (aY 11 a)) (ez (ew h.g s) (.aL []) [aO L a (.ptr 1 0),gu h R S p (if (cn s).headD 0=0 then aq+1 else aq) (.sl 2 0 1 1) (.sl 3 0 1 1),pN h.g [(cn s).tail],aD [(cn s).headD 0]]) pRw (fr [(0,pX),(4,gL 2 i),(8,mG (bI 32 s)),(9,nI (bI 32 s).length),(10,nI i)]) (.ofList [aO L a (.ptr 1 0),gu h R S p aq .nil .nil,aD l])
 | k,i,l,hk,hi,hl,hj=>by
   refine aX vN (by kernel_rfl) 100 ?_
   apply of_eq (q:=let q0:=IntKind.i64.wrap;let q1:=(R1.pure (Cd.t.and Cd.t) (aR 1 0)).v=(R1.pure (Cd.t.and Cd.t) (aR 1 0)).v;let q4:=(R1.pure (Cd.t.and Cd.t) (aP W.nil)).v=(R1.pure (Cd.t.and Cd.t) (aP W.nil)).v;let q9:=(0:Int);let aW:=(1:Nat)*8<=140737488355328;let bG:=(0:Nat);let bM:=(i:Int);let cA:=(bG<(bM-1).toNat∨bG<l.length)/\(24:Nat)<=140737488355328;let bU:=decide (q0 (bM-1)=q0 ((2:Int)*h.g));let eB:=Ob.mk 87 [Fd.c (W.rd D.str L),fI a,Fd.c (W.ptr (1:Nat) bG)];let fu:=aD (List.take (1:Nat) (List.drop bG [l.getD (bG+0) q9]));let cX:=Ob.mk 22 [Fd.c (W.th (bM-1).toNat [List.drop (1:Nat) l])];let eu:=bG+1<=1;let fw:=(bI (32:Int) s);let q6:=(fw.getD i (ByteArray.mk #[]));let q7:=bG+0<l.length;let q8:=(1:Int)<=bM/\bM<=bM;let cS:=(↑fw.length:Int);let fA:=(R1.pure (Cd.t.and (Cd.t.and (Cd.p (q7)))) (nI (l.getD (bG+0) q9)));let q5:=fA.v=fA.v;let q2:=((List.drop (1:Nat) l).length=(bM-1).toNat/\cA)/\q7/\q5/\q7/\q5/\q1/\q1/\q1/\q4/\q4/\q4/\q1/\q1/\q1/\q1/\q4/\q4/\q4/\q4/\q1/\q1/\q1/\q1/\q1/\q1/\q1/\q1/\q1/\q1/\ew h.g s=false/\aB []=A.aL []/\[eB,Ob.mk 60 [fI h.g,fL R,fL S,fI h.aJ,fI h.aQ,fI (q0 (aq+1)),fI h.aI,fI p.ph,fI p.co,fI p.ix,fS 2 0 1,fS 3 0 1,Fd.c W.nil],cX,fu]=[aO L a (W.ptr 1 0),gu h R S p (if (cn s).headD q9=0 then aq+1 else aq) (W.sl 2 0 1 1) (W.sl 3 0 1 1),pN h.g [(cn s).tail],aD [(cn s).headD q9]];let q3:=((List.drop (1:Nat) l).length=(bM-1).toNat/\cA)/\q7/\q5/\q7/\q5/\q1/\q1/\q1/\q4/\q4/\q4/\q1/\q1/\q1/\q1/\q4/\q4/\q4/\q4/\q1/\q1/\q1/\q1/\q1/\q1/\q1/\q1/\q1/\q1/\ew h.g s=false/\aB []=A.aL []/\[eB,Ob.mk 60 [fI h.g,fL R,fL S,fI h.aJ,fI h.aQ,fI aq,fI h.aI,fI p.ph,fI p.co,fI p.ix,fS 2 0 1,fS 3 0 1,Fd.c W.nil],cX,fu]=[aO L a (W.ptr 1 0),gu h R S p (if (cn s).headD q9=0 then aq+1 else aq) (W.sl 2 0 1 1) (W.sl 3 0 1 1),pN h.g [(cn s).tail],aD [(cn s).headD q9]];(decide (bM<cS)=true->(q9<=bM/\bM<cS)/\i<fw.length/\iz.c L a q6/\(iz.b L a q6=true->ew h.g s=true/\aY (11:Int) a=aY (11:Int) a)/\(iz.b L a q6=false->(iz.c L a q6/\iz.b L a q6=false)/\eu/\(bG+i<=l.length/\(i+1)*8<=140737488355328)/\av (Zq (ew h.g s) (aY (11:Int) a)) (ez (ew h.g s) (A.aL []) [aO L a (W.ptr 1 0),gu h R S p (if (cn s).headD q9=0 then aq+1 else aq) (W.sl 2 0 1 1) (W.sl 3 0 1 1),pN h.g [(cn s).tail],aD [(cn s).headD q9]]) [0,1,0,1] (fr [(0,aR 0 0),(4,aS 2 0 (i+1)),(8,aP (W.rd D.str fw)),(9,nI cS),(10,nI (q0 (bM+1)))]) (ai.ofList [Ob.mk 87 [Fd.c (W.rd D.str L),fI (iz.n L a q6),Fd.c (W.ptr 1 0)],Ob.mk 60 [fI h.g,fL R,fL S,fI h.aJ,fI h.aQ,fI aq,fI h.aI,fI p.ph,fI p.co,fI p.ix,Fd.c W.nil,Fd.c W.nil,Fd.c W.nil],aD (List.take i (List.drop bG l)++List.take (1:Nat) (List.drop bG [(dU (af q6)).getD q9]))])))/\(decide (bM<cS)=false->((!bU)=true->ew h.g s=true/\aY (11:Int) a=aY (11:Int) a)/\((!bU)=false->(q9<=0/\q9<bM)/\q7/\(decide (l.getD (bG+0) q9=0)=true->(((q9<=0/\q9<bM)/\q7/\eu/\aW/\(q9<=1/\q8)/\q2)/\(q9<=0/\q9<bM)/\q7/\(q9<=1/\q8)/\eu/\aW/\q2)/\(q9<=1/\q8)/\(q9<=0/\q9<bM)/\q7/\eu/\aW/\q2)/\(decide (l.getD (bG+0) q9=0)=false->(((q9<=0/\q9<bM)/\q7/\eu/\aW/\(q9<=1/\q8)/\q3)/\(q9<=0/\q9<bM)/\q7/\(q9<=1/\q8)/\eu/\aW/\q3)/\(q9<=1/\q8)/\(q9<=0/\q9<bM)/\q7/\eu/\aW/\q3)))) (by kernel_rfl)
   try simp only [sL]
   obtain ⟨x,t,hx,hnl⟩:=NX s
   have sJ:=H.lo
   have tJ:=H.hi
   have hsz:=H.sz
   have hcn:=(kZ 32 hsz).2
   have hll:l.length=i:=by rw [hl,List.length_take];omega
   refine ⟨fun h1=>?_,fun h1=>⟨fun hne=>Ld fun he=>hne (by rw [wrap64 (by omega) (by omega),wrap64 (by omega) (by omega)];omega),fun heq=>?_⟩⟩
   · rw [wrap64 (n := (i : Int) + 1) (by omega) (by omega)]
     have hm:=s5 (L:=bI 32 s) (i:=i) (by omega)
     have hz:iz.c L a ((bI 32 s).getD i ⟨#[]⟩):=(kZ 32 hsz).1 _ hm
     refine ⟨by omega,by omega,hz,fun hb=>Lc (by omega) hb,fun hb=>⟨⟨hz,hb⟩,by omega,?_⟩⟩
     have hb:(dU (af ((bI 32 s).getD i ⟨#[]⟩))).isNone=false:=hb
     cases k with
     | zero=>omega
     | succ k =>
       have e1:l.take i++[(dU (af ((bI 32 s).getD i ⟨#[]⟩))).getD 0]=(cn s).take (i+1):=by
        rw [List.take_of_length_le (by omega),hl,List.take_succ_eq_append_getElem (by omega)]
        unfold cn
        rw [List.getElem_map,List.getD_eq_getElem?_getD,List.getElem?_eq_getElem (by omega)]
        rfl
       exact Le L a h R S p aq hlv s H k (i+1) _ (by omega) (by omega) e1 (fun j hj'=>by
        by_cases hji:j=i
        . rw [hji]
          cases hv:dU (af ((bI 32 s).getD i ⟨#[]⟩)) with
          | none=>rw [hv] at hb;cases hb
          | some _=>rfl
        . exact hj j (by omega))
   . rw [wrap64 (by omega) (by omega),wrap64 (by omega) (by omega)] at heq
     have hrow:ew h.g s=false:=NW (by omega) (fun j hj'=>hj j (by omega))
     have XS:l=x::t:=by rw [hl,List.take_of_length_le (by omega),hx]
     subst XS
     rw [List.length_cons] at hll
     have e1:((i:Int)-1).toNat=(2*h.g).toNat:=by omega
     have e2:IntKind.i64.wrap (aq+1)=aq+1:=wrap64 (by omega) (by omega)
     simp only [hx,e1,e2,List.length_cons,List.getD_cons_zero,List.headD_cons,List.tail_cons,List.drop_succ_cons,List.drop_zero]
     refine ⟨by omega,by omega,fun hz=>?_,fun hz=>?_⟩
     . rw [if_pos hz]
       repeat' apply And.intro
       all_goals first | omega | trivial | exact hrow | rfl
     . rw [if_neg hz]
       repeat' apply And.intro
       all_goals first | omega | trivial | exact hrow | rfl
theorem Lf (L:List ByteArray) (a:Int) (h:Hd) (R S:List (List Int)) (p:Pl) (aq:Int) (hlv:0<=aq/\aq<=1000000) (s:ByteArray) (H:vO h.g s):(ew h.g s=false->bA Tryz.prog 62 2 [pX,ck s] [aO L a (.ptr 1 0),gu h R S p aq .nil .nil] (.aL []) [aO L a (.ptr 1 0),gu h R S p (if (cn s).headD 0=0 then aq+1 else aq) (.sl 2 0 1 1) (.sl 3 0 1 1),pN h.g [(cn s).tail],aD [(cn s).headD 0]])/\(ew h.g s=true->dQ Tryz.prog 62 [pX,ck s] [aO L a (.ptr 1 0),gu h R S p aq .nil .nil] (aY 11 a)):=by
 refine dw (dies:=zF) (aq:=zN) (cE:=[]) (fz:=[]) vN Tryz.func62 (by kernel_rfl) 2 (by kernel_rfl) 100 ?_
 apply of_eq (q:=((1:Nat)=1/\s.size<=900000)/\av (cD Tryz.prog NI zF Tryz.f62 (2:Nat) zN [] [] (ew h.g s) (aY (11:Int) a)) (ez (ew h.g s) (A.aL []) [aO L a (W.ptr 1 0),gu h R S p (if (cn s).headD (0:Int)=0 then aq+1 else aq) (W.sl 2 0 1 1) (W.sl 3 0 1 1),pN h.g [(cn s).tail],aD [(cn s).headD (0:Int)]]) [0,1,0,1] (fr [(0,aR 0 0),(4,aS 2 0 0),(8,aP (W.rd D.str (bI (eU (ByteArray.mk #[(32:UInt8)])) s))),(9,nI (↑(bI (eU (ByteArray.mk #[(32:UInt8)])) s).length:Int)),(10,nI (0))]) (ai.ofList [Ob.mk 87 [Fd.c (W.rd D.str L),fI a,Fd.c (W.ptr 1 0)],Ob.mk 60 [fI h.g,fL R,fL S,fI h.aJ,fI h.aQ,fI aq,fI h.aI,fI p.ph,fI p.co,fI p.ix,Fd.c W.nil,Fd.c W.nil,Fd.c W.nil],aD ([])])) (by kernel_rfl)
 try simp only [sL]
 exact ⟨H.sz,Le L a h R S p aq hlv s H _ 0 [] rfl (by omega) rfl (fun j hj=>by omega)⟩
set_option maxHeartbeats 1000000 in
theorem Lg (L : List ByteArray) (a : Int) (h : Hd) (R S : List (List Int)) (p : Pl) (aq : Int) (hlv : 0 ≤ aq ∧ aq ≤ 1000000) (s : ByteArray) (H : vO h.g s) (ah : List (List Int)) (aj : List Int) (hr : ah.length ≤ 1000000 ∧ aj.length ≤ 1000000) : ∀ (k i : Nat) (l : List Int), k = (bI 32 s).length - i → i ≤ (bI 32 s).length → l = (cn s).take i → (∀ j, j < i → (dU (af ((bI 32 s).getD j ⟨#[]⟩))).isSome = true) →
 av (Zq (ew h.g s) (aY 11 a)) (ez (ew h.g s) (.aL []) [aO L a (.ptr 1 0),gu h R S p (if (cn s).headD 0=ah.length then aq+1 else aq) (.sl 2 0 (ah.length+1) 1) (.sl 3 0 (aj.length+1) 1),pN h.g (ah++[(cn s).tail]),aD (aj++[(cn s).headD 0])]) pRw (fr [(0,pX),(4,gL 2 i),(8,mG (bI 32 s)),(9,nI (bI 32 s).length),(10,nI i)]) (.ofList [aO L a (.ptr 1 0),gu h R S p aq (.sl 3 0 ah.length 1) (.sl 4 0 aj.length 1),aD l,pN h.g ah,aD aj])
 | k,i,l,hk,hi,hl,hj=>by
   refine aX vN (by kernel_rfl) 100 ?_
   apply of_eq (q:=let q0:=IntKind.i64.wrap;let bM:=(0:Int);let cA:=(0:Nat);let bU:=(i:Int);let eB:=aD (List.take aj.length (List.drop cA aj)++List.take (1:Nat) (List.drop cA [l.getD (cA+0) bM]));let fu:=decide (q0 (bU-1)=q0 ((2:Int)*h.g));let cX:=Ob.mk 22 [Fd.c (W.th (bU-1).toNat (ah++[List.drop (1:Nat) l]))];let fw:=(ah.length+1);let eG:=(aj.length+1);let iB:=(ah.length:Int);let fO:=Ob.mk 87 [Fd.c (W.rd D.str L),fI a,Fd.c (W.ptr (1:Nat) cA)];let gM:=aD (aj++[(cn s).headD bM]);let kW:=(Cd.t.and Cd.t);let ju:=cA+1<=1;let jY:=(bI (32:Int) s);let q3:=(R1.pure kW (aR 1 0)).v=(R1.pure kW (aR 1 0)).v;let q4:=(R1.pure kW (aS 3 0 ah.length)).v=(R1.pure kW (aS 3 0 ah.length)).v;let q6:=(R1.pure kW (aS 4 0 aj.length)).v=(R1.pure kW (aS 4 0 aj.length)).v;let q7:=(jY.getD i (ByteArray.mk #[]));let q8:=ah.length=ah.length/\((2:Int)*h.g).toNat=(bU-1).toNat/\(List.drop (1:Nat) l).length=(bU-1).toNat/\(cA<(bU-1).toNat∨cA<l.length)/\fw*24<=140737488355328;let q9:=cA+0<l.length;let aW:=(1:Int)<=bU/\bU<=bU;let bG:=eG*8<=140737488355328;let cS:=cA+aj.length<=aj.length;let fA:=(↑jY.length:Int);let eu:=(R1.pure (Cd.t.and (Cd.t.and (Cd.p (q9)))) (nI (l.getD (cA+0) bM)));let q5:=eu.v=eu.v;let q1:=(cA=0/\q8)/\q9/\q5/\q9/\q5/\q3/\q3/\q3/\q6/\q6/\q6/\q3/\q3/\q3/\q3/\q4/\q4/\q4/\q4/\q3/\q3/\q3/\q3/\q3/\q3/\q3/\q3/\q3/\q3/\ew h.g s=false/\aB []=A.aL []/\[fO,Ob.mk 60 [fI h.g,fL R,fL S,fI h.aJ,fI h.aQ,fI (q0 (aq+1)),fI h.aI,fI p.ph,fI p.co,fI p.ix,fS 2 0 fw,fS 3 0 eG,Fd.c W.nil],cX,eB]=[aO L a (W.ptr 1 0),gu h R S p (if (cn s).headD bM=iB then aq+1 else aq) (W.sl 2 0 fw 1) (W.sl 3 0 eG 1),pN h.g (ah++[(cn s).tail]),gM];let q2:=(cA=0/\q8)/\q9/\q5/\q9/\q5/\q3/\q3/\q3/\q6/\q6/\q6/\q3/\q3/\q3/\q3/\q4/\q4/\q4/\q4/\q3/\q3/\q3/\q3/\q3/\q3/\q3/\q3/\q3/\q3/\ew h.g s=false/\aB []=A.aL []/\[fO,Ob.mk 60 [fI h.g,fL R,fL S,fI h.aJ,fI h.aQ,fI aq,fI h.aI,fI p.ph,fI p.co,fI p.ix,fS 2 0 fw,fS 3 0 eG,Fd.c W.nil],cX,eB]=[aO L a (W.ptr 1 0),gu h R S p (if (cn s).headD bM=iB then aq+1 else aq) (W.sl 2 0 fw 1) (W.sl 3 0 eG 1),pN h.g (ah++[(cn s).tail]),gM];(decide (bU<fA)=true->(bM<=bU/\bU<fA)/\i<jY.length/\iz.c L a q7/\(iz.b L a q7=true->ew h.g s=true/\aY (11:Int) a=aY (11:Int) a)/\(iz.b L a q7=false->(iz.c L a q7/\iz.b L a q7=false)/\ju/\(cA+i<=l.length/\(i+1)*8<=140737488355328)/\av (Zq (ew h.g s) (aY (11:Int) a)) (ez (ew h.g s) (A.aL []) [aO L a (W.ptr 1 0),gu h R S p (if (cn s).headD bM=iB then aq+1 else aq) (W.sl 2 0 fw 1) (W.sl 3 0 eG 1),pN h.g (ah++[(cn s).tail]),gM]) [0,1,0,1] (fr [(0,aR 0 0),(4,aS 2 0 (i+1)),(8,aP (W.rd D.str jY)),(9,nI fA),(10,nI (q0 (bU+1)))]) (ai.ofList [Ob.mk 87 [Fd.c (W.rd D.str L),fI (iz.n L a q7),Fd.c (W.ptr 1 0)],Ob.mk 60 [fI h.g,fL R,fL S,fI h.aJ,fI h.aQ,fI aq,fI h.aI,fI p.ph,fI p.co,fI p.ix,fS 3 0 ah.length,fS 4 0 aj.length,Fd.c W.nil],aD (List.take i (List.drop cA l)++List.take (1:Nat) (List.drop cA [(dU (af q7)).getD bM])),Ob.mk 22 [Fd.c (W.th ((2:Int)*h.g).toNat ah)],aD aj])))/\(decide (bU<fA)=false->((!fu)=true->ew h.g s=true/\aY (11:Int) a=aY (11:Int) a)/\((!fu)=false->(bM<=0/\bM<bU)/\q9/\(decide (l.getD (cA+0) bM=iB)=true->(((bM<=0/\bM<bU)/\q9/\ju/\(cS/\bG)/\(bM<=1/\aW)/\q1)/\(bM<=0/\bM<bU)/\q9/\(bM<=1/\aW)/\ju/\(cS/\bG)/\q1)/\(bM<=1/\aW)/\(bM<=0/\bM<bU)/\q9/\ju/\(cS/\bG)/\q1)/\(decide (l.getD (cA+0) bM=iB)=false->(((bM<=0/\bM<bU)/\q9/\ju/\(cS/\bG)/\(bM<=1/\aW)/\q2)/\(bM<=0/\bM<bU)/\q9/\(bM<=1/\aW)/\ju/\(cS/\bG)/\q2)/\(bM<=1/\aW)/\(bM<=0/\bM<bU)/\q9/\ju/\(cS/\bG)/\q2)))) (by kernel_rfl)
   try simp only [sL]
   obtain ⟨x,t,hx,hnl⟩:=NX s
   have sJ:=H.lo
   have tJ:=H.hi
   have hsz:=H.sz
   have hcn:=(kZ 32 hsz).2
   have hll:l.length=i:=by rw [hl,List.length_take];omega
   refine ⟨fun h1=>?_,fun h1=>⟨fun hne=>Ld fun he=>hne (by rw [wrap64 (by omega) (by omega),wrap64 (by omega) (by omega)];omega),fun heq=>?_⟩⟩
   · rw [wrap64 (n := (i : Int) + 1) (by omega) (by omega)]
     have hm:=s5 (L:=bI 32 s) (i:=i) (by omega)
     have hz:iz.c L a ((bI 32 s).getD i ⟨#[]⟩):=(kZ 32 hsz).1 _ hm
     refine ⟨by omega,by omega,hz,fun hb=>Lc (by omega) hb,fun hb=>⟨⟨hz,hb⟩,by omega,?_⟩⟩
     have hb:(dU (af ((bI 32 s).getD i ⟨#[]⟩))).isNone=false:=hb
     cases k with
     | zero=>omega
     | succ k =>
       have e1:l.take i++[(dU (af ((bI 32 s).getD i ⟨#[]⟩))).getD 0]=(cn s).take (i+1):=by
        rw [List.take_of_length_le (by omega),hl,List.take_succ_eq_append_getElem (by omega)]
        unfold cn
        rw [List.getElem_map,List.getD_eq_getElem?_getD,List.getElem?_eq_getElem (by omega)]
        rfl
       exact Lg L a h R S p aq hlv s H ah aj hr k (i+1) _ (by omega) (by omega) e1 (fun j hj'=>by
        by_cases hji:j=i
        . rw [hji]
          cases hv:dU (af ((bI 32 s).getD i ⟨#[]⟩)) with
          | none=>rw [hv] at hb;cases hb
          | some _=>rfl
        . exact hj j (by omega))
   . rw [wrap64 (by omega) (by omega),wrap64 (by omega) (by omega)] at heq
     have hrow:ew h.g s=false:=NW (by omega) (fun j hj'=>hj j (by omega))
     have XS:l=x::t:=by rw [hl,List.take_of_length_le (by omega),hx]
     subst XS
     rw [List.length_cons] at hll
     have e1:((i:Int)-1).toNat=(2*h.g).toNat:=by omega
     have e2:IntKind.i64.wrap (aq+1)=aq+1:=wrap64 (by omega) (by omega)
     simp only [hx,e1,e2,List.length_cons,List.getD_cons_zero,List.headD_cons,List.tail_cons,List.drop_succ_cons,List.drop_zero]
     refine ⟨by omega,by omega,fun hz=>?_,fun hz=>?_⟩
     . rw [if_pos hz]
       repeat' apply And.intro
       all_goals first | omega | trivial | exact hrow | rfl
     . rw [if_neg hz]
       repeat' apply And.intro
       all_goals first | omega | trivial | exact hrow | rfl
theorem Lh (L:List ByteArray) (a:Int) (h:Hd) (R S:List (List Int)) (p:Pl) (aq:Int) (hlv:0<=aq/\aq<=1000000) (s:ByteArray) (H:vO h.g s) (ah:List (List Int)) (aj:List Int) (hr:ah.length<=1000000/\aj.length<=1000000):(ew h.g s=false->bA Tryz.prog 62 2 [pX,ck s] [aO L a (.ptr 1 0),gu h R S p aq (.sl 2 0 ah.length 1) (.sl 3 0 aj.length 1),pN h.g ah,aD aj] (.aL []) [aO L a (.ptr 1 0),gu h R S p (if (cn s).headD 0=ah.length then aq+1 else aq) (.sl 2 0 (ah.length+1) 1) (.sl 3 0 (aj.length+1) 1),pN h.g (ah++[(cn s).tail]),aD (aj++[(cn s).headD 0])])/\(ew h.g s=true->dQ Tryz.prog 62 [pX,ck s] [aO L a (.ptr 1 0),gu h R S p aq (.sl 2 0 ah.length 1) (.sl 3 0 aj.length 1),pN h.g ah,aD aj] (aY 11 a)):=by
 refine dw (dies:=zF) (aq:=zN) (cE:=[]) (fz:=[]) vN Tryz.func62 (by kernel_rfl) 2 (by kernel_rfl) 100 ?_
 apply of_eq (q:=((1:Nat)=1/\s.size<=900000)/\av (cD Tryz.prog NI zF Tryz.f62 (2:Nat) zN [] [] (ew h.g s) (aY (11:Int) a)) (ez (ew h.g s) (A.aL []) [aO L a (W.ptr 1 0),gu h R S p (if (cn s).headD (0:Int)=(ah.length:Int) then aq+1 else aq) (W.sl 2 0 (ah.length+1) 1) (W.sl 3 0 (aj.length+1) 1),pN h.g (ah++[(cn s).tail]),aD (aj++[(cn s).headD (0:Int)])]) [0,1,0,1] (fr [(0,aR 0 0),(4,aS 2 0 0),(8,aP (W.rd D.str (bI (eU (ByteArray.mk #[(32:UInt8)])) s))),(9,nI (↑(bI (eU (ByteArray.mk #[(32:UInt8)])) s).length:Int)),(10,nI (0))]) (ai.ofList [Ob.mk 87 [Fd.c (W.rd D.str L),fI a,Fd.c (W.ptr 1 0)],Ob.mk 60 [fI h.g,fL R,fL S,fI h.aJ,fI h.aQ,fI aq,fI h.aI,fI p.ph,fI p.co,fI p.ix,fS 3 0 ah.length,fS 4 0 aj.length,Fd.c W.nil],aD ([]),Ob.mk 22 [Fd.c (W.th ((2:Int)*h.g).toNat ah)],aD aj])) (by kernel_rfl)
 try simp only [sL]
 exact ⟨H.sz,Lg L a h R S p aq hlv s H ah aj hr _ 0 [] rfl (by omega) rfl (fun j hj=>by omega)⟩
def Qs:bP:={ cF:=[true,false],ay:=some 2,f:=fun args ak=>match args,ak with
 | [.p (.c (.ptr 0 0)),y],[o1,o2]=>match iL o1,rm o2,fH .str y with
   | some (L,a),some (h,R,S,p,aq,.nil,.nil),some s=>some (.p (((0<=aq/\aq<=1000000)/\vO h.g s)/\ew h.g s=false),.aL [],[aO L a (.ptr 1 0),gu h R S p (zO aq 0 s) (.sl 2 0 1 1) (.sl 3 0 1 1),pN h.g [(cn s).tail],aD [(cn s).headD 0]])
   | _,_,_=>none
 | [.p (.c (.ptr 0 0)),y],[o1,o2,o3,o4]=>match iL o1,rm o2,Qr o3,Ed o4,fH .str y with
   | some (L,a),some (h,R,S,p,aq,.sl 2 0 nr 1,.sl 3 0 np 1),some (k,ah),some aj,some s=>some (.p (((0<=aq/\aq<=1000000)/\vO h.g s/\(ah.length<=1000000/\aj.length<=1000000)/\nr=ah.length/\np=aj.length/\k=(2*h.g).toNat)/\ew h.g s=false),.aL [],[aO L a (.ptr 1 0),gu h R S p (zO aq ah.length s) (.sl 2 0 (ah.length+1) 1) (.sl 3 0 (aj.length+1) 1),pN h.g (ah++[(cn s).tail]),aD (aj++[(cn s).headD 0])])
   | _,_,_,_,_=>none
 | _,_=>none }
def Qt:dK:={ cF:=[true,false],f:=fun args ak=>match args,ak with
 | [.p (.c (.ptr 0 0)),y],[o1,o2]=>match iL o1,rm o2,fH .str y with
   | some (_,a),some (h,_,_,_,aq,.nil,.nil),some s=>some (.p ((0<=aq/\aq<=1000000)/\vO h.g s),some (ew h.g s),aY 11 a)
   | _,_,_=>none
 | [.p (.c (.ptr 0 0)),y],[o1,o2,o3,o4]=>match iL o1,rm o2,Qr o3,Ed o4,fH .str y with
   | some (_,a),some (h,_,_,_,aq,.sl 2 0 nr 1,.sl 3 0 np 1),some (k,ah),some aj,some s=>some (.p ((0<=aq/\aq<=1000000)/\vO h.g s/\(ah.length<=1000000/\aj.length<=1000000)/\nr=ah.length/\np=aj.length/\k=(2*h.g).toNat),some (ew h.g s),aY 11 a)
   | _,_,_,_,_=>none
 | _,_=>none }
theorem XT:aV Tryz.prog 62 Qs:=by
 refine ⟨by kernel_rfl,fun args ak c r bp e hc=>?_⟩
 simp only [Qs] at e
 split at e
 . split at e
   . rename_i h1 h2 h3
     cases e
     rw [d9 h1,oM h2]
     obtain ⟨⟨q1,q2⟩,q3⟩:=hc
     intro base η Z w vs R0 hv hK
     match vs,hv with
     | [u,t],⟨a1,a3,_⟩=>exact (Lf _ _ _ _ _ _ _ q1 _ q2).1 q3 base η Z w _ R0 ⟨a1,cg h3 a3,trivial⟩ hK
   . cases e
 . split at e
   . rename_i h1 h2 h3 h4 h5
     cases e
     obtain ⟨⟨q1,q2,q3,rfl,rfl,rfl⟩,q4⟩:=hc
     rw [d9 h1,oM h2,NV h3,G5 h4]
     intro base η Z w vs R0 hv hK
     match vs,hv with
     | [u,t],⟨a1,a3,_⟩=>exact (Lh _ _ _ _ _ _ _ q1 _ q2 _ _ q3).1 q4 base η Z w _ R0 ⟨a1,cg h5 a3,trivial⟩ hK
   . cases e
 . cases e
theorem XU:cZ Tryz.prog 62 Qt:=by
 refine ⟨by kernel_rfl,fun args ak c b u e hc hb=>?_⟩
 simp only [Qt] at e
 split at e
 . split at e
   . rename_i h1 h2 h3
     cases e
     rw [d9 h1,oM h2]
     intro base η Z w vs R0 hv hK
     match vs,hv with
     | [u,t],⟨a1,a3,_⟩=>exact (Lf _ _ _ _ _ _ _ hc.1 _ hc.2).2 (rW hb) base η Z w _ R0 ⟨a1,cg h3 a3,trivial⟩ hK
   . cases e
 . split at e
   . rename_i h1 h2 h3 h4 h5
     cases e
     obtain ⟨q1,q2,q3,rfl,rfl,rfl⟩:=hc
     rw [d9 h1,oM h2,NV h3,G5 h4]
     intro base η Z w vs R0 hv hK
     match vs,hv with
     | [u,t],⟨a1,a3,_⟩=>exact (Lh _ _ _ _ _ _ _ q1 _ q2 _ _ q3).2 (rW hb) base η Z w _ R0 ⟨a1,cg h5 a3,trivial⟩ hK
   . cases e
 . cases e
def rM (g:Int):List ByteArray->Option (List ByteArray)
 | []=>some []
 | l::ls=>if pfx (cO++pV) l=true then (if ew g (mP (cO++pV) l)=true then none else (rM g ls).map (mP (cO++pV) l::·)) else some []
def Qu (g:Int):List ByteArray->Nat
 | []=>0
 | l::ls=>if pfx (cO++pV) l=true then (if ew g (mP (cO++pV) l)=true then 0 else Qu g ls+1) else 0
def mR (b:Bool) (e n:Nat) (lv:Int) (RW:List (List Int)) (PR:List Int) (g:Int) (i:Nat) (aq:Int) (ah:List (List Int)) (aj:List Int) (ls:List ByteArray):Prop:=match rM g ls with
 | none=>b=true/\e=i+Qu g ls
 | some ts=>b=false/\lv=lvF aq ah.length ts/\RW=ah++tlF ts/\PR=aj++hdF ts/\n=i+ts.length
theorem G6 {b:Bool} {e n:Nat} {lv:Int} {RW:List (List Int)} {PR:List Int} {g:Int} {L:List ByteArray} {i:Nat} {aq:Int} {ah:List (List Int)} {aj:List Int} (hi:i<=L.length) (h:gS L i cO=true) (H:mR b e n lv RW PR g i aq ah aj (L.drop i)):i<L.length/\(ew g (cT L i cO)=true->b=true/\e=i)/\(ew g (cT L i cO)=false->mR b e n lv RW PR g (i+1) (zO aq ah.length (cT L i cO)) (ah++[(cn (cT L i cO)).tail]) (aj++[(cn (cT L i cO)).headD 0]) (L.drop (i+1))):=by
 obtain ⟨h0,h1⟩:=zH (L:=L) (i:=i) (tag:=cO) hi
 rcases Nat.lt_or_ge i L.length with hl | hl
 . obtain ⟨e1,e2,e3⟩:=h1 hl
   have e4:pfx (cO++pV) (L.getD i ⟨#[]⟩)=true:=by rw [<-e1];exact h
   refine ⟨hl,fun hf=>?_,fun hf=>?_⟩
   . rw [e2] at hf
     unfold mR at H
     rw [e3,rM,if_pos e4,if_pos hf] at H
     rw [Qu,if_pos e4,if_pos hf] at H
     exact H
   . rw [e2] at hf ⊢
     unfold mR at H ⊢
     have hf':¬ ew g (mP (cO++pV) (L.getD i ⟨#[]⟩))=true:=by rw [hf];decide
     rw [e3,rM,if_pos e4,if_neg hf'] at H
     rw [Qu,if_pos e4,if_neg hf'] at H
     rw [List.length_append,List.length_singleton]
     cases hw:rM g (L.drop (i+1)) with
     | none =>
       rw [hw] at H
       exact ⟨H.1,by have:=H.2;omega⟩
     | some ts =>
       rw [hw] at H
       obtain ⟨a1,a2,a3,a4,a5⟩:=H
       refine ⟨a1,a2,by rw [a3];simp [tlF],by rw [a4];simp [hdF],?_⟩
       rw [List.length_cons] at a5
       omega
 . rw [(h0 (by omega)).1] at h;cases h
theorem G7 {b:Bool} {e n:Nat} {lv:Int} {RW:List (List Int)} {PR:List Int} {g:Int} {L:List ByteArray} {i:Nat} {aq:Int} {ah:List (List Int)} {aj:List Int} (hi:i<=L.length) (h:gS L i cO=false) (H:mR b e n lv RW PR g i aq ah aj (L.drop i)):b=false/\lv=aq/\RW=ah/\PR=aj/\n=i:=by
 obtain ⟨h0,h1⟩:=zH (L:=L) (i:=i) (tag:=cO) hi
 unfold mR at H
 have hw:rM g (L.drop i)=some []:=by
  rcases Nat.lt_or_ge i L.length with hl | hl
  . obtain ⟨e1,e2,e3⟩:=h1 hl
    rw [e3,rM,if_neg (by rw [<-e1,h];decide)]
  . rw [(h0 (by omega)).2]
    rfl
 rw [hw] at H
 simpa [tlF,hdF,lvF] using H
noncomputable def Lj:bS:=[(63,dD.con),(62,Qs)]
theorem zP:bt Tryz.prog Lj:=ar xw.1 (ar XT aC)
def Ll:List { x:FuncId×dK // cZ Tryz.prog x.1 x.2 }:=[⟨(62,Qt),XU⟩]
noncomputable def H7 (b:Bool) (u:Value):bD:=cD Tryz.prog Lj Ll Tryz.f37 2 Fh [] [] b u
abbrev qB (h:Hd) (R S:List (List Int)) (p:Pl) (lv:Int) (RW:List (List Int)) (PR:List Int):List Ob:=match RW with
 | []=>[gu h R S p lv .nil .nil]
 | r::rs=>XR h R S p lv (r::rs) PR
theorem Ln (L:List ByteArray) (hL:L.length<=900000/\mQ L) (h:Hd) (hg:-1<=h.g/\h.g<=10000000000) (R S:List (List Int)) (p:Pl) (b:Bool) (e n:Nat) (lv:Int) (RW:List (List Int)) (PR:List Int):∀ (k i:Nat) (aq:Int) (ah:List (List Int)) (aj:List Int),k=L.length-i->i<=L.length->ah≠[]->ah.length=aj.length->ah.length<=i->(0<=aq/\aq<=ah.length)->mR b e n lv RW PR h.g i aq ah aj (L.drop i)->
 av (H7 b (aY 11 e)) (ez b (.aL []) (aO L n (.ptr 1 0)::qB h R S p lv RW PR)) XQ (fr [(0,pX),(1,ck cO),(4,.p (.c (.fB 62 0 0))),(5,ck (cT L i cO)),(6,bB (gS L i cO))]) (.ofList (aO L i (.ptr 1 0)::XR h R S p aq ah aj))
 | k, i, aq, ah, aj, hk, hi, hne, MU, hri, hlv, H => by
   refine aX zP (by kernel_rfl) 100 ?_
   apply of_eq (q:=let q2:=(cT L (i:Int) cO);let q3:=(IntKind.i64.wrap ((i:Int)+1));let q1:=vO h.g q2/\(ah.length<=1000000/\aj.length<=1000000)/\ah.length=ah.length/\aj.length=aj.length/\((2:Int)*h.g).toNat=((2:Int)*h.g).toNat;(gS L (i:Int) cO=true->(((0:Int)<=aq/\aq<=1000000)/\q1)/\(ew h.g q2=true->b=true/\aY (11:Int) (i:Int)=aY (11:Int) (e:Int))/\(ew h.g q2=false->((((0:Int)<=aq/\aq<=1000000)/\q1)/\ew h.g q2=false)/\(dD.c L q3 cO/\dD.b L q3 cO=false)/\av (H7 b (aY (11:Int) (e:Int))) (ez b (A.aL []) (aO L (n:Int) (W.ptr 1 0)::qB h R S p lv RW PR)) [0,1,1] (fr [(0,aR 0 0),(1,aP (W.str cO)),(4,aP (W.fB (62:Nat) (0:Nat) (0:Nat))),(5,aP (W.str (cT L q3 cO))),(6,bB (gS L q3 cO))]) (ai.ofList [Ob.mk 87 [Fd.c (W.rd D.str L),fI (dD.n L q3 cO),Fd.c (W.ptr 1 0)],Ob.mk 60 [fI h.g,fL R,fL S,fI h.aJ,fI h.aQ,fI (zO aq ah.length q2),fI h.aI,fI p.ph,fI p.co,fI p.ix,fS 2 0 (ah.length+1),fS 3 0 (aj.length+1),Fd.c W.nil],Ob.mk 22 [Fd.c (W.th ((2:Int)*h.g).toNat (ah++[(cn q2).tail]))],aD (aj++[(cn q2).headD (0:Int)])])))/\(gS L (i:Int) cO=false->b=false/\aB []=A.aL []/\[Ob.mk 87 [Fd.c (W.rd D.str L),fI (i:Int),Fd.c (W.ptr (1:Nat) (0:Nat))],Ob.mk 60 [fI h.g,fL R,fL S,fI h.aJ,fI h.aQ,fI aq,fI h.aI,fI p.ph,fI p.co,fI p.ix,fS 2 0 ah.length,fS 3 0 aj.length,Fd.c W.nil],Ob.mk 22 [Fd.c (W.th ((2:Int)*h.g).toNat ah)],aD aj]=aO L (n:Int) (W.ptr 1 0)::qB h R S p lv RW PR)) (by kernel_rfl)
   try simp only [sL]
   refine ⟨fun h1=>?_,fun h1=>?_⟩
   . obtain ⟨q1,q2,q3⟩:=G6 hi h1 H
     have hz:vO h.g (cT L i cO):=⟨nD (tag:=cO) q1 hL.2,hg.1,hg.2⟩
     refine ⟨⟨by omega,hz,by omega,by omega⟩,fun h2=>?_,fun h2=>⟨⟨⟨by omega,hz,by omega,by omega⟩,h2⟩,⟨⟨by rw [wrap64 (by omega) (by omega)];omega,by decide⟩,rfl⟩,?_⟩⟩
     . obtain ⟨a,rfl⟩:=q2 h2
       exact ⟨a,rfl⟩
     . rw [wrap64 (n:=(i:Int)+1) (by omega) (by omega)]
       cases k with
       | zero=>omega
       | succ k =>
         have:=Ln L hL h hg R S p b e n lv RW PR k (i+1) (zO aq ah.length (cT L i cO)) (ah++[(cn (cT L i cO)).tail]) (aj++[(cn (cT L i cO)).headD 0]) (by omega) (by omega) (by simp) (by simp;omega) (by simp;omega) (by rw [List.length_append,List.length_singleton];exact UL hlv) (q3 h2)
         have e1:∀ s:ByteArray,(ah++[(cn s).tail]).length=ah.length+1:=fun s=>by simp
         have e2:∀ s:ByteArray,(aj++[(cn s).headD 0]).length=aj.length+1:=fun s=>by simp
         unfold XR at this
         rw [e1,e2] at this
         exact this
   . obtain ⟨rfl,rfl,rfl,rfl,rfl⟩:=G7 hi h1 H
     cases RW with
     | nil=>exact absurd rfl hne
     | cons r rs=>exact ⟨rfl,rfl,rfl⟩
theorem XV (L:List ByteArray) (hL:L.length<=900000/\mQ L) (h:Hd) (hg:-1<=h.g/\h.g<=10000000000) (R S:List (List Int)) (p:Pl) (b:Bool) (e n:Nat) (lv:Int) (RW:List (List Int)) (PR:List Int) (i:Nat) (hi:i<=L.length) (H:mR b e n lv RW PR h.g i 0 [] [] (L.drop i)) :
 av (H7 b (aY 11 e)) (ez b (.aL []) (aO L n (.ptr 1 0)::qB h R S p lv RW PR)) XQ (fr [(0,pX),(1,ck cO),(4,.p (.c (.fB 62 0 0))),(5,ck (cT L i cO)),(6,bB (gS L i cO))]) (.ofList [aO L i (.ptr 1 0),gu h R S p 0 .nil .nil]):=by
 refine aX zP (by kernel_rfl) 100 ?_
 apply of_eq (q:=let q1:=(cT L (i:Int) cO);let q2:=(IntKind.i64.wrap ((i:Int)+1));(gS L (i:Int) cO=true->(((0:Int)<=0/\(0:Int)<=1000000)/\vO h.g q1)/\(ew h.g q1=true->b=true/\aY (11:Int) (i:Int)=aY (11:Int) (e:Int))/\(ew h.g q1=false->((((0:Int)<=0/\(0:Int)<=1000000)/\vO h.g q1)/\ew h.g q1=false)/\(dD.c L q2 cO/\dD.b L q2 cO=false)/\av (H7 b (aY (11:Int) (e:Int))) (ez b (A.aL []) (aO L (n:Int) (W.ptr 1 0)::qB h R S p lv RW PR)) [0,1,1] (fr [(0,aR 0 0),(1,aP (W.str cO)),(4,aP (W.fB (62:Nat) (0:Nat) (0:Nat))),(5,aP (W.str (cT L q2 cO))),(6,bB (gS L q2 cO))]) (ai.ofList [Ob.mk 87 [Fd.c (W.rd D.str L),fI (dD.n L q2 cO),Fd.c (W.ptr 1 0)],Ob.mk 60 [fI h.g,fL R,fL S,fI h.aJ,fI h.aQ,fI (zO (0:Int) (0:Nat) q1),fI h.aI,fI p.ph,fI p.co,fI p.ix,fS 2 0 1,fS 3 0 1,Fd.c W.nil],Ob.mk 22 [Fd.c (W.th ((2:Int)*h.g).toNat [(cn q1).tail])],aD ([(cn q1).headD (0:Int)])])))/\(gS L (i:Int) cO=false->b=false/\aB []=A.aL []/\[Ob.mk 87 [Fd.c (W.rd D.str L),fI (i:Int),Fd.c (W.ptr (1:Nat) (0:Nat))],Ob.mk 60 [fI h.g,fL R,fL S,fI h.aJ,fI h.aQ,fI (0),fI h.aI,fI p.ph,fI p.co,fI p.ix,Fd.c W.nil,Fd.c W.nil,Fd.c W.nil]]=aO L (n:Int) (W.ptr 1 0)::qB h R S p lv RW PR)) (by kernel_rfl)
 try simp only [sL]
 refine ⟨fun h1=>?_,fun h1=>?_⟩
 . obtain ⟨q1,q2,q3⟩:=G6 hi h1 H
   have hz:vO h.g (cT L i cO):=⟨nD (tag:=cO) q1 hL.2,hg.1,hg.2⟩
   refine ⟨⟨by omega,hz⟩,fun h2=>?_,fun h2=>⟨⟨⟨by omega,hz⟩,h2⟩,⟨⟨by rw [wrap64 (by omega) (by omega)];omega,by decide⟩,rfl⟩,?_⟩⟩
   . obtain ⟨a,rfl⟩:=q2 h2
     exact ⟨a,rfl⟩
   . rw [wrap64 (n:=(i:Int)+1) (by omega) (by omega)]
     exact Ln L hL h hg R S p b e n lv RW PR _ (i+1) (zO 0 0 (cT L i cO)) [(cn (cT L i cO)).tail] [(cn (cT L i cO)).headD 0] rfl (by omega) (by simp) rfl (by simp) (UL (n:=0) ⟨by omega,by omega⟩) (q3 h2)
 . obtain ⟨rfl,rfl,rfl,rfl,rfl⟩:=G7 hi h1 H
   exact ⟨rfl,rfl,rfl⟩
theorem UM (L:List ByteArray) (hL:L.length<=900000/\mQ L) (h:Hd) (hg:-1<=h.g/\h.g<=10000000000) (R S:List (List Int)) (p:Pl) (b:Bool) (e n:Nat) (lv:Int) (RW:List (List Int)) (PR:List Int) (i:Nat) (hi:i<=L.length) (H:mR b e n lv RW PR h.g i 0 [] [] (L.drop i)):(b=false->bA Tryz.prog 37 2 [pX,ck cO] [aO L i (.ptr 1 0),gu h R S p 0 .nil .nil] (.aL []) (aO L n (.ptr 1 0)::qB h R S p lv RW PR))/\(b=true->dQ Tryz.prog 37 [pX,ck cO] [aO L i (.ptr 1 0),gu h R S p 0 .nil .nil] (aY 11 e)):=by
 refine dw (dies:=Ll) (aq:=Fh) (cE:=[]) (fz:=[]) zP Tryz.func37 (by kernel_rfl) 2 (by kernel_rfl) 100 ?_
 apply of_eq (q:=(dD.c L (i:Int) cO/\dD.b L (i:Int) cO=false)/\av (cD Tryz.prog Lj Ll Tryz.f37 (2:Nat) Fh [] [] b (aY (11:Int) (e:Int))) (ez b (A.aL []) (aO L (n:Int) (W.ptr 1 0)::qB h R S p lv RW PR)) [0,1,1] (fr [(0,aR 0 0),(1,aP (W.str cO)),(4,aP (W.fB (62:Nat) (0:Nat) (0:Nat))),(5,aP (W.str (cT L (i:Int) cO))),(6,bB (gS L (i:Int) cO))]) (ai.ofList [Ob.mk 87 [Fd.c (W.rd D.str L),fI (dD.n L (i:Int) cO),Fd.c (W.ptr 1 0)],Ob.mk 60 [fI h.g,fL R,fL S,fI h.aJ,fI h.aQ,fI (0),fI h.aI,fI p.ph,fI p.co,fI p.ix,Fd.c W.nil,Fd.c W.nil,Fd.c W.nil]])) (by kernel_rfl)
 try simp only [sL,Int.reduceEq,Int.reduceNe,Nat.reduceAdd]
 exact ⟨⟨⟨by omega,by decide⟩,rfl⟩,XV L hL h hg R S p b e n lv RW PR i hi H⟩
theorem deadT (L:List ByteArray) (n:Nat) (h:Hd) (R S:List (List Int)) (p:Pl) (lv:Int) (RW:List (List Int)) (PR:List Int):∀ base η Z w,St base η Z (.ofList (aO L n (.ptr 1 0)::qB h R S p lv RW PR)) w->∃ aE Z',fF 2 base η Z (.ofList (aO L n (.ptr 1 0)::qB h R S p lv RW PR)) w aE Z' (.ofList [aO L n (.ptr 1 0),gu h R S p lv .ct .ct]) w:=by
 intro base η Z w R0
 have key:∀ (x y:W) (bn:List Ob),(∀ k,x≠.int .u8 k)->(∀ k,x≠.kM k)->(∀ k,y≠.int .u8 k)->(∀ k,y≠.kM k)->St base η Z (.ofList (aO L n (.ptr 1 0)::gu h R S p lv x y::bn)) w->∃ aE Z',fF 2 base η Z (.ofList (aO L n (.ptr 1 0)::gu h R S p lv x y::bn)) w aE Z' (.ofList [aO L n (.ptr 1 0),gu h R S p lv .ct .ct]) w:=by
  intro x y bn hx1 hx2 hy1 hy2 R1
  have m1:=R1.zf (n:=1) (o:=gu h R S p lv x y) (pre:=[.c (.int .i64 h.g),.c (.rd (.sl (.int .i64)) R),.c (.rd (.sl (.int .i64)) S),.c (.int .i64 h.aJ),.c (.int .i64 h.aQ),.c (.int .i64 lv),.c (.int .i64 h.aI),.c (.int .i64 p.ph),.c (.int .i64 p.co),.c (.int .i64 p.ix)]) (post:=[.c y,.c .nil]) (x:=x) (y:=.ct) rfl rfl (ku _ _ _ _) (ku _ _ _ _) hx1 hx2 (fun _ _ _ _ _ _ _ _=>trivial)
  have m2:=m1.st.zf (n:=1) (o:=gu h R S p lv .ct y) (pre:=[.c (.int .i64 h.g),.c (.rd (.sl (.int .i64)) R),.c (.rd (.sl (.int .i64)) S),.c (.int .i64 h.aJ),.c (.int .i64 h.aQ),.c (.int .i64 lv),.c (.int .i64 h.aI),.c (.int .i64 p.ph),.c (.int .i64 p.co),.c (.int .i64 p.ix),.c .ct]) (post:=[.c .nil]) (x:=y) (y:=.ct) rfl rfl (ku _ _ _ _) (ku _ _ _ _) hy1 hy2 (fun _ _ _ _ _ _ _ _=>trivial)
  exact ⟨_,Z,(m1.trans m2).zh (rs:=[0,1]) (by decide) rfl rfl (fun n hn=>by match n,hn with | 0,_=>rfl | 1,_=>rfl) rfl⟩
 match RW,R0 with
 | [],R0=>exact key .nil .nil [] (fun _ h=>by cases h) (fun _ h=>by cases h) (fun _ h=>by cases h) (fun _ h=>by cases h) R0
 | r::rs,R0=>exact key (.sl 2 0 (r::rs).length 1) (.sl 3 0 PR.length 1) [pN h.g (r::rs),aD PR] (fun _ h=>by cases h) (fun _ h=>by cases h) (fun _ h=>by cases h) (fun _ h=>by cases h) R0
theorem Ee (L:List ByteArray) (a:Int) (h:Hd) (R S:List (List Int)) (p:Pl) (b:Bool) (e n:Nat) (lv:Int) (RW:List (List Int)) (PR:List Int) (hc:(0<=a/\a<=L.length)/\(L.length<=900000/\mQ L)/\(-1<=h.g/\h.g<=10000000000)/\mR b e n lv RW PR h.g a.toNat 0 [] [] (L.drop a.toNat)):(b=false->bA Tryz.prog 37 2 [pX,ck cO] [aO L a (.ptr 1 0),gu h R S p 0 .nil .nil] (.aL []) [aO L n (.ptr 1 0),gu h R S p lv .ct .ct])/\(b=true->dQ Tryz.prog 37 [pX,ck cO] [aO L a (.ptr 1 0),gu h R S p 0 .nil .nil] (aY 11 e)):=by
 obtain ⟨⟨q0,q1⟩,q2,q3,q4⟩:=hc
 have ha:(a.toNat:Int)=a:=by omega
 obtain ⟨k1,k2⟩:=UM L q2 h q3 R S p b e n lv RW PR a.toNat (by omega) q4
 rw [ha] at k1 k2
 refine ⟨fun hb=>?_,k2⟩
 exact (k1 hb).post 2 (Nat.le_refl _) (fun η aE Z Z' u _ _ ⟨us,hu,hl⟩=>⟨us,hu,(by cases us with | nil=>trivial | cons _ _=>exact hl.elim)⟩) (deadT L n h R S p lv RW PR)
theorem Qw (r:Rn) (a:Nat) (h:a<r.aj.length):bA Tryz.prog 39 4 [pR,nI a] (obs r) (bB (decide (r.aj.getD a 0=a))) (obs r):=by
 refine di (aq:=[]) (cE:=[]) (fz:=[]) aC Tryz.func39 (by kernel_rfl) 4 (by kernel_rfl) 100 ?_
 apply of_eq (q:=((0:Int)<=(a:Int)/\(a:Int)<(r.aj.length:Int))/\(0:Nat)+a<r.aj.length/\aB [vB (decide (r.aj.getD ((0:Nat)+a) (0:Int)=(a:Int)))]=bB (decide (r.aj.getD a (0:Int)=(a:Int)))/\[bW r (1:Nat) (2:Nat) (3:Nat),bJ r,aD r.aj,aD r.dl]=obs r) (by kernel_rfl)
 try simp only [sL]
 exact ⟨by omega,h,rfl⟩
def Fj:bP:={ cF:=[true,false],f:=fun args ak=>match args with
 | [.p (.c (.ptr 0 0)),.p (.c (.int .i64 x))]=>match GJ ak with
   | some (c,r)=>some (.p (c/\0<=x/\x.toNat<r.aj.length),bB (decide (r.aj.getD x.toNat 0=x.toNat)),obs r)
   | none=>none
 | _=>none }
theorem Qx:aV Tryz.prog 39 Fj:=by
 refine ⟨by kernel_rfl,fun args ak c r bp e hc=>?_⟩
 simp only [Fj] at e
 split at e
 . rename_i x
   split at e
   . rename_i c1 r1 hr
     cases e
     obtain ⟨h1,h2,h3⟩:=hc
     have:=Qw _ _ h3
     rw [<-mJ h2] at this ⊢
     rw [sX hr h1]
     exact this
   . cases e
 . cases e
end Go.Proofs.YtmajgbnpplgaoaaGreatDoor
namespace Go.ax
open Go.RowKit
theorem bA.pre {P:Program} {f:FuncId} {k:Nat} {args:List A} {bL gY bp:List Ob} {r:A} (j:Nat) (H:bA P f k args gY r bp) (hj:k<=j)
 (ha:∀ (η aE:Eta) Z Z' vs,(∀ n p,n<j->η n=some p->aE n=some p)->Z.le Z'->aT (cr η Z) args vs->aT (cr aE Z') args vs)
 (hp:∀ base η Z w,St base η Z (.ofList bL) w->∃ aE Z',fF j base η Z (.ofList bL) w aE Z' (.ofList gY) w):bA P f k args bL r bp:=by
 intro base η Z w vs R hvs hK
 obtain ⟨dO,Z1,mv⟩:=hp base η Z w R
 refine (H base dO Z1 w vs mv.st (ha η dO Z Z1 vs mv.le mv.step.cJ hvs) (hK.mono mv.step.cJ)).mono ?_
 rintro e w' ⟨u,aE,Z',rfl,gF,hu⟩
 exact ⟨u,aE,Z',rfl,fF.trans (k:=k) ⟨fun n p hn=>mv.le n p (Nat.lt_of_lt_of_le hn hj),mv.st,mv.step⟩ gF (Nat.le_refl _),hu⟩
theorem Lp {k base:Nat} {η aE:Eta} {Z Z':aA} {S':ai} {w w':World} (mv:fF k base η Z (.ofList []) w aE Z' S' w'):Below w.heap.size w w':=by
 have hno:∀ b,¬ Own η (.ofList []) b:=by
  rintro b ⟨n,o,p,h,_⟩
  rw [ai.aU] at h
  simp at h
 exact ⟨mv.step.os,mv.step.tape,mv.step.output,mv.step.size,fun b hb=>mv.step.block b hb (hno b)⟩
end Go.ax
namespace Go.Proofs.YtmajgbnpplgaoaaGreatDoor
open Go.ax Go.Words Go.cU
set_option maxRecDepth 100000
noncomputable def sLt:bD:=bN Tryz.prog [] Tryz.f33 0 [] [] []
noncomputable def restLt:Code:=match ol sLt.bQ with | some (_,_,r)=>r | none=>.skip
theorem XW:Dg Tryz.prog 33 2 (fun _ _=>none):=by
 refine ⟨by kernel_rfl,fun base η Z w vs R0 hK hl hv=>?_,fun u ak c bp e=>(by cases e)⟩
 match vs,hl with
 | [v1,v2],_ =>
   refine CallsDIn.mono (sR (s:=sLt) (n:=100) (bn:=restLt) (d1:=5) (d2:=2) aC rfl Tryz.func33 (by kernel_rfl) (by kernel_rfl) (by kernel_rfl) (by kernel_rfl) (by kernel_rfl) (args:=[.p (.c (.val v1)),.p (.c (.val v2))]) (by kernel_rfl) (m:=.returning) (m':=.returning) (x:=.dM) (v:=.nilIface) (fun η Z=>by first | rfl | trivial | exact ⟨rfl,rfl⟩) (by intro h;cases h) (fun c0 cs=>⟨rfl,rfl⟩) (Qv:=fun _ _=>True) ?_ R0 ⟨⟨(by intro h;cases h),rfl,hv v1 (by simp)⟩,⟨(by intro h;cases h),rfl,hv v2 (by simp)⟩,trivial⟩ hK) ?_
   . skip
     apply of_eq (q:=(false=true->False)/\(false=false->((!true)=true->False)/\((!true)=false->True))) (by kernel_rfl)
     try simp only [sL]
     trivial
   . rintro e md w' ⟨h1,h2,aE,Z',r,bp,mv,_⟩
     exact ⟨h1,h2,Lp mv⟩
end Go.Proofs.YtmajgbnpplgaoaaGreatDoor
namespace Go.Proofs.YtmajgbnpplgaoaaGreatDoor
open Go.ax Go.Words Go.cU
set_option maxRecDepth 100000
noncomputable def sLu:bD:=bN Tryz.prog [] Tryz.f33 2 [] [] []
noncomputable def restLu:Code:=match ol sLu.bQ with | some (_,_,r)=>r | none=>.skip
abbrev s8 (e i:Int):List Ob:=[⟨28,[.c .bY]⟩,⟨39,[.c (.int .i64 e),.c (.int .i64 i)]⟩]
def XY (u:Value) (ak:List Ob):Option (Cd×List Ob):=match u,ak with
 | .iface t (.agg ⟨[.int .i64 e,.int .i64 i]⟩),[⟨t0,[.c .bY]⟩,⟨t1,[.c (.int .i64 0),.c (.int .i64 0)]⟩] =>
   bif Nat.beq t 81&&(Nat.beq t0 28&&Nat.beq t1 39) then some (.t,s8 e i) else none
 | _,_=>none
theorem lu_got (e i:Int):∀ base η Z w vs,St base η Z (.ofList (s8 0 0)) w->aT (cr η Z) (Df 2) vs->gT Tryz.prog Z->CallsDIn Fence.wide 0 Tryz.prog 33 vs.toArray (.panicking [{ v:=aY e i,recovered:=false }]) w fun ex md w'=>(∃ v,ex=.returned v)/\md=.panicking [{ v:=aY e i,recovered:=true }]/\∃ aE Z',fF 2 base η Z (.ofList (s8 0 0)) w aE Z' (.ofList (s8 e i)) w':=by
 intro base η Z w vs R hvs hK
 refine CallsDIn.mono (sR (s:=sLu) (n:=100) (bn:=restLu) (d1:=5) (d2:=2) aC rfl Tryz.func33 (by kernel_rfl) (by kernel_rfl) (by kernel_rfl) (by kernel_rfl) (by kernel_rfl) (args:=[.p (.c (.ptr 0 0)),.p (.c (.ptr 1 0))]) (by kernel_rfl) (m:=.panicking [{ v:=aY e i,recovered:=false }]) (m':=.panicking [{ v:=aY e i,recovered:=true }]) (x:=.val (aY e i)) (v:=aY e i) (fun η Z=>by first | rfl | trivial | exact ⟨rfl,rfl⟩) (by intro h;cases h) (fun c0 cs=>by first | exact ⟨rfl,rfl⟩ | done) (Qv:=fun _ o=>o=s8 e i) ?_ R hvs hK) ?_
 . skip
   apply of_eq (q:=let q1:=(A.p (V.agg (List.take (2:Nat) (List.drop (0:Nat) (Ob.mk 81 (fI e::fI i::List.append._f [] PUnit.unit [])).cells))));(true=true->(R1.pure Cd.t q1).v=(R1.pure Cd.t q1).v/\(R1.pure Cd.t q1).v=(R1.pure Cd.t q1).v/\[Ob.mk 28 [Fd.c W.bY],Ob.mk 39 [fI e,fI i]]=s8 e i)/\(true=false->(true=true->False)/\(true=false->[Ob.mk 28 [Fd.c W.bY],Ob.mk 39 [fI (0),fI (0)]]=s8 e i))) (by kernel_rfl)
   try simp only [sL]
   exact fun h=>(by cases h)
 . rintro ex md w' ⟨h1,h2,aE,Z',r,bp,mv,ho⟩
   subst ho
   exact ⟨h1,h2,aE,Z',mv⟩
theorem UN:Dg Tryz.prog 33 2 XY:=by
 refine ⟨by kernel_rfl,fun base η Z w vs R0 hK hl hv=>XW.idle base η Z w vs R0 hK hl hv,fun u ak c bp e hc hl=>?_⟩
 unfold XY at e
 split at e
 . obtain ⟨hb,e1⟩:=au.aH e
   clear e
   simp only [Bool.and_eq_true] at hb
   cases Nat.eq_of_beq_eq_true hb.1
   cases Nat.eq_of_beq_eq_true hb.2.1
   cases Nat.eq_of_beq_eq_true hb.2.2
   cases e1
   exact lu_got _ _
 . cases e
def Ef:ByteArray:=⟨#[103,101,110,115]⟩
def Lq:ByteArray:=⟨#[108,105,109,105,116]⟩
def Eg:ByteArray:=⟨#[109,111,115,116]⟩
def Eh:ByteArray:=⟨#[115,116,97,116,117,115]⟩
def ru:ByteArray:=⟨#[]⟩
def H8:List Ob->Option (List ByteArray×Int×List Ob)
 | o::bn=>match iL o with | some (L,a)=>some (L,a,bn) | none=>none
 | []=>none
theorem qo {ak bn:List Ob} {L:List ByteArray} {a:Int} (e:H8 ak=some (L,a,bn)):ak=aO L a (.ptr 1 0)::bn:=by
 unfold H8 at e
 split at e
 . split at e
   . rename_i h
     cases e
     rw [d9 h]
   . cases e
 . cases e
end Go.Proofs.YtmajgbnpplgaoaaGreatDoor
