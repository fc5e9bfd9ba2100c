/- The reader of checkpoints: numbers, fields. -/
import Derived.Test.YtepmdidomecebaaGreatDoorLoad1
import Derived.Test.YtepmdidomecebaaGreatDoorLoom5
namespace Go.Proofs.YtepmdidomecebaaGreatDoor
open Go.aJ Go.Words Go.cG
set_option maxRecDepth 100000
def eJ (e i:Int):Value:=.iface 100 (.agg #[.int .i64 e,.int .i64 i])
abbrev aI (L:List ByteArray) (a:Int) (x:W):Ob:=⟨106,[.c (.rd .str L),.c (.int .i64 a),.c x]⟩
def noU8:W->Bool
 | .int .u8 _=>false
 | _=>true
def C5:List Ob->Option (List ByteArray×Int×W×List Ob)
 | ⟨t,[.c (.rd .str L),.c (.int .i64 a),.c x]⟩::rest=>bif Nat.beq t 106&&noU8 x then some (L,a,x,rest) else none
 | _=>none
theorem JU {aj rest:List Ob} {L:List ByteArray} {a:Int} {x:W} (e:C5 aj=some (L,a,x,rest)):aj=aI L a x::rest/\∀ n,x≠.int .u8 n:=by
 unfold C5 at e;split at e
 . obtain ⟨hb,e1⟩:=ar.aD e;clear e;simp only [Bool.and_eq_true] at hb;cases Nat.eq_of_beq_eq_true hb.1;cases e1;refine ⟨rfl,fun n h=>?_⟩;rw [h] at hb;cases hb.2
 . cases e
structure rP (d:D) where
 c:List ByteArray->Int->d.ty->Prop
 b:List ByteArray->Int->d.ty->Bool
 r:List ByteArray->Int->d.ty->A
 n:List ByteArray->Int->d.ty->Int
def rP.con {d:D} (M:rP d):bw:={ refs:=[true,false],f:=fun args aj=>match args with
 | [.p (.c (.ptr 0 0)),y]=>match gb d y,C5 aj with
   | some y,some (L,a,x,rest)=>some (.p (M.c L a y/\M.b L a y=false),M.r L a y,aI L (M.n L a y) x::rest)
   | _,_=>none
 | _=>none }
def rP.die {d:D} (M:rP d):ke:={ refs:=[true,false],f:=fun args aj=>match args with
 | [.p (.c (.ptr 0 0)),y]=>match gb d y,C5 aj with
   | some y,some (L,a,_,_)=>some (.p (M.c L a y),some (M.b L a y),eJ 11 a)
   | _,_=>none
 | _=>none }
def A.flat:A->Prop
 | .p (.c x)=>x.clean=true
 | .aF vs=>∀ v∈vs,∃ x,v=.c x/\x.clean=true
 | _=>False
theorem uR {η aB:Eta} {Z:Zeta}:∀ {r:A},A.flat r->∀ {u:Value},bL η Z r u->bL aB Z r u
 | .p (.c x),h,u,hr=>⟨hr.1,pV (Zeta.le.refl _) h hr.2⟩
 | .p (.agg _),h,_,_=>h.elim
 | .aF vs, h, u, ⟨us, hu, hl⟩ => by
   refine ⟨us,hu,?_⟩;replace h:∀ v∈vs,∃ x,v=.c x/\x.clean=true:=h;clear hu
   induction vs generalizing us with
   | nil=>cases us with | nil=>trivial | cons _ _=>exact hl.elim
   | cons v vs ih =>
     cases us with
     | nil=>exact hl.elim
     | cons u us =>
       obtain ⟨x,rfl,hx⟩:=h v (by simp);exact ⟨⟨hl.1.1,pV (Zeta.le.refl _) hx hl.1.2⟩,ih us hl.2 fun v hv=>h v (by simp [hv])⟩
 | .cond _ _,h,_,_=>h.elim
 | .dec _,h,_,_=>h.elim
theorem JV {d:D} {y:d.ty} (η aB:Eta) (Z:Zeta) (vs:List Value) (h0:η 0=aB 0) (h:aN (bL η Z) [.p (.c (.ptr 0 0)),dat d y] vs):aN (bL aB Z) [.p (.c (.ptr 0 0)),dat d y] vs:=by
 match vs,h with
 | [u,v],⟨⟨_,p,hp,hu⟩,⟨hd,hv⟩,_⟩=>exact ⟨⟨by simp,p,by rw [<-h0];exact hp,hu⟩,⟨hd,(D.eW d).2 ((D.eW d).1 hv)⟩,trivial⟩
theorem rP.both {d:D} {M:rP d} {f:FuncId} (he:enters Tryz.prog f=true) (hr:∀ L a y,A.flat (M.r L a y))
 (H:∀ L a y v,M.c L a y->(M.b L a y=false->aX Tryz.prog f 1 [.p (.c (.ptr 0 0)),dat d y] [aI L a (.val v)] (M.r L a y) [aI L (M.n L a y) (.val v)])/\(M.b L a y=true->mA Tryz.prog f [.p (.c (.ptr 0 0)),dat d y] [aI L a (.val v)] (eJ 11 a))) :
 aH Tryz.prog f M.con/\jg Tryz.prog f M.die:=by
 constructor
 . refine ⟨he,fun args aj c r aR e hc=>?_⟩;simp only [rP.con] at e;split at e
   . rename_i y;split at e
     . rename_i y' L a x rest hy ho;cases e;obtain ⟨hc1,hc2⟩:=hc;obtain ⟨rfl,hx⟩:=JU ho;have:=aX.veiled (T:=106) (a:=.rd .str L) (l:=[.int .i64 a]) (a':=.rd .str L) (l':=[.int .i64 (M.n L a y')]) (k:=(aI L a x::rest).length) (x:=x) (rest:=rest) rfl (by intro z hz;rw [List.mem_singleton.1 hz];rfl) rfl (by intro z hz;rw [List.mem_singleton.1 hz];rfl) JV (fun η aB Z u hu=>uR (hr L a y') hu) (fun v=>(H L a y' v hc1).1 hc2) hx;intro base η Z w vs R hvs hK
       match vs,hvs with
       | [u,v],⟨h1,h2,_⟩=>exact this base η Z w [u,v] R ⟨h1,ck hy h2,trivial⟩ hK
     . cases e
   . cases e
 . refine ⟨he,fun args aj c b u e hc hb=>?_⟩;simp only [rP.die] at e;split at e
   . rename_i y;split at e
     . rename_i y' L a x rest hy ho;cases e;obtain ⟨rfl,hx⟩:=JU ho;have:=mA.veiled (T:=106) (a:=.rd .str L) (l:=[.int .i64 a]) (x:=x) rfl (by intro z hz;rw [List.mem_singleton.1 hz];rfl) JV (fun v=>(H L a y' v hc).2 (by cases h:M.b L a y' <;> simp_all)) hx rest;intro base η Z w vs R hvs hK
       match vs,hvs with
       | [u,v],⟨h1,h2,_⟩=>exact this base η Z w [u,v] R ⟨h1,ck hy h2,trivial⟩ hK
     . cases e
   . cases e
abbrev pX:A:=.p (.c (.ptr 0 0))
theorem Wk (o:Ob) (e i:Int):mA Tryz.prog 52 [pX,nI e,nI i] [o] (eJ e i):=by
 refine (A7 (dies:=[]) (live:=[]) (bQ:=[]) (fz:=[]) ay Tryz.func52 (by kernel_rfl) 1 (by kernel_rfl) (b:=true) (r0:=.aF []) (bh:=[]) 100 ?_).2 rfl;apply of_eq (q:=true=true/\Value.iface (100:Nat) (Value.agg #[Value.int .i64 e,Value.int .i64 i])=eJ e i) (by kernel_rfl)
 try simp only [true_and]
 rfl
def Gv:ke:={ refs:=[true,false,false],f:=fun args aj=>match args,aj with
 | [.p (.c (.ptr 0 0)),.p (.c (.int .i64 e)),.p (.c (.int .i64 i))],⟨t,[.c (.rd .str _L),.c (.int .i64 _a),.c x]⟩::_rest=>bif Nat.beq t 106&&noU8 x then some (.t,none,eJ e i) else none
 | _,_=>none }
theorem JW:jg Tryz.prog 52 Gv:=by
 refine ⟨by kernel_rfl,fun args aj c b u e hc hb=>?_⟩;simp only [Gv] at e;split at e
 . rename_i er i t L a x rest;obtain ⟨qW,e1⟩:=ar.aD e;clear e;simp only [Bool.and_eq_true] at qW;cases Nat.eq_of_beq_eq_true qW.1;cases e1;refine mA.veiled (T:=106) (a:=.rd .str L) (l:=[.int .i64 a]) (x:=x) rfl (by intro z hz;rw [List.mem_singleton.1 hz];rfl) (fun η aB Z vs h0 h=>?_) (fun v=>Wk _ er i) (fun n h=>by rw [h] at qW;cases qW.2) rest
   match vs,h with
   | [u,v,w],⟨⟨_,p,hp,hu⟩,h2,h3,_⟩=>exact ⟨⟨by simp,p,by rw [<-h0];exact hp,hu⟩,h2,h3,trivial⟩
 . cases e
def C6:bw:={ refs:=[true,false,false],f:=fun args aj=>match args,aj with
 | [.p (.c (.ptr 0 0)),.p (.c (.int .i64 _)),.p (.c (.int .i64 _))],⟨_,[.c (.rd .str _),.c (.int .i64 _),.c _]⟩::_=>some (.p False,.aF [],aj)
 | _,_=>none }
theorem Br:aH Tryz.prog 52 C6:=by
 refine ⟨by kernel_rfl,fun args aj c r aR e hc=>?_⟩;simp only [C6] at e;split at e
 . cases e;exact hc.elim
 . cases e
noncomputable def gNu:bF:=[(52,C6),(139,Od)]
theorem S5:aS Tryz.prog gNu:=ai Br (ai Iy ay)
def JX:List { x:FuncId×ke // jg Tryz.prog x.1 x.2 }:=[⟨(52,Gv),JW⟩]
abbrev pNu:List Nat:=[0,1,0,1,1,1]
abbrev JY:List (List Nat×List Nat):=[(pNu,[0,1,5,30,31,32])]
noncomputable def sNu (b:Bool) (u:Value):Site:=qP Tryz.prog gNu JX Tryz.f103 1 JY [] [] b u
theorem dgS_ok {s:ByteArray} (h:JE (af s)=true):Iw s:=by
 unfold JE at h;simp only [Bool.and_eq_true,decide_eq_true_eq,List.all_eq_true,aW] at h;exact ⟨h.2,h.1.1,h.1.2.1⟩
theorem Ms (L:List ByteArray) (a:Int) (s:ByteArray) (v:Value) (hs:s.size<=900000) (hm:af s≠[45,49]):∀ (k i:Nat) (g:Bool),k=s.size-i->i<=s.size->(g&&((af s).drop i).all iB)=JE (af s)->
 aq (sNu (fK (af s)).isNone (eJ 11 a)) (qE (fK (af s)).isNone (nI ((fK (af s)).getD 0)) [aI L a (.val v)]) pNu (fr [(0,pX),(1,bW s),(5,bB g),(30,.p (.c (.rd (.int .u8) (af s)))),(31,nI s.size),(32,nI i)]) (.ofList [aI L a (.val v)])
 | k,i,g,hk,hi,hg=>by
   refine aK S5 (by kernel_rfl) 100 ?_;apply of_eq (q:=let q1:=decide ((48:Int)<=(af s).getD i (0:Int));let q2:=(fK (af s));(decide ((i:Int)<(s.size:Int))=true->((0:Int)<=(i:Int)/\(i:Int)<(↑(af s).length:Int))/\i<(af s).length/\(g=true->g=true)/\(g=true->g=true)/\((bif g then q1 else false)=true->(bif g then q1 else false)=true)/\((bif g then q1 else false)=true->(bif g then q1 else false)=true)/\aq (sNu q2.isNone (eJ (11:Int) a)) (qE q2.isNone (nI (q2.getD (0:Int))) [aI L a (W.val v)]) [0,1,0,1,1,1] (fr [(0,A.p (V.c (W.ptr 0 0))),(1,A.p (V.c (W.str s))),(5,bB (bif bif g then q1 else false then decide ((af s).getD i (0:Int)<=(57:Int)) else false)),(30,A.p (V.c (W.rd (D.int .u8) (af s)))),(31,nI (s.size:Int)),(32,nI (IntKind.i64.wrap ((i:Int)+(1:Int))))]) (ah.ofList [Ob.mk 106 [Fd.c (W.rd D.str L),Fd.c (W.int .i64 a),Fd.c (W.val v)]]))/\(decide ((i:Int)<(s.size:Int))=false->((!g)=true->q2.isNone=true/\eJ (11:Int) a=eJ (11:Int) a)/\((!g)=false->Iw s/\q2.isNone=false/\ak [V.c (W.int .i64 (num (af s)))]=nI (q2.getD (0:Int))/\[Ob.mk 106 [Fd.c (W.rd D.str L),Fd.c (W.int .i64 a),Fd.c (W.val v)]]=[aI L a (W.val v)]))) (by kernel_rfl)
   try simp only [imp_self,true_and,and_true,Bool.cond_false_right,Bool.and_eq_true,Bool.not_eq_true',Bool.not_eq_false',decide_eq_true_eq,decide_eq_false_iff_not,Int.not_lt]
   have hl:=aW s;refine ⟨fun h=>⟨by omega,by omega,?_⟩,fun h=>?_⟩
   . rw [wrap64 (n:=(i:Int)+1) (by omega) (by omega)];cases k with
     | zero=>omega
     | succ k =>
       refine Ms L a s v hs hm k (i+1) _ (by omega) (by omega) ?_;rw [iA (l:=af s) (i:=i) (by omega),List.all_cons] at hg;rw [<-hg];unfold iB;cases g <;> simp
   . rw [List.drop_eq_nil_of_le (by omega),List.all_nil,Bool.and_true] at hg;refine ⟨fun h0=>?_,fun h0=>?_⟩
     . rw [h0] at hg;unfold fK;rw [if_neg hm,<-hg];rfl
     . rw [h0] at hg;refine ⟨dgS_ok hg.symm,?_⟩;unfold fK;rw [if_neg hm,if_pos hg.symm];exact ⟨rfl,rfl⟩
theorem Wl (L:List ByteArray) (a:Int) (s:ByteArray) (v:Value) (hs:s.size<=900000):((fK (af s)).isNone=false->aX Tryz.prog 103 1 [pX,bW s] [aI L a (.val v)] (nI ((fK (af s)).getD 0)) [aI L a (.val v)])/\((fK (af s)).isNone=true->mA Tryz.prog 103 [pX,bW s] [aI L a (.val v)] (eJ 11 a)):=by
 refine A7 (dies:=JX) (live:=JY) (bQ:=[]) (fz:=[]) S5 Tryz.func103 (by kernel_rfl) 1 (by kernel_rfl) 100 ?_;apply of_eq (q:=let q1:=decide ((0:Int)<(s.size:Int));let q2:=decide ((s.size:Int)<=(10:Int));let q3:=decide (s=ByteArray.mk #[(48:UInt8)]);let q4:=(fK (af s));let q5:=decide (s=ByteArray.mk #[(45:UInt8),(49:UInt8)]);(q5=true->q4.isNone=false/\ak [V.c (W.int .i64 (-1))]=nI (q4.getD (0:Int))/\[Ob.mk 106 [Fd.c (W.rd D.str L),Fd.c (W.int .i64 a),Fd.c (W.val v)]]=[aI L a (W.val v)])/\(q5=false->(q1=true->q1=true)/\(q1=true->q1=true)/\(q1=true->q1=true)/\((bif q1 then q2 else false)=true->(bif q1 then q2 else false)=true)/\((bif q1 then q2 else false)=true->(bif q1 then q2 else false)=true)/\((bif q1 then q2 else false)=true/\q3=false->(bif q1 then q2 else false)=true/\q3=false)/\((bif q1 then q2 else false)=true/\q3=false->(0:Int)<=(0:Int)/\(0:Int)<(s.size:Int))/\((bif q1 then q2 else false)=true/\q3=false->(bif q1 then q2 else false)=true/\q3=false)/\((bif q1 then q2 else false)=true->(bif q1 then q2 else false)=true)/\((bif q1 then q2 else false)=true->q3=false->(bif q1 then q2 else false)=true/\q3=false)/\((bif q1 then q2 else false)=true->(bif q1 then q2 else false)=true)/\aq (qP Tryz.prog gNu JX Tryz.f103 (1:Nat) JY [] [] q4.isNone (eJ (11:Int) a)) (qE q4.isNone (nI (q4.getD (0:Int))) [aI L a (W.val v)]) [0,1,0,1,1,1] (fr [(0,A.p (V.c (W.ptr 0 0))),(1,A.p (V.c (W.str s))),(5,bB (bif bif q1 then q2 else false then bif q3 then true else !decide (jK s (0:Nat)=(48:Int)) else false)),(30,A.p (V.c (W.rd (D.int .u8) (af s)))),(31,nI (↑(af s).length:Int)),(32,nI (0))]) (ah.ofList [Ob.mk 106 [Fd.c (W.rd D.str L),Fd.c (W.int .i64 a),Fd.c (W.val v)]]))) (by kernel_rfl)
 try simp only [imp_self,true_and,and_true,Bool.cond_true_left,Bool.cond_false_right,Bool.and_eq_true,decide_eq_true_eq,decide_eq_false_iff_not,Int.le_refl]
 have hl:=aW s;refine ⟨fun h=>?_,fun h=>⟨fun h=>by omega,fun h1 h2=>⟨h1,h2⟩,?_⟩⟩
 . have e:af s=[45,49]:=by rw [h];rfl
   rw [e];exact ⟨rfl,rfl⟩
 . have hm:af s≠[45,49]:=fun e=>h (iQ (by rw [e];rfl));rw [hl];refine Ms L a s v hs hm s.size 0 _ rfl (by omega) ?_;rw [List.drop_zero];unfold JE;congr 1;rw [kM,hl];have e48:s=⟨#[48]⟩↔af s=[48]:=⟨fun e=>by rw [e];rfl,fun e=>iQ (by rw [e];rfl)⟩;by_cases h1:af s=[48]
   . have:s.size=1:=by rw [<-hl,h1];rfl
     rw [decide_eq_true (e48.2 h1),this,h1];rfl
   . rw [decide_eq_false (fun e=>h1 (e48.1 e))];rw [Bool.eq_iff_iff];simp only [Bool.and_eq_true,Bool.or_eq_true,decide_eq_true_eq,Bool.not_eq_true',decide_eq_false_iff_not,Bool.false_eq_true,false_or,h1,ne_eq];omega
def je:rP .str:={ c:=fun _ _ s=>(show ByteArray from s).size<=900000,b:=fun _ _ s=>(fK (af s)).isNone,r:=fun _ _ s=>nI ((fK (af s)).getD 0),n:=fun _ a _=>a }
theorem Ed:aH Tryz.prog 103 je.con/\jg Tryz.prog 103 je.die :=
 rP.both (by kernel_rfl) (fun _ _ _=>rfl) fun L a s v h=>Wl L a s v h
def takeN (n:ByteArray) (ws:List ByteArray):Option (List ByteArray):=if n=⟨#[]⟩ then some ws else match ws with
 | []=>none
 | w::r=>if w=n then some r else none
theorem S6 {n:ByteArray} (h:¬ n=⟨#[]⟩):takeN n []=none:=by unfold takeN;rw [if_neg h]
theorem vY {n w:ByteArray} {r:List ByteArray} (h:¬ n=⟨#[]⟩):takeN n (w::r)=if w=n then some r else none:=by unfold takeN;rw [if_neg h]
def jT:List ByteArray->List ByteArray->Option (List Int)
 | [],ws=>if ws=[] then some [] else none
 | n :: ns, ws => match takeN n ws with
   | some (w::r)=>match fK (af w) with
     | some x=>(jT ns r).map (x::·)
     | none=>none
   | _=>none
def fG (L:List ByteArray) (a:Int) (ns:List ByteArray):Option (List Int):=if a=L.length then none else jT ns (bq 32 (L.getD a.toNat ⟨#[]⟩))
noncomputable def gFl:bF:=[(52,C6),(103,je.con),(51,JT)]
theorem S7:aS Tryz.prog gFl:=ai Br (ai Ed.1 (ai FL ay))
def Wm:List { x:FuncId×ke // jg Tryz.prog x.1 x.2 }:=[⟨(52,Gv),JW⟩,⟨(103,je.die),Ed.2⟩]
abbrev pFl:List Nat:=[0,1,0,1,1,1,1]
abbrev JZ:List (List Nat×List Nat):=[(pFl,[0,5,6,36,37,38])]
noncomputable def X2 (b:Bool) (u:Value):Site:=qP Tryz.prog gFl Wm Tryz.f53 1 JZ [] [some dI] b u
def S8 (l:List ByteArray):Prop:=∀ s∈l,s.size<=900000
theorem Mt (L : List ByteArray) (a : Int) (ns : List ByteArray) (v : Value) (hns : ns.length ≤ 1000) (ha : 0 ≤ a ∧ a ≤ 1000000) (V : Option (List Int)) : ∀ (k i : Nat) (ws : List ByteArray) (out : List Int), k = ns.length - i → i ≤ ns.length → S8 ws → ws.length ≤ 1000000 → out.length ≤ i → V = (jT (ns.drop i) ws).map (out ++ ·) →
 aq (X2 V.isNone (eJ 11 a)) (qE V.isNone (aZ (V.getD [])) [aI L (a+1) (.val v)]) pFl (fr [(0,pX),(5,kR ws),(6,gi 1 out.length),(36,kR ns),(37,nI ns.length),(38,nI i)]) (.ofList [aI L a (.val v),bp out])
 | k, i, ws, out, hk, hi, hw, EM, ho, hV => by
   refine aK S7 (by kernel_rfl) 100 ?_;apply of_eq (q:=let q1:=(List.drop (1:Nat) (List.take ws.length ws));let q3:=(ByteArray.mk #[]);let q4:=(0:Nat);let q5:=(ws.length:Int);let q6:=(0:Int);let q7:=(↑q1.length:Int);let q8:=(11:Int);let q9:=(q1.getD q4 q3);let aC:=(ws.getD q4 q3);let aM:=(out.length+(1:Nat));let aQ:=(W.int .i64 (IntKind.i64.wrap ((i:Int)+(1:Int))));let bg:=(ns.length:Int);let q2:=decide (q5=q6);(decide ((i:Int)<bg)=true->(q6<=(i:Int)/\(i:Int)<bg)/\i<ns.length/\((!decide (ns.getD i q3=ByteArray.mk #[]))=true->(q2=false->q2=false)/\(q2=false->q6<=q6/\q6<q5)/\(q2=false->q2=false)/\(q2=false->q4<ws.length)/\(q2=false->q2=false)/\(q2=false->q2=false)/\(q2=false->q2=false)/\((bif q2 then true else !decide (ws.getD q4 q3=ns.getD i q3))=true->V.isNone=true/\eJ q8 a=eJ q8 a)/\((bif q2 then true else !decide (ws.getD q4 q3=ns.getD i q3))=false->(q6<=(1:Int)/\(1:Int)<=q5/\q5<=q5)/\(decide (q7=q6)=true->V.isNone=true/\eJ q8 a=eJ q8 a)/\(decide (q7=q6)=false->(q6<=q6/\q6<q7)/\q4<q1.length/\je.c L a q9/\(je.b L a q9=true->V.isNone=true/\eJ q8 a=eJ q8 a)/\(je.b L a q9=false->(je.c L a q9/\je.b L a q9=false)/\q4+(1:Nat)<=(1:Nat)/\(q4+out.length<=out.length/\aM*(8:Nat)<=(140737488355328:Nat))/\(q6<=(1:Int)/\(1:Int)<=q7/\q7<=q7)/\aq (X2 V.isNone (eJ q8 a)) (qE V.isNone (aZ (V.getD [])) [aI L (a+(1:Int)) (W.val v)]) [0,1,0,1,1,1,1] (fr [(0,A.p (aJ.V.c (W.ptr 0 0))),(5,A.p (aJ.V.c (W.rd D.str (List.drop (1:Nat) (List.take q1.length q1))))),(6,A.p (aJ.V.c (W.sl 1 0 aM 1))),(36,A.p (aJ.V.c (W.rd D.str ns))),(37,A.p (aJ.V.c (W.int .i64 bg))),(38,A.p (aJ.V.c aQ))]) (ah.ofList [Ob.mk 106 [Fd.c (W.rd D.str L),Fd.c (W.int .i64 (je.n L a q9)),Fd.c (W.val v)],Ob.mk 3 [Fd.a 0 (D.int .i64) (List.take out.length (List.drop q4 out)++List.take (1:Nat) (List.drop q4 [(fK (af q9)).getD q6]))]])))))/\((!decide (ns.getD i q3=ByteArray.mk #[]))=false->(q2=true->V.isNone=true/\eJ q8 a=eJ q8 a)/\(q2=false->(q6<=q6/\q6<q5)/\q4<ws.length/\je.c L a aC/\(je.b L a aC=true->V.isNone=true/\eJ q8 a=eJ q8 a)/\(je.b L a aC=false->(je.c L a aC/\je.b L a aC=false)/\q4+(1:Nat)<=(1:Nat)/\(q4+out.length<=out.length/\aM*(8:Nat)<=(140737488355328:Nat))/\(q6<=(1:Int)/\(1:Int)<=q5/\q5<=q5)/\aq (X2 V.isNone (eJ q8 a)) (qE V.isNone (aZ (V.getD [])) [aI L (a+(1:Int)) (W.val v)]) [0,1,0,1,1,1,1] (fr [(0,A.p (aJ.V.c (W.ptr 0 0))),(5,A.p (aJ.V.c (W.rd D.str q1))),(6,A.p (aJ.V.c (W.sl 1 0 aM 1))),(36,A.p (aJ.V.c (W.rd D.str ns))),(37,A.p (aJ.V.c (W.int .i64 bg))),(38,A.p (aJ.V.c aQ))]) (ah.ofList [Ob.mk 106 [Fd.c (W.rd D.str L),Fd.c (W.int .i64 (je.n L a aC)),Fd.c (W.val v)],Ob.mk 3 [Fd.a 0 (D.int .i64) (List.take out.length (List.drop q4 out)++List.take (1:Nat) (List.drop q4 [(fK (af aC)).getD q6]))]])))))/\(decide ((i:Int)<bg)=false->(decide (q6<q5)=true->V.isNone=true/\eJ q8 a=eJ q8 a)/\(decide (q6<q5)=false->q4+out.length<=out.length/\V.isNone=false/\ak [aJ.V.c (W.rd (D.int .i64) (List.take out.length (List.drop q4 out)))]=aZ (V.getD [])/\[Ob.mk 106 [Fd.c (W.rd D.str L),Fd.c (W.int .i64 (IntKind.i64.wrap (a+(1:Int)))),Fd.c (W.val v)]]=[aI L (a+(1:Int)) (W.val v)]))) (by kernel_rfl)
   try simp only [imp_self,true_and,and_true,Nat.zero_add,Bool.cond_true_left,Bool.or_eq_true,Bool.or_eq_false_iff,Bool.not_eq_true',Bool.not_eq_false',decide_eq_true_eq,decide_eq_false_iff_not,Int.not_lt,List.drop_zero,List.take_length,List.take_succ_cons,List.take_zero,Nat.le_refl,Int.le_refl]
   rw [wrap64 (n:=a+1) (by omega) (by omega),wrap64 (n:=(i:Int)+1) (by omega) (by omega)];refine ⟨fun h=>⟨by omega,by omega,?_⟩,fun h=>?_⟩
   . have fX:i<ns.length:=by omega
     have hd:ns.drop i=ns.getD i ⟨#[]⟩::ns.drop (i+1):=by
      rw [List.drop_eq_getElem_cons fX,List.getD_eq_getElem?_getD,List.getElem?_eq_getElem fX];rfl
     rw [hd] at hV;cases k with
     | zero=>omega
     | succ k =>
     have next:∀ (x:ByteArray) (r:List ByteArray),takeN (ns.getD i ⟨#[]⟩) ws=some (x::r)->S8 (x::r)->r.length<=1000000->
      ((fK (af x)).isNone=true->V.isNone=true)/\((fK (af x)).isNone=false->aq (X2 V.isNone (eJ 11 a)) (qE V.isNone (aZ (V.getD [])) [aI L (a+1) (.val v)]) pFl (fr [(0,pX),(5,kR r),(6,gi 1 (out.length+1)),(36,kR ns),(37,nI ns.length),(38,nI (i+1:Nat))]) (.ofList [aI L a (.val v),bp (out++[(fK (af x)).getD 0])])):=by
      intro x r ht hs hrl;cases hz:fK (af x) with
      | none =>
        refine ⟨fun _=>?_,fun h=>(by cases h)⟩;rw [hV,jT,ht];simp only [hz];rfl
      | some z =>
        refine ⟨fun h=>(by cases h),fun _=>?_⟩;have e:out.length+1=(out++[z]).length:=by simp
        rw [e];refine Mt L a ns v hns ha V k (i+1) r (out++[z]) (by omega) (by omega) (fun s hs'=>hs s (by simp [hs'])) hrl (by simp;omega) ?_;rw [hV,jT,ht];simp only [hz];cases jT (ns.drop (i+1)) r with
        | none=>rfl
        | some l=>simp
     have stop:(∀ x r,takeN (ns.getD i ⟨#[]⟩) ws≠some (x::r))->V.isNone=true:=by
      intro hno;rw [hV,jT];split
      . rename_i x r hx;exact absurd hx (hno x r)
      . rfl
     have e1:((i:Int)+1)=((i+1:Nat):Int):=by omega
     refine ⟨fun hn=>?_,fun hn=>?_⟩
     . refine ⟨fun h=>by omega,fun h=>by omega,fun h=>stop fun x r hx=>?_,fun h=>?_⟩
       . cases ws with
         | nil=>rw [S6 hn] at hx;cases hx
         | cons w q =>
           rw [vY hn] at hx;split at hx
           . rename_i hw';rcases h with h | h
             . rw [List.length_cons] at h;omega
             . exact h hw'
           . cases hx
       · cases ws with
         | nil=>exact absurd rfl h.1
         | cons w q =>
           have hwn:w=ns.getD i ⟨#[]⟩:=h.2;rw [List.drop_succ_cons,List.drop_zero];have ht:takeN (ns.getD i ⟨#[]⟩) (w::q)=some q:=by rw [vY hn,if_pos hwn]
           refine ⟨by rw [List.length_cons];omega,fun h0=>stop fun x r hx=>?_,fun h0=>?_⟩
           . rw [ht] at hx;cases hx;rw [List.length_cons] at h0;omega
           . cases q with
             | nil=>exact absurd rfl h0
             | cons x r =>
               rw [List.length_cons,List.length_cons] at EM;obtain ⟨n1,n2⟩:=next x r ht (fun s hs=>hw s (by simp at hs ⊢;exact .inr hs)) (by omega)
               rw [List.getD_cons_zero,List.drop_succ_cons,List.drop_zero,e1];refine ⟨by rw [List.length_cons];omega,by rw [List.length_cons];omega,hw x (by simp),n1,fun h1=>⟨⟨hw x (by simp),h1⟩,by omega,by rw [List.length_cons];omega,n2 h1⟩⟩
     . have ht:takeN (ns.getD i ⟨#[]⟩) ws=some ws:=by unfold takeN;rw [if_pos hn]
       refine ⟨fun h0=>stop fun x r hx=>?_,fun h0=>?_⟩
       . rw [ht] at hx;cases hx;rw [List.length_cons] at h0;omega
       . cases ws with
         | nil=>exact absurd rfl h0
         | cons x r =>
           rw [List.length_cons] at EM;obtain ⟨n1,n2⟩:=next x r ht hw (by omega)
           rw [List.getD_cons_zero,List.drop_succ_cons,List.drop_zero,e1];refine ⟨by rw [List.length_cons];omega,by rw [List.length_cons];omega,hw x (by simp),n1,fun h1=>⟨⟨hw x (by simp),h1⟩,by omega,by rw [List.length_cons];omega,n2 h1⟩⟩
   . rw [List.drop_eq_nil_of_le (by omega),jT] at hV;refine ⟨fun h0=>?_,fun h0=>?_⟩
     . rw [hV,if_neg (fun e=>by rw [e] at h0;simp at h0)];rfl
     . have:ws=[]:=List.eq_nil_of_length_eq_zero (by omega);rw [if_pos this] at hV;rw [hV];simp;rfl
theorem yF (c:Int):∀ (l p:List Int),p∈eN c l->p.length<=l.length
 | [],p,hp=>by simp [eN] at hp;subst hp;exact Nat.le_refl _
 | x :: l, p, hp => by
   have ih:=yF c l;obtain ⟨q,r,e⟩:=Ax c l;rw [eN] at hp;split at hp
   . rcases List.mem_cons.1 hp with rfl | hp
     . simp
     . have:=ih p hp;rw [List.length_cons];omega
   . rw [e] at hp ih;rcases List.mem_cons.1 hp with rfl | hp
     . have:=ih q (by simp);simp;omega
     . have:=ih p (by simp [show p∈r from hp]);rw [List.length_cons];omega
theorem rQ (c:Int) {s:ByteArray} (hs:s.size<=900000):S8 (bq c s)/\(bq c s).length<=s.size+1:=by
 have hl:=aW s;constructor
 . intro t ht;obtain ⟨p,hp,rfl⟩:=List.mem_map.1 ht;rw [lR];have:=yF c _ p hp;omega
 . unfold bq;rw [List.length_map,qJ];have:=Mq c (af s);omega
theorem vZ {L:List ByteArray} {i:Nat} (h:i<L.length):L.getD i ⟨#[]⟩∈L:=by
 rw [List.getD_eq_getElem?_getD,List.getElem?_eq_getElem h];exact List.getElem_mem h
theorem KX (L:List ByteArray) (a:Int) (ns:List ByteArray) (v:Value) (h:ns.length<=1000/\(0<=a/\a<=L.length)/\L.length<=900000/\S8 L):((fG L a ns).isNone=false->aX Tryz.prog 53 1 [pX,kR ns] [aI L a (.val v)] (aZ ((fG L a ns).getD [])) [aI L (a+1) (.val v)])/\((fG L a ns).isNone=true->mA Tryz.prog 53 [pX,kR ns] [aI L a (.val v)] (eJ 11 a)):=by
 refine A7 (dies:=Wm) (live:=JZ) (bQ:=[]) (fz:=[some dI]) S7 Tryz.func53 (by kernel_rfl) 1 (by kernel_rfl) 100 ?_;apply of_eq (q:=(decide (a=(L.length:Int))=true->(fG L a ns).isNone=true/\eJ (11:Int) a=eJ (11:Int) a)/\(decide (a=(L.length:Int))=false->((0:Int)<=a/\a<(L.length:Int))/\a.toNat<L.length/\((1:Nat)=(1:Nat)/\(L.getD a.toNat (ByteArray.mk #[])).size<=(900000:Nat))/\aq (qP Tryz.prog gFl Wm Tryz.f53 (1:Nat) JZ [] [some dI] (fG L a ns).isNone (eJ (11:Int) a)) (qE (fG L a ns).isNone (aZ ((fG L a ns).getD [])) [aI L (a+(1:Int)) (W.val v)]) [0,1,0,1,1,1,1] (fr [(0,A.p (V.c (W.ptr 0 0))),(5,A.p (V.c (W.rd D.str (bq (dW (ByteArray.mk #[(32:UInt8)])) (L.getD a.toNat (ByteArray.mk #[])))))),(6,A.p (V.c (W.sl 1 0 0 1))),(36,A.p (V.c (W.rd D.str ns))),(37,nI (ns.length:Int)),(38,nI (0))]) (ah.ofList [Ob.mk 106 [Fd.c (W.rd D.str L),Fd.c (W.int .i64 a),Fd.c (W.val v)],Ob.mk 3 [Fd.a 0 (D.int .i64) []]]))) (by kernel_rfl)
 try simp only [true_and,and_true,decide_eq_true_eq,decide_eq_false_iff_not]
 obtain ⟨h1,h2,h3,h4⟩:=h;refine ⟨fun h=>?_,fun h=>⟨by omega,by omega,?_⟩⟩
 . unfold fG;rw [if_pos h];rfl
 . have hsz:=h4 _ (vZ (L:=L) (i:=a.toNat) (by omega));obtain ⟨s1,s2⟩:=rQ (dW ⟨#[32]⟩) hsz;refine ⟨hsz,?_⟩;refine Mt L a ns v h1 (by omega) _ ns.length 0 _ [] rfl (by omega) s1 (by omega) (Nat.le_refl _) ?_;unfold fG;rw [if_neg h,List.drop_zero];show _=Option.map (([]:List Int)++·) (jT ns (bq 32 (L.getD a.toNat ⟨#[]⟩)));cases jT ns (bq 32 (L.getD a.toNat ⟨#[]⟩)) <;> rfl
def oV:rP dS:={ c:=fun L a ns=>List.length (α:=ByteArray) ns<=1000/\(0<=a/\a<=L.length)/\L.length<=900000/\S8 L,b:=fun L a ns=>(fG L a ns).isNone,r:=fun L a ns=>aZ ((fG L a ns).getD []),n:=fun _ a _=>a+1 }
theorem OY:aH Tryz.prog 53 oV.con/\jg Tryz.prog 53 oV.die :=
 rP.both (by kernel_rfl) (fun _ _ _=>rfl) fun L a ns v h=>KX L a ns v h
noncomputable def gSta:bF:=[(141,X1)]
theorem Zp:aS Tryz.prog gSta:=ai Wj ay
def iI:ByteArray:=⟨#[32]⟩
def fN (L:List ByteArray) (a:Int) (f:ByteArray):Bool:=if a=L.length then false else pfx (f++iI) (L.getD a.toNat ⟨#[]⟩)
def cg (L:List ByteArray) (a:Int) (f:ByteArray):ByteArray:=if a=L.length then ⟨#[]⟩ else oU (f++iI) (L.getD a.toNat ⟨#[]⟩)
theorem OZ (L:List ByteArray) (a:Int) (f:ByteArray) (v:Value) (h:(0<=a/\a<=L.length)/\f.size<=1000):aX Tryz.prog 107 1 [pX,bW f] [aI L a (.val v)] (.aF [.c (.str (cg L a f)),.c (.bool (fN L a f))]) [aI L a (.val v)]:=by
 refine bA (live:=[]) (bQ:=[]) (fz:=[]) Zp Tryz.func107 (by kernel_rfl) 1 (by kernel_rfl) 100 ?_;apply of_eq (q:=(decide (a=(L.length:Int))=true->ak [V.c (W.str (ByteArray.mk #[])),V.c (W.bool false)]=A.aF [V.c (W.str (cg L a f)),V.c (W.bool (fN L a f))]/\[Ob.mk 106 [Fd.c (W.rd D.str L),Fd.c (W.int .i64 a),Fd.c (W.val v)]]=[aI L a (W.val v)])/\(decide (a=(L.length:Int))=false->((0:Int)<=a/\a<(L.length:Int))/\a.toNat<L.length/\f.size+(1:Nat)<=(9223372036854775807:Nat)/\ak [V.c (W.str (oU (f++ByteArray.mk #[(32:UInt8)]) (L.getD a.toNat (ByteArray.mk #[])))),V.c (W.bool (pfx (f++ByteArray.mk #[(32:UInt8)]) (L.getD a.toNat (ByteArray.mk #[]))))]=A.aF [V.c (W.str (cg L a f)),V.c (W.bool (fN L a f))]/\[Ob.mk 106 [Fd.c (W.rd D.str L),Fd.c (W.int .i64 a),Fd.c (W.val v)]]=[aI L a (W.val v)])) (by kernel_rfl)
 try simp only [and_true,decide_eq_true_eq,decide_eq_false_iff_not]
 obtain ⟨h1,h2⟩:=h;refine ⟨fun h=>?_,fun h=>⟨by omega,by omega,by omega,?_⟩⟩
 . unfold cg fN;rw [if_pos h,if_pos h];rfl
 . unfold cg fN;rw [if_neg h,if_neg h];rfl
def cN:rP .str:={ c:=fun L a f=>(0<=a/\a<=L.length)/\(show ByteArray from f).size<=1000,b:=fun _ _ _=>false,r:=fun L a f=>.aF [.c (.str (cg L a f)),.c (.bool (fN L a f))],n:=fun _ a _=>a }
theorem v7:aH Tryz.prog 107 cN.con/\jg Tryz.prog 107 cN.die :=
 rP.both (by kernel_rfl) (fun L a f v hv=>(by
  simp only [List.mem_cons,List.not_mem_nil,or_false] at hv;rcases hv with rfl | rfl
  . exact ⟨_,rfl,rfl⟩
  . exact ⟨_,rfl,rfl⟩)) fun L a f v h=>⟨fun _=>OZ L a f v h,fun h=>by cases h⟩
structure Hd where
 g:Int
 au:Int
 most:Int
 stat:Int
abbrev bE (h:Hd) (R S:W):Ob:=⟨98,[.c (.int .i64 h.g),.c R,.c S,.c (.int .i64 h.au),.c (.int .i64 h.most),.c (.int .i64 0),.c (.int .i64 h.stat),.c (.int .i64 0),.c (.int .i64 0),.c (.int .i64 0),.c .nil,.c .nil,.c .nil]⟩
abbrev cX (l:List (List Int)):Ob:=⟨79,[.a 0 (.sl (.int .i64)) l]⟩
noncomputable def gTxt:bF:=[(52,C6),(164,SK)]
theorem zF:aS Tryz.prog gTxt:=ai Br (ai SL ay)
def cI (g:Int) (s:ByteArray):List Int:=(gj g (af s)).getD []
def iR (g:Int) (s:ByteArray):Prop:=s.size<=20000/\RG g/\(gj g (af s)).isSome=true
def lZ:Ob->Option (List ByteArray×Int)
 | ⟨t,[.c (.rd .str L),.c (.int .i64 a),.c (.ptr 1 0)]⟩=>bif Nat.beq t 106 then some (L,a) else none
 | _=>none
theorem iD {o:Ob} {L:List ByteArray} {a:Int} (e:lZ o=some (L,a)):o=aI L a (.ptr 1 0):=by
 unfold lZ at e;split at e
 . obtain ⟨hb,e1⟩:=ar.aD e;clear e;cases Nat.eq_of_beq_eq_true hb;cases e1;rfl
 . cases e
def mD:Ob->Option (Hd×W×W)
 | ⟨t,[.c (.int .i64 g),.c R,.c S,.c (.int .i64 au),.c (.int .i64 most),.c (.int .i64 0),.c (.int .i64 stat),.c (.int .i64 0),.c (.int .i64 0),.c (.int .i64 0),.c .nil,.c .nil,.c .nil]⟩=>bif Nat.beq t 98 then some (⟨g,au,most,stat⟩,R,S) else none
 | _=>none
theorem jF {o:Ob} {h:Hd} {R S:W} (e:mD o=some (h,R,S)):o=bE h R S:=by
 unfold mD at e;split at e
 . obtain ⟨hb,e1⟩:=ar.aD e;clear e;cases Nat.eq_of_beq_eq_true hb;cases e1;rfl
 . cases e
def Ee:Ob->Option (List (List Int))
 | ⟨t,[.a 0 (.sl (.int .i64)) l]⟩=>bif Nat.beq t 79 then some l else none
 | _=>none
theorem zG {o:Ob} {l:List (List Int)} (e:Ee o=some l):o=cX l:=by
 unfold Ee at e;split at e
 . obtain ⟨hb,e1⟩:=ar.aD e;clear e;cases Nat.eq_of_beq_eq_true hb;cases e1;rfl
 . cases e
theorem S9 (L:List ByteArray) (a:Int) (h:Hd) (s:ByteArray) (hs:iR h.g s):aX Tryz.prog 140 2 [pX,.p (.c .nil),bW s] [aI L a (.ptr 1 0),bE h (.nil) .nil] (.p (.c (.sl 2 0 1 1))) [aI L a (.ptr 1 0),bE h (.nil) .nil,cX [cI h.g s]]:=by
 refine bA (live:=[]) (bQ:=[]) (fz:=[]) zF Tryz.func140 (by kernel_rfl) 2 (by kernel_rfl) 100 ?_;apply of_eq (q:=let q1:=decide ((0:Int)=(0:Int));let q2:=(W.int .i64 (0));let q3:=(1:Nat);let q4:=(List.take q3 (List.drop (0:Nat) [(gj h.g (af s)).getD []]));(s.size<=(20000:Nat)/\RG h.g/\(gj h.g (af s)).isSome=true)/\((!q1)=false->(!q1)=false)/\((!q1)=false->(!q1)=false)/\((!q1)=false->(!q1)=false)/\((bif !q1 then true else decide ((0:Int)=(100:Int)))=true->False/\(0:Nat)+q3<=q3/\q3*(24:Nat)<=(140737488355328:Nat)/\ak [V.c (W.sl ((0:Nat)+q3+q3) (0:Nat) q3 q3)]=A.p (V.c (W.sl 2 0 1 1))/\[Ob.mk 106 [Fd.c (W.rd D.str L),Fd.c (W.int .i64 a),Fd.c (W.ptr ((0:Nat)+q3) (0:Nat))],Ob.mk 98 [Fd.c (W.int .i64 h.g),Fd.c W.nil,Fd.c W.nil,Fd.c (W.int .i64 h.au),Fd.c (W.int .i64 h.most),Fd.c q2,Fd.c (W.int .i64 h.stat),Fd.c q2,Fd.c q2,Fd.c q2,Fd.c W.nil,Fd.c W.nil,Fd.c W.nil],Ob.mk 79 [Fd.a 0 (D.int .i64).sl q4]]=[aI L a (W.ptr 1 0),bE h W.nil W.nil,cX [cI h.g s]])/\((bif !q1 then true else decide ((0:Int)=(100:Int)))=false->(0:Nat)+q3<=q3/\q3*(24:Nat)<=(140737488355328:Nat)/\ak [V.c (W.sl ((0:Nat)+q3+q3) (0:Nat) q3 q3)]=A.p (V.c (W.sl 2 0 1 1))/\[Ob.mk 106 [Fd.c (W.rd D.str L),Fd.c (W.int .i64 a),Fd.c (W.ptr ((0:Nat)+q3) (0:Nat))],Ob.mk 98 [Fd.c (W.int .i64 h.g),Fd.c W.nil,Fd.c W.nil,Fd.c (W.int .i64 h.au),Fd.c (W.int .i64 h.most),Fd.c q2,Fd.c (W.int .i64 h.stat),Fd.c q2,Fd.c q2,Fd.c q2,Fd.c W.nil,Fd.c W.nil,Fd.c W.nil],Ob.mk 79 [Fd.a 0 (D.int .i64).sl q4]]=[aI L a (W.ptr 1 0),bE h W.nil W.nil,cX [cI h.g s]])) (by kernel_rfl)
 try simp only [imp_self,true_and,and_true,Nat.zero_add,Bool.cond_true_left,Bool.or_eq_true,Bool.or_eq_false_iff,Bool.not_eq_true',Bool.not_eq_false',decide_eq_true_eq,decide_eq_false_iff_not,List.drop_zero,List.take_succ_cons,List.take_zero,Nat.le_refl,Int.reduceEq,not_false_eq_true,Nat.reduceAdd]
 exact ⟨hs,fun h=>by simp at h,fun _=>⟨by omega,rfl,rfl⟩⟩
theorem Ta (L:List ByteArray) (a:Int) (h:Hd) (s:ByteArray) (l:List (List Int)) (hs:iR h.g s) (hl:l.length<100):aX Tryz.prog 140 2 [pX,.p (.c (.sl 2 0 l.length 1)),bW s] [aI L a (.ptr 1 0),bE h (.sl 2 0 l.length 1) .nil,cX l] (.p (.c (.sl 2 0 (l.length+1) 1))) [aI L a (.ptr 1 0),bE h (.dead) .nil,cX (l++[cI h.g s])]:=by
 refine bA (live:=[]) (bQ:=[]) (fz:=[]) zF Tryz.func140 (by kernel_rfl) 2 (by kernel_rfl) 100 ?_;apply of_eq (q:=let q1:=decide ((0:Int)=(0:Int));let q2:=(W.int .i64 (0));let q3:=(List.take l.length (List.drop (0:Nat) l)++List.take (1:Nat) (List.drop (0:Nat) [(gj h.g (af s)).getD []]));let q4:=(l.length+(1:Nat));let q5:=(W.sl ((0:Nat)+(1:Nat)+(1:Nat)) (0:Nat) q4 (1:Nat));(s.size<=(20000:Nat)/\RG h.g/\(gj h.g (af s)).isSome=true)/\((!q1)=false->(!q1)=false)/\((!q1)=false->(!q1)=false)/\((!q1)=false->(!q1)=false)/\((bif !q1 then true else decide ((l.length:Int)=(100:Int)))=true->False/\(0:Nat)+(1:Nat)<=(1:Nat)/\((0:Nat)+l.length<=l.length/\q4*(24:Nat)<=(140737488355328:Nat))/\ak [V.c q5]=A.p (V.c (W.sl 2 0 q4 1))/\[Ob.mk 106 [Fd.c (W.rd D.str L),Fd.c (W.int .i64 a),Fd.c (W.ptr ((0:Nat)+(1:Nat)) (0:Nat))],Ob.mk 98 [Fd.c (W.int .i64 h.g),Fd.c W.dead,Fd.c W.nil,Fd.c (W.int .i64 h.au),Fd.c (W.int .i64 h.most),Fd.c q2,Fd.c (W.int .i64 h.stat),Fd.c q2,Fd.c q2,Fd.c q2,Fd.c W.nil,Fd.c W.nil,Fd.c W.nil],Ob.mk 79 [Fd.a 0 (D.int .i64).sl q3]]=[aI L a (W.ptr 1 0),bE h W.dead W.nil,cX (l++[cI h.g s])])/\((bif !q1 then true else decide ((l.length:Int)=(100:Int)))=false->(0:Nat)+(1:Nat)<=(1:Nat)/\((0:Nat)+l.length<=l.length/\q4*(24:Nat)<=(140737488355328:Nat))/\ak [V.c q5]=A.p (V.c (W.sl 2 0 q4 1))/\[Ob.mk 106 [Fd.c (W.rd D.str L),Fd.c (W.int .i64 a),Fd.c (W.ptr ((0:Nat)+(1:Nat)) (0:Nat))],Ob.mk 98 [Fd.c (W.int .i64 h.g),Fd.c W.dead,Fd.c W.nil,Fd.c (W.int .i64 h.au),Fd.c (W.int .i64 h.most),Fd.c q2,Fd.c (W.int .i64 h.stat),Fd.c q2,Fd.c q2,Fd.c q2,Fd.c W.nil,Fd.c W.nil,Fd.c W.nil],Ob.mk 79 [Fd.a 0 (D.int .i64).sl q3]]=[aI L a (W.ptr 1 0),bE h W.dead W.nil,cX (l++[cI h.g s])])) (by kernel_rfl)
 try simp only [imp_self,true_and,Nat.zero_add,Bool.cond_true_left,Bool.or_eq_true,Bool.or_eq_false_iff,Bool.not_eq_true',Bool.not_eq_false',decide_eq_true_eq,decide_eq_false_iff_not,List.drop_zero,List.take_length,List.take_succ_cons,List.take_zero,Nat.le_refl,Nat.reduceAdd]
 exact ⟨hs,fun h=>(by rcases h with h | h;exact absurd trivial h;omega),fun _=>⟨by omega,rfl,rfl⟩⟩
def O0:bw:={ refs:=[true,true,false],roots:=some [true,false,false],keep:=some 2,f:=fun args aj=>match args,aj with
 | [.p (.c (.ptr 0 0)),.p (.c .nil),y],[o1,o2]=>match lZ o1,mD o2,gb .str y with
   | some (L,a),some (h,.nil,.nil),some s=>some (.p (iR h.g s),.p (.c (.sl 2 0 1 1)),[aI L a (.ptr 1 0),bE h (.nil) .nil,cX [cI h.g s]])
   | _,_,_=>none
 | [.p (.c (.ptr 0 0)),.p (.c (.sl 2 0 n 1)),y],[o1,o2,o3]=>match lZ o1,mD o2,Ee o3,gb .str y with
   | some (L,a),some (h,.sl 2 0 m 1,.nil),some l,some s=>some (.p (n=l.length/\m=l.length/\iR h.g s/\l.length<100),.p (.c (.sl 2 0 (l.length+1) 1)),[aI L a (.ptr 1 0),bE h (.dead) .nil,cX (l++[cI h.g s])])
   | _,_,_,_=>none
 | _,_=>none }
theorem Wn:aH Tryz.prog 140 O0:=by
 refine ⟨by kernel_rfl,fun args aj c r aR e hc=>?_⟩;simp only [O0] at e;split at e
 . split at e
   . rename_i h1 h2 h3;cases e;rw [iD h1,jF h2];intro base η Z w vs R0 hv hK
     match vs,hv with
     | [u,v,t],⟨a1,a2,a3,_⟩=>exact S9 _ _ _ _ hc base η Z w _ R0 ⟨a1,a2,ck h3 a3,trivial⟩ hK
   . cases e
 . split at e
   . rename_i h1 h2 h3 h4;cases e;obtain ⟨rfl,rfl,q1,q2⟩:=hc;rw [iD h1,jF h2,zG h3];intro base η Z w vs R0 hv hK
     match vs,hv with
     | [u,v,t],⟨a1,a2,a3,_⟩=>exact Ta _ _ _ _ _ q1 q2 base η Z w _ R0 ⟨a1,a2,ck h4 a3,trivial⟩ hK
   . cases e
 . cases e
noncomputable def gRelR:bF:=[(140,O0)]
theorem J0:aS Tryz.prog gRelR:=ai Wn ay
theorem Tb (L:List ByteArray) (a:Int) (h:Hd) (s:ByteArray) (hs:iR h.g s):aX Tryz.prog 104 2 [pX,bW s] [aI L a (.ptr 1 0),bE h (.nil) .nil] (.aF []) [aI L a (.ptr 1 0),bE h (.sl 2 0 1 1) .nil,cX [cI h.g s]]:=by
 refine bA (live:=[]) (bQ:=[]) (fz:=[]) J0 Tryz.func104 (by kernel_rfl) 2 (by kernel_rfl) 100 ?_;apply of_eq (q:=let q1:=(A.p (V.c (W.ptr 1 0)));let q2:=(R1.pure (Cd.t.and Cd.t) q1);let q3:=(W.int .i64 (0));iR h.g s/\q2.v=q2.v/\q2.v=q2.v/\ak []=A.aF []/\[Ob.mk 106 [Fd.c (W.rd D.str L),Fd.c (W.int .i64 a),Fd.c (W.ptr ((0:Nat)+(1:Nat)) (0:Nat))],Ob.mk 98 [Fd.c (W.int .i64 h.g),Fd.c (W.sl ((0:Nat)+(1:Nat)+(1:Nat)) (0:Nat) (1:Nat) (1:Nat)),Fd.c W.nil,Fd.c (W.int .i64 h.au),Fd.c (W.int .i64 h.most),Fd.c q3,Fd.c (W.int .i64 h.stat),Fd.c q3,Fd.c q3,Fd.c q3,Fd.c W.nil,Fd.c W.nil,Fd.c W.nil],Ob.mk 79 [Fd.a 0 (D.int .i64).sl [cI h.g s]]]=[aI L a (W.ptr 1 0),bE h (W.sl 2 0 1 1) W.nil,cX [cI h.g s]]) (by kernel_rfl)
 try simp only [true_and,and_true,Nat.zero_add,Nat.reduceAdd]
 exact ⟨hs,rfl⟩
theorem Tc (L:List ByteArray) (a:Int) (h:Hd) (s:ByteArray) (l:List (List Int)) (hs:iR h.g s) (hl:l.length<100):aX Tryz.prog 104 2 [pX,bW s] [aI L a (.ptr 1 0),bE h (.sl 2 0 l.length 1) .nil,cX l] (.aF []) [aI L a (.ptr 1 0),bE h (.sl 2 0 (l.length+1) 1) .nil,cX (l++[cI h.g s])]:=by
 refine bA (live:=[]) (bQ:=[]) (fz:=[]) J0 Tryz.func104 (by kernel_rfl) 2 (by kernel_rfl) 100 ?_;apply of_eq (q:=let q1:=(A.p (V.c (W.ptr 1 0)));let q2:=(R1.pure (Cd.t.and Cd.t) q1);let q3:=(W.int .i64 (0));(l.length=l.length/\l.length=l.length/\iR h.g s/\l.length<(100:Nat))/\q2.v=q2.v/\q2.v=q2.v/\ak []=A.aF []/\[Ob.mk 106 [Fd.c (W.rd D.str L),Fd.c (W.int .i64 a),Fd.c (W.ptr ((0:Nat)+(1:Nat)) (0:Nat))],Ob.mk 98 [Fd.c (W.int .i64 h.g),Fd.c (W.sl ((0:Nat)+(1:Nat)+(1:Nat)) (0:Nat) (l.length+(1:Nat)) (1:Nat)),Fd.c W.nil,Fd.c (W.int .i64 h.au),Fd.c (W.int .i64 h.most),Fd.c q3,Fd.c (W.int .i64 h.stat),Fd.c q3,Fd.c q3,Fd.c q3,Fd.c W.nil,Fd.c W.nil,Fd.c W.nil],Ob.mk 79 [Fd.a 0 (D.int .i64).sl (l++[cI h.g s])]]=[aI L a (W.ptr 1 0),bE h (W.sl 2 0 (l.length+(1:Nat)) 1) W.nil,cX (l++[cI h.g s])]) (by kernel_rfl)
 try simp only [true_and,and_true,Nat.zero_add,Nat.reduceAdd]
 exact ⟨⟨hs,hl⟩,rfl⟩
def O1:bw:={ refs:=[true,false],keep:=some 2,f:=fun args aj=>match args,aj with
 | [.p (.c (.ptr 0 0)),y],[o1,o2]=>match lZ o1,mD o2,gb .str y with
   | some (L,a),some (h,.nil,.nil),some s=>some (.p (iR h.g s),.aF [],[aI L a (.ptr 1 0),bE h (.sl 2 0 1 1) .nil,cX [cI h.g s]])
   | _,_,_=>none
 | [.p (.c (.ptr 0 0)),y],[o1,o2,o3]=>match lZ o1,mD o2,Ee o3,gb .str y with
   | some (L,a),some (h,.sl 2 0 m 1,.nil),some l,some s=>some (.p (m=l.length/\iR h.g s/\l.length<100),.aF [],[aI L a (.ptr 1 0),bE h (.sl 2 0 (l.length+1) 1) .nil,cX (l++[cI h.g s])])
   | _,_,_,_=>none
 | _,_=>none }
theorem Wo:aH Tryz.prog 104 O1:=by
 refine ⟨by kernel_rfl,fun args aj c r aR e hc=>?_⟩;simp only [O1] at e;split at e
 . split at e
   . rename_i h1 h2 h3;cases e;rw [iD h1,jF h2];intro base η Z w vs R0 hv hK
     match vs,hv with
     | [u,t],⟨a1,a3,_⟩=>exact Tb _ _ _ _ hc base η Z w _ R0 ⟨a1,ck h3 a3,trivial⟩ hK
   . cases e
 . split at e
   . rename_i h1 h2 h3 h4;cases e;obtain ⟨rfl,q1,q2⟩:=hc;rw [iD h1,jF h2,zG h3];intro base η Z w vs R0 hv hK
     match vs,hv with
     | [u,t],⟨a1,a3,_⟩=>exact Tc _ _ _ _ _ q1 q2 base η Z w _ R0 ⟨a1,ck h4 a3,trivial⟩ hK
   . cases e
 . cases e
theorem Td (L:List ByteArray) (a:Int) (h:Hd) (R:List (List Int)) (s:ByteArray) (hs:iR h.g s):aX Tryz.prog 140 2 [pX,.p (.c .nil),bW s] [aI L a (.ptr 1 0),bE h (.rd (.sl (.int .i64)) R) (.nil)] (.p (.c (.sl 2 0 1 1))) [aI L a (.ptr 1 0),bE h (.rd (.sl (.int .i64)) R) (.nil),cX [cI h.g s]]:=by
 refine bA (live:=[]) (bQ:=[]) (fz:=[]) zF Tryz.func140 (by kernel_rfl) 2 (by kernel_rfl) 100 ?_;apply of_eq (q:=let q1:=decide ((0:Int)=(0:Int));let q2:=(W.int .i64 (0));let q3:=(1:Nat);let q4:=(W.rd (D.int .i64).sl R);let q5:=(List.take q3 (List.drop (0:Nat) [(gj h.g (af s)).getD []]));(s.size<=(20000:Nat)/\RG h.g/\(gj h.g (af s)).isSome=true)/\((!q1)=false->(!q1)=false)/\((!q1)=false->(!q1)=false)/\((!q1)=false->(!q1)=false)/\((bif !q1 then true else decide ((0:Int)=(100:Int)))=true->False/\(0:Nat)+q3<=q3/\q3*(24:Nat)<=(140737488355328:Nat)/\ak [V.c (W.sl ((0:Nat)+q3+q3) (0:Nat) q3 q3)]=A.p (V.c (W.sl 2 0 1 1))/\[Ob.mk 106 [Fd.c (W.rd D.str L),Fd.c (W.int .i64 a),Fd.c (W.ptr ((0:Nat)+q3) (0:Nat))],Ob.mk 98 [Fd.c (W.int .i64 h.g),Fd.c q4,Fd.c W.nil,Fd.c (W.int .i64 h.au),Fd.c (W.int .i64 h.most),Fd.c q2,Fd.c (W.int .i64 h.stat),Fd.c q2,Fd.c q2,Fd.c q2,Fd.c W.nil,Fd.c W.nil,Fd.c W.nil],Ob.mk 79 [Fd.a 0 (D.int .i64).sl q5]]=[aI L a (W.ptr 1 0),bE h q4 W.nil,cX [cI h.g s]])/\((bif !q1 then true else decide ((0:Int)=(100:Int)))=false->(0:Nat)+q3<=q3/\q3*(24:Nat)<=(140737488355328:Nat)/\ak [V.c (W.sl ((0:Nat)+q3+q3) (0:Nat) q3 q3)]=A.p (V.c (W.sl 2 0 1 1))/\[Ob.mk 106 [Fd.c (W.rd D.str L),Fd.c (W.int .i64 a),Fd.c (W.ptr ((0:Nat)+q3) (0:Nat))],Ob.mk 98 [Fd.c (W.int .i64 h.g),Fd.c q4,Fd.c W.nil,Fd.c (W.int .i64 h.au),Fd.c (W.int .i64 h.most),Fd.c q2,Fd.c (W.int .i64 h.stat),Fd.c q2,Fd.c q2,Fd.c q2,Fd.c W.nil,Fd.c W.nil,Fd.c W.nil],Ob.mk 79 [Fd.a 0 (D.int .i64).sl q5]]=[aI L a (W.ptr 1 0),bE h q4 W.nil,cX [cI h.g s]])) (by kernel_rfl)
 try simp only [imp_self,true_and,and_true,Nat.zero_add,Bool.cond_true_left,Bool.or_eq_true,Bool.or_eq_false_iff,Bool.not_eq_true',Bool.not_eq_false',decide_eq_true_eq,decide_eq_false_iff_not,List.drop_zero,List.take_succ_cons,List.take_zero,Nat.le_refl,Int.reduceEq,not_false_eq_true,Nat.reduceAdd]
 exact ⟨hs,fun h=>by simp at h,fun _=>⟨by omega,rfl,rfl⟩⟩
theorem Te (L:List ByteArray) (a:Int) (h:Hd) (R:List (List Int)) (s:ByteArray) (l:List (List Int)) (hs:iR h.g s) (hl:l.length<100):aX Tryz.prog 140 2 [pX,.p (.c (.sl 2 0 l.length 1)),bW s] [aI L a (.ptr 1 0),bE h (.rd (.sl (.int .i64)) R) (.sl 2 0 l.length 1),cX l] (.p (.c (.sl 2 0 (l.length+1) 1))) [aI L a (.ptr 1 0),bE h (.rd (.sl (.int .i64)) R) (.dead),cX (l++[cI h.g s])]:=by
 refine bA (live:=[]) (bQ:=[]) (fz:=[]) zF Tryz.func140 (by kernel_rfl) 2 (by kernel_rfl) 100 ?_;apply of_eq (q:=let q1:=decide ((0:Int)=(0:Int));let q2:=(W.int .i64 (0));let q3:=(List.take l.length (List.drop (0:Nat) l)++List.take (1:Nat) (List.drop (0:Nat) [(gj h.g (af s)).getD []]));let q4:=(l.length+(1:Nat));let q5:=(W.rd (D.int .i64).sl R);let q6:=(W.sl ((0:Nat)+(1:Nat)+(1:Nat)) (0:Nat) q4 (1:Nat));(s.size<=(20000:Nat)/\RG h.g/\(gj h.g (af s)).isSome=true)/\((!q1)=false->(!q1)=false)/\((!q1)=false->(!q1)=false)/\((!q1)=false->(!q1)=false)/\((bif !q1 then true else decide ((l.length:Int)=(100:Int)))=true->False/\(0:Nat)+(1:Nat)<=(1:Nat)/\((0:Nat)+l.length<=l.length/\q4*(24:Nat)<=(140737488355328:Nat))/\ak [V.c q6]=A.p (V.c (W.sl 2 0 q4 1))/\[Ob.mk 106 [Fd.c (W.rd D.str L),Fd.c (W.int .i64 a),Fd.c (W.ptr ((0:Nat)+(1:Nat)) (0:Nat))],Ob.mk 98 [Fd.c (W.int .i64 h.g),Fd.c q5,Fd.c W.dead,Fd.c (W.int .i64 h.au),Fd.c (W.int .i64 h.most),Fd.c q2,Fd.c (W.int .i64 h.stat),Fd.c q2,Fd.c q2,Fd.c q2,Fd.c W.nil,Fd.c W.nil,Fd.c W.nil],Ob.mk 79 [Fd.a 0 (D.int .i64).sl q3]]=[aI L a (W.ptr 1 0),bE h q5 W.dead,cX (l++[cI h.g s])])/\((bif !q1 then true else decide ((l.length:Int)=(100:Int)))=false->(0:Nat)+(1:Nat)<=(1:Nat)/\((0:Nat)+l.length<=l.length/\q4*(24:Nat)<=(140737488355328:Nat))/\ak [V.c q6]=A.p (V.c (W.sl 2 0 q4 1))/\[Ob.mk 106 [Fd.c (W.rd D.str L),Fd.c (W.int .i64 a),Fd.c (W.ptr ((0:Nat)+(1:Nat)) (0:Nat))],Ob.mk 98 [Fd.c (W.int .i64 h.g),Fd.c q5,Fd.c W.dead,Fd.c (W.int .i64 h.au),Fd.c (W.int .i64 h.most),Fd.c q2,Fd.c (W.int .i64 h.stat),Fd.c q2,Fd.c q2,Fd.c q2,Fd.c W.nil,Fd.c W.nil,Fd.c W.nil],Ob.mk 79 [Fd.a 0 (D.int .i64).sl q3]]=[aI L a (W.ptr 1 0),bE h q5 W.dead,cX (l++[cI h.g s])])) (by kernel_rfl)
 try simp only [imp_self,true_and,Nat.zero_add,Bool.cond_true_left,Bool.or_eq_true,Bool.or_eq_false_iff,Bool.not_eq_true',Bool.not_eq_false',decide_eq_true_eq,decide_eq_false_iff_not,List.drop_zero,List.take_length,List.take_succ_cons,List.take_zero,Nat.le_refl,Nat.reduceAdd]
 exact ⟨hs,fun h=>(by rcases h with h | h;exact absurd trivial h;omega),fun _=>⟨by omega,rfl,rfl⟩⟩
def O2:bw:={ refs:=[true,true,false],roots:=some [true,false,false],keep:=some 2,f:=fun args aj=>match args,aj with
 | [.p (.c (.ptr 0 0)),.p (.c .nil),y],[o1,o2]=>match lZ o1,mD o2,gb .str y with
   | some (L,a),some (h,.rd (.sl (.int .i64)) R,.nil),some s=>some (.p (iR h.g s),.p (.c (.sl 2 0 1 1)),[aI L a (.ptr 1 0),bE h (.rd (.sl (.int .i64)) R) (.nil),cX [cI h.g s]])
   | _,_,_=>none
 | [.p (.c (.ptr 0 0)),.p (.c (.sl 2 0 n 1)),y],[o1,o2,o3]=>match lZ o1,mD o2,Ee o3,gb .str y with
   | some (L,a),some (h,.rd (.sl (.int .i64)) R,.sl 2 0 m 1),some l,some s=>some (.p (n=l.length/\m=l.length/\iR h.g s/\l.length<100),.p (.c (.sl 2 0 (l.length+1) 1)),[aI L a (.ptr 1 0),bE h (.rd (.sl (.int .i64)) R) (.dead),cX (l++[cI h.g s])])
   | _,_,_,_=>none
 | _,_=>none }
theorem Wp:aH Tryz.prog 140 O2:=by
 refine ⟨by kernel_rfl,fun args aj c r aR e hc=>?_⟩;simp only [O2] at e;split at e
 . split at e
   . rename_i h1 h2 h3;cases e;rw [iD h1,jF h2];intro base η Z w vs R0 hv hK
     match vs,hv with
     | [u,v,t],⟨a1,a2,a3,_⟩=>exact Td _ _ _ _ _ hc base η Z w _ R0 ⟨a1,a2,ck h3 a3,trivial⟩ hK
   . cases e
 . split at e
   . rename_i h1 h2 h3 h4;cases e;obtain ⟨rfl,rfl,q1,q2⟩:=hc;rw [iD h1,jF h2,zG h3];intro base η Z w vs R0 hv hK
     match vs,hv with
     | [u,v,t],⟨a1,a2,a3,_⟩=>exact Te _ _ _ _ _ _ q1 q2 base η Z w _ R0 ⟨a1,a2,ck h4 a3,trivial⟩ hK
   . cases e
 . cases e
noncomputable def gRelS:bF:=[(140,O2)]
theorem J1:aS Tryz.prog gRelS:=ai Wp ay
theorem Tf (L:List ByteArray) (a:Int) (h:Hd) (R:List (List Int)) (s:ByteArray) (hs:iR h.g s):aX Tryz.prog 105 2 [pX,bW s] [aI L a (.ptr 1 0),bE h (.rd (.sl (.int .i64)) R) (.nil)] (.aF []) [aI L a (.ptr 1 0),bE h (.rd (.sl (.int .i64)) R) (.sl 2 0 1 1),cX [cI h.g s]]:=by
 refine bA (live:=[]) (bQ:=[]) (fz:=[]) J1 Tryz.func105 (by kernel_rfl) 2 (by kernel_rfl) 100 ?_;apply of_eq (q:=let q1:=(A.p (V.c (W.ptr 1 0)));let q2:=(R1.pure (Cd.t.and Cd.t) q1);let q3:=(W.int .i64 (0));iR h.g s/\q2.v=q2.v/\q2.v=q2.v/\ak []=A.aF []/\[Ob.mk 106 [Fd.c (W.rd D.str L),Fd.c (W.int .i64 a),Fd.c (W.ptr ((0:Nat)+(1:Nat)) (0:Nat))],Ob.mk 98 [Fd.c (W.int .i64 h.g),Fd.c (W.rd (D.int .i64).sl R),Fd.c (W.sl ((0:Nat)+(1:Nat)+(1:Nat)) (0:Nat) (1:Nat) (1:Nat)),Fd.c (W.int .i64 h.au),Fd.c (W.int .i64 h.most),Fd.c q3,Fd.c (W.int .i64 h.stat),Fd.c q3,Fd.c q3,Fd.c q3,Fd.c W.nil,Fd.c W.nil,Fd.c W.nil],Ob.mk 79 [Fd.a 0 (D.int .i64).sl [cI h.g s]]]=[aI L a (W.ptr 1 0),bE h (W.rd (D.int .i64).sl R) (W.sl 2 0 1 1),cX [cI h.g s]]) (by kernel_rfl)
 try simp only [true_and,and_true,Nat.zero_add,Nat.reduceAdd]
 exact ⟨hs,rfl⟩
theorem Tg (L:List ByteArray) (a:Int) (h:Hd) (R:List (List Int)) (s:ByteArray) (l:List (List Int)) (hs:iR h.g s) (hl:l.length<100):aX Tryz.prog 105 2 [pX,bW s] [aI L a (.ptr 1 0),bE h (.rd (.sl (.int .i64)) R) (.sl 2 0 l.length 1),cX l] (.aF []) [aI L a (.ptr 1 0),bE h (.rd (.sl (.int .i64)) R) (.sl 2 0 (l.length+1) 1),cX (l++[cI h.g s])]:=by
 refine bA (live:=[]) (bQ:=[]) (fz:=[]) J1 Tryz.func105 (by kernel_rfl) 2 (by kernel_rfl) 100 ?_;apply of_eq (q:=let q1:=(A.p (V.c (W.ptr 1 0)));let q2:=(R1.pure (Cd.t.and Cd.t) q1);let q3:=(W.int .i64 (0));(l.length=l.length/\l.length=l.length/\iR h.g s/\l.length<(100:Nat))/\q2.v=q2.v/\q2.v=q2.v/\ak []=A.aF []/\[Ob.mk 106 [Fd.c (W.rd D.str L),Fd.c (W.int .i64 a),Fd.c (W.ptr ((0:Nat)+(1:Nat)) (0:Nat))],Ob.mk 98 [Fd.c (W.int .i64 h.g),Fd.c (W.rd (D.int .i64).sl R),Fd.c (W.sl ((0:Nat)+(1:Nat)+(1:Nat)) (0:Nat) (l.length+(1:Nat)) (1:Nat)),Fd.c (W.int .i64 h.au),Fd.c (W.int .i64 h.most),Fd.c q3,Fd.c (W.int .i64 h.stat),Fd.c q3,Fd.c q3,Fd.c q3,Fd.c W.nil,Fd.c W.nil,Fd.c W.nil],Ob.mk 79 [Fd.a 0 (D.int .i64).sl (l++[cI h.g s])]]=[aI L a (W.ptr 1 0),bE h (W.rd (D.int .i64).sl R) (W.sl 2 0 (l.length+(1:Nat)) 1),cX (l++[cI h.g s])]) (by kernel_rfl)
 try simp only [true_and,and_true,Nat.zero_add,Nat.reduceAdd]
 exact ⟨⟨hs,hl⟩,rfl⟩
def O3:bw:={ refs:=[true,false],keep:=some 2,f:=fun args aj=>match args,aj with
 | [.p (.c (.ptr 0 0)),y],[o1,o2]=>match lZ o1,mD o2,gb .str y with
   | some (L,a),some (h,.rd (.sl (.int .i64)) R,.nil),some s=>some (.p (iR h.g s),.aF [],[aI L a (.ptr 1 0),bE h (.rd (.sl (.int .i64)) R) (.sl 2 0 1 1),cX [cI h.g s]])
   | _,_,_=>none
 | [.p (.c (.ptr 0 0)),y],[o1,o2,o3]=>match lZ o1,mD o2,Ee o3,gb .str y with
   | some (L,a),some (h,.rd (.sl (.int .i64)) R,.sl 2 0 m 1),some l,some s=>some (.p (m=l.length/\iR h.g s/\l.length<100),.aF [],[aI L a (.ptr 1 0),bE h (.rd (.sl (.int .i64)) R) (.sl 2 0 (l.length+1) 1),cX (l++[cI h.g s])])
   | _,_,_,_=>none
 | _,_=>none }
theorem Wq:aH Tryz.prog 105 O3:=by
 refine ⟨by kernel_rfl,fun args aj c r aR e hc=>?_⟩;simp only [O3] at e;split at e
 . split at e
   . rename_i h1 h2 h3;cases e;rw [iD h1,jF h2];intro base η Z w vs R0 hv hK
     match vs,hv with
     | [u,t],⟨a1,a3,_⟩=>exact Tf _ _ _ _ _ hc base η Z w _ R0 ⟨a1,ck h3 a3,trivial⟩ hK
   . cases e
 . split at e
   . rename_i h1 h2 h3 h4;cases e;obtain ⟨rfl,q1,q2⟩:=hc;rw [iD h1,jF h2,zG h3];intro base η Z w vs R0 hv hK
     match vs,hv with
     | [u,t],⟨a1,a3,_⟩=>exact Tg _ _ _ _ _ _ q1 q2 base η Z w _ R0 ⟨a1,ck h4 a3,trivial⟩ hK
   . cases e
 . cases e
def dr (g:Int) (tag:ByteArray):List ByteArray->Option (List (List Int))
 | []=>some []
 | l::ls=>if pfx (tag++iI) l=true then match gj g (af (oU (tag++iI) l)) with
  | none=>none
  | some w=>(dr g tag ls).map (w::·)
   else some []
theorem C8 {L:List ByteArray} {i:Nat} {tag:ByteArray} (_h:i<=L.length):(i=L.length->fN L i tag=false/\L.drop i=[])/\(i<L.length->fN L i tag=pfx (tag++iI) (L.getD i ⟨#[]⟩)/\cg L i tag=oU (tag++iI) (L.getD i ⟨#[]⟩)/\L.drop i=L.getD i ⟨#[]⟩::L.drop (i+1)):=by
 refine ⟨fun h1=>⟨by unfold fN;rw [if_pos (by omega)],List.drop_eq_nil_of_le (by omega)⟩,fun h1=>⟨?_,?_,?_⟩⟩
 . unfold fN;rw [if_neg (by omega),Int.toNat_natCast]
 . unfold cg;rw [if_neg (by omega),Int.toNat_natCast]
 . rw [List.drop_eq_getElem_cons h1,List.getD_eq_getElem?_getD,List.getElem?_eq_getElem h1];rfl
theorem Ti (p s:ByteArray):(oU p s).size<=s.size:=by
 unfold oU;split
 . rw [ByteArray.size_extract];omega
 . exact Nat.le_refl _
theorem qL {L:List ByteArray} {i:Nat} {tag:ByteArray} {g:Int} {ws:List (List Int)} (hi:i<=L.length) (h:fN L i tag=true) (hw:dr g tag (L.drop i)=some ws):i<L.length/\((∀ s∈L,s.size<=20000)->(cg L i tag).size<=20000)/\∃ r,ws=cI g (cg L i tag)::r/\(gj g (af (cg L i tag))).isSome=true/\dr g tag (L.drop (i+1))=some r:=by
 obtain ⟨h0,h1⟩:=C8 (L:=L) (i:=i) (tag:=tag) hi;rcases Nat.lt_or_ge i L.length with hl | hl
 . obtain ⟨e1,e2,e3⟩:=h1 hl;refine ⟨hl,fun hs=>?_,?_⟩
   . rw [e2];exact Nat.le_trans (Ti _ _) (hs _ (vZ hl))
   . rw [e3,dr,if_pos (by rw [<-e1];exact h),<-e2] at hw;split at hw
     . cases hw
     . rename_i w hp;cases hr:dr g tag (L.drop (i+1)) with
       | none=>rw [hr] at hw;cases hw
       | some r =>
         rw [hr] at hw;cases hw;refine ⟨r,?_,by rw [hp];rfl,rfl⟩;unfold cI;rw [hp];rfl
 . rw [(h0 (by omega)).1] at h;cases h
theorem qM {L:List ByteArray} {i:Nat} {tag:ByteArray} {g:Int} {ws:List (List Int)} (hi:i<=L.length) (h:fN L i tag=false) (hw:dr g tag (L.drop i)=some ws):ws=[]:=by
 obtain ⟨h0,h1⟩:=C8 (L:=L) (i:=i) (tag:=tag) hi;rcases Nat.lt_or_ge i L.length with hl | hl
 . obtain ⟨e1,e2,e3⟩:=h1 hl;rw [e3,dr,if_neg (by rw [<-e1,h];decide)] at hw;cases hw;rfl
 . rw [(h0 (by omega)).2] at hw;cases hw;rfl
def uG (l:List ByteArray):Prop:=∀ s∈l,s.size<=20000
noncomputable def O4:bF:=[(107,cN.con),(104,O1)]
theorem Bs:aS Tryz.prog O4:=ai v7.1 (ai Wo ay)
def cB:ByteArray:=⟨#[114,101,108]⟩
abbrev Wr:List Nat:=[0,1,1]
abbrev Ef:List (List Nat×List Nat):=[(Wr,[0,1,4,5,6])]
noncomputable def O5:Site:=aY Tryz.prog O4 Tryz.f54 2 Ef [] []
theorem Mu (L:List ByteArray) (hL:L.length<=900000/\uG L) (h:Hd) (hg:RG h.g):∀ (k i:Nat) (l ws:List (List Int)) (n:Nat),k=L.length-i->i<=L.length->dr h.g cB (L.drop i)=some ws->l.length+ws.length<=100->n=i+ws.length->
 aq O5 (ax (.aF []) [aI L n (.ptr 1 0),bE h (.sl 2 0 (l++ws).length 1) .nil,cX (l++ws)]) Wr (fr [(0,pX),(1,bW cB),(4,.p (.c (.fC 104 0 0))),(5,bW (cg L i cB)),(6,bB (fN L i cB))]) (.ofList [aI L i (.ptr 1 0),bE h (.sl 2 0 l.length 1) .nil,cX l])
 | k,i,l,ws,n,hk,hi,hw,hn,hnn=>by
   refine aK Bs (by kernel_rfl) 100 ?_;apply of_eq (q:=let q1:=(IntKind.i64.wrap ((i:Int)+(1:Int)));let q2:=(W.int .i64 (0));(fN L (i:Int) cB=true->(l.length=l.length/\iR h.g (cg L (i:Int) cB)/\l.length<(100:Nat))/\(cN.c L q1 cB/\cN.b L q1 cB=false)/\aq O5 (ax (A.aF []) [aI L (n:Int) (W.ptr 1 0),bE h (W.sl 2 0 (l++ws).length (1:Nat)) W.nil,cX (l++ws)]) [0,1,1] (fr [(0,A.p (V.c (W.ptr 0 0))),(1,A.p (V.c (W.str cB))),(4,A.p (V.c (W.fC (104:Nat) (0:Nat) (0:Nat)))),(5,A.p (V.c (W.str (cg L q1 cB)))),(6,bB (fN L q1 cB))]) (ah.ofList [Ob.mk 106 [Fd.c (W.rd D.str L),Fd.c (W.int .i64 (cN.n L q1 cB)),Fd.c (W.ptr 1 0)],Ob.mk 98 [Fd.c (W.int .i64 h.g),Fd.c (W.sl 2 0 (l.length+(1:Nat)) 1),Fd.c W.nil,Fd.c (W.int .i64 h.au),Fd.c (W.int .i64 h.most),Fd.c q2,Fd.c (W.int .i64 h.stat),Fd.c q2,Fd.c q2,Fd.c q2,Fd.c W.nil,Fd.c W.nil,Fd.c W.nil],Ob.mk 79 [Fd.a 0 (D.int .i64).sl (l++[cI h.g (cg L (i:Int) cB)])]]))/\(fN L (i:Int) cB=false->ak []=A.aF []/\[Ob.mk 106 [Fd.c (W.rd D.str L),Fd.c (W.int .i64 (i:Int)),Fd.c (W.ptr ((0:Nat)+(1:Nat)) (0:Nat))],Ob.mk 98 [Fd.c (W.int .i64 h.g),Fd.c (W.sl ((0:Nat)+(1:Nat)+(1:Nat)) (0:Nat) l.length (1:Nat)),Fd.c W.nil,Fd.c (W.int .i64 h.au),Fd.c (W.int .i64 h.most),Fd.c q2,Fd.c (W.int .i64 h.stat),Fd.c q2,Fd.c q2,Fd.c q2,Fd.c W.nil,Fd.c W.nil,Fd.c W.nil],Ob.mk 79 [Fd.a 0 (D.int .i64).sl l]]=[aI L (n:Int) (W.ptr 1 0),bE h (W.sl 2 0 (l++ws).length (1:Nat)) W.nil,cX (l++ws)])) (by kernel_rfl)
   try simp only [true_and,Nat.zero_add,Nat.reduceAdd]
   refine ⟨fun h1=>?_,fun h1=>?_⟩
   . obtain ⟨q1,q2,r,q3,q4⟩:=qL (tag:=cB) (g:=h.g) hi h1 hw;subst q3;rw [List.length_cons] at hn;refine ⟨⟨⟨q2 (fun s hs=>hL.2 s hs),hg,q4.1⟩,by omega⟩,⟨⟨by rw [wrap64 (by omega) (by omega)];omega,by decide⟩,rfl⟩,?_⟩;rw [wrap64 (n:=(i:Int)+1) (by omega) (by omega)];cases k with
     | zero=>omega
     | succ k =>
       have:=Mu L hL h hg k (i+1) (l++[cI h.g (cg L i cB)]) r n (by omega) (by omega) q4.2 (by rw [List.length_append];simp;omega) (by rw [List.length_cons] at hnn;omega);have e1:(l++[cI h.g (cg L i cB)]).length=l.length+1:=by simp
       have e2:l++[cI h.g (cg L i cB)]++r=l++cI h.g (cg L i cB)::r:=by simp
       rw [e1,e2] at this;exact this
   . have:=qM hi h1 hw;subst this;rw [List.append_nil,hnn];exact ⟨rfl,rfl⟩
noncomputable def O6:bF:=[(107,cN.con),(105,O3)]
theorem Bt:aS Tryz.prog O6:=ai v7.1 (ai Wq ay)
def cx:ByteArray:=⟨#[115,117,98]⟩
abbrev Ws:List Nat:=[0,1,1]
abbrev Eg:List (List Nat×List Nat):=[(Ws,[0,1,4,5,6])]
noncomputable def O7:Site:=aY Tryz.prog O6 Tryz.f54 2 Eg [] []
theorem Mv (L:List ByteArray) (hL:L.length<=900000/\uG L) (h:Hd) (hg:RG h.g) (R:List (List Int)):∀ (k i:Nat) (l ws:List (List Int)) (n:Nat),k=L.length-i->i<=L.length->dr h.g cx (L.drop i)=some ws->l.length+ws.length<=100->n=i+ws.length->
 aq O7 (ax (.aF []) [aI L n (.ptr 1 0),bE h (.rd (.sl (.int .i64)) R) (.sl 2 0 (l++ws).length 1),cX (l++ws)]) Ws (fr [(0,pX),(1,bW cx),(4,.p (.c (.fC 105 0 0))),(5,bW (cg L i cx)),(6,bB (fN L i cx))]) (.ofList [aI L i (.ptr 1 0),bE h (.rd (.sl (.int .i64)) R) (.sl 2 0 l.length 1),cX l])
 | k,i,l,ws,n,hk,hi,hw,hn,hnn=>by
   refine aK Bt (by kernel_rfl) 100 ?_;apply of_eq (q:=let q1:=(IntKind.i64.wrap ((i:Int)+(1:Int)));let q2:=(W.int .i64 (0));let q3:=(W.rd (D.int .i64).sl R);(fN L (i:Int) cx=true->(l.length=l.length/\iR h.g (cg L (i:Int) cx)/\l.length<(100:Nat))/\(cN.c L q1 cx/\cN.b L q1 cx=false)/\aq O7 (ax (A.aF []) [aI L (n:Int) (W.ptr 1 0),bE h q3 (W.sl 2 0 (l++ws).length (1:Nat)),cX (l++ws)]) [0,1,1] (fr [(0,A.p (V.c (W.ptr 0 0))),(1,A.p (V.c (W.str cx))),(4,A.p (V.c (W.fC (105:Nat) (0:Nat) (0:Nat)))),(5,A.p (V.c (W.str (cg L q1 cx)))),(6,bB (fN L q1 cx))]) (ah.ofList [Ob.mk 106 [Fd.c (W.rd D.str L),Fd.c (W.int .i64 (cN.n L q1 cx)),Fd.c (W.ptr 1 0)],Ob.mk 98 [Fd.c (W.int .i64 h.g),Fd.c q3,Fd.c (W.sl 2 0 (l.length+(1:Nat)) 1),Fd.c (W.int .i64 h.au),Fd.c (W.int .i64 h.most),Fd.c q2,Fd.c (W.int .i64 h.stat),Fd.c q2,Fd.c q2,Fd.c q2,Fd.c W.nil,Fd.c W.nil,Fd.c W.nil],Ob.mk 79 [Fd.a 0 (D.int .i64).sl (l++[cI h.g (cg L (i:Int) cx)])]]))/\(fN L (i:Int) cx=false->ak []=A.aF []/\[Ob.mk 106 [Fd.c (W.rd D.str L),Fd.c (W.int .i64 (i:Int)),Fd.c (W.ptr ((0:Nat)+(1:Nat)) (0:Nat))],Ob.mk 98 [Fd.c (W.int .i64 h.g),Fd.c q3,Fd.c (W.sl ((0:Nat)+(1:Nat)+(1:Nat)) (0:Nat) l.length (1:Nat)),Fd.c (W.int .i64 h.au),Fd.c (W.int .i64 h.most),Fd.c q2,Fd.c (W.int .i64 h.stat),Fd.c q2,Fd.c q2,Fd.c q2,Fd.c W.nil,Fd.c W.nil,Fd.c W.nil],Ob.mk 79 [Fd.a 0 (D.int .i64).sl l]]=[aI L (n:Int) (W.ptr 1 0),bE h q3 (W.sl 2 0 (l++ws).length (1:Nat)),cX (l++ws)])) (by kernel_rfl)
   try simp only [true_and,Nat.zero_add,Nat.reduceAdd]
   refine ⟨fun h1=>?_,fun h1=>?_⟩
   . obtain ⟨q1,q2,r,q3,q4⟩:=qL (tag:=cx) (g:=h.g) hi h1 hw;subst q3;rw [List.length_cons] at hn;refine ⟨⟨⟨q2 (fun s hs=>hL.2 s hs),hg,q4.1⟩,by omega⟩,⟨⟨by rw [wrap64 (by omega) (by omega)];omega,by decide⟩,rfl⟩,?_⟩;rw [wrap64 (n:=(i:Int)+1) (by omega) (by omega)];cases k with
     | zero=>omega
     | succ k =>
       have:=Mv L hL h hg R k (i+1) (l++[cI h.g (cg L i cx)]) r n (by omega) (by omega) q4.2 (by rw [List.length_append];simp;omega) (by rw [List.length_cons] at hnn;omega);have e1:(l++[cI h.g (cg L i cx)]).length=l.length+1:=by simp
       have e2:l++[cI h.g (cg L i cx)]++r=l++cI h.g (cg L i cx)::r:=by simp
       rw [e1,e2] at this;exact this
   . have:=qM hi h1 hw;subst this;rw [List.append_nil,hnn];exact ⟨rfl,rfl⟩
theorem kN (t:TypeId) (k:IntKind) (n:Int) (l:List aJ.Fd):¬ (Ob.mk t (.c (.int k n)::l)).ew:=by
 rintro (h | ⟨_,_,h⟩)
 . cases h
 . cases h
theorem fzR (L:List ByteArray) (n:Nat) (h:Hd) (ws:List (List Int)):∀ base η Z w,St base η Z (.ofList [aI L n (.ptr 1 0),bE h (.sl 2 0 ws.length 1) .nil,cX ws]) w->∃ aB Z',fS 2 base η Z (.ofList [aI L n (.ptr 1 0),bE h (.sl 2 0 ws.length 1) .nil,cX ws]) w aB Z' (.ofList [aI L n (.ptr 1 0),bE h (.rd (.sl (.int .i64)) ws) .nil]) w:=by
 intro base η Z w R0;have e:qo (.ofList [aI L n (.ptr 1 0),bE h (.sl 2 0 ws.length 1) .nil,cX ws]) (.sl (.sl (.int .i64))) (.sl 2 0 ws.length 1)=some (.p (0+ws.length<=ws.length),(((ws.drop 0).take ws.length:List (List Int)):D.ty (.sl (.sl (.int .i64)))),(ah.ofList [aI L n (.ptr 1 0),bE h (.sl 2 0 ws.length 1) .nil,cX ws]).del 2):=by kernel_rfl
 rw [List.drop_zero,List.take_length] at e;obtain ⟨Z1,mv⟩:=R0.qF (n:=1) (o:=bE h (.sl 2 0 ws.length 1) .nil) (pre:=[.c (.int .i64 h.g)]) (post:=[.c .nil,.c (.int .i64 h.au),.c (.int .i64 h.most),.c (.int .i64 0),.c (.int .i64 h.stat),.c (.int .i64 0),.c (.int .i64 0),.c (.int .i64 0),.c .nil,.c .nil,.c .nil]) rfl rfl (kN _ _ _ _) e (show 0+ws.length<=ws.length by omega) rfl (kN _ _ _ _) (fun k hk=>by cases hk);exact ⟨_,Z1,mv.x6 (rs:=[0,1]) (by decide) rfl rfl (fun n hn=>by match n,hn with | 0,_=>rfl | 1,_=>rfl) rfl⟩
theorem fnR (L:List ByteArray) (n:Nat) (h:Hd):∀ base η Z w,St base η Z (.ofList [aI L n (.ptr 1 0),bE h (.nil) .nil]) w->∃ aB Z',fS 2 base η Z (.ofList [aI L n (.ptr 1 0),bE h (.nil) .nil]) w aB Z' (.ofList [aI L n (.ptr 1 0),bE h (.rd (.sl (.int .i64)) []) .nil]) w:=by
 intro base η Z w R0;have e:qo (.ofList [aI L n (.ptr 1 0),bE h (.nil) .nil]) (.sl (.sl (.int .i64))) .nil=some (.t,(([]:List (List Int)):D.ty (.sl (.sl (.int .i64)))),ah.ofList [aI L n (.ptr 1 0),bE h (.nil) .nil]):=by kernel_rfl
 obtain ⟨Z1,mv⟩:=R0.qF (n:=1) (o:=bE h (.nil) .nil) (pre:=[.c (.int .i64 h.g)]) (post:=[.c .nil,.c (.int .i64 h.au),.c (.int .i64 h.most),.c (.int .i64 0),.c (.int .i64 h.stat),.c (.int .i64 0),.c (.int .i64 0),.c (.int .i64 0),.c .nil,.c .nil,.c .nil]) rfl rfl (kN _ _ _ _) e trivial rfl (kN _ _ _ _) (fun k hk=>by cases hk);exact ⟨_,Z1,mv.x6 (rs:=[0,1]) (by decide) rfl rfl (fun n hn=>by match n,hn with | 0,_=>rfl | 1,_=>rfl) rfl⟩
abbrev C9 (h:Hd):List (List Int)->List Ob
 | []=>[bE h (.nil) .nil]
 | w::ws=>[bE h (.sl 2 0 (w::ws).length 1) .nil,cX (w::ws)]
theorem Zq (L:List ByteArray) (hL:L.length<=900000/\uG L) (h:Hd) (hg:RG h.g) (i:Nat) (ws:List (List Int)) (n:Nat) (hi:i<=L.length) (hw:dr h.g cB (L.drop i)=some ws) (hn:ws.length<=100) (hnn:n=i+ws.length) :
 aq O5 (ax (.aF []) (aI L n (.ptr 1 0)::C9 h ws)) Wr (fr [(0,pX),(1,bW cB),(4,.p (.c (.fC 104 0 0))),(5,bW (cg L i cB)),(6,bB (fN L i cB))]) (.ofList [aI L i (.ptr 1 0),bE h (.nil) .nil]):=by
 refine aK Bs (by kernel_rfl) 100 ?_;apply of_eq (q:=let q1:=(IntKind.i64.wrap ((i:Int)+(1:Int)));let q2:=(W.int .i64 (0));(fN L (i:Int) cB=true->iR h.g (cg L (i:Int) cB)/\(cN.c L q1 cB/\cN.b L q1 cB=false)/\aq O5 (ax (A.aF []) (aI L (n:Int) (W.ptr 1 0)::C9 h ws)) [0,1,1] (fr [(0,A.p (V.c (W.ptr 0 0))),(1,A.p (V.c (W.str cB))),(4,A.p (V.c (W.fC (104:Nat) (0:Nat) (0:Nat)))),(5,A.p (V.c (W.str (cg L q1 cB)))),(6,bB (fN L q1 cB))]) (ah.ofList [Ob.mk 106 [Fd.c (W.rd D.str L),Fd.c (W.int .i64 (cN.n L q1 cB)),Fd.c (W.ptr 1 0)],Ob.mk 98 [Fd.c (W.int .i64 h.g),Fd.c (W.sl 2 0 1 1),Fd.c W.nil,Fd.c (W.int .i64 h.au),Fd.c (W.int .i64 h.most),Fd.c q2,Fd.c (W.int .i64 h.stat),Fd.c q2,Fd.c q2,Fd.c q2,Fd.c W.nil,Fd.c W.nil,Fd.c W.nil],Ob.mk 79 [Fd.a 0 (D.int .i64).sl [cI h.g (cg L (i:Int) cB)]]]))/\(fN L (i:Int) cB=false->ak []=A.aF []/\[Ob.mk 106 [Fd.c (W.rd D.str L),Fd.c (W.int .i64 (i:Int)),Fd.c (W.ptr ((0:Nat)+(1:Nat)) (0:Nat))],Ob.mk 98 [Fd.c (W.int .i64 h.g),Fd.c W.nil,Fd.c W.nil,Fd.c (W.int .i64 h.au),Fd.c (W.int .i64 h.most),Fd.c q2,Fd.c (W.int .i64 h.stat),Fd.c q2,Fd.c q2,Fd.c q2,Fd.c W.nil,Fd.c W.nil,Fd.c W.nil]]=aI L (n:Int) (W.ptr 1 0)::C9 h ws)) (by kernel_rfl)
 try simp only [Nat.zero_add]
 refine ⟨fun h1=>?_,fun h1=>?_⟩
 . obtain ⟨q1,q2,r,q3,q4⟩:=qL (tag:=cB) (g:=h.g) hi h1 hw;subst q3;rw [List.length_cons] at hn;refine ⟨⟨q2 (fun s hs=>hL.2 s hs),hg,q4.1⟩,⟨⟨by rw [wrap64 (by omega) (by omega)];omega,by decide⟩,rfl⟩,?_⟩;rw [wrap64 (n:=(i:Int)+1) (by omega) (by omega)];exact Mu L hL h hg _ (i+1) [cI h.g (cg L i cB)] r n rfl (by omega) q4.2 (by simp;omega) (by rw [List.length_cons] at hnn;omega)
 . have:=qM hi h1 hw;subst this;rw [hnn];exact ⟨rfl,rfl⟩
theorem Wt (L:List ByteArray) (hL:L.length<=900000/\uG L) (h:Hd) (hg:RG h.g) (i:Nat) (ws:List (List Int)) (hi:i<=L.length) (hw:dr h.g cB (L.drop i)=some ws) (hn:ws.length<=100):aX Tryz.prog 54 2 [pX,bW cB] [aI L i (.ptr 1 0),bE h (.nil) .nil] (.aF []) (aI L (i+ws.length:Nat) (.ptr 1 0)::C9 h ws):=by
 refine bA (live:=Ef) (bQ:=[]) (fz:=[]) Bs Tryz.func54 (by kernel_rfl) 2 (by kernel_rfl) 100 ?_;apply of_eq (q:=let q1:=(W.int .i64 (0));(cN.c L (i:Int) cB/\cN.b L (i:Int) cB=false)/\aq (aY Tryz.prog O4 Tryz.f54 (2:Nat) Ef [] []) (ax (A.aF []) (aI L (↑(i+ws.length):Int) (W.ptr 1 0)::C9 h ws)) [0,1,1] (fr [(0,A.p (V.c (W.ptr 0 0))),(1,A.p (V.c (W.str cB))),(4,A.p (V.c (W.fC (104:Nat) (0:Nat) (0:Nat)))),(5,A.p (V.c (W.str (cg L (i:Int) cB)))),(6,bB (fN L (i:Int) cB))]) (ah.ofList [Ob.mk 106 [Fd.c (W.rd D.str L),Fd.c (W.int .i64 (cN.n L (i:Int) cB)),Fd.c (W.ptr 1 0)],Ob.mk 98 [Fd.c (W.int .i64 h.g),Fd.c W.nil,Fd.c W.nil,Fd.c (W.int .i64 h.au),Fd.c (W.int .i64 h.most),Fd.c q1,Fd.c (W.int .i64 h.stat),Fd.c q1,Fd.c q1,Fd.c q1,Fd.c W.nil,Fd.c W.nil,Fd.c W.nil]])) (by kernel_rfl);simp only [];exact ⟨⟨⟨by omega,by decide⟩,rfl⟩,Zq L hL h hg i ws _ hi hw hn rfl⟩
theorem Wu (L:List ByteArray) (hL:L.length<=900000/\uG L) (h:Hd) (hg:RG h.g) (i:Nat) (ws:List (List Int)) (hi:i<=L.length) (hw:dr h.g cB (L.drop i)=some ws) (hn:ws.length<=100):aX Tryz.prog 54 2 [pX,bW cB] [aI L i (.ptr 1 0),bE h (.nil) .nil] (.aF []) [aI L (i+ws.length:Nat) (.ptr 1 0),bE h (.rd (.sl (.int .i64)) ws) .nil]:=by
 refine (Wt L hL h hg i ws hi hw hn).post 2 (Nat.le_refl _) (fun η aB Z Z' u _ _ ⟨us,hu,hl⟩=>⟨us,hu,(by cases us with | nil=>trivial | cons _ _=>exact hl.elim)⟩) ?_
 match ws with
 | []=>exact fnR L _ h 
 | w::ws=>exact fzR L _ h (w::ws)
theorem Zs (L:List ByteArray) (a:Int) (h:Hd) (hc:(0<=a/\a<=L.length)/\(L.length<=900000/\uG L)/\RG h.g/\(dr h.g cB (L.drop a.toNat)).isSome=true/\((dr h.g cB (L.drop a.toNat)).getD []).length<=100):aX Tryz.prog 54 2 [pX,bW cB] [aI L a (.ptr 1 0),bE h (.nil) .nil] (.aF []) [aI L (a.toNat+((dr h.g cB (L.drop a.toNat)).getD []).length:Nat) (.ptr 1 0),bE h (.rd (.sl (.int .i64)) ((dr h.g cB (L.drop a.toNat)).getD [])) .nil]:=by
 obtain ⟨⟨q0,q1⟩,q2,q3,q4,q5⟩:=hc;obtain ⟨ws,hw⟩:=Option.isSome_iff_exists.1 q4;have ha:(a.toNat:Int)=a:=by omega
 have:=Wu L q2 h q3 a.toNat ws (by omega) hw (by rw [hw] at q5;exact q5);rw [hw];rw [ha] at this;exact this
theorem fzS (L:List ByteArray) (n:Nat) (h:Hd) (R:List (List Int)) (ws:List (List Int)):∀ base η Z w,St base η Z (.ofList [aI L n (.ptr 1 0),bE h (.rd (.sl (.int .i64)) R) (.sl 2 0 ws.length 1),cX ws]) w->∃ aB Z',fS 2 base η Z (.ofList [aI L n (.ptr 1 0),bE h (.rd (.sl (.int .i64)) R) (.sl 2 0 ws.length 1),cX ws]) w aB Z' (.ofList [aI L n (.ptr 1 0),bE h (.rd (.sl (.int .i64)) R) (.rd (.sl (.int .i64)) ws)]) w:=by
 intro base η Z w R0;have e:qo (.ofList [aI L n (.ptr 1 0),bE h (.rd (.sl (.int .i64)) R) (.sl 2 0 ws.length 1),cX ws]) (.sl (.sl (.int .i64))) (.sl 2 0 ws.length 1)=some (.p (0+ws.length<=ws.length),(((ws.drop 0).take ws.length:List (List Int)):D.ty (.sl (.sl (.int .i64)))),(ah.ofList [aI L n (.ptr 1 0),bE h (.rd (.sl (.int .i64)) R) (.sl 2 0 ws.length 1),cX ws]).del 2):=by kernel_rfl
 rw [List.drop_zero,List.take_length] at e;obtain ⟨Z1,mv⟩:=R0.qF (n:=1) (o:=bE h (.rd (.sl (.int .i64)) R) (.sl 2 0 ws.length 1)) (pre:=[.c (.int .i64 h.g),.c (.rd (.sl (.int .i64)) R)]) (post:=[.c (.int .i64 h.au),.c (.int .i64 h.most),.c (.int .i64 0),.c (.int .i64 h.stat),.c (.int .i64 0),.c (.int .i64 0),.c (.int .i64 0),.c .nil,.c .nil,.c .nil]) rfl rfl (kN _ _ _ _) e (show 0+ws.length<=ws.length by omega) rfl (kN _ _ _ _) (fun k hk=>by cases hk);exact ⟨_,Z1,mv.x6 (rs:=[0,1]) (by decide) rfl rfl (fun n hn=>by match n,hn with | 0,_=>rfl | 1,_=>rfl) rfl⟩
theorem fnS (L:List ByteArray) (n:Nat) (h:Hd) (R:List (List Int)):∀ base η Z w,St base η Z (.ofList [aI L n (.ptr 1 0),bE h (.rd (.sl (.int .i64)) R) (.nil)]) w->∃ aB Z',fS 2 base η Z (.ofList [aI L n (.ptr 1 0),bE h (.rd (.sl (.int .i64)) R) (.nil)]) w aB Z' (.ofList [aI L n (.ptr 1 0),bE h (.rd (.sl (.int .i64)) R) (.rd (.sl (.int .i64)) [])]) w:=by
 intro base η Z w R0;have e:qo (.ofList [aI L n (.ptr 1 0),bE h (.rd (.sl (.int .i64)) R) (.nil)]) (.sl (.sl (.int .i64))) .nil=some (.t,(([]:List (List Int)):D.ty (.sl (.sl (.int .i64)))),ah.ofList [aI L n (.ptr 1 0),bE h (.rd (.sl (.int .i64)) R) (.nil)]):=by kernel_rfl
 obtain ⟨Z1,mv⟩:=R0.qF (n:=1) (o:=bE h (.rd (.sl (.int .i64)) R) (.nil)) (pre:=[.c (.int .i64 h.g),.c (.rd (.sl (.int .i64)) R)]) (post:=[.c (.int .i64 h.au),.c (.int .i64 h.most),.c (.int .i64 0),.c (.int .i64 h.stat),.c (.int .i64 0),.c (.int .i64 0),.c (.int .i64 0),.c .nil,.c .nil,.c .nil]) rfl rfl (kN _ _ _ _) e trivial rfl (kN _ _ _ _) (fun k hk=>by cases hk);exact ⟨_,Z1,mv.x6 (rs:=[0,1]) (by decide) rfl rfl (fun n hn=>by match n,hn with | 0,_=>rfl | 1,_=>rfl) rfl⟩
abbrev Da (h:Hd) (R:List (List Int)):List (List Int)->List Ob
 | []=>[bE h (.rd (.sl (.int .i64)) R) (.nil)]
 | w::ws=>[bE h (.rd (.sl (.int .i64)) R) (.sl 2 0 (w::ws).length 1),cX (w::ws)]
theorem Zt (L:List ByteArray) (hL:L.length<=900000/\uG L) (h:Hd) (hg:RG h.g) (R:List (List Int)) (i:Nat) (ws:List (List Int)) (n:Nat) (hi:i<=L.length) (hw:dr h.g cx (L.drop i)=some ws) (hn:ws.length<=100) (hnn:n=i+ws.length) :
 aq O7 (ax (.aF []) (aI L n (.ptr 1 0)::Da h R ws)) Ws (fr [(0,pX),(1,bW cx),(4,.p (.c (.fC 105 0 0))),(5,bW (cg L i cx)),(6,bB (fN L i cx))]) (.ofList [aI L i (.ptr 1 0),bE h (.rd (.sl (.int .i64)) R) (.nil)]):=by
 refine aK Bt (by kernel_rfl) 100 ?_;apply of_eq (q:=let q1:=(IntKind.i64.wrap ((i:Int)+(1:Int)));let q2:=(W.int .i64 (0));(fN L (i:Int) cx=true->iR h.g (cg L (i:Int) cx)/\(cN.c L q1 cx/\cN.b L q1 cx=false)/\aq O7 (ax (A.aF []) (aI L (n:Int) (W.ptr 1 0)::Da h R ws)) [0,1,1] (fr [(0,A.p (V.c (W.ptr 0 0))),(1,A.p (V.c (W.str cx))),(4,A.p (V.c (W.fC (105:Nat) (0:Nat) (0:Nat)))),(5,A.p (V.c (W.str (cg L q1 cx)))),(6,bB (fN L q1 cx))]) (ah.ofList [Ob.mk 106 [Fd.c (W.rd D.str L),Fd.c (W.int .i64 (cN.n L q1 cx)),Fd.c (W.ptr 1 0)],Ob.mk 98 [Fd.c (W.int .i64 h.g),Fd.c (W.rd (D.int .i64).sl R),Fd.c (W.sl 2 0 1 1),Fd.c (W.int .i64 h.au),Fd.c (W.int .i64 h.most),Fd.c q2,Fd.c (W.int .i64 h.stat),Fd.c q2,Fd.c q2,Fd.c q2,Fd.c W.nil,Fd.c W.nil,Fd.c W.nil],Ob.mk 79 [Fd.a 0 (D.int .i64).sl [cI h.g (cg L (i:Int) cx)]]]))/\(fN L (i:Int) cx=false->ak []=A.aF []/\[Ob.mk 106 [Fd.c (W.rd D.str L),Fd.c (W.int .i64 (i:Int)),Fd.c (W.ptr ((0:Nat)+(1:Nat)) (0:Nat))],Ob.mk 98 [Fd.c (W.int .i64 h.g),Fd.c (W.rd (D.int .i64).sl R),Fd.c W.nil,Fd.c (W.int .i64 h.au),Fd.c (W.int .i64 h.most),Fd.c q2,Fd.c (W.int .i64 h.stat),Fd.c q2,Fd.c q2,Fd.c q2,Fd.c W.nil,Fd.c W.nil,Fd.c W.nil]]=aI L (n:Int) (W.ptr 1 0)::Da h R ws)) (by kernel_rfl)
 try simp only [Nat.zero_add]
 refine ⟨fun h1=>?_,fun h1=>?_⟩
 . obtain ⟨q1,q2,r,q3,q4⟩:=qL (tag:=cx) (g:=h.g) hi h1 hw;subst q3;rw [List.length_cons] at hn;refine ⟨⟨q2 (fun s hs=>hL.2 s hs),hg,q4.1⟩,⟨⟨by rw [wrap64 (by omega) (by omega)];omega,by decide⟩,rfl⟩,?_⟩;rw [wrap64 (n:=(i:Int)+1) (by omega) (by omega)];exact Mv L hL h hg R _ (i+1) [cI h.g (cg L i cx)] r n rfl (by omega) q4.2 (by simp;omega) (by rw [List.length_cons] at hnn;omega)
 . have:=qM hi h1 hw;subst this;rw [hnn];exact ⟨rfl,rfl⟩
theorem Wv (L:List ByteArray) (hL:L.length<=900000/\uG L) (h:Hd) (hg:RG h.g) (R:List (List Int)) (i:Nat) (ws:List (List Int)) (hi:i<=L.length) (hw:dr h.g cx (L.drop i)=some ws) (hn:ws.length<=100):aX Tryz.prog 54 2 [pX,bW cx] [aI L i (.ptr 1 0),bE h (.rd (.sl (.int .i64)) R) (.nil)] (.aF []) (aI L (i+ws.length:Nat) (.ptr 1 0)::Da h R ws):=by
 refine bA (live:=Eg) (bQ:=[]) (fz:=[]) Bt Tryz.func54 (by kernel_rfl) 2 (by kernel_rfl) 100 ?_;apply of_eq (q:=let q1:=(W.int .i64 (0));(cN.c L (i:Int) cx/\cN.b L (i:Int) cx=false)/\aq (aY Tryz.prog O6 Tryz.f54 (2:Nat) Eg [] []) (ax (A.aF []) (aI L (↑(i+ws.length):Int) (W.ptr 1 0)::Da h R ws)) [0,1,1] (fr [(0,A.p (V.c (W.ptr 0 0))),(1,A.p (V.c (W.str cx))),(4,A.p (V.c (W.fC (105:Nat) (0:Nat) (0:Nat)))),(5,A.p (V.c (W.str (cg L (i:Int) cx)))),(6,bB (fN L (i:Int) cx))]) (ah.ofList [Ob.mk 106 [Fd.c (W.rd D.str L),Fd.c (W.int .i64 (cN.n L (i:Int) cx)),Fd.c (W.ptr 1 0)],Ob.mk 98 [Fd.c (W.int .i64 h.g),Fd.c (W.rd (D.int .i64).sl R),Fd.c W.nil,Fd.c (W.int .i64 h.au),Fd.c (W.int .i64 h.most),Fd.c q1,Fd.c (W.int .i64 h.stat),Fd.c q1,Fd.c q1,Fd.c q1,Fd.c W.nil,Fd.c W.nil,Fd.c W.nil]])) (by kernel_rfl);simp only [];exact ⟨⟨⟨by omega,by decide⟩,rfl⟩,Zt L hL h hg R i ws _ hi hw hn rfl⟩
theorem Ww (L:List ByteArray) (hL:L.length<=900000/\uG L) (h:Hd) (hg:RG h.g) (R:List (List Int)) (i:Nat) (ws:List (List Int)) (hi:i<=L.length) (hw:dr h.g cx (L.drop i)=some ws) (hn:ws.length<=100):aX Tryz.prog 54 2 [pX,bW cx] [aI L i (.ptr 1 0),bE h (.rd (.sl (.int .i64)) R) (.nil)] (.aF []) [aI L (i+ws.length:Nat) (.ptr 1 0),bE h (.rd (.sl (.int .i64)) R) (.rd (.sl (.int .i64)) ws)]:=by
 refine (Wv L hL h hg R i ws hi hw hn).post 2 (Nat.le_refl _) (fun η aB Z Z' u _ _ ⟨us,hu,hl⟩=>⟨us,hu,(by cases us with | nil=>trivial | cons _ _=>exact hl.elim)⟩) ?_
 match ws with
 | []=>exact fnS L _ h R 
 | w::ws=>exact fzS L _ h R (w::ws)
theorem Zu (L:List ByteArray) (a:Int) (h:Hd) (R:List (List Int)) (hc:(0<=a/\a<=L.length)/\(L.length<=900000/\uG L)/\RG h.g/\(dr h.g cx (L.drop a.toNat)).isSome=true/\((dr h.g cx (L.drop a.toNat)).getD []).length<=100):aX Tryz.prog 54 2 [pX,bW cx] [aI L a (.ptr 1 0),bE h (.rd (.sl (.int .i64)) R) (.nil)] (.aF []) [aI L (a.toNat+((dr h.g cx (L.drop a.toNat)).getD []).length:Nat) (.ptr 1 0),bE h (.rd (.sl (.int .i64)) R) (.rd (.sl (.int .i64)) ((dr h.g cx (L.drop a.toNat)).getD []))]:=by
 obtain ⟨⟨q0,q1⟩,q2,q3,q4,q5⟩:=hc;obtain ⟨ws,hw⟩:=Option.isSome_iff_exists.1 q4;have ha:(a.toNat:Int)=a:=by omega
 have:=Ww L q2 h q3 R a.toNat ws (by omega) hw (by rw [hw] at q5;exact q5);rw [hw];rw [ha] at this;exact this
end Go.Proofs.YtepmdidomecebaaGreatDoor
