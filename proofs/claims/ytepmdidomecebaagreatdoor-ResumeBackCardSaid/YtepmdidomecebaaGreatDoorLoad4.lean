/- Load. -/
import Derived.Test.YtepmdidomecebaaGreatDoorLoad3
import Derived.Test.YtepmdidomecebaaGreatDoorSave1
namespace Go.aJ
open Go.RowKit
theorem aX.pre {P:Program} {f:FuncId} {k:Nat} {args:List A} {bh fW aR:List Ob} {r:A} (j:Nat) (H:aX P f k args fW r aR) (hj:k<=j)
 (ha:∀ (η aB:Eta) Z Z' vs,(∀ n p,n<j->η n=some p->aB n=some p)->Z.le Z'->aN (bL η Z) args vs->aN (bL aB Z') args vs)
 (hp:∀ base η Z w,St base η Z (.ofList bh) w->∃ aB Z',fS j base η Z (.ofList bh) w aB Z' (.ofList fW) w):aX P f k args bh r aR:=by
 intro base η Z w vs R hvs hK;obtain ⟨di,Z1,mv⟩:=hp base η Z w R;refine (H base di Z1 w vs mv.st (ha η di Z Z1 vs mv.le mv.step.bZ hvs) (hK.mono mv.step.bZ)).mono ?_;rintro e w' ⟨u,aB,Z',rfl,fR,hu⟩;exact ⟨u,aB,Z',rfl,fS.trans (k:=k) ⟨fun n p hn=>mv.le n p (Nat.lt_of_lt_of_le hn hj),mv.st,mv.step⟩ fR (Nat.le_refl _),hu⟩
theorem Kh {k base:Nat} {η aB:Eta} {Z Z':Zeta} {S':ah} {w w':World} (mv:fS k base η Z (.ofList []) w aB Z' S' w'):Below w.heap.size w w':=by
 have hno:∀ b,¬ Own η (.ofList []) b:=by
  rintro b ⟨n,o,p,h,_⟩;rw [ah.aL] at h;simp at h
 exact ⟨mv.step.os,mv.step.tape,mv.step.output,mv.step.size,fun b hb=>mv.step.block b hb (hno b)⟩
end Go.aJ
namespace Go.Proofs.YtepmdidomecebaaGreatDoor
open Go.aJ Go.Words Go.cG
set_option maxRecDepth 100000
theorem TA {η aB:Eta} {Z Z':Zeta} {u:Value} (h:∀ p,η 0=some p->aB 0=some p) (hu:bL η Z pR u):bL aB Z' pR u:=by
 obtain ⟨a,p,hp,e⟩:=hu;exact ⟨a,p,h p hp,e⟩
def MI (h:Hd) (R S:List (List Int)) (p:Pl) (live:Int) (rows:List (List Int)) (par:List Int):Rn:={ g:=h.g,av:=R,sub:=S,au:=h.au,most:=h.most,live:=live,stat:=h.stat,ph:=p.ph,co:=p.co,ix:=p.ix,rows:=rows,par:=par,dl:=[],dn:=0 }
abbrev WS (h:Hd) (R S:List (List Int)) (p:Pl) (live:Int) (rows:List (List Int)) (par:List Int):List Ob:=[fL h R S p live (.sl 1 0 rows.length 1) (.sl 2 0 par.length 1),jZ h.g rows,bp par]
theorem TB (h:Hd) (R S:List (List Int)) (p:Pl) (live:Int) (rows:List (List Int)) (par:List Int):∀ base η Z w,St base η Z (.ofList (WS h R S p live rows par)) w->∃ aB Z',fS 3 base η Z (.ofList (WS h R S p live rows par)) w aB Z' (.ofList (obs (MI h R S p live rows par))) w:=by
 intro base η Z w R0;have mv:=R0.Q7 (n:=0) (o:=fL h R S p live (.sl 1 0 rows.length 1) (.sl 2 0 par.length 1)) (pre:=[.c (.int .i64 h.g),.c (.rd (.sl (.int .i64)) R),.c (.rd (.sl (.int .i64)) S),.c (.int .i64 h.au),.c (.int .i64 h.most),.c (.int .i64 live),.c (.int .i64 h.stat),.c (.int .i64 p.ph),.c (.int .i64 p.co),.c (.int .i64 p.ix),.c (.sl 1 0 rows.length 1),.c (.sl 2 0 par.length 1)]) (post:=[]) rfl rfl (kN _ _ _ _) 3 (.int .i64) (kN _ _ _ _);exact ⟨_,Z,mv.x6 (rs:=[0,1,2,3]) (by decide) rfl rfl (fun n hn=>by match n,hn with | 0,_=>rfl | 1,_=>rfl | 2,_=>rfl) rfl⟩
theorem WT (h:Hd) (R S:List (List Int)) (p:Pl) (live:Int) (rows:List (List Int)) (par:List Int) (H:v8 (MI h R S p live rows par)):aX Tryz.prog 56 1 [pR] (WS h R S p live rows par) (.p (.c (.bool true))) (obs (MI h R S p live rows par)) :=
 (WE _ H).pre 3 (by decide) (fun η aB Z Z' vs hle hz hv=>match vs,hv with
  | [u],⟨hu,_⟩=>⟨TA (hle 0 · (by decide)) hu,trivial⟩) (TB h R S p live rows par)
noncomputable def sLt:Site:=aY Tryz.prog [] Tryz.f50 0 [] [] []
noncomputable def restLt:Code:=match rI sLt.root with | some (_,_,r)=>r | none=>.skip
theorem Ki:QS Tryz.prog 50 2 (fun _ _=>none):=by
 refine ⟨by kernel_rfl,fun base η Z w vs R0 hK hl hv=>?_,fun u aj c aR e=>(by cases e)⟩
 match vs,hl with
 | [v1,v2],_ =>
   refine CallsDIn.mono (U1 (s:=sLt) (n:=100) (rest:=restLt) (d1:=5) (d2:=2) ay rfl Tryz.func50 (by kernel_rfl) (by kernel_rfl) (by kernel_rfl) (by kernel_rfl) (by kernel_rfl) (args:=[.p (.c (.val v1)),.p (.c (.val v2))]) (by kernel_rfl) (m:=.returning) (m':=.returning) (x:=.cT) (v:=.nilIface) (fun η Z=>by first | rfl | trivial | exact ⟨rfl,rfl⟩) (by intro h;cases h) (fun c0 cs=>⟨rfl,rfl⟩) (Qv:=fun _ _=>True) ?_ R0 ⟨⟨(by intro h;cases h),rfl,hv v1 (by simp)⟩,⟨(by intro h;cases h),rfl,hv v2 (by simp)⟩,trivial⟩ hK) ?_
   . skip
     apply of_eq (q:=(false=true->False)/\(false=false->((!true)=true->False)/\((!true)=false->True))) (by kernel_rfl)
     try simp only [imp_self,and_true,Bool.not_eq_true',Bool.not_eq_false']
     trivial
   . rintro e md w' ⟨h1,h2,aB,Z',r,aR,mv,_⟩;exact ⟨h1,h2,Kh mv⟩
end Go.Proofs.YtepmdidomecebaaGreatDoor
namespace Go.Proofs.YtepmdidomecebaaGreatDoor
open Go.aJ Go.Words Go.cG
set_option maxRecDepth 100000
def wi:ByteArray:=⟨#[103,101,110,115]⟩
def Bw:ByteArray:=⟨#[108,105,109,105,116]⟩
def wj:ByteArray:=⟨#[109,111,115,116]⟩
def wm:ByteArray:=⟨#[115,116,97,116,117,115]⟩
def jf:ByteArray:=⟨#[]⟩
structure lV where
 s:ByteArray
 L:List ByteArray
 h:Hd
 R:List (List Int)
 S:List (List Int)
 p:Pl
 eK:Int
 live:Int
 rows:List (List Int)
 par:List Int
 i1:Int
 i2:Int
 i4:Int
def lV.rn (v:lV):Rn:=MI v.h v.R v.S v.p v.live v.rows v.par
structure rT (v:lV):Prop where
 sz:v.s.size<=900000
 sh:uG v.L
 len:v.L.length<=90000
 spl:bq 10 v.s=v.L++[jf]
 h0:v.L.headD jf=jB
 hd:fG v.L 1 [wi,Bw,wj,wm]=some [v.h.g,v.h.au,v.h.most,v.h.stat]
 g:RG v.h.g
 av:dr v.h.g cB (v.L.drop 2)=some v.R
 rl:v.R.length<=100
 e1:v.i1=2+v.R.length
 subs:dr v.h.g cx (v.L.drop v.i1.toNat)=some v.S
 sl:v.S.length<=100
 e2:v.i2=v.i1+v.S.length
 at':fG v.L v.i2 [lA,jf,jf]=some [v.p.ph,v.p.co,v.p.ix]
 lv:qv 0 0 (dN bU (v.L.drop (v.i2.toNat+1)))=v.live
 rws:sW (dN bU (v.L.drop (v.i2.toNat+1)))=v.rows
 prs:hdF (dN bU (v.L.drop (v.i2.toNat+1)))=v.par
 tn:v.rows≠[]
 tok:∀ t∈dN bU (v.L.drop (v.i2.toNat+1)),l5 v.h.g t
 e4:v.i4=v.i2+1+v.rows.length
 fin:v.i4+1=v.L.length
 sum:fG v.L v.i4 [iP]=some [v.eK]
 eK:ld (v.s.extract 0 (v.s.size-(v.L.getD v.i4.toNat jf).size-1))=v.eK
 chs:(v.L.getD v.i4.toNat jf).size<v.s.size
 may:v8 v.rn
 sv:Sv v.rn
 back:aP (dV v.rn)=v.s
def Yh (v:lV):bw:=jj .str .str fun s sep=>(.p (s=v.s/\sep=⟨#[10]⟩),kR (v.L++[jf]),[])
theorem WU (v:lV) (H:rT v):aH Tryz.prog 51 (Yh v):=fu (by kernel_rfl) fun s sep h=>by
 obtain ⟨rfl,rfl⟩:=h;have:=FK v.s ⟨#[10]⟩ rfl H.sz;rw [show bq (dW ⟨#[10]⟩) v.s=v.L++[jf] from H.spl] at this;exact this
def Px:List Ob->Option (List ByteArray×Int×List Ob)
 | o::rest=>match lZ o with | some (L,a)=>some (L,a,rest) | none=>none
 | []=>none
theorem Bx {aj rest:List Ob} {L:List ByteArray} {a:Int} (e:Px aj=some (L,a,rest)):aj=aI L a (.ptr 1 0)::rest:=by
 unfold Px at e;split at e
 . split at e
   . rename_i h;cases e;rw [iD h]
   . cases e
 . cases e
def Py (v:lV):bw:={ refs:=[true,false],f:=fun args aj=>match args with
 | [.p (.c (.ptr 0 0)),y]=>match gb dS y,Px aj with
   | some ([a,b,c,d]:List ByteArray),some (L,i,rest)=>some (.p (L=v.L/\i=1/\[a,b,c,d]=[wi,Bw,wj,wm]),aZ [v.h.g,v.h.au,v.h.most,v.h.stat],aI v.L 2 (.ptr 1 0)::rest)
   | some ([a,b,c]:List ByteArray),some (L,i,rest)=>some (.p (L=v.L/\i=v.i2/\[a,b,c]=[lA,jf,jf]),aZ [v.p.ph,v.p.co,v.p.ix],aI v.L (v.i2+1) (.ptr 1 0)::rest)
   | some ([a]:List ByteArray),some (L,i,rest)=>some (.p (L=v.L/\i=v.i4/\[a]=[iP]),aZ [v.eK],aI v.L (v.i4+1) (.ptr 1 0)::rest)
   | _,_=>none
 | _=>none }
theorem Kj (L:List ByteArray) (i:Int) (ns:List ByteArray) (res:List Int) (hi:0<=i/\i<=L.length) (hl:L.length<=90000) (hs:uG L) (hn:ns.length<=1000) (e:fG L i ns=some res) {y:A} (hy:gb dS y=some ns) (rest:List Ob) :
 aX Tryz.prog 53 (aI L i (.ptr 1 0)::rest).length [.p (.c (.ptr 0 0)),y] (aI L i (.ptr 1 0)::rest) (aZ res) (aI L (i+1) (.ptr 1 0)::rest):=by
 have:=OY.1.2 [.p (.c (.ptr 0 0)),y] (aI L i (.ptr 1 0)::rest) (Cd.p (oV.c L i ns/\oV.b L i ns=false)) (oV.r L i ns) (aI L (oV.n L i ns) (.ptr 1 0)::rest) (by
  have hr:C5 (aI L i (.ptr 1 0)::rest)=some (L,i,.ptr 1 0,rest):=rfl;simp only [rP.con,hy,hr]) ⟨⟨hn,hi,by omega,fun s hs'=>by have:=hs s hs';omega⟩,by show (fG L i ns).isNone=false;rw [e];rfl⟩
 have e2:oV.r L i ns=aZ res:=by
  show aZ ((fG L i ns).getD [])=_;rw [e];rfl
 rw [e2] at this;exact this
theorem WV (v:lV) (H:rT v):aH Tryz.prog 53 (Py v):=by
 refine ⟨by kernel_rfl,fun args aj c r aR e hc=>?_⟩;simp only [Py] at e;have hl:=H.len;have e1:=H.e1;have e2:=H.e2;have e4:=H.e4;have ef:=H.fin;split at e
 . split at e
   . rename_i h1 h2;cases e;obtain ⟨rfl,rfl,hn⟩:=hc;rw [Bx h2];exact Kj _ 1 _ _ ⟨by omega,by omega⟩ hl H.sh (by simp) (by rw [hn];exact H.hd) h1 _
   . rename_i h1 h2;cases e;obtain ⟨rfl,rfl,hn⟩:=hc;rw [Bx h2];exact Kj _ _ _ _ ⟨by omega,by omega⟩ hl H.sh (by simp) (by rw [hn];exact H.at') h1 _
   . rename_i h1 h2;cases e;obtain ⟨rfl,rfl,hn⟩:=hc;rw [Bx h2];exact Kj _ _ _ _ ⟨by omega,by omega⟩ hl H.sh (by simp) (by rw [hn];exact H.sum) h1 _
   . cases e
 . cases e
def Pz (v : lV) : bw := { refs := [true, false], keep := some 2, f := fun args aj => match args, aj with
 | [.p (.c (.ptr 0 0)), y], [o1, o2] => match gb .str y with
   | some s=>match (af s).headD 0 with
     | 114=>match (af s).getD 1 0 with
       | 101=>match lZ o1,mD o2 with
         | some (L,a),some (h,.nil,.nil)=>some (.p (s=cB/\L=v.L/\a=2/\h.g=v.h.g),.aF [],[aI v.L v.i1 (.ptr 1 0),bE h (.rd (.sl (.int .i64)) v.R) .nil])
         | _,_=>none
       | _=>match lZ o1,uH o2 with
         | some (L,a),some (h,R,S,p,0,.nil,.nil)=>some (.p (s=bU/\L=v.L/\a=v.i2+1/\h.g=v.h.g),.aF [],aI v.L v.i4 (.ptr 1 0)::qm h R S p v.live v.rows v.par)
         | _,_=>none
     | _=>match lZ o1,mD o2 with
       | some (L,a),some (h,.rd (.sl (.int .i64)) R,.nil)=>some (.p (s=cx/\L=v.L/\a=v.i1/\h.g=v.h.g),.aF [],[aI v.L v.i2 (.ptr 1 0),bE h (.rd (.sl (.int .i64)) R) (.rd (.sl (.int .i64)) v.S)])
       | _,_=>none
   | _=>none
 | _,_=>none }
theorem allT_v (v:lV) (H:rT v) (h:Hd) (R S:List (List Int)) (p:Pl) (q4:h.g=v.h.g):aX Tryz.prog 54 2 [pX,bW bU] [aI v.L (v.i2+1) (.ptr 1 0),fL h R S p 0 .nil .nil] (.aF []) (aI v.L v.i4 (.ptr 1 0)::qm h R S p v.live v.rows v.par):=by
 have hl:=H.len;have e1:=H.e1;have e2:=H.e2;have e4:=H.e4;have ef:=H.fin;have ht:(v.i2+1).toNat=v.i2.toNat+1:=by omega
 have hlen:(dN bU (v.L.drop (v.i2.toNat+1))).length=v.rows.length:=by rw [<-H.rws];simp [sW]
 have:=WC v.L (v.i2+1) h R S p ⟨hl,by omega,by rw [ht];intro h0;have:=H.rws;rw [h0] at this;exact H.tn this.symm,by rw [ht,q4];exact H.tok⟩;rw [ht,H.lv,H.rws,H.prs,hlen,show ((v.i2.toNat+1+v.rows.length:Nat):Int)=v.i4 by omega] at this;exact this
theorem allS_v (v:lV) (H:rT v) (h:Hd) (R:List (List Int)) (q4:h.g=v.h.g):aX Tryz.prog 54 2 [pX,bW cx] [aI v.L v.i1 (.ptr 1 0),bE h (.rd (.sl (.int .i64)) R) .nil] (.aF []) [aI v.L v.i2 (.ptr 1 0),bE h (.rd (.sl (.int .i64)) R) (.rd (.sl (.int .i64)) v.S)]:=by
 have hl:=H.len;have e1:=H.e1;have e2:=H.e2;have e4:=H.e4;have ef:=H.fin;have hw:=H.subs;rw [<-q4] at hw;have:=Zu v.L v.i1 h R ⟨by omega,⟨by omega,H.sh⟩,by rw [q4];exact H.g,by rw [hw];rfl,by rw [hw];exact H.sl⟩;rw [hw,show ((v.i1.toNat+((some v.S).getD []).length:Nat):Int)=v.i2 by simp;omega] at this;exact this
theorem WW (v : lV) (H : rT v) : aH Tryz.prog 54 (Pz v) := by
 refine ⟨by kernel_rfl,fun args aj c r aR e hc=>?_⟩;simp only [Pz] at e;have hl:=H.len;have e1:=H.e1;have e2:=H.e2;have e4:=H.e4;have ef:=H.fin;have key:∀ {tag s:ByteArray} {aj aR:List Ob} {r:A} {y:A},gb .str y=some s->s=tag->aX Tryz.prog 54 2 [pX,bW tag] aj r aR->aX Tryz.prog 54 2 [.p (.c (.ptr 0 0)),y] aj r aR:=by
  intro tag s aj aR r y hy hs K base η Z w vs R0 hv hK;subst hs
  match vs,hv with
  | [u,t],⟨a1,a3,_⟩=>exact K base η Z w _ R0 ⟨a1,ck hy a3,trivial⟩ hK
 split at e
 · split at e
   . rename_i hs;split at e
     . split at e
       . split at e
         . rename_i h1 h2;cases e;obtain ⟨q1,rfl,rfl,q4⟩:=hc;rw [iD h1,jF h2];refine key hs q1 ?_;have hw:=H.av;rw [<-q4] at hw;have:=Zs v.L 2 _ ⟨by omega,⟨by omega,H.sh⟩,by rw [q4];exact H.g,by show (dr _ cB (v.L.drop 2)).isSome=true;rw [hw];rfl,by show ((dr _ cB (v.L.drop 2)).getD []).length<=100;rw [hw];exact H.rl⟩;rw [show (2:Int).toNat=2 from rfl,hw,show ((2+((some v.R).getD []).length:Nat):Int)=v.i1 by rw [e1];simp] at this;exact this
         . cases e
       . split at e
         . rename_i h1 h2;cases e;obtain ⟨q1,rfl,rfl,q4⟩:=hc;rw [iD h1,sV h2];refine key hs q1 ?_;exact allT_v v H _ _ _ _ q4
         . cases e
     . split at e
       . rename_i h1 h2;cases e;obtain ⟨q1,rfl,rfl,q4⟩:=hc;rw [iD h1,jF h2];refine key hs q1 ?_;exact allS_v v H _ _ q4
       . cases e
   . cases e
 . cases e
def Yi (v:lV):bw:=jC .str fun s=>(.p (s=v.s.extract 0 (v.s.size-(v.L.getD v.i4.toNat jf).size-1)),nI v.eK,[])
theorem WX (v:lV) (H:rT v):aH Tryz.prog 55 (Yi v):=fD (by kernel_rfl) fun s h=>by
 have h:s=_:=h;rw [h];show aT _ _ _ _ (nI v.eK) _;rw [<-H.eK];have hz:=H.sz;exact Ml _ (by rw [ByteArray.size_extract];omega)
def PA (v:lV):bw:={ refs:=[true],keep:=some 1,f:=fun args aj=>match args,aj with
 | [.p (.c (.ptr 0 0))],[o1,o2,o3]=>match uH o1,O8 o2,Dg o3 with
   | some (h,R,S,p,live,.sl 1 0 nr 1,.sl 2 0 np 1),some (k,rows),some par=>some (.p ((MI h R S p live rows par)=v.rn/\nr=rows.length/\np=par.length/\k=(2*h.g).toNat),.dec true,obs v.rn)
   | _,_,_=>none
 | _,_=>none }
theorem WY (v:lV) (H:rT v):aH Tryz.prog 56 (PA v):=by
 refine ⟨by kernel_rfl,fun args aj c r aR e hc=>?_⟩;simp only [PA] at e;split at e
 . split at e
   . rename_i h1 h2 h3;cases e;obtain ⟨q1,rfl,rfl,rfl⟩:=hc;rw [sV h1,Mw h2,FM h3,<-q1];have:=WT _ _ _ _ _ _ _ (by rw [q1];exact H.may);intro base η Z w vs R0 hv hK;refine (this base η Z w vs R0 hv hK).mono ?_;rintro e w' ⟨u,aB,Z',h4,h5,h6⟩;exact ⟨u,aB,Z',h4,h5,h6.2⟩
   . cases e
 . cases e
def Kk (v:lV):bw:={ refs:=[true],keep:=some 1,f:=fun args aj=>match args with
 | [.p (.c (.ptr 0 0))]=>match CN aj with
   | some (c,r)=>some (.p (c/\r=v.rn),bW v.s,obs v.rn)
   | none=>none
 | _=>none }
theorem TD (v:lV) (H:rT v):aH Tryz.prog 17 (Kk v):=by
 refine ⟨by kernel_rfl,fun args aj c r aR e hc=>?_⟩;simp only [Kk] at e;split at e
 . split at e
   . rename_i hr;cases e;obtain ⟨q1,rfl⟩:=hc;rw [p5 hr q1];have:=JC v.rn H.sv;rw [H.back] at this;exact this
   . cases e
 . cases e
noncomputable def gLd (v:lV):bF:=[(51,Yh v),(53,Py v),(54,Pz v),(55,Yi v),(56,PA v),(17,Kk v)]
theorem TF (v:lV) (H:rT v):aS Tryz.prog (gLd v):=ai (WU v H) (ai (WV v H) (ai (WW v H) (ai (WX v H) (ai (WY v H) (ai (TD v H) ay)))))
noncomputable def sLd (v:lV):Site:={ aY Tryz.prog (gLd v) Tryz.f16 0 [] [] [] with tail:=some ⟨50,2,fun _ _=>none,Ki⟩ }
theorem WZ (v:lV) (H:rT v):aT Tryz.prog 16 [bW v.s] [] (.aF [.c (.ptr 0 0),.agg [.int .i64 0,.int .i64 0]]) (obs v.rn):=by
 refine vF (s:=sLd v) (TF v H) rfl Tryz.func16 (by kernel_rfl) rfl (by kernel_rfl) 400 ?_ (fun _ h=>h);apply of_eq (q:=(decide ((8000000:Int)<(v.s.size:Int))=true->ak [V.c W.cn,V.agg [W.int .i64 (4),W.int .i64 (0)]]=A.aF [V.c (W.ptr 0 0),V.agg [W.int .i64 (0),W.int .i64 (0)]]/\[]=obs v.rn)/\(decide ((8000000:Int)<(v.s.size:Int))=false->Ie (sLd v) (fun r o=>r=A.aF [V.c (W.ptr 0 0),V.agg [W.int .i64 (0),W.int .i64 (0)]]/\o=obs v.rn) [0,1,1] (fr [(0,A.p (V.c (W.str v.s))),(2,A.p (V.c (W.ptr 0 0))),(3,A.p (V.c (W.ptr 1 0))),(11,A.p (V.c (W.str v.s))),(12,nI (v.s.size:Int)),(13,A.dec false),(15,A.p (V.c (W.func 50 [(0,(0:Nat)),(1,(0:Nat))])))]) (ah.ofList [Ob.mk 37 [Fd.c W.cn],Ob.mk 44 [Fd.c (W.int .i64 (0)),Fd.c (W.int .i64 (0))]]))) (by kernel_rfl)
 try simp only [decide_eq_true_eq,decide_eq_false_iff_not,Int.not_lt]
 have h1:=H.sz;refine ⟨fun h=>by omega,fun _=>?_⟩;refine Rb (T:=⟨50,2,fun _ _=>none,Ki⟩) (TF v H) rfl rfl rfl rfl 400 ?_;have hn:IntKind.i64.wrap (((v.L++[jf]).length:Int)-1)=v.L.length:=by
  rw [List.length_append,List.length_singleton];have:=H.len;exact (wrap64 (by omega) (by omega)).trans (by omega)
 apply of_eq (q:=let q0:=IntKind.i64.wrap;let q2:=((↑(v.L++[jf]).length:Int)-(1:Int));let q4:=decide (v.i4+(1:Int)<(v.L.length:Int));let q5:=(q0 ((v.s.size:Int)-(↑(v.L.getD v.i4.toNat (ByteArray.mk #[])).size:Int))-(1:Int));let q6:=(0:Int);let q7:=(0:Nat);let q8:=(List.take (q0 q2).toNat (v.L++[jf]));let q9:=decide ((v.L++[jf]).getD (q0 q2).toNat (ByteArray.mk #[])=ByteArray.mk #[]);let aC:=(1:Nat);let aM:=((2:Int) * [v.h.g,v.h.au,v.h.most,v.h.stat].getD q7 q6);let q1:=decide ((↑(List.drop q7 q8).length:Int)=q6);let q3:=decide ((List.drop q7 q8).getD q7 (ByteArray.mk #[])=ByteArray.mk #[(99:UInt8),(111:UInt8),(115:UInt8),(101:UInt8),(116:UInt8),(32:UInt8),(49:UInt8)]);(v.s=v.s/\ByteArray.mk #[(10:UInt8)]=ByteArray.mk #[(10:UInt8)])/\(q6<=q0 q2/\q0 q2<(↑(v.L++[jf]).length:Int))/\(q0 q2).toNat<(v.L++[jf]).length/\(q6<=q6/\q6<=q0 q2/\q0 q2<=(↑(v.L++[jf]).length:Int))/\(q1=false->q1=false)/\(q1=false->q1=false)/\(q1=false->q1=false)/\(q1=false->q1=false)/\(q1=false->q6<=q6/\q6<(↑(List.drop q7 q8).length:Int))/\(q1=false->q1=false)/\(q1=false->q7<(List.drop q7 q8).length)/\(q1=false->q1=false)/\(q1=false->q1=false)/\((bif q1 then true else !q3)=true->False)/\((bif q1 then true else !q3)=false->q7+(4:Nat)<=(4:Nat)/\(List.drop q7 q8=v.L/\q0 (q6+(1:Int))=(1:Int)/\[ByteArray.mk #[(103:UInt8),(101:UInt8),(110:UInt8),(115:UInt8)],ByteArray.mk #[(108:UInt8),(105:UInt8),(109:UInt8),(105:UInt8),(116:UInt8)],ByteArray.mk #[(109:UInt8),(111:UInt8),(115:UInt8),(116:UInt8)],ByteArray.mk #[(115:UInt8),(116:UInt8),(97:UInt8),(116:UInt8),(117:UInt8),(115:UInt8)]]=[wi,Bw,wj,wm])/\(q6<=q6/\q6<(↑(4:Nat):Int))/\q7<(4:Nat)/\(q6<=(1:Int)/\(1:Int)<(↑(4:Nat):Int))/\aC<(4:Nat)/\(q6<=(2:Int)/\(2:Int)<(↑(4:Nat):Int))/\(2:Nat)<(4:Nat)/\(q6<=(3:Int)/\(3:Int)<(↑(4:Nat):Int))/\(3:Nat)<(4:Nat)/\(ByteArray.mk #[(114:UInt8),(101:UInt8),(108:UInt8)]=cB/\v.L=v.L/\(2:Int)=(2:Int)/\[v.h.g,v.h.au,v.h.most,v.h.stat].getD q7 q6=v.h.g)/\(ByteArray.mk #[(115:UInt8),(117:UInt8),(98:UInt8)]=cx/\v.L=v.L/\v.i1=v.i1/\[v.h.g,v.h.au,v.h.most,v.h.stat].getD q7 q6=v.h.g)/\q7+(3:Nat)<=(3:Nat)/\(v.L=v.L/\v.i2=v.i2/\[ByteArray.mk #[(97:UInt8),(116:UInt8)],ByteArray.mk #[],ByteArray.mk #[]]=[lA,jf,jf])/\(q6<=q6/\q6<(↑(3:Nat):Int))/\q7<(3:Nat)/\(q6<=(1:Int)/\(1:Int)<(↑(3:Nat):Int))/\aC<(3:Nat)/\(q6<=(2:Int)/\(2:Int)<(↑(3:Nat):Int))/\(2:Nat)<(3:Nat)/\(ByteArray.mk #[(114:UInt8),(111:UInt8),(119:UInt8)]=bU/\v.L=v.L/\v.i2+(1:Int)=v.i2+(1:Int)/\[v.h.g,v.h.au,v.h.most,v.h.stat].getD q7 q6=v.h.g)/\q7+aC<=aC/\(v.L=v.L/\v.i4=v.i4/\[ByteArray.mk #[(115:UInt8),(117:UInt8),(109:UInt8)]]=[iP])/\(q6<=q6/\q6<(↑aC:Int))/\q7<aC/\(q4=false->q4=false)/\(q4=false->q4=false)/\((bif q4 then true else !q9)=true->False)/\((bif q4 then true else !q9)=false->(q6<=v.i4/\v.i4<(v.L.length:Int))/\v.i4.toNat<v.L.length/\(q6<=q6/\q6<=q0 q5/\q0 q5<=(v.s.size:Int))/\v.s.extract q7 (q0 q5).toNat=v.s.extract q7 (v.s.size-(v.L.getD v.i4.toNat jf).size-aC)/\((!decide ([v.eK].getD q7 q6=v.eK))=true->False)/\((!decide ([v.eK].getD q7 q6=v.eK))=false->(MI (Hd.mk ([v.h.g,v.h.au,v.h.most,v.h.stat].getD q7 q6) ([v.h.g,v.h.au,v.h.most,v.h.stat].getD aC q6) ([v.h.g,v.h.au,v.h.most,v.h.stat].getD (2:Nat) q6) ([v.h.g,v.h.au,v.h.most,v.h.stat].getD (3:Nat) q6)) v.R v.S (Pl.mk ([v.p.ph,v.p.co,v.p.ix].getD q7 q6) ([v.p.ph,v.p.co,v.p.ix].getD aC q6) ([v.p.ph,v.p.co,v.p.ix].getD (2:Nat) q6)) v.live v.rows v.par=v.rn/\v.rows.length=v.rows.length/\v.par.length=v.par.length/\aM.toNat=aM.toNat)/\((v.rn.rows.length=v.rn.rows.length/\v.rn.par.length=v.rn.par.length/\((2:Int)*v.rn.g).toNat=((2:Int)*v.rn.g).toNat)/\v.rn=v.rn)/\((!decide (v.s=v.s))=true->False)/\((!decide (v.s=v.s))=false->ak [V.c (W.ptr 0 0),V.agg [W.int .i64 (0),W.int .i64 (0)]]=A.aF [V.c (W.ptr 0 0),V.agg [W.int .i64 (0),W.int .i64 (0)]]/\[Ob.mk 98 [Fd.c (W.int .i64 v.rn.g),Fd.c (W.rd (D.int .i64).sl v.rn.av),Fd.c (W.rd (D.int .i64).sl v.rn.sub),Fd.c (W.int .i64 v.rn.au),Fd.c (W.int .i64 v.rn.most),Fd.c (W.int .i64 v.rn.live),Fd.c (W.int .i64 v.rn.stat),Fd.c (W.int .i64 v.rn.ph),Fd.c (W.int .i64 v.rn.co),Fd.c (W.int .i64 v.rn.ix),Fd.c (W.sl (q7+aC) q7 v.rn.rows.length aC),Fd.c (W.sl (q7+aC+aC) q7 v.rn.par.length aC),Fd.c (W.sl (q7+aC+aC+aC) q7 q7 aC)],Ob.mk 22 [Fd.c (W.th ((2:Int)*v.rn.g).toNat v.rn.rows)],Ob.mk 3 [Fd.a 0 (D.int .i64) v.rn.par],Ob.mk 3 [Fd.a 0 (D.int .i64) v.rn.dl]]=obs v.rn))))) (by kernel_rfl)
 try simp only [imp_self,true_and,and_true,Nat.zero_add,Bool.cond_true_left,Bool.or_eq_true,Bool.or_eq_false_iff,Bool.not_eq_true',Bool.not_eq_false',decide_eq_true_eq,decide_eq_false_iff_not,Int.not_lt,List.drop_zero,Nat.le_refl,Int.le_refl,Nat.reduceAdd]
 rw [hn];have hl:=H.len;have e1:=H.e1;have e2:=H.e2;have e4:=H.e4;have ef:=H.fin;have hcs:=H.chs;rw [Int.toNat_natCast];have ht:List.take v.L.length (v.L++[jf])=v.L:=List.take_left' rfl;have hla:(v.L++[jf]).length=v.L.length+1:=by simp
 have hgd:(v.L++[jf]).getD v.L.length ⟨#[]⟩=⟨#[]⟩:=by
  rw [List.getD_eq_getElem?_getD,List.getElem?_append_right (Nat.le_refl _),Nat.sub_self];rfl
 have Le:v.L.getD 0 ⟨#[]⟩=⟨#[99,111,115,101,116,32,49]⟩:=by
  have:=H.h0;cases hL:v.L with
  | nil=>rw [hL] at ef;simp at ef;omega
  | cons x t=>rw [hL] at this;exact this
 have hemp:(v.L.getD v.i4.toNat jf).size=(v.L.getD v.i4.toNat ⟨#[]⟩).size:=rfl;rw [hemp] at hcs ⊢;have hw:IntKind.i64.wrap (IntKind.i64.wrap ((v.s.size:Int)-(v.L.getD v.i4.toNat ⟨#[]⟩).size)-1)=(v.s.size:Int)-(v.L.getD v.i4.toNat ⟨#[]⟩).size-1:=by
  rw [wrap64 (n:=(v.s.size:Int)-_) (by omega) (by omega),wrap64 (by omega) (by omega)]
 rw [hw,ht,hla,hgd,Le];refine ⟨by omega,by omega,by omega,fun _=>by omega,fun _=>by omega,fun h=>?_,fun _=>⟨⟨rfl,rfl,rfl⟩,by decide,by decide,by decide,by decide,by decide,by decide,by decide,by decide,⟨rfl,rfl⟩,⟨rfl,rfl⟩,rfl,by decide,by decide,by decide,by decide,by decide,by decide,⟨rfl,rfl⟩,rfl,by decide,by decide,fun h=>?_,fun _=>⟨by omega,by omega,by omega,?_,fun h=>absurd rfl h,fun _=>⟨rfl,fun h=>absurd trivial h,fun _=>⟨rfl,rfl⟩⟩⟩⟩⟩
 . rcases h with h | h
   . omega
   . exact absurd rfl h
 . rcases h with h | h
   . omega
   . exact absurd rfl h
 . congr 1;omega
end Go.Proofs.YtepmdidomecebaaGreatDoor
