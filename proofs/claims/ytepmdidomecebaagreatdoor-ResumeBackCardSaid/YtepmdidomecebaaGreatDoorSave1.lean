/- strings.Builder: what its calls do to the bytes that were written. -/
import Derived.Test.YtepmdidomecebaaGreatDoorPres1
import Derived.Test.YtepmdidomecebaaGreatDoorLoom5
import Derived.Test.YtepmdidomecebaaGreatDoorEng2
import Derived.Test.YtepmdidomecebaaGreatDoorShelf1
import Derived.Lib.ItoaLen
namespace Go.Proofs.YtepmdidomecebaaGreatDoor
open Go.aJ
set_option maxRecDepth 100000
def Sw:Go.Shelf.Ren:=⟨fun | 240=>108 | 276=>142 | n=>n,fun | 9=>9 | 4=>4 | 0=>0 | 20=>20 | 72=>113 | 70=>111 | 37=>62 | 164=>194 | 5=>5 | 80=>47 | n=>n,fun | n=>n⟩
theorem Zg:Go.Proofs.Lays.n240 Tryz.prog Sw:={
 mixed:=by kernel_rfl
 f240:=Tryz.func108.trans (congrArg some (by kernel_rfl))
 f276:=Tryz.func142.trans (congrArg some (by kernel_rfl))
 t0:=Tryz.underlying0
 a0:=Tryz.isAgg0
 z0:=Tryz.sizeOf0
 v0:=Tryz.zeroValue0
 t4:=Tryz.underlying4
 a4:=Tryz.isAgg4
 z4:=Tryz.sizeOf4
 v4:=Tryz.zeroValue4
 t9:=Tryz.underlying9
 a9:=Tryz.isAgg9
 z9:=Tryz.sizeOf9
 v9:=Tryz.zeroValue9
 t20:=Tryz.underlying20
 a20:=Tryz.isAgg20
 z20:=Tryz.sizeOf20
 v20:=Tryz.zeroValue20
 t70:=Tryz.underlying111
 a70:=Tryz.isAgg111
 z70:=Tryz.sizeOf111
 v70:=Tryz.zeroValue111
 t72:=Tryz.underlying113
 a72:=Tryz.isAgg113
 z72:=Tryz.sizeOf113
 v72:=Tryz.zeroValue113
 t164:=Tryz.underlying194
 a164:=Tryz.isAgg194
 z164:=Tryz.sizeOf194
 v164:=Tryz.zeroValue194 }
theorem x72:Go.Proofs.Builder.X72 Tryz.prog Sw:={ sizeBuilder:=by kernel_rfl,liesBuilder:=by kernel_rfl }
abbrev mr (n:Nat):Ob:=⟨113,[.c (.ba 0),.c (.sl 1 0 n 1)]⟩
abbrev gU (l:List Int):Ob:=⟨5,[.a 0 (.int .u8) l]⟩
def cCc:bw:={ refs:=[true],f:=fun args aj=>match args,aj with
 | [.p (.c (.ptr a b))],(⟨t,[.c (.ba n),.c x]⟩::rest)=>bif Nat.beq a 0&&(Nat.beq b 0&&(Nat.beq n 0&&Nat.beq t 113)) then some (.t,.aF [],(⟨t,[.c (.ba n),.c x]⟩::rest)) else none
 | _,_=>none }
theorem cCc_ok:aH Tryz.prog 108 cCc:=by
 refine ⟨by kernel_rfl,fun args aj c r aR e hc=>?_⟩;simp only [cCc] at e;split at e
 . obtain ⟨hb,e⟩:=ar.aD e;simp only [Bool.and_eq_true,Nat.beq_eq] at hb;obtain ⟨rfl,rfl,rfl,rfl⟩:=hb;cases e;exact F8 Zg x72 (by kernel_rfl) _ _
 . cases e
def Me:Ob->Option (List Int)
 | ⟨ty,[.a k d l]⟩=>bif Nat.beq ty 5&&Nat.beq k 0 then (if h:d=.int .u8 then some (h▸l:List (D.int .u8).ty) else none) else none
 | _=>none
theorem CX {o:Ob} {l:List Int} (e:Me o=some l):o=gU l:=by
 unfold Me at e;split at e
 . obtain ⟨hb,e⟩:=ar.aD e;simp only [Bool.and_eq_true,Nat.beq_eq] at hb;obtain ⟨rfl,rfl⟩:=hb;split at e
   . rename_i h;subst h;cases e;rfl
   . cases e
 . cases e
def Mf:Ob->Option Nat
 | ⟨ty,[.c (.ba a),.c (.sl b c n z)]⟩=>bif Nat.beq ty 113&&(Nat.beq a 0&&(Nat.beq b 1&&(Nat.beq c 0&&Nat.beq z 1))) then some n else none
 | _=>none
theorem CY {o:Ob} {n:Nat} (e:Mf o=some n):o=mr n:=by
 unfold Mf at e;split at e
 . obtain ⟨hb,e⟩:=ar.aD e;simp only [Bool.and_eq_true,Nat.beq_eq] at hb;obtain ⟨rfl,rfl,rfl,rfl,rfl⟩:=hb;cases e;rfl
 . cases e
theorem fe (s:ByteArray):(af s).length=s.size:=by simp [af]
noncomputable def gWst:bF:=[(108,cCc)]
theorem Ea:aS Tryz.prog gWst:=ai cCc_ok ay
theorem Zh (l:List Int) (s:ByteArray) (h:l.length+s.size<=1000000):aX Tryz.prog 58 1 [pt 0,.p (.c (.str s))] [mr l.length,gU l] (.aF [.c (.int .i64 s.size),.c .cT]) [mr (l.length+s.size),gU (l++af s)]:=by
 refine bA (live:=[]) (bQ:=[]) (fz:=[]) Ea Tryz.func58 (by kernel_rfl) 1 (by kernel_rfl) 100 ?_;apply of_eq (q:=((0:Nat)=(0:Nat)/\l.length=l.length/\(l.length+(af s).length)*(1:Nat)<=(140737488355328:Nat))/\ak [V.c (W.int .i64 (s.size:Int)),V.c W.cT]=A.aF [V.c (W.int .i64 (s.size:Int)),V.c W.cT]/\[Ob.mk 113 [Fd.c (W.ba (0:Nat)),Fd.c (W.sl ((0:Nat)+(1:Nat)) (0:Nat) (l.length+(af s).length) (1:Nat))],Ob.mk 5 [Fd.a 0 (D.int .u8) (List.take l.length (List.drop (0:Nat) l)++af s)]]=[mr (l.length+s.size),gU (l++af s)]) (by kernel_rfl)
 try simp only [true_and,Nat.zero_add,Nat.mul_one,List.drop_zero,List.take_length]
 rw [fe];exact ⟨by omega,rfl,rfl⟩
def OO:bw:={ refs:=[true,false],keep:=some 1,f:=fun args aj=>match args,aj with
 | [.p (.c (.ptr a b)),x],[o,u]=>bif Nat.beq a 0&&Nat.beq b 0 then (match Mf o,Me u,gb .str x with | some n,some l,some s=>some (.p (n=l.length/\l.length+s.size<=1000000),.aF [.c (.int .i64 s.size),.c .cT],[mr (l.length+s.size),gU (l++af s)]) | _,_,_=>none) else none
 | _,_=>none }
theorem Mh:aH Tryz.prog 58 OO:=by
 refine ⟨by kernel_rfl,fun args aj c r aR e hc=>?_⟩;simp only [OO] at e;split at e
 . obtain ⟨hb,e⟩:=ar.aD e;simp only [Bool.and_eq_true,Nat.beq_eq] at hb;obtain ⟨rfl,rfl⟩:=hb;split at e
   . rename_i n l s ho hu hx;cases e;obtain ⟨rfl,h2⟩:=hc;rw [CY ho,CX hu];intro base η Z w vs R hv;refine Zh l s h2 base η Z w vs R ?_
     match vs,hv with
     | [u,v],⟨h1,h2,h3⟩=>exact ⟨h1,ck hx h2,h3⟩
   . cases e
 . cases e
end Go.Proofs.YtepmdidomecebaaGreatDoor
namespace Go.Proofs.YtepmdidomecebaaGreatDoor
open Go.aJ Go.Words Go.cG
set_option maxRecDepth 100000
def bH (n:Int):ByteArray:=⟨(Lib.itoa n).toArray⟩
theorem V5 {Z:Zeta} (hK:gH Tryz.prog Z) {base:Nat} {η:Eta} {S:ah} {w:World} (R:St base η Z S w):Lib.TabIs Tryz.prog w "internal/strconv.uint64pow10" .u64 Lib.pow10Tab:=by
 obtain ⟨g,hg⟩:∃ g,Tryz.prog.globalNamed "internal/strconv.uint64pow10" = some g:=⟨1,by kernel_rfl⟩;have h:=hK ("internal/strconv.uint64pow10",.u64,Nt) (by simp [Nu]) g hg;obtain ⟨ty,fz,e⟩:=R.zs _ _ h;unfold Lib.TabIs World.var?;rw [hg];simp only [Option.bind_some,e];rfl
theorem Zi (n:Int) (h:-9223372036854775808<=n/\n<=9223372036854775807):aT Tryz.prog 59 [nI n] [] (bW (bH n)) [] :=
 x5 (d := .str) (y := bH n) fun base η Z w vs R hvs hK => by
  match vs,hvs with
  | [v],⟨⟨_,h1⟩,_⟩ =>
    have h1:v=.int .i64 n:=h1;subst h1;refine (Tryz.strconv_Itoa n h.1 h.2 w (V5 hK R)).mono ?_;rintro e w' ⟨rfl,k,os,rfl⟩;exact ⟨_,rfl,fun _=>rfl,⟨rfl,rfl,rfl,by simp [Sort.grow,World.drewN],fun b hb=>by simp only [Sort.grow,World.drewN];rw [Array.getElem?_append_left hb]⟩⟩
def V6:bw:=jC (.int .i64) fun n=>(.p (-9223372036854775808<=(show Int from n)/\(show Int from n)<=9223372036854775807),bW (bH n),[])
theorem Mi:aH Tryz.prog 59 V6:=fD (by kernel_rfl) fun n h=>Zi n h
theorem eI (n:Int) (h:-9223372036854775808<=n/\n<=9223372036854775807):(bH n).size<=21:=Lib.itoa_length_le n h.1 h.2
theorem wb_sem (l:List Int) (c:Int) (h:l.length+1<=1000000):aX Tryz.prog 60 1 [pt 0,.p (.c (.int .u8 c))] [mr l.length,gU l] (.p (.c .cT)) [mr (l.length+1),gU (l++[c])]:=by
 refine bA (live:=[]) (bQ:=[]) (fz:=[]) Ea Tryz.func60 (by kernel_rfl) 1 (by kernel_rfl) 100 ?_;apply of_eq (q:=(0:Nat)+(1:Nat)<=(1:Nat)/\((0:Nat)=(0:Nat)/\l.length=l.length/\(l.length+(1:Nat))*(1:Nat)<=(140737488355328:Nat))/\ak [V.c W.cT]=A.p (V.c W.cT)/\[Ob.mk 113 [Fd.c (W.ba (0:Nat)),Fd.c (W.sl ((0:Nat)+(1:Nat)) (0:Nat) (l.length+(1:Nat)) (1:Nat))],Ob.mk 5 [Fd.a 0 (D.int .u8) (List.take l.length (List.drop (0:Nat) l)++List.take (1:Nat) (List.drop (0:Nat) [c]))]]=[mr (l.length+(1:Nat)),gU (l++[c])]) (by kernel_rfl)
 try simp only [true_and,and_true,Nat.zero_add,Nat.mul_one,List.drop_zero,List.take_length,List.take_succ_cons,List.take_zero,Nat.le_refl]
 exact ⟨by omega,rfl⟩
def XY:bw:={ refs:=[true,false],keep:=some 1,f:=fun args aj=>match args,aj with
 | [.p (.c (.ptr a b)),.p (.c (.int .u8 c))],[o,u]=>bif Nat.beq a 0&&Nat.beq b 0 then (match Mf o,Me u with | some n,some l=>some (.p (n=l.length/\l.length+1<=1000000),.p (.c .cT),[mr (l.length+1),gU (l++[c])]) | _,_=>none) else none
 | _,_=>none }
theorem Sx:aH Tryz.prog 60 XY:=by
 refine ⟨by kernel_rfl,fun args aj c r aR e hc=>?_⟩;simp only [XY] at e;split at e
 . obtain ⟨hb,e⟩:=ar.aD e;simp only [Bool.and_eq_true,Nat.beq_eq] at hb;obtain ⟨rfl,rfl⟩:=hb;split at e
   . rename_i n l ho hu;cases e;obtain ⟨rfl,h2⟩:=hc;rw [CY ho,CX hu];exact wb_sem l _ h2
   . cases e
 . cases e
def jA (l:List Int):List Int:=l.flatMap fun x=>32::af (bH x)
def ji (x:Int):Prop:=-9223372036854775808<=x/\x<=9223372036854775807
theorem sO:∀ l:List Int,(∀ x∈l,ji x)->(jA l).length<=22*l.length
 | [],_=>Nat.le_refl _
 | x::l,h=>by
   have h1:=eI x (h x (by simp));have h2:=sO l fun y hy=>h y (by simp [hy]);unfold jA at h2 ⊢;rw [List.flatMap_cons,List.length_append,List.length_cons,fe,List.length_cons];omega
noncomputable def gLn:bF:=[(58,OO),(60,XY),(59,V6)]
theorem Sy:aS Tryz.prog gLn:=ai Mh (ai Sx (ai Mi ay))
noncomputable def sLn:Site:=aY Tryz.prog gLn Tryz.f57 1 [([0,1,0,1],[0,11,12,13])] [] []
theorem Mj (R:List Int) (xs:List Int) (hx:∀ x∈xs,ji x) (hxl:xs.length<=1000000):∀ (n i:Nat) (l:List Int),n=xs.length-i->i<=xs.length->l.length+22*n+1<=1000000->R=l++jA (xs.drop i)++[10]->
 aq sLn (ax (.aF []) [mr R.length,gU R]) [0,1,0,1] (fr [(0,pt 0),(11,aZ xs),(12,nI xs.length),(13,nI i)]) (.ofList [mr l.length,gU l])
 | n, i, l, hn, hi, hl, hR => by
   refine aK Sy (by kernel_rfl) 100 ?_;apply of_eq (q:=(decide ((i:Int)<(xs.length:Int))=true->((0:Int)<=(i:Int)/\(i:Int)<(xs.length:Int))/\i<xs.length/\(l.length=l.length/\l.length+(1:Nat)<=(1000000:Nat))/\((-9223372036854775808:Int)<=xs.getD i (0:Int)/\xs.getD i (0:Int)<=(9223372036854775807:Int))/\(l.length+(1:Nat)=(l++[(32:Int)]).length/\(l++[(32:Int)]).length+(bH (xs.getD i (0:Int))).size<=(1000000:Nat))/\aq sLn (ax (A.aF []) [mr R.length,gU R]) [0,1,0,1] (fr [(0,A.p (V.c (W.ptr 0 0))),(11,aZ xs),(12,nI (xs.length:Int)),(13,nI (IntKind.i64.wrap ((i:Int)+(1:Int))))]) (ah.ofList [Ob.mk 113 [Fd.c (W.ba (0:Nat)),Fd.c (W.sl 1 0 ((l++[(32:Int)]).length+(bH (xs.getD i (0:Int))).size) (1:Nat))],Ob.mk 5 [Fd.a 0 (D.int .u8) (l++[(32:Int)]++af (bH (xs.getD i (0:Int))))]]))/\(decide ((i:Int)<(xs.length:Int))=false->(l.length=l.length/\l.length+(1:Nat)<=(1000000:Nat))/\ak []=A.aF []/\[Ob.mk 113 [Fd.c (W.ba (0:Nat)),Fd.c (W.sl ((0:Nat)+(1:Nat)) (0:Nat) (l.length+(1:Nat)) (1:Nat))],Ob.mk 5 [Fd.a 0 (D.int .u8) (l++[(10:Int)])]]=[mr R.length,gU R])) (by kernel_rfl)
   try simp only [true_and,Nat.zero_add,decide_eq_true_eq,decide_eq_false_iff_not,Int.not_lt]
   have hd:i<xs.length->jA (xs.drop i)=(32::af (bH (xs.getD i 0)))++jA (xs.drop (i+1)):=fun h=>by
    unfold jA;rw [iA h,List.flatMap_cons]
   refine ⟨fun h=>?_,fun h=>⟨by omega,rfl,?_⟩⟩
   . have hi':i<xs.length:=by omega
     have hxi:=hx _ (gO hi');have hsz:=eI _ hxi;have e32:(l++[32]).length=l.length+1:=by rw [List.length_append];rfl
     refine ⟨by omega,hi',by omega,hxi,⟨by omega,by omega⟩,?_⟩;have e:(l++[32]).length+(bH (xs.getD i 0)).size=(l++[32]++af (bH (xs.getD i 0))).length:=by
      have:=List.length_append (bs:=af (bH (xs.getD i 0))) («as»:=l++[32]);rw [this,fe]
     rw [wrap64 (n:=(i:Int)+1) (by omega) (by omega),e];cases n with
     | zero=>omega
     | succ n =>
       exact Mj R xs hx hxl n (i+1) (l++[32]++af (bH (xs.getD i 0))) (by omega) (by omega) (by rw [<-e];omega) (by rw [hR,hd hi'];simp)
   . rw [hR,List.drop_eq_nil_of_le (by omega)];simp [jA]
def cP (s:ByteArray) (xs:List Int):List Int:=af s++jA xs++[10]
theorem V7 (l:List Int) (s:ByteArray) (xs:List Int) (hx:∀ x∈xs,ji x) (h:l.length+s.size+22*xs.length+1<=1000000):aX Tryz.prog 57 1 [pt 0,bW s,aZ xs] [mr l.length,gU l] (.aF []) [mr (l++cP s xs).length,gU (l++cP s xs)]:=by
 refine bA (live:=[([0,1,0,1],[0,11,12,13])]) (bQ:=[]) (fz:=[]) Sy Tryz.func57 (by kernel_rfl) 1 (by kernel_rfl) 100 ?_;apply of_eq (q:=(l.length=l.length/\l.length+s.size<=(1000000:Nat))/\aq (aY Tryz.prog gLn Tryz.f57 (1:Nat) [([0,1,0,1],[0,11,12,13])] [] []) (ax (A.aF []) [mr (l++cP s xs).length,gU (l++cP s xs)]) [0,1,0,1] (fr [(0,A.p (V.c (W.ptr 0 0))),(11,aZ xs),(12,nI (xs.length:Int)),(13,nI (0))]) (ah.ofList [Ob.mk 113 [Fd.c (W.ba (0:Nat)),Fd.c (W.sl 1 0 (l.length+s.size) 1)],Ob.mk 5 [Fd.a 0 (D.int .u8) (l++af s)]])) (by kernel_rfl)
 try simp only [true_and]
 have e:l.length+s.size=(l++af s).length:=by rw [List.length_append,fe]
 rw [e];exact ⟨by omega,Mj (l++cP s xs) xs hx (by omega) xs.length 0 (l++af s) (by omega) (by omega) (by omega) (by simp [cP])⟩
def OP:bw:={ refs:=[true,false,false],keep:=some 1,f:=fun args aj=>match args,aj with
 | [.p (.c (.ptr a b)),x,y],[o,u]=>bif Nat.beq a 0&&Nat.beq b 0 then (match Mf o,Me u,gb .str x,gb dI y with | some n,some l,some s,some xs=>some (.p (n=l.length/\(∀ x∈(show List Int from xs),ji x)/\l.length+s.size+22*List.length (α:=Int) xs+1<=1000000),.aF [],[mr (l++cP s xs).length,gU (l++cP s xs)]) | _,_,_,_=>none) else none
 | _,_=>none }
theorem V8:aH Tryz.prog 57 OP:=by
 refine ⟨by kernel_rfl,fun args aj c r aR e hc=>?_⟩;simp only [OP] at e;split at e
 . obtain ⟨hb,e⟩:=ar.aD e;simp only [Bool.and_eq_true,Nat.beq_eq] at hb;obtain ⟨rfl,rfl⟩:=hb;split at e
   . rename_i n l s xs ho hu hs hxs;cases e;obtain ⟨rfl,h2,h3⟩:=hc;rw [CY ho,CX hu];intro base η Z w vs R hv hK
     match vs,hv with
     | [u,v,t],⟨h4,h5,h6,h7⟩=>exact V7 l s xs h2 h3 base η Z w _ R ⟨h4,ck hs h5,ck hxs h6,h7⟩ hK
   . cases e
 . cases e
def sP:List Int->Int->Int
 | [],h=>h
 | c::l,h=>sP l (IntKind.u32.wrap ((IntKind.u32.wrap ((BitVec.ofInt 32 h ^^^ BitVec.ofInt 32 (IntKind.u32.wrap c)).toNat:Int))*16777619))
def ld (s:ByteArray):Int:=IntKind.i64.wrap (sP (af s) 2166136261)
theorem wrap_i64 (n:Int):ji (IntKind.i64.wrap n):=by
 unfold ji;simp only [IntKind.wrap,IntKind.bits,IntKind.signed];simp;omega
noncomputable def sSm:Site:=eB Tryz.prog [] Tryz.f55 0 [([0,1,0,1,1],[0,3,6,7])]
theorem Mk (s:ByteArray) (hs:s.size<=1000000):∀ (n i:Nat) (h:Int),n=s.size-i->i<=s.size->sP (af s) 2166136261=sP ((af s).drop i) h->
 aq sSm (ax (nI (ld s)) []) [0,1,0,1,1] (fr [(0,bW s),(3,.p (.c (.int .u32 h))),(6,nI s.size),(7,nI i)]) (.ofList [])
 | n,i,h,hn,hi,hh=>by
   refine aK ay (by kernel_rfl) 100 ?_;apply of_eq (q:=(decide ((i:Int)<(s.size:Int))=true->((0:Int)<=(i:Int)/\(i:Int)<(s.size:Int))/\aq sSm (ax (nI (ld s)) []) [0,1,0,1,1] (fr [(0,A.p (V.c (W.str s))),(3,A.p (V.c (W.int IntKind.u32 (IntKind.u32.wrap (IntKind.u32.wrap (↑(BitVec.ofInt (32:Nat) h ^^^ BitVec.ofInt (32:Nat) (IntKind.u32.wrap (jK s i))).toNat:Int)*(16777619:Int)))))),(6,nI (s.size:Int)),(7,nI (IntKind.i64.wrap ((i:Int)+(1:Int))))]) (ah.ofList []))/\(decide ((i:Int)<(s.size:Int))=false->ak [V.c (W.int .i64 (IntKind.i64.wrap h))]=nI (ld s)/\([]:List Ob)=[])) (by kernel_rfl)
   try simp only [and_true,decide_eq_true_eq,decide_eq_false_iff_not,Int.not_lt]
   have hbl:=fe s;rw [wrap64 (n:=(i:Int)+1) (by omega) (by omega)];refine ⟨fun h1=>⟨by omega,?_⟩,fun h1=>?_⟩
   . cases n with
     | zero=>omega
     | succ n =>
       refine Mk s hs n (i+1) _ (by omega) (by omega) ?_;rw [hh,iA (l:=af s) (i:=i) (by omega),sP,kM]
   . rw [List.drop_eq_nil_of_le (by omega)] at hh;unfold ld;rw [hh];rfl
theorem Ml (s:ByteArray) (hs:s.size<=1000000):aT Tryz.prog 55 [bW s] [] (nI (ld s)) []:=by
 refine bI (live:=[([0,1,0,1,1],[0,3,6,7])]) ay Tryz.func55 (by kernel_rfl) (keep:=0) rfl (by kernel_rfl) 100 ?_;apply of_eq (q:=aq (eB Tryz.prog [] Tryz.f55 (0:Nat) [([0,1,0,1,1],[0,3,6,7])]) (ax (nI (ld s)) []) [0,1,0,1,1] (fr [(0,A.p (V.c (W.str s))),(3,A.p (V.c (W.int IntKind.u32 (2166136261:Int)))),(6,nI (s.size:Int)),(7,nI (0))]) (ah.ofList [])) (by kernel_rfl);exact Mk s hs s.size 0 _ (by omega) (by omega) rfl
def XZ:bw:=jC .str fun s=>(.p (s.size<=1000000),nI (ld s),[])
theorem V9:aH Tryz.prog 55 XZ:=fD (by kernel_rfl) fun s h=>Ml s h
theorem Zj (l:List Int) (h0:0<l.length) (h:l.length<=1000000):aX Tryz.prog 63 1 [pt 0] [mr l.length,gU l] (.p (.c (.str (aP l)))) [mr l.length,gU l]:=by
 refine bA (live:=[]) (bQ:=[]) (fz:=[]) Ea Tryz.func63 (by kernel_rfl) 1 (by kernel_rfl) 100 ?_;apply of_eq (q:=(0:Nat)<l.length/\((0:Int)<(l.length:Int)/\(↑(0:Nat):Int)+(l.length:Int)<=(l.length:Int)/\(l.length:Int)<=(9223372036854775807:Int))/\ak [V.c (W.str (aP (List.take l.length (List.drop (0:Nat) l))))]=A.p (V.c (W.str (aP l)))/\[Ob.mk 113 [Fd.c (W.ba (0:Nat)),Fd.c (W.sl ((0:Nat)+(1:Nat)) (0:Nat) l.length (1:Nat))],Ob.mk 5 [Fd.a 0 (D.int .u8) l]]=[mr l.length,gU l]) (by kernel_rfl)
 try simp only [and_true,Nat.zero_add,List.drop_zero,List.take_length]
 exact ⟨h0,by omega,rfl⟩
def Wa:bw:={ refs:=[true],keep:=some 1,f:=fun args aj=>match args,aj with
 | [.p (.c (.ptr a b))],[o,u]=>bif Nat.beq a 0&&Nat.beq b 0 then (match Mf o,Me u with | some n,some l=>some (.p (n=l.length/\0<l.length/\l.length<=1000000),.p (.c (.str (aP l))),[mr l.length,gU l]) | _,_=>none) else none
 | _,_=>none }
theorem Zk:aH Tryz.prog 63 Wa:=by
 refine ⟨by kernel_rfl,fun args aj c r aR e hc=>?_⟩;simp only [Wa] at e;split at e
 . obtain ⟨hb,e⟩:=ar.aD e;simp only [Bool.and_eq_true,Nat.beq_eq] at hb;obtain ⟨rfl,rfl⟩:=hb;split at e
   . rename_i n l ho hu;cases e;obtain ⟨rfl,h2,h3⟩:=hc;rw [CY ho,CX hu];exact Zj l h2 h3
   . cases e
 . cases e
noncomputable def CZ:Site:=aY Tryz.prog Ox Tryz.f62 0 [(Fj,[0,3,9,10,11]),(Fk,[6,25,26,27])] [] []
theorem C0 (xs:List (List Int)) (hx:xs.length<=100) (hf:xs.flatten.length<=1000000):∀ (k i m:Nat) (l:List Int),k=xs.length-i->i<=xs.length->(i=0->m=0)->(0<i->l.length=m)->l.take m=(xs.take i).flatten->0<xs.length->
 aq CZ (ax (gi 0 xs.flatten.length) [bp xs.flatten]) Fk (fr [(6,gi 0 m),(25,bT xs),(26,nI xs.length),(27,nI i)]) (.ofList [bp l])
 | k,i,m,l,hk,hi,hm0,hm,hr,hpos=>by
   refine aK Bg (by kernel_rfl) 100 ?_;apply of_eq (q:=(decide ((i:Int)<(xs.length:Int))=true->((0:Int)<=(i:Int)/\(i:Int)<(xs.length:Int))/\i<xs.length/\((0:Nat)+m<=l.length/\(m+(xs.getD i []).length)*(8:Nat)<=(140737488355328:Nat))/\aq CZ (ax (gi (0:Nat) xs.flatten.length) [bp xs.flatten]) [0,1,0,1,1,1,1] (fr [(6,A.p (V.c (W.sl 0 0 (m+(xs.getD i []).length) 1))),(25,bT xs),(26,nI (xs.length:Int)),(27,nI (IntKind.i64.wrap ((i:Int)+(1:Int))))]) (ah.ofList [Ob.mk 3 [Fd.a 0 (D.int .i64) (List.take m (List.drop (0:Nat) l)++xs.getD i [])]]))/\(decide ((i:Int)<(xs.length:Int))=false->ak [V.c (W.sl 0 0 m 1)]=gi (0:Nat) xs.flatten.length/\[Ob.mk 3 [Fd.a 0 (D.int .i64) l]]=[bp xs.flatten])) (by kernel_rfl)
   try simp only [Nat.zero_add,decide_eq_true_eq,decide_eq_false_iff_not,Int.not_lt,List.drop_zero]
   rw [wrap64 (n:=(i:Int)+1) (by omega) (by omega)];have hml:m<=l.length:=by
    rcases Nat.eq_zero_or_pos i with h | h
    . have:=hm0 h;omega
    . have:=hm h;omega
   refine ⟨fun h=>?_,fun h=>?_⟩
   . have fX:i<xs.length:=by omega
     have e:=pW fX;have hle:=nj xs (i+1);have hml':m=(xs.take i).flatten.length:=by rw [<-hr];simp;omega
     rw [e,List.length_append] at hle;refine ⟨by omega,fX,⟨hml,by omega⟩,?_⟩;cases k with
     | zero=>omega
     | succ k =>
       refine C0 xs hx hf k (i+1) _ _ (by omega) (by omega) (by omega) (fun _=>by simp;omega) ?_ hpos;rw [List.take_of_length_le (by simp;omega),hr,e]
   . have hi':i=xs.length:=by omega
     have:=hm (by omega);rw [hi',List.take_of_length_le (Nat.le_refl _),List.take_of_length_le (by omega)] at hr;subst hr;rw [<-this];exact ⟨rfl,rfl⟩
theorem C3 (xs:List (List Int)) (hx:xs.length<=100) (hf:xs.flatten.length<=1000000) (hpos:0<xs.length):∀ (k i:Nat),k=xs.length-i->i<=xs.length->
 aq CZ (ax (gi 0 xs.flatten.length) [bp xs.flatten]) Fj (fr [(0,bT xs),(3,nI (xs.take i).flatten.length),(9,bT xs),(10,nI xs.length),(11,nI i)]) (.ofList [])
 | k,i,hk,hi=>by
   refine aK Bg (by kernel_rfl) 100 ?_;apply of_eq (q:=let q1:=(↑(List.take i xs).flatten.length:Int);let q2:=decide (IntKind.i64.wrap (q1+(↑(xs.getD i []).length:Int))<(0:Int));let q3:=(xs.length:Int);(decide ((i:Int)<q3)=true->((0:Int)<=(i:Int)/\(i:Int)<q3)/\i<xs.length/\(q2=true->False)/\(q2=false->aq CZ (ax (gi (0:Nat) xs.flatten.length) [bp xs.flatten]) [0,1,0,1,1] (fr [(0,bT xs),(3,nI (IntKind.i64.wrap (q1+(↑(xs.getD i []).length:Int)))),(9,bT xs),(10,nI q3),(11,nI (IntKind.i64.wrap ((i:Int)+(1:Int))))]) (ah.ofList [])))/\(decide ((i:Int)<q3)=false->((0:Int)<=q1/\q1<=(1000000:Int))/\aq CZ (ax (gi (0:Nat) xs.flatten.length) [bp xs.flatten]) [0,1,0,1,1,1,1] (fr [(6,A.p (V.c (W.sl 0 0 0 1))),(25,bT xs),(26,nI q3),(27,nI (0))]) (ah.ofList [Ob.mk 3 [Fd.a 0 (D.int .i64) (List.replicate (List.take i xs).flatten.length (0:Int))]]))) (by kernel_rfl)
   try simp only [decide_eq_true_eq,decide_eq_false_iff_not,Int.not_lt]
   have hle:=nj xs i;refine ⟨fun h=>?_,fun h=>⟨by omega,?_⟩⟩
   . have fX:i<xs.length:=by omega
     have e:=pW fX;have hle1:=nj xs (i+1);rw [e,List.length_append] at hle1;rw [wrap64 (n:=(i:Int)+1) (by omega) (by omega),wrap64 (n:=((xs.take i).flatten.length:Int)+(xs.getD i []).length) (by omega) (by omega)];refine ⟨by omega,fX,fun g=>by omega,fun _=>?_⟩;cases k with
     | zero=>omega
     | succ k =>
       have:=C3 xs hx hf hpos k (i+1) (by omega) (by omega);rw [e,List.length_append,Int.natCast_add] at this;exact this
   . exact C0 xs hx hf xs.length 0 0 _ (by omega) (by omega) (fun _=>rfl) (by omega) (by simp) hpos
theorem KT (xs:List (List Int)) (h:0<xs.length/\xs.length<=100/\xs.flatten.length<=1000000):aT Tryz.prog 62 [bT xs] [] (gi 0 xs.flatten.length) [bp xs.flatten]:=by
 refine cJ (live:=[(Fj,[0,3,9,10,11]),(Fk,[6,25,26,27])]) (bQ:=[]) (fz:=[]) Bg Tryz.func62 (by kernel_rfl) (keep:=0) rfl (by kernel_rfl) 100 ?_;apply of_eq (q:=aq (aY Tryz.prog Ox Tryz.f62 (0:Nat) [(Fj,[0,3,9,10,11]),(Fk,[6,25,26,27])] [] []) (ax (gi (0:Nat) xs.flatten.length) [bp xs.flatten]) [0,1,0,1,1] (fr [(0,bT xs),(3,nI (0)),(9,bT xs),(10,nI (xs.length:Int)),(11,nI (0))]) (ah.ofList [])) (by kernel_rfl);exact C3 xs h.2.1 h.2.2 h.1 xs.length 0 (by omega) (by omega)
def X0:bw:=jC dL fun xs=>(.p (0<List.length (α:=List Int) xs/\List.length (α:=List Int) xs<=100/\(List.flatten (α:=Int) xs).length<=1000000),gi 0 (List.flatten (α:=Int) xs).length,[bp (List.flatten (α:=Int) xs)])
theorem Wb:aH Tryz.prog 62 X0:=fD (by kernel_rfl) fun xs h=>KT xs h
noncomputable def gSv:bF:=[(47,CQ),(57,OP),(59,V6),(58,OO),(60,XY),(61,XM),(62,X0),(63,Wa),(55,XZ)]
theorem lg:aS Tryz.prog gSv:=ai yu (ai V8 (ai Mi (ai Mh (ai Sx (ai Vs (ai Wb (ai Zk (ai V9 ay))))))))
abbrev Aw:List Nat:=[0,1,0,1,1,1,1]
abbrev Sz:List Nat:=[0,1,0,1,1,1,1,1,1]
abbrev pSi:List Nat:=[0,1,1,0,0,1,1,0,0,1,0,1,1,1,1,1,1]
abbrev pSc:List Nat:=[0,1,0,1,1,1,1,1,1,1,1]
abbrev JB:List (List Nat×List Nat):=[(Aw,[0,3,42,43,44]),(Sz,[0,3,70,71,72]),(pSi,[0,3,7,70,71,72,77,78,79]),(pSc,[0,3,117,118,119])]
noncomputable def iT:Site:=aY Tryz.prog gSv Tryz.f17 1 JB [] []
def jB:ByteArray:=⟨#[99,111,115,101,116,32,49]⟩
def gE:ByteArray:=⟨#[103,101,110,115,32]⟩
def jl:ByteArray:=⟨#[32,108,105,109,105,116,32]⟩
def gZ:ByteArray:=⟨#[32,109,111,115,116,32]⟩
def iC:ByteArray:=⟨#[32,115,116,97,116,117,115,32]⟩
def lq:ByteArray:=⟨#[114,101,108,32]⟩
def kP:ByteArray:=⟨#[115,117,98,32]⟩
def lA:ByteArray:=⟨#[97,116]⟩
def oR:ByteArray:=⟨#[114,111,119]⟩
def iP:ByteArray:=⟨#[115,117,109]⟩
abbrev mR (k m n:Nat):Ob:=⟨113,[.c (.ba k),.c (.sl m 0 n 1)]⟩
abbrev qH (r:Rn):Ob:=⟨115,[.c (.str gE),.c (.int .i64 r.g),.c (.str jl),.c (.int .i64 r.au),.c (.str gZ),.c (.int .i64 r.most),.c (.str iC),.c (.int .i64 r.stat)]⟩
abbrev yB (r:Rn):Ob:=⟨123,[.c (.str lq),.c (.rd (.sl (.int .i64)) r.av),.c (.str kP),.c (.rd (.sl (.int .i64)) r.sub)]⟩
def Gu (r:Rn) (a:Nat):List Int:=cP oR (r.par.getD a 0::r.rows.getD a [])
def fA (r:Rn):Nat->Nat->List Int
 | 0,_=>[]
 | n+1,i=>Gu r i++fA r n (i+1)
def lB (tag:ByteArray) (ws:List (List Int)):List Int:=ws.flatMap fun w=>cP (tag++cV w) []
def fin (l:List Int):List Int:=l++cP iP [ld (aP l)]
def OQ (r:Rn):List Int:=cP jB []++af (gE++bH r.g)++af (jl++bH r.au)++af (gZ++bH r.most)++af (iC++bH r.stat)++[10]
def kS (r:Rn):List Int:=OQ r++lB lq r.av++lB kP r.sub++cP lA [r.ph,r.co,r.ix]++fA r r.rows.length 0
def dV (r:Rn):List Int:=fin (kS r)
structure Sv (r:Rn):Prop where
 n0:0<r.rows.length
 n1:r.rows.length<=1000
 pl:r.par.length=r.rows.length
 rl:∀ l∈r.rows,l.length<=32/\∀ x∈l,ji x
 pr:∀ x∈r.par,ji x
 g:ji r.g
 au:ji r.au
 most:ji r.most
 stat:ji r.stat
 ph:ji r.ph
 co:ji r.co
 ix:ji r.ix
 av:∀ w∈r.av,gq 16 w/\w.length<100
 sub:∀ w∈r.sub,gq 16 w/\w.length<100
 nr:r.av.length<=110
 ns:r.sub.length<=110
theorem jY (s:ByteArray) (xs:List Int) (h:∀ x∈xs,ji x):(cP s xs).length<=s.size+22*xs.length+1:=by
 have:=sO xs h;unfold cP;rw [List.length_append,List.length_append,fe,List.length_singleton];omega
theorem SA (s:ByteArray) (xs:List Int):0<(cP s xs).length:=by
 unfold cP;rw [List.length_append,List.length_singleton];omega
theorem lR (l:List Int):(aP l).size=l.length:=by
 rw [AL];have:∀ (l:List Int) (r:ByteArray),(l.foldl (fun r n=>r.push (UInt8.ofNat n.toNat)) r).size=r.size+l.length:=by
  intro l
  induction l with
  | nil=>intro r;rfl
  | cons x l ih=>intro r;rw [List.foldl_cons,ih,ByteArray.size_push,List.length_cons];omega
 rw [this];exact Nat.zero_add _
theorem svC (r:Rn) (H:Sv r) (T:List Int):∀ (n i:Nat) (l:List Int),n=r.rows.length-i->i<=r.rows.length->0<l.length->l.length<=140000+760*i->T=fin (l++fA r n i)->
 aq iT (ax (bW (aP T)) (obs r)) pSc (fr [(0,pR),(3,.p (.c (.ptr 1 0))),(117,.p (.c (.sl 2 0 r.rows.length 1))),(118,nI r.rows.length),(119,nI i)]) (.ofList [fZ r 2 3 4,mR 1 5 l.length,f6 r,bp r.par,bp r.dl,gU l])
 | n, i, l, hn, hi, h0, hl, hT => by
   refine aK lg (by kernel_rfl) 100 ?_;apply of_eq (q:=let q4:=(1:Nat);let q5:=(0:Nat);let q7:=(1000000:Nat);let q8:=(r.rows.length:Int);let q2:=(l++cP (ByteArray.mk #[(115:UInt8),(117:UInt8),(109:UInt8)]) (List.take q4 (List.drop q5 [ld (aP l)])));let q3:=(List.drop q5 [r.par.getD (q5+i) (0:Int)]);let q1:=(List.take [List.take q4 q3,r.rows.getD (q5+i) []].flatten.length (List.drop q5 [List.take q4 q3,r.rows.getD (q5+i) []].flatten));let q6:=(l++cP (ByteArray.mk #[(114:UInt8),(111:UInt8),(119:UInt8)]) q1);(decide ((i:Int)<q8)=true->((0:Int)<=(i:Int)/\(i:Int)<q8)/\q5+i<r.rows.length/\((0:Int)<=(i:Int)/\(i:Int)<(r.par.length:Int))/\q5+i<r.par.length/\q5+q4<=q4/\(q5+i<r.rows.length/\((2:Int)*r.g).toNat=((2:Int)*r.g).toNat)/\(q5<(2:Nat)/\(2:Nat)<=(100:Nat)/\[List.take q4 q3,r.rows.getD (q5+i) []].flatten.length<=q7)/\q5 + [List.take q4 q3,r.rows.getD (q5+i) []].flatten.length<=[List.take q4 q3,r.rows.getD (q5+i) []].flatten.length/\(l.length=l.length/\(∀ (x:Int),x∈List.take [List.take q4 q3,r.rows.getD (q5+i) []].flatten.length (List.drop q5 [List.take q4 q3,r.rows.getD (q5+i) []].flatten)->ji x)/\l.length+(3:Nat)+(22:Nat)*q1.length+q4<=q7)/\aq iT (ax (bW (aP T)) (obs r)) [0,1,0,1,1,1,1,1,1,1,1] (fr [(0,A.p (V.c (W.ptr 0 0))),(3,A.p (V.c (W.ptr 1 0))),(117,A.p (V.c (W.sl 2 0 r.rows.length 1))),(118,nI q8),(119,nI (IntKind.i64.wrap ((i:Int)+(1:Int))))]) (ah.ofList [Ob.mk 98 [Fd.c (W.int .i64 r.g),Fd.c (W.rd (D.int .i64).sl r.av),Fd.c (W.rd (D.int .i64).sl r.sub),Fd.c (W.int .i64 r.au),Fd.c (W.int .i64 r.most),Fd.c (W.int .i64 r.live),Fd.c (W.int .i64 r.stat),Fd.c (W.int .i64 r.ph),Fd.c (W.int .i64 r.co),Fd.c (W.int .i64 r.ix),Fd.c (W.sl 2 0 r.rows.length 1),Fd.c (W.sl 3 0 r.par.length 1),Fd.c (W.sl 4 0 r.dn 1)],Ob.mk 113 [Fd.c (W.ba q4),Fd.c (W.sl 5 0 q6.length q4)],Ob.mk 22 [Fd.c (W.th ((2:Int)*r.g).toNat r.rows)],Ob.mk 3 [Fd.a 0 (D.int .i64) r.par],Ob.mk 3 [Fd.a 0 (D.int .i64) r.dl],Ob.mk 5 [Fd.a 0 (D.int .u8) q6]]))/\(decide ((i:Int)<q8)=false->(l.length=l.length/\q5<l.length/\l.length<=q7)/\(aP l).size<=q7/\q5+q4<=q4/\(l.length=l.length/\(∀ (x:Int),x∈List.take q4 (List.drop q5 [ld (aP l)])->ji x)/\l.length+(3:Nat)+(22:Nat)*q4+q4<=q7)/\(q2.length=q2.length/\q5<q2.length/\q2.length<=q7)/\ak [V.c (W.str (aP q2))]=bW (aP T)/\[Ob.mk 98 [Fd.c (W.int .i64 r.g),Fd.c (W.rd (D.int .i64).sl r.av),Fd.c (W.rd (D.int .i64).sl r.sub),Fd.c (W.int .i64 r.au),Fd.c (W.int .i64 r.most),Fd.c (W.int .i64 r.live),Fd.c (W.int .i64 r.stat),Fd.c (W.int .i64 r.ph),Fd.c (W.int .i64 r.co),Fd.c (W.int .i64 r.ix),Fd.c (W.sl (q5+q4) q5 r.rows.length q4),Fd.c (W.sl (q5+q4+q4) q5 r.par.length q4),Fd.c (W.sl (q5+q4+q4+q4) q5 r.dn q4)],Ob.mk 22 [Fd.c (W.th ((2:Int)*r.g).toNat r.rows)],Ob.mk 3 [Fd.a 0 (D.int .i64) r.par],Ob.mk 3 [Fd.a 0 (D.int .i64) r.dl]]=obs r)) (by kernel_rfl)
   try simp only [true_and,and_true,Nat.zero_add,Nat.mul_one,decide_eq_true_eq,decide_eq_false_iff_not,Int.not_lt,List.drop_zero,List.take_length,List.take_succ_cons,List.take_zero,Nat.le_refl,Nat.reduceAdd]
   have hn1:=H.n1;have hpl:=H.pl;refine ⟨fun h=>?_,fun h=>?_⟩
   . have hi':i<r.rows.length:=by omega
     have hrow:=H.rl _ (fw hi');have e:[[r.par.getD i 0],r.rows.getD i []].flatten=r.par.getD i 0::r.rows.getD i []:=by simp
     have hp:=H.pr _ (gO (l:=r.par) (a:=i) (by omega));have hall:∀ x∈r.par.getD i 0::r.rows.getD i [],ji x:=by
      intro x hx;rcases List.mem_cons.1 hx with rfl | hx
      . exact hp
      . exact hrow.2 x hx
     have hlen:(r.par.getD i 0::r.rows.getD i []).length<=33:=by rw [List.length_cons];omega
     have hll:=jY oR _ hall;have hz:oR.size=3:=rfl;rw [e,wrap64 (n:=(i:Int)+1) (by omega) (by omega)];refine ⟨by omega,hi',by omega,by omega,hi',⟨by omega,by omega,by omega⟩,⟨hall,by omega⟩,?_⟩;cases n with
     | zero=>omega
     | succ n =>
       exact svC r H T n (i+1) (l++Gu r i) (by omega) (by omega) (by rw [List.length_append];omega) (by rw [List.length_append,Gu];omega) (by rw [hT,fA,List.append_assoc])
   . have hp:=lR l;have hs:∀ x∈[ld (aP l)],ji x:=by
      intro x hx;rw [List.mem_singleton.1 hx];exact wrap_i64 _
     have hll:=jY iP _ hs;have hz:iP.size=3:=rfl;have h1:[ld (aP l)].length=1:=rfl;have hff:(l++cP iP [ld (aP l)]).length<=1000000:=by rw [List.length_append];omega
     refine ⟨⟨h0,by omega⟩,by omega,⟨hs,by omega⟩,⟨by rw [List.length_append];omega,hff⟩,?_⟩;have hn0:n=0:=by omega
     subst hn0;rw [fA,List.append_nil] at hT;rw [hT];rfl
theorem svI (r:Rn) (T:List Int) (tag:ByteArray) (ws:List (List Int)) (j:Nat) (hj:j<=5) (Wc:tag.size<=4) (hws:∀ w∈ws,gq 16 w/\w.length<100) (EM:ws.length<=110) (F:List Int)
 (hF:aq iT (ax (bW (aP T)) (obs r)) Sz (fr [(0,pR),(3,.p (.c (.ptr 1 0))),(70,.p (.c (.sl 2 0 2 2))),(71,nI 2),(72,nI (j+1:Nat))]) (.ofList [fZ r 3 4 5,mR 1 6 F.length,yB r,f6 r,bp r.par,bp r.dl,gU F])) :
 ∀ (n i:Nat) (l:List Int),n=ws.length-i->i<=ws.length->l.length+606*n<=900000->F=l++lB tag (ws.drop i)->
 aq iT (ax (bW (aP T)) (obs r)) pSi (fr [(0,pR),(3,.p (.c (.ptr 1 0))),(7,.p (.c (.ptr 2 0))),(70,.p (.c (.sl 3 0 2 2))),(71,nI 2),(72,nI j),(77,bT ws),(78,nI ws.length),(79,nI i)]) (.ofList [fZ r 4 5 6,mR 1 7 l.length,⟨123,[.c (.str tag),.c (.rd (.sl (.int .i64)) ws)]⟩,yB r,f6 r,bp r.par,bp r.dl,gU l])
 | n,i,l,hn,hi,hl,hFl=>by
   refine aK lg (by kernel_rfl) 100 ?_;apply of_eq (q:=let q1:=(W.rd (D.int .i64).sl r.av);let q2:=(W.rd (D.int .i64).sl r.sub);let q3:=(ws.getD i []);(decide ((i:Int)<(ws.length:Int))=true->((0:Int)<=(i:Int)/\(i:Int)<(ws.length:Int))/\i<ws.length/\(gq (16:Int) q3/\q3.length<(100:Nat))/\tag.size+(cV q3).size<=(9223372036854775807:Nat)/\(l.length=l.length/\(∀ (x:Int),x∈[]->ji x)/\l.length+(tag++cV q3).size+(22:Nat)*(0:Nat)+(1:Nat)<=(1000000:Nat))/\aq iT (ax (bW (aP T)) (obs r)) [0,1,1,0,0,1,1,0,0,1,0,1,1,1,1,1,1] (fr [(0,A.p (V.c (W.ptr 0 0))),(3,A.p (V.c (W.ptr 1 0))),(7,A.p (V.c (W.ptr 2 0))),(70,A.p (V.c (W.sl 3 0 2 2))),(71,nI (2)),(72,nI (j:Int)),(77,bT ws),(78,nI (ws.length:Int)),(79,nI (IntKind.i64.wrap ((i:Int)+(1:Int))))]) (ah.ofList [Ob.mk 98 [Fd.c (W.int .i64 r.g),Fd.c q1,Fd.c q2,Fd.c (W.int .i64 r.au),Fd.c (W.int .i64 r.most),Fd.c (W.int .i64 r.live),Fd.c (W.int .i64 r.stat),Fd.c (W.int .i64 r.ph),Fd.c (W.int .i64 r.co),Fd.c (W.int .i64 r.ix),Fd.c (W.sl 4 0 r.rows.length 1),Fd.c (W.sl 5 0 r.par.length 1),Fd.c (W.sl 6 0 r.dn 1)],Ob.mk 113 [Fd.c (W.ba (1:Nat)),Fd.c (W.sl 7 0 (l++cP (tag++cV q3) []).length (1:Nat))],Ob.mk 123 [Fd.c (W.str tag),Fd.c (W.rd (D.int .i64).sl ws)],Ob.mk 123 [Fd.c (W.str lq),Fd.c q1,Fd.c (W.str kP),Fd.c q2],Ob.mk 22 [Fd.c (W.th ((2:Int)*r.g).toNat r.rows)],Ob.mk 3 [Fd.a 0 (D.int .i64) r.par],Ob.mk 3 [Fd.a 0 (D.int .i64) r.dl],Ob.mk 5 [Fd.a 0 (D.int .u8) (l++cP (tag++cV q3) [])]]))/\(decide ((i:Int)<(ws.length:Int))=false->aq iT (ax (bW (aP T)) (obs r)) [0,1,0,1,1,1,1,1,1] (fr [(0,A.p (V.c (W.ptr 0 0))),(3,A.p (V.c (W.ptr 1 0))),(70,A.p (V.c (W.sl 2 0 2 2))),(71,nI (2)),(72,nI (IntKind.i64.wrap ((j:Int)+(1:Int))))]) (ah.ofList [Ob.mk 98 [Fd.c (W.int .i64 r.g),Fd.c q1,Fd.c q2,Fd.c (W.int .i64 r.au),Fd.c (W.int .i64 r.most),Fd.c (W.int .i64 r.live),Fd.c (W.int .i64 r.stat),Fd.c (W.int .i64 r.ph),Fd.c (W.int .i64 r.co),Fd.c (W.int .i64 r.ix),Fd.c (W.sl 3 0 r.rows.length 1),Fd.c (W.sl 4 0 r.par.length 1),Fd.c (W.sl 5 0 r.dn 1)],Ob.mk 113 [Fd.c (W.ba (1:Nat)),Fd.c (W.sl 6 0 l.length 1)],Ob.mk 123 [Fd.c (W.str lq),Fd.c q1,Fd.c (W.str kP),Fd.c q2],Ob.mk 22 [Fd.c (W.th ((2:Int)*r.g).toNat r.rows)],Ob.mk 3 [Fd.a 0 (D.int .i64) r.par],Ob.mk 3 [Fd.a 0 (D.int .i64) r.dl],Ob.mk 5 [Fd.a 0 (D.int .u8) l]]))) (by kernel_rfl)
   try simp only [true_and,decide_eq_true_eq,decide_eq_false_iff_not,Int.not_lt]
   refine ⟨fun h=>?_,fun h=>?_⟩
   . have hi':i<ws.length:=by omega
     obtain ⟨g1,g2⟩:=hws _ (fw hi');have hsz:=nX (g:=16) (Int.le_refl _) g1 g2;have hn0:∀ x∈([]:List Int),ji x:=fun x hx=>by cases hx
     have hll:=jY (tag++cV (ws.getD i [])) [] hn0;have hta:(tag++cV (ws.getD i [])).size=tag.size+(cV (ws.getD i [])).size:=ByteArray.size_append ..;have h0:([]:List Int).length=0:=rfl;rw [wrap64 (n:=(i:Int)+1) (by omega) (by omega)];refine ⟨by omega,hi',⟨g1,g2⟩,by omega,⟨hn0,by omega⟩,?_⟩;cases n with
     | zero=>omega
     | succ n =>
       refine svI r T tag ws j hj Wc hws EM F hF n (i+1) (l++cP (tag++cV (ws.getD i [])) []) (by omega) (by omega) (by rw [List.length_append];omega) ?_;rw [hFl];unfold lB;rw [show ws.drop i=ws.getD i []::ws.drop (i+1) from ?_,List.flatMap_cons,List.append_assoc];rw [List.getD_eq_getElem?_getD,List.getElem?_eq_getElem hi'];exact List.drop_eq_getElem_cons hi'
   . rw [wrap64 (n:=(j:Int)+1) (by omega) (by omega)];rw [List.drop_eq_nil_of_le (by omega)] at hFl;have:F=l:=by rw [hFl];exact List.append_nil _
     subst this;exact hF
theorem Bo (tag:ByteArray) (Wc:tag.size<=4):∀ (ws:List (List Int)),(∀ w∈ws,gq 16 w/\w.length<100)->(lB tag ws).length<=605*ws.length
 | [],_=>Nat.le_refl _
 | w::ws,h=>by
   have ih:=Bo tag Wc ws fun w hw=>h w (by simp [hw]);obtain ⟨g1,g2⟩:=h w (by simp);have hsz:=nX (g:=16) (Int.le_refl _) g1 g2;have hn0:∀ x∈([]:List Int),ji x:=fun x hx=>by cases hx
   have hll:=jY (tag++cV w) [] hn0;have hta:(tag++cV w).size=tag.size+(cV w).size:=ByteArray.size_append ..;have h0:([]:List Int).length=0:=rfl;unfold lB at ih ⊢;rw [List.flatMap_cons,List.length_append,List.length_cons];omega
theorem svB2 (r:Rn) (H:Sv r) (T:List Int) (l:List Int) (hl:l.length<=139000) (hT:T=fin (l++cP lA [r.ph,r.co,r.ix]++fA r r.rows.length 0)) :
 aq iT (ax (bW (aP T)) (obs r)) Sz (fr [(0,pR),(3,.p (.c (.ptr 1 0))),(70,.p (.c (.sl 2 0 2 2))),(71,nI 2),(72,nI (1+1:Nat))]) (.ofList [fZ r 3 4 5,mR 1 6 l.length,yB r,f6 r,bp r.par,bp r.dl,gU l]):=by
 refine aK lg (by kernel_rfl) 100 ?_;apply of_eq (q:=let q1:=(l++cP (ByteArray.mk #[(97:UInt8),(116:UInt8)]) (List.take (3:Nat) (List.drop (0:Nat) [r.ph,r.co,r.ix])));let q2:=(↑((1:Nat)+(1:Nat)):Int);(decide (q2<(2:Int))=true->((0:Int)<=q2/\q2<(↑(2:Nat):Int))/\False)/\(decide (q2<(2:Int))=false->(0:Nat)+(3:Nat)<=(3:Nat)/\(l.length=l.length/\(∀ (x:Int),x∈List.take (3:Nat) (List.drop (0:Nat) [r.ph,r.co,r.ix])->ji x)/\l.length+(2:Nat)+(22:Nat)*(3:Nat)+(1:Nat)<=(1000000:Nat))/\aq iT (ax (bW (aP T)) (obs r)) [0,1,0,1,1,1,1,1,1,1,1] (fr [(0,A.p (V.c (W.ptr 0 0))),(3,A.p (V.c (W.ptr 1 0))),(117,A.p (V.c (W.sl 2 0 r.rows.length 1))),(118,nI (r.rows.length:Int)),(119,nI (0))]) (ah.ofList [Ob.mk 98 [Fd.c (W.int .i64 r.g),Fd.c (W.rd (D.int .i64).sl r.av),Fd.c (W.rd (D.int .i64).sl r.sub),Fd.c (W.int .i64 r.au),Fd.c (W.int .i64 r.most),Fd.c (W.int .i64 r.live),Fd.c (W.int .i64 r.stat),Fd.c (W.int .i64 r.ph),Fd.c (W.int .i64 r.co),Fd.c (W.int .i64 r.ix),Fd.c (W.sl 2 0 r.rows.length 1),Fd.c (W.sl 3 0 r.par.length 1),Fd.c (W.sl 4 0 r.dn 1)],Ob.mk 113 [Fd.c (W.ba (1:Nat)),Fd.c (W.sl 5 0 q1.length (1:Nat))],Ob.mk 22 [Fd.c (W.th ((2:Int)*r.g).toNat r.rows)],Ob.mk 3 [Fd.a 0 (D.int .i64) r.par],Ob.mk 3 [Fd.a 0 (D.int .i64) r.dl],Ob.mk 5 [Fd.a 0 (D.int .u8) q1]]))) (by kernel_rfl)
 try simp only [true_and,Nat.zero_add,decide_eq_true_eq,decide_eq_false_iff_not,Int.not_lt,List.drop_zero,List.take_succ_cons,List.take_zero,Nat.le_refl,Nat.reduceAdd]
 have hs:∀ x∈[r.ph,r.co,r.ix],ji x:=by
  intro x hx;simp only [List.mem_cons,List.not_mem_nil,or_false] at hx;rcases hx with rfl | rfl | rfl
  . exact H.ph
  . exact H.co
  . exact H.ix
 have hll:=jY lA _ hs;have hz:lA.size=2:=rfl;have h1:[r.ph,r.co,r.ix].length=3:=rfl;have hp:=SA lA [r.ph,r.co,r.ix];refine ⟨fun h=>by omega,fun _=>⟨⟨hs,by omega⟩,?_⟩⟩;exact svC r H T r.rows.length 0 (l++cP lA [r.ph,r.co,r.ix]) (by omega) (by omega) (by rw [List.length_append];omega) (by rw [List.length_append];omega) hT
theorem svB1 (r:Rn) (H:Sv r) (T:List Int) (l:List Int) (hl:l.length<=70000) (hT:T=fin (l++lB kP r.sub++cP lA [r.ph,r.co,r.ix]++fA r r.rows.length 0)) :
 aq iT (ax (bW (aP T)) (obs r)) Sz (fr [(0,pR),(3,.p (.c (.ptr 1 0))),(70,.p (.c (.sl 2 0 2 2))),(71,nI 2),(72,nI (0+1:Nat))]) (.ofList [fZ r 3 4 5,mR 1 6 l.length,yB r,f6 r,bp r.par,bp r.dl,gU l]):=by
 refine aK lg (by kernel_rfl) 100 ?_;apply of_eq (q:=let q1:=(↑((0:Nat)+(1:Nat)):Int);let q2:=(l++cP (ByteArray.mk #[(97:UInt8),(116:UInt8)]) (List.take (3:Nat) (List.drop (0:Nat) [r.ph,r.co,r.ix])));let q3:=(W.rd (D.int .i64).sl r.sub);let q4:=(W.rd (D.int .i64).sl r.av);(decide (q1<(2:Int))=true->((0:Int)<=q1/\q1<(↑(2:Nat):Int))/\aq iT (ax (bW (aP T)) (obs r)) [0,1,1,0,0,1,1,0,0,1,0,1,1,1,1,1,1] (fr [(0,A.p (V.c (W.ptr 0 0))),(3,A.p (V.c (W.ptr 1 0))),(7,A.p (V.c (W.ptr 2 0))),(70,A.p (V.c (W.sl 3 0 2 2))),(71,nI (2)),(72,nI q1),(77,bT r.sub),(78,nI (r.sub.length:Int)),(79,nI (0))]) (ah.ofList [Ob.mk 98 [Fd.c (W.int .i64 r.g),Fd.c q4,Fd.c q3,Fd.c (W.int .i64 r.au),Fd.c (W.int .i64 r.most),Fd.c (W.int .i64 r.live),Fd.c (W.int .i64 r.stat),Fd.c (W.int .i64 r.ph),Fd.c (W.int .i64 r.co),Fd.c (W.int .i64 r.ix),Fd.c (W.sl 4 0 r.rows.length 1),Fd.c (W.sl 5 0 r.par.length 1),Fd.c (W.sl 6 0 r.dn 1)],Ob.mk 113 [Fd.c (W.ba (1:Nat)),Fd.c (W.sl 7 0 l.length 1)],Ob.mk 123 [Fd.c (W.str kP),Fd.c q3],Ob.mk 123 [Fd.c (W.str lq),Fd.c q4,Fd.c (W.str kP),Fd.c q3],Ob.mk 22 [Fd.c (W.th ((2:Int)*r.g).toNat r.rows)],Ob.mk 3 [Fd.a 0 (D.int .i64) r.par],Ob.mk 3 [Fd.a 0 (D.int .i64) r.dl],Ob.mk 5 [Fd.a 0 (D.int .u8) l]]))/\(decide (q1<(2:Int))=false->(0:Nat)+(3:Nat)<=(3:Nat)/\(l.length=l.length/\(∀ (x:Int),x∈List.take (3:Nat) (List.drop (0:Nat) [r.ph,r.co,r.ix])->ji x)/\l.length+(2:Nat)+(22:Nat)*(3:Nat)+(1:Nat)<=(1000000:Nat))/\aq iT (ax (bW (aP T)) (obs r)) [0,1,0,1,1,1,1,1,1,1,1] (fr [(0,A.p (V.c (W.ptr 0 0))),(3,A.p (V.c (W.ptr 1 0))),(117,A.p (V.c (W.sl 2 0 r.rows.length 1))),(118,nI (r.rows.length:Int)),(119,nI (0))]) (ah.ofList [Ob.mk 98 [Fd.c (W.int .i64 r.g),Fd.c q4,Fd.c q3,Fd.c (W.int .i64 r.au),Fd.c (W.int .i64 r.most),Fd.c (W.int .i64 r.live),Fd.c (W.int .i64 r.stat),Fd.c (W.int .i64 r.ph),Fd.c (W.int .i64 r.co),Fd.c (W.int .i64 r.ix),Fd.c (W.sl 2 0 r.rows.length 1),Fd.c (W.sl 3 0 r.par.length 1),Fd.c (W.sl 4 0 r.dn 1)],Ob.mk 113 [Fd.c (W.ba (1:Nat)),Fd.c (W.sl 5 0 q2.length (1:Nat))],Ob.mk 22 [Fd.c (W.th ((2:Int)*r.g).toNat r.rows)],Ob.mk 3 [Fd.a 0 (D.int .i64) r.par],Ob.mk 3 [Fd.a 0 (D.int .i64) r.dl],Ob.mk 5 [Fd.a 0 (D.int .u8) q2]]))) (by kernel_rfl)
 try simp only [true_and,Nat.zero_add,decide_eq_true_eq,decide_eq_false_iff_not,Int.not_lt,List.drop_zero,List.take_succ_cons,List.take_zero,Nat.le_refl]
 have hw:=Bo kP (by decide) r.sub H.sub;have hns:=H.ns;refine ⟨fun h=>⟨by omega,?_⟩,fun h=>by omega⟩;exact svI r T kP r.sub 1 (by omega) (by decide) H.sub hns (l++lB kP r.sub) (svB2 r H T _ (by rw [List.length_append];omega) hT) r.sub.length 0 l (by omega) (by omega) (by omega) (by rw [List.drop_zero])
theorem svB0 (r:Rn) (H:Sv r) (T:List Int) (l:List Int) (hl:l.length<=500) (hT:T=fin (l++lB lq r.av++lB kP r.sub++cP lA [r.ph,r.co,r.ix]++fA r r.rows.length 0)) :
 aq iT (ax (bW (aP T)) (obs r)) Sz (fr [(0,pR),(3,.p (.c (.ptr 1 0))),(70,.p (.c (.sl 2 0 2 2))),(71,nI 2),(72,nI 0)]) (.ofList [fZ r 3 4 5,mR 1 6 l.length,yB r,f6 r,bp r.par,bp r.dl,gU l]):=by
 refine aK lg (by kernel_rfl) 100 ?_;apply of_eq (q:=let q1:=(l++cP (ByteArray.mk #[(97:UInt8),(116:UInt8)]) (List.take (3:Nat) (List.drop (0:Nat) [r.ph,r.co,r.ix])));let q2:=(W.rd (D.int .i64).sl r.av);let q3:=(W.rd (D.int .i64).sl r.sub);(decide ((0:Int)<(2:Int))=true->((0:Int)<=(0:Int)/\(0:Int)<(↑(2:Nat):Int))/\aq iT (ax (bW (aP T)) (obs r)) [0,1,1,0,0,1,1,0,0,1,0,1,1,1,1,1,1] (fr [(0,A.p (V.c (W.ptr 0 0))),(3,A.p (V.c (W.ptr 1 0))),(7,A.p (V.c (W.ptr 2 0))),(70,A.p (V.c (W.sl 3 0 2 2))),(71,nI (2)),(72,nI (0)),(77,bT r.av),(78,nI (r.av.length:Int)),(79,nI (0))]) (ah.ofList [Ob.mk 98 [Fd.c (W.int .i64 r.g),Fd.c q2,Fd.c q3,Fd.c (W.int .i64 r.au),Fd.c (W.int .i64 r.most),Fd.c (W.int .i64 r.live),Fd.c (W.int .i64 r.stat),Fd.c (W.int .i64 r.ph),Fd.c (W.int .i64 r.co),Fd.c (W.int .i64 r.ix),Fd.c (W.sl 4 0 r.rows.length 1),Fd.c (W.sl 5 0 r.par.length 1),Fd.c (W.sl 6 0 r.dn 1)],Ob.mk 113 [Fd.c (W.ba (1:Nat)),Fd.c (W.sl 7 0 l.length 1)],Ob.mk 123 [Fd.c (W.str lq),Fd.c q2],Ob.mk 123 [Fd.c (W.str lq),Fd.c q2,Fd.c (W.str kP),Fd.c q3],Ob.mk 22 [Fd.c (W.th ((2:Int)*r.g).toNat r.rows)],Ob.mk 3 [Fd.a 0 (D.int .i64) r.par],Ob.mk 3 [Fd.a 0 (D.int .i64) r.dl],Ob.mk 5 [Fd.a 0 (D.int .u8) l]]))/\(decide ((0:Int)<(2:Int))=false->(0:Nat)+(3:Nat)<=(3:Nat)/\(l.length=l.length/\(∀ (x:Int),x∈List.take (3:Nat) (List.drop (0:Nat) [r.ph,r.co,r.ix])->ji x)/\l.length+(2:Nat)+(22:Nat)*(3:Nat)+(1:Nat)<=(1000000:Nat))/\aq iT (ax (bW (aP T)) (obs r)) [0,1,0,1,1,1,1,1,1,1,1] (fr [(0,A.p (V.c (W.ptr 0 0))),(3,A.p (V.c (W.ptr 1 0))),(117,A.p (V.c (W.sl 2 0 r.rows.length 1))),(118,nI (r.rows.length:Int)),(119,nI (0))]) (ah.ofList [Ob.mk 98 [Fd.c (W.int .i64 r.g),Fd.c q2,Fd.c q3,Fd.c (W.int .i64 r.au),Fd.c (W.int .i64 r.most),Fd.c (W.int .i64 r.live),Fd.c (W.int .i64 r.stat),Fd.c (W.int .i64 r.ph),Fd.c (W.int .i64 r.co),Fd.c (W.int .i64 r.ix),Fd.c (W.sl 2 0 r.rows.length 1),Fd.c (W.sl 3 0 r.par.length 1),Fd.c (W.sl 4 0 r.dn 1)],Ob.mk 113 [Fd.c (W.ba (1:Nat)),Fd.c (W.sl 5 0 q1.length (1:Nat))],Ob.mk 22 [Fd.c (W.th ((2:Int)*r.g).toNat r.rows)],Ob.mk 3 [Fd.a 0 (D.int .i64) r.par],Ob.mk 3 [Fd.a 0 (D.int .i64) r.dl],Ob.mk 5 [Fd.a 0 (D.int .u8) q1]]))) (by kernel_rfl)
 try simp only [true_and,Nat.zero_add,decide_eq_true_eq,decide_eq_false_iff_not,Int.not_lt,List.drop_zero,List.take_succ_cons,List.take_zero,Nat.le_refl,Int.le_refl]
 have hw:=Bo lq (by decide) r.av H.av;have sL:=H.nr;refine ⟨fun h=>⟨by omega,?_⟩,fun h=>by omega⟩;exact svI r T lq r.av 0 (by omega) (by decide) H.av sL (l++lB lq r.av) (svB1 r H T _ (by rw [List.length_append];omega) hT) r.av.length 0 l (by omega) (by omega) (by omega) (by rw [List.drop_zero])
theorem svA4 (r:Rn) (H:Sv r) (T l:List Int) (hl:l.length<=400) (hT:T=fin (l++[10]++lB lq r.av++lB kP r.sub++cP lA [r.ph,r.co,r.ix]++fA r r.rows.length 0)):aq iT (ax (bW (aP T)) (obs r)) Aw (fr [(0,pR),(3,.p (.c (.ptr 1 0))),(42,.p (.c (.sl 2 0 4 2))),(43,nI 4),(44,nI 4)]) (.ofList [fZ r 3 4 5,mR 1 6 l.length,qH r,f6 r,bp r.par,bp r.dl,gU l]):=by
 refine aK lg (by kernel_rfl) 100 ?_;apply of_eq (q:=(decide ((4:Int)<(4:Int))=true->((0:Int)<=(4:Int)/\(4:Int)<(↑(4:Nat):Int))/\False)/\(decide ((4:Int)<(4:Int))=false->(l.length=l.length/\l.length+(1:Nat)<=(1000000:Nat))/\aq iT (ax (bW (aP T)) (obs r)) [0,1,0,1,1,1,1,1,1] (fr [(0,A.p (V.c (W.ptr 0 0))),(3,A.p (V.c (W.ptr 1 0))),(70,A.p (V.c (W.sl 2 0 2 2))),(71,nI (↑(2:Nat):Int)),(72,nI (0))]) (ah.ofList [Ob.mk 98 [Fd.c (W.int .i64 r.g),Fd.c (W.rd (D.int .i64).sl r.av),Fd.c (W.rd (D.int .i64).sl r.sub),Fd.c (W.int .i64 r.au),Fd.c (W.int .i64 r.most),Fd.c (W.int .i64 r.live),Fd.c (W.int .i64 r.stat),Fd.c (W.int .i64 r.ph),Fd.c (W.int .i64 r.co),Fd.c (W.int .i64 r.ix),Fd.c (W.sl 3 0 r.rows.length 1),Fd.c (W.sl 4 0 r.par.length 1),Fd.c (W.sl 5 0 r.dn 1)],Ob.mk 113 [Fd.c (W.ba (1:Nat)),Fd.c (W.sl 6 0 (l.length+(1:Nat)) 1)],Ob.mk 123 [Fd.c (W.str (ByteArray.mk #[(114:UInt8),(101:UInt8),(108:UInt8),(32:UInt8)])),Fd.c (W.rd (D.int .i64).sl r.av),Fd.c (W.str (ByteArray.mk #[(115:UInt8),(117:UInt8),(98:UInt8),(32:UInt8)])),Fd.c (W.rd (D.int .i64).sl r.sub)],Ob.mk 22 [Fd.c (W.th ((2:Int)*r.g).toNat r.rows)],Ob.mk 3 [Fd.a 0 (D.int .i64) r.par],Ob.mk 3 [Fd.a 0 (D.int .i64) r.dl],Ob.mk 5 [Fd.a 0 (D.int .u8) (l++[(10:Int)])]]))) (by kernel_rfl)
 try simp only [true_and,decide_eq_true_eq,decide_eq_false_iff_not,Int.not_lt,Int.le_refl]
 refine ⟨fun h=>by omega,fun _=>⟨by omega,?_⟩⟩;have e:l.length+1=(l++[10]).length:=by rw [List.length_append];rfl
 rw [e];exact svB0 r H T (l++[10]) (by rw [<-e];omega) hT
theorem svA0 (r:Rn) (H:Sv r) (T l F:List Int) (hl:l.length<=300) (hF:F=l++af (gE++bH r.g)) (hN:aq iT (ax (bW (aP T)) (obs r)) Aw (fr [(0,pR),(3,.p (.c (.ptr 1 0))),(42,.p (.c (.sl 2 0 4 2))),(43,nI 4),(44,nI 1)]) (.ofList [fZ r 3 4 5,mR 1 6 F.length,qH r,f6 r,bp r.par,bp r.dl,gU F])):aq iT (ax (bW (aP T)) (obs r)) Aw (fr [(0,pR),(3,.p (.c (.ptr 1 0))),(42,.p (.c (.sl 2 0 4 2))),(43,nI 4),(44,nI 0)]) (.ofList [fZ r 3 4 5,mR 1 6 l.length,qH r,f6 r,bp r.par,bp r.dl,gU l]):=by
 refine aK lg (by kernel_rfl) 100 ?_;apply of_eq (q:=let q1:=(W.rd (D.int .i64).sl r.av);let q2:=(A.p (V.c (W.str gE)));let q3:=(R1.pure (Cd.t.and Cd.t) q2);let q4:=(W.rd (D.int .i64).sl r.sub);(decide ((0:Int)<(4:Int))=true->((0:Int)<=(0:Int)/\(0:Int)<(↑(4:Nat):Int))/\((-9223372036854775808:Int)<=r.g/\r.g<=(9223372036854775807:Int))/\(5:Nat)+(bH r.g).size<=(9223372036854775807:Nat)/\(l.length=l.length/\l.length+(gE++bH r.g).size<=(1000000:Nat))/\q3.v=q3.v/\q3.v=q3.v/\aq iT (ax (bW (aP T)) (obs r)) [0,1,0,1,1,1,1] (fr [(0,A.p (V.c (W.ptr 0 0))),(3,A.p (V.c (W.ptr 1 0))),(42,A.p (V.c (W.sl 2 0 4 2))),(43,nI (4)),(44,nI (IntKind.i64.wrap ((0:Int)+(1:Int))))]) (ah.ofList [Ob.mk 98 [Fd.c (W.int .i64 r.g),Fd.c q1,Fd.c q4,Fd.c (W.int .i64 r.au),Fd.c (W.int .i64 r.most),Fd.c (W.int .i64 r.live),Fd.c (W.int .i64 r.stat),Fd.c (W.int .i64 r.ph),Fd.c (W.int .i64 r.co),Fd.c (W.int .i64 r.ix),Fd.c (W.sl 3 0 r.rows.length 1),Fd.c (W.sl 4 0 r.par.length 1),Fd.c (W.sl 5 0 r.dn 1)],Ob.mk 113 [Fd.c (W.ba (1:Nat)),Fd.c (W.sl 6 0 (l.length+(gE++bH r.g).size) 1)],Ob.mk 115 [Fd.c (W.str gE),Fd.c (W.int .i64 r.g),Fd.c (W.str jl),Fd.c (W.int .i64 r.au),Fd.c (W.str gZ),Fd.c (W.int .i64 r.most),Fd.c (W.str iC),Fd.c (W.int .i64 r.stat)],Ob.mk 22 [Fd.c (W.th ((2:Int)*r.g).toNat r.rows)],Ob.mk 3 [Fd.a 0 (D.int .i64) r.par],Ob.mk 3 [Fd.a 0 (D.int .i64) r.dl],Ob.mk 5 [Fd.a 0 (D.int .u8) (l++af (gE++bH r.g))]]))/\(decide ((0:Int)<(4:Int))=false->(l.length=l.length/\l.length+(1:Nat)<=(1000000:Nat))/\aq iT (ax (bW (aP T)) (obs r)) [0,1,0,1,1,1,1,1,1] (fr [(0,A.p (V.c (W.ptr 0 0))),(3,A.p (V.c (W.ptr 1 0))),(70,A.p (V.c (W.sl 2 0 2 2))),(71,nI (↑(2:Nat):Int)),(72,nI (0))]) (ah.ofList [Ob.mk 98 [Fd.c (W.int .i64 r.g),Fd.c q1,Fd.c q4,Fd.c (W.int .i64 r.au),Fd.c (W.int .i64 r.most),Fd.c (W.int .i64 r.live),Fd.c (W.int .i64 r.stat),Fd.c (W.int .i64 r.ph),Fd.c (W.int .i64 r.co),Fd.c (W.int .i64 r.ix),Fd.c (W.sl 3 0 r.rows.length 1),Fd.c (W.sl 4 0 r.par.length 1),Fd.c (W.sl 5 0 r.dn 1)],Ob.mk 113 [Fd.c (W.ba (1:Nat)),Fd.c (W.sl 6 0 (l.length+(1:Nat)) 1)],Ob.mk 123 [Fd.c (W.str (ByteArray.mk #[(114:UInt8),(101:UInt8),(108:UInt8),(32:UInt8)])),Fd.c q1,Fd.c (W.str (ByteArray.mk #[(115:UInt8),(117:UInt8),(98:UInt8),(32:UInt8)])),Fd.c q4],Ob.mk 22 [Fd.c (W.th ((2:Int)*r.g).toNat r.rows)],Ob.mk 3 [Fd.a 0 (D.int .i64) r.par],Ob.mk 3 [Fd.a 0 (D.int .i64) r.dl],Ob.mk 5 [Fd.a 0 (D.int .u8) (l++[(10:Int)])]]))) (by kernel_rfl)
 try simp only [true_and,decide_eq_true_eq,decide_eq_false_iff_not,Int.not_lt,Int.le_refl]
 have hz:=eI r.g H.g;have ha:(gE++bH r.g).size=5+(bH r.g).size:=ByteArray.size_append ..;have e:l.length+(gE++bH r.g).size=F.length:=by rw [hF,List.length_append,fe]
 rw [e,wrap64 (n:=(0:Int)+1) (by omega) (by omega),<-hF];exact ⟨fun _=>⟨by omega,H.g,by omega,by omega,hN⟩,fun h=>by omega⟩
theorem svA1 (r:Rn) (H:Sv r) (T l F:List Int) (hl:l.length<=300) (hF:F=l++af (jl++bH r.au)) (hN:aq iT (ax (bW (aP T)) (obs r)) Aw (fr [(0,pR),(3,.p (.c (.ptr 1 0))),(42,.p (.c (.sl 2 0 4 2))),(43,nI 4),(44,nI 2)]) (.ofList [fZ r 3 4 5,mR 1 6 F.length,qH r,f6 r,bp r.par,bp r.dl,gU F])):aq iT (ax (bW (aP T)) (obs r)) Aw (fr [(0,pR),(3,.p (.c (.ptr 1 0))),(42,.p (.c (.sl 2 0 4 2))),(43,nI 4),(44,nI 1)]) (.ofList [fZ r 3 4 5,mR 1 6 l.length,qH r,f6 r,bp r.par,bp r.dl,gU l]):=by
 refine aK lg (by kernel_rfl) 100 ?_;apply of_eq (q:=let q1:=(W.rd (D.int .i64).sl r.av);let q2:=(W.rd (D.int .i64).sl r.sub);let q3:=(A.p (V.c (W.str jl)));let q4:=(R1.pure (Cd.t.and Cd.t) q3);(decide ((1:Int)<(4:Int))=true->((0:Int)<=(1:Int)/\(1:Int)<(↑(4:Nat):Int))/\((-9223372036854775808:Int)<=r.au/\r.au<=(9223372036854775807:Int))/\(7:Nat)+(bH r.au).size<=(9223372036854775807:Nat)/\(l.length=l.length/\l.length+(jl++bH r.au).size<=(1000000:Nat))/\q4.v=q4.v/\q4.v=q4.v/\aq iT (ax (bW (aP T)) (obs r)) [0,1,0,1,1,1,1] (fr [(0,A.p (V.c (W.ptr 0 0))),(3,A.p (V.c (W.ptr 1 0))),(42,A.p (V.c (W.sl 2 0 4 2))),(43,nI (4)),(44,nI (IntKind.i64.wrap ((1:Int)+(1:Int))))]) (ah.ofList [Ob.mk 98 [Fd.c (W.int .i64 r.g),Fd.c q1,Fd.c q2,Fd.c (W.int .i64 r.au),Fd.c (W.int .i64 r.most),Fd.c (W.int .i64 r.live),Fd.c (W.int .i64 r.stat),Fd.c (W.int .i64 r.ph),Fd.c (W.int .i64 r.co),Fd.c (W.int .i64 r.ix),Fd.c (W.sl 3 0 r.rows.length 1),Fd.c (W.sl 4 0 r.par.length 1),Fd.c (W.sl 5 0 r.dn 1)],Ob.mk 113 [Fd.c (W.ba (1:Nat)),Fd.c (W.sl 6 0 (l.length+(jl++bH r.au).size) 1)],Ob.mk 115 [Fd.c (W.str gE),Fd.c (W.int .i64 r.g),Fd.c (W.str jl),Fd.c (W.int .i64 r.au),Fd.c (W.str gZ),Fd.c (W.int .i64 r.most),Fd.c (W.str iC),Fd.c (W.int .i64 r.stat)],Ob.mk 22 [Fd.c (W.th ((2:Int)*r.g).toNat r.rows)],Ob.mk 3 [Fd.a 0 (D.int .i64) r.par],Ob.mk 3 [Fd.a 0 (D.int .i64) r.dl],Ob.mk 5 [Fd.a 0 (D.int .u8) (l++af (jl++bH r.au))]]))/\(decide ((1:Int)<(4:Int))=false->(l.length=l.length/\l.length+(1:Nat)<=(1000000:Nat))/\aq iT (ax (bW (aP T)) (obs r)) [0,1,0,1,1,1,1,1,1] (fr [(0,A.p (V.c (W.ptr 0 0))),(3,A.p (V.c (W.ptr 1 0))),(70,A.p (V.c (W.sl 2 0 2 2))),(71,nI (↑(2:Nat):Int)),(72,nI (0))]) (ah.ofList [Ob.mk 98 [Fd.c (W.int .i64 r.g),Fd.c q1,Fd.c q2,Fd.c (W.int .i64 r.au),Fd.c (W.int .i64 r.most),Fd.c (W.int .i64 r.live),Fd.c (W.int .i64 r.stat),Fd.c (W.int .i64 r.ph),Fd.c (W.int .i64 r.co),Fd.c (W.int .i64 r.ix),Fd.c (W.sl 3 0 r.rows.length 1),Fd.c (W.sl 4 0 r.par.length 1),Fd.c (W.sl 5 0 r.dn 1)],Ob.mk 113 [Fd.c (W.ba (1:Nat)),Fd.c (W.sl 6 0 (l.length+(1:Nat)) 1)],Ob.mk 123 [Fd.c (W.str (ByteArray.mk #[(114:UInt8),(101:UInt8),(108:UInt8),(32:UInt8)])),Fd.c q1,Fd.c (W.str (ByteArray.mk #[(115:UInt8),(117:UInt8),(98:UInt8),(32:UInt8)])),Fd.c q2],Ob.mk 22 [Fd.c (W.th ((2:Int)*r.g).toNat r.rows)],Ob.mk 3 [Fd.a 0 (D.int .i64) r.par],Ob.mk 3 [Fd.a 0 (D.int .i64) r.dl],Ob.mk 5 [Fd.a 0 (D.int .u8) (l++[(10:Int)])]]))) (by kernel_rfl)
 try simp only [true_and,decide_eq_true_eq,decide_eq_false_iff_not,Int.not_lt]
 have hz:=eI r.au H.au;have ha:(jl++bH r.au).size=7+(bH r.au).size:=ByteArray.size_append ..;have e:l.length+(jl++bH r.au).size=F.length:=by rw [hF,List.length_append,fe]
 rw [e,wrap64 (n:=(1:Int)+1) (by omega) (by omega),<-hF];exact ⟨fun _=>⟨by omega,H.au,by omega,by omega,hN⟩,fun h=>by omega⟩
theorem svA2 (r:Rn) (H:Sv r) (T l F:List Int) (hl:l.length<=300) (hF:F=l++af (gZ++bH r.most)) (hN:aq iT (ax (bW (aP T)) (obs r)) Aw (fr [(0,pR),(3,.p (.c (.ptr 1 0))),(42,.p (.c (.sl 2 0 4 2))),(43,nI 4),(44,nI 3)]) (.ofList [fZ r 3 4 5,mR 1 6 F.length,qH r,f6 r,bp r.par,bp r.dl,gU F])):aq iT (ax (bW (aP T)) (obs r)) Aw (fr [(0,pR),(3,.p (.c (.ptr 1 0))),(42,.p (.c (.sl 2 0 4 2))),(43,nI 4),(44,nI 2)]) (.ofList [fZ r 3 4 5,mR 1 6 l.length,qH r,f6 r,bp r.par,bp r.dl,gU l]):=by
 refine aK lg (by kernel_rfl) 100 ?_;apply of_eq (q:=let q1:=(W.rd (D.int .i64).sl r.av);let q2:=(A.p (V.c (W.str gZ)));let q3:=(R1.pure (Cd.t.and Cd.t) q2);let q4:=(W.rd (D.int .i64).sl r.sub);(decide ((2:Int)<(4:Int))=true->((0:Int)<=(2:Int)/\(2:Int)<(↑(4:Nat):Int))/\((-9223372036854775808:Int)<=r.most/\r.most<=(9223372036854775807:Int))/\(6:Nat)+(bH r.most).size<=(9223372036854775807:Nat)/\(l.length=l.length/\l.length+(gZ++bH r.most).size<=(1000000:Nat))/\q3.v=q3.v/\q3.v=q3.v/\aq iT (ax (bW (aP T)) (obs r)) [0,1,0,1,1,1,1] (fr [(0,A.p (V.c (W.ptr 0 0))),(3,A.p (V.c (W.ptr 1 0))),(42,A.p (V.c (W.sl 2 0 4 2))),(43,nI (4)),(44,nI (IntKind.i64.wrap ((2:Int)+(1:Int))))]) (ah.ofList [Ob.mk 98 [Fd.c (W.int .i64 r.g),Fd.c q1,Fd.c q4,Fd.c (W.int .i64 r.au),Fd.c (W.int .i64 r.most),Fd.c (W.int .i64 r.live),Fd.c (W.int .i64 r.stat),Fd.c (W.int .i64 r.ph),Fd.c (W.int .i64 r.co),Fd.c (W.int .i64 r.ix),Fd.c (W.sl 3 0 r.rows.length 1),Fd.c (W.sl 4 0 r.par.length 1),Fd.c (W.sl 5 0 r.dn 1)],Ob.mk 113 [Fd.c (W.ba (1:Nat)),Fd.c (W.sl 6 0 (l.length+(gZ++bH r.most).size) 1)],Ob.mk 115 [Fd.c (W.str gE),Fd.c (W.int .i64 r.g),Fd.c (W.str jl),Fd.c (W.int .i64 r.au),Fd.c (W.str gZ),Fd.c (W.int .i64 r.most),Fd.c (W.str iC),Fd.c (W.int .i64 r.stat)],Ob.mk 22 [Fd.c (W.th ((2:Int)*r.g).toNat r.rows)],Ob.mk 3 [Fd.a 0 (D.int .i64) r.par],Ob.mk 3 [Fd.a 0 (D.int .i64) r.dl],Ob.mk 5 [Fd.a 0 (D.int .u8) (l++af (gZ++bH r.most))]]))/\(decide ((2:Int)<(4:Int))=false->(l.length=l.length/\l.length+(1:Nat)<=(1000000:Nat))/\aq iT (ax (bW (aP T)) (obs r)) [0,1,0,1,1,1,1,1,1] (fr [(0,A.p (V.c (W.ptr 0 0))),(3,A.p (V.c (W.ptr 1 0))),(70,A.p (V.c (W.sl 2 0 2 2))),(71,nI (↑(2:Nat):Int)),(72,nI (0))]) (ah.ofList [Ob.mk 98 [Fd.c (W.int .i64 r.g),Fd.c q1,Fd.c q4,Fd.c (W.int .i64 r.au),Fd.c (W.int .i64 r.most),Fd.c (W.int .i64 r.live),Fd.c (W.int .i64 r.stat),Fd.c (W.int .i64 r.ph),Fd.c (W.int .i64 r.co),Fd.c (W.int .i64 r.ix),Fd.c (W.sl 3 0 r.rows.length 1),Fd.c (W.sl 4 0 r.par.length 1),Fd.c (W.sl 5 0 r.dn 1)],Ob.mk 113 [Fd.c (W.ba (1:Nat)),Fd.c (W.sl 6 0 (l.length+(1:Nat)) 1)],Ob.mk 123 [Fd.c (W.str (ByteArray.mk #[(114:UInt8),(101:UInt8),(108:UInt8),(32:UInt8)])),Fd.c q1,Fd.c (W.str (ByteArray.mk #[(115:UInt8),(117:UInt8),(98:UInt8),(32:UInt8)])),Fd.c q4],Ob.mk 22 [Fd.c (W.th ((2:Int)*r.g).toNat r.rows)],Ob.mk 3 [Fd.a 0 (D.int .i64) r.par],Ob.mk 3 [Fd.a 0 (D.int .i64) r.dl],Ob.mk 5 [Fd.a 0 (D.int .u8) (l++[(10:Int)])]]))) (by kernel_rfl)
 try simp only [true_and,decide_eq_true_eq,decide_eq_false_iff_not,Int.not_lt]
 have hz:=eI r.most H.most;have ha:(gZ++bH r.most).size=6+(bH r.most).size:=ByteArray.size_append ..;have e:l.length+(gZ++bH r.most).size=F.length:=by rw [hF,List.length_append,fe]
 rw [e,wrap64 (n:=(2:Int)+1) (by omega) (by omega),<-hF];exact ⟨fun _=>⟨by omega,H.most,by omega,by omega,hN⟩,fun h=>by omega⟩
theorem svA3 (r:Rn) (H:Sv r) (T l F:List Int) (hl:l.length<=300) (hF:F=l++af (iC++bH r.stat)) (hN:aq iT (ax (bW (aP T)) (obs r)) Aw (fr [(0,pR),(3,.p (.c (.ptr 1 0))),(42,.p (.c (.sl 2 0 4 2))),(43,nI 4),(44,nI 4)]) (.ofList [fZ r 3 4 5,mR 1 6 F.length,qH r,f6 r,bp r.par,bp r.dl,gU F])):aq iT (ax (bW (aP T)) (obs r)) Aw (fr [(0,pR),(3,.p (.c (.ptr 1 0))),(42,.p (.c (.sl 2 0 4 2))),(43,nI 4),(44,nI 3)]) (.ofList [fZ r 3 4 5,mR 1 6 l.length,qH r,f6 r,bp r.par,bp r.dl,gU l]):=by
 refine aK lg (by kernel_rfl) 100 ?_;apply of_eq (q:=let q1:=(W.rd (D.int .i64).sl r.av);let q2:=(A.p (V.c (W.str iC)));let q3:=(R1.pure (Cd.t.and Cd.t) q2);let q4:=(W.rd (D.int .i64).sl r.sub);(decide ((3:Int)<(4:Int))=true->((0:Int)<=(3:Int)/\(3:Int)<(↑(4:Nat):Int))/\((-9223372036854775808:Int)<=r.stat/\r.stat<=(9223372036854775807:Int))/\(8:Nat)+(bH r.stat).size<=(9223372036854775807:Nat)/\(l.length=l.length/\l.length+(iC++bH r.stat).size<=(1000000:Nat))/\q3.v=q3.v/\q3.v=q3.v/\aq iT (ax (bW (aP T)) (obs r)) [0,1,0,1,1,1,1] (fr [(0,A.p (V.c (W.ptr 0 0))),(3,A.p (V.c (W.ptr 1 0))),(42,A.p (V.c (W.sl 2 0 4 2))),(43,nI (4)),(44,nI (IntKind.i64.wrap ((3:Int)+(1:Int))))]) (ah.ofList [Ob.mk 98 [Fd.c (W.int .i64 r.g),Fd.c q1,Fd.c q4,Fd.c (W.int .i64 r.au),Fd.c (W.int .i64 r.most),Fd.c (W.int .i64 r.live),Fd.c (W.int .i64 r.stat),Fd.c (W.int .i64 r.ph),Fd.c (W.int .i64 r.co),Fd.c (W.int .i64 r.ix),Fd.c (W.sl 3 0 r.rows.length 1),Fd.c (W.sl 4 0 r.par.length 1),Fd.c (W.sl 5 0 r.dn 1)],Ob.mk 113 [Fd.c (W.ba (1:Nat)),Fd.c (W.sl 6 0 (l.length+(iC++bH r.stat).size) 1)],Ob.mk 115 [Fd.c (W.str gE),Fd.c (W.int .i64 r.g),Fd.c (W.str jl),Fd.c (W.int .i64 r.au),Fd.c (W.str gZ),Fd.c (W.int .i64 r.most),Fd.c (W.str iC),Fd.c (W.int .i64 r.stat)],Ob.mk 22 [Fd.c (W.th ((2:Int)*r.g).toNat r.rows)],Ob.mk 3 [Fd.a 0 (D.int .i64) r.par],Ob.mk 3 [Fd.a 0 (D.int .i64) r.dl],Ob.mk 5 [Fd.a 0 (D.int .u8) (l++af (iC++bH r.stat))]]))/\(decide ((3:Int)<(4:Int))=false->(l.length=l.length/\l.length+(1:Nat)<=(1000000:Nat))/\aq iT (ax (bW (aP T)) (obs r)) [0,1,0,1,1,1,1,1,1] (fr [(0,A.p (V.c (W.ptr 0 0))),(3,A.p (V.c (W.ptr 1 0))),(70,A.p (V.c (W.sl 2 0 2 2))),(71,nI (↑(2:Nat):Int)),(72,nI (0))]) (ah.ofList [Ob.mk 98 [Fd.c (W.int .i64 r.g),Fd.c q1,Fd.c q4,Fd.c (W.int .i64 r.au),Fd.c (W.int .i64 r.most),Fd.c (W.int .i64 r.live),Fd.c (W.int .i64 r.stat),Fd.c (W.int .i64 r.ph),Fd.c (W.int .i64 r.co),Fd.c (W.int .i64 r.ix),Fd.c (W.sl 3 0 r.rows.length 1),Fd.c (W.sl 4 0 r.par.length 1),Fd.c (W.sl 5 0 r.dn 1)],Ob.mk 113 [Fd.c (W.ba (1:Nat)),Fd.c (W.sl 6 0 (l.length+(1:Nat)) 1)],Ob.mk 123 [Fd.c (W.str (ByteArray.mk #[(114:UInt8),(101:UInt8),(108:UInt8),(32:UInt8)])),Fd.c q1,Fd.c (W.str (ByteArray.mk #[(115:UInt8),(117:UInt8),(98:UInt8),(32:UInt8)])),Fd.c q4],Ob.mk 22 [Fd.c (W.th ((2:Int)*r.g).toNat r.rows)],Ob.mk 3 [Fd.a 0 (D.int .i64) r.par],Ob.mk 3 [Fd.a 0 (D.int .i64) r.dl],Ob.mk 5 [Fd.a 0 (D.int .u8) (l++[(10:Int)])]]))) (by kernel_rfl)
 try simp only [true_and,decide_eq_true_eq,decide_eq_false_iff_not,Int.not_lt]
 have hz:=eI r.stat H.stat;have ha:(iC++bH r.stat).size=8+(bH r.stat).size:=ByteArray.size_append ..;have e:l.length+(iC++bH r.stat).size=F.length:=by rw [hF,List.length_append,fe]
 rw [e,wrap64 (n:=(3:Int)+1) (by omega) (by omega),<-hF];exact ⟨fun _=>⟨by omega,H.stat,by omega,by omega,hN⟩,fun h=>by omega⟩
theorem JC (r:Rn) (H:Sv r):aX Tryz.prog 17 1 [pR] (obs r) (bW (aP (dV r))) (obs r):=by
 refine bA (live:=JB) (bQ:=[]) (fz:=[]) lg Tryz.func17 (by kernel_rfl) 1 (by kernel_rfl) 100 ?_;apply of_eq (q:=let q1:=(32:UInt8);let q2:=(0:Nat);let q3:=(1:Nat);((r.rows.length=r.rows.length/\r.par.length=r.par.length/\((2:Int)*r.g).toNat=((2:Int)*r.g).toNat)/\True)/\((!decide (q2<r.rows.length))=true->ak [V.c (W.str (ByteArray.mk #[]))]=bW (aP (dV r))/\[Ob.mk 98 [Fd.c (W.int .i64 r.g),Fd.c (W.rd (D.int .i64).sl r.av),Fd.c (W.rd (D.int .i64).sl r.sub),Fd.c (W.int .i64 r.au),Fd.c (W.int .i64 r.most),Fd.c (W.int .i64 r.live),Fd.c (W.int .i64 r.stat),Fd.c (W.int .i64 r.ph),Fd.c (W.int .i64 r.co),Fd.c (W.int .i64 r.ix),Fd.c (W.sl (q2+q3) q2 r.rows.length q3),Fd.c (W.sl (q2+q3+q3) q2 r.par.length q3),Fd.c (W.sl (q2+q3+q3+q3) q2 r.dn q3)],Ob.mk 22 [Fd.c (W.th ((2:Int)*r.g).toNat r.rows)],Ob.mk 3 [Fd.a 0 (D.int .i64) r.par],Ob.mk 3 [Fd.a 0 (D.int .i64) r.dl]]=obs r)/\((!decide (q2<r.rows.length))=false->(q2=q2/\(∀ (x:Int),x∈[]->ji x)/\q2+(7:Nat)+(22:Nat)*q2+q3<=(1000000:Nat))/\aq (aY Tryz.prog gSv Tryz.f17 q3 JB [] []) (ax (bW (aP (dV r))) (obs r)) [0,1,0,1,1,1,1] (fr [(0,A.p (V.c (W.ptr 0 0))),(3,A.p (V.c (W.ptr 1 0))),(42,A.p (V.c (W.sl 2 0 4 2))),(43,nI (↑(4:Nat):Int)),(44,nI (0))]) (ah.ofList [Ob.mk 98 [Fd.c (W.int .i64 r.g),Fd.c (W.rd (D.int .i64).sl r.av),Fd.c (W.rd (D.int .i64).sl r.sub),Fd.c (W.int .i64 r.au),Fd.c (W.int .i64 r.most),Fd.c (W.int .i64 r.live),Fd.c (W.int .i64 r.stat),Fd.c (W.int .i64 r.ph),Fd.c (W.int .i64 r.co),Fd.c (W.int .i64 r.ix),Fd.c (W.sl 3 0 r.rows.length 1),Fd.c (W.sl 4 0 r.par.length 1),Fd.c (W.sl 5 0 r.dn 1)],Ob.mk 113 [Fd.c (W.ba q3),Fd.c (W.sl 6 0 8 1)],Ob.mk 115 [Fd.c (W.str (ByteArray.mk #[(103:UInt8),(101:UInt8),(110:UInt8),(115:UInt8),q1])),Fd.c (W.int .i64 r.g),Fd.c (W.str (ByteArray.mk #[q1,(108:UInt8),(105:UInt8),(109:UInt8),(105:UInt8),(116:UInt8),q1])),Fd.c (W.int .i64 r.au),Fd.c (W.str (ByteArray.mk #[q1,(109:UInt8),(111:UInt8),(115:UInt8),(116:UInt8),q1])),Fd.c (W.int .i64 r.most),Fd.c (W.str (ByteArray.mk #[q1,(115:UInt8),(116:UInt8),(97:UInt8),(116:UInt8),(117:UInt8),(115:UInt8),q1])),Fd.c (W.int .i64 r.stat)],Ob.mk 22 [Fd.c (W.th ((2:Int)*r.g).toNat r.rows)],Ob.mk 3 [Fd.a 0 (D.int .i64) r.par],Ob.mk 3 [Fd.a 0 (D.int .i64) r.dl],Ob.mk 5 [Fd.a 0 (D.int .u8) ([]++cP (ByteArray.mk #[(99:UInt8),(111:UInt8),(115:UInt8),(101:UInt8),(116:UInt8),q1,(49:UInt8)]) [])]]))) (by kernel_rfl)
 try simp only [true_and,and_true,Nat.zero_add,Bool.not_eq_true',Bool.not_eq_false',decide_eq_true_eq,decide_eq_false_iff_not,Nat.reduceAdd]
 refine ⟨fun h=>absurd H.n0 h,fun _=>⟨⟨fun x hx=>(by cases hx),by omega⟩,?_⟩⟩;have g0:(cP jB []).length=8:=rfl;have h1:=eI r.g H.g;have h2:=eI r.au H.au;have h3:=eI r.most H.most;have h4:=eI r.stat H.stat;have a1:(gE++bH r.g).size=5+(bH r.g).size:=ByteArray.size_append ..;have a2:(jl++bH r.au).size=7+(bH r.au).size:=ByteArray.size_append ..;have a3:(gZ++bH r.most).size=6+(bH r.most).size:=ByteArray.size_append ..;have a4:(iC++bH r.stat).size=8+(bH r.stat).size:=ByteArray.size_append ..;have b1:(cP jB []++af (gE++bH r.g)).length<=50:=by simp only [List.length_append,fe];omega
 have b2:(cP jB []++af (gE++bH r.g)++af (jl++bH r.au)).length<=100:=by simp only [List.length_append,fe];omega
 have b3:(cP jB []++af (gE++bH r.g)++af (jl++bH r.au)++af (gZ++bH r.most)).length<=150:=by simp only [List.length_append,fe];omega
 have b4:(cP jB []++af (gE++bH r.g)++af (jl++bH r.au)++af (gZ++bH r.most)++af (iC++bH r.stat)).length<=200:=by simp only [List.length_append,fe];omega
 exact svA0 r H _ (cP jB []) _ (by omega) rfl (svA1 r H _ _ _ (by omega) rfl (svA2 r H _ _ _ (by omega) rfl (svA3 r H _ _ _ (by omega) rfl (svA4 r H _ _ (by omega) rfl))))
def OT:bw:=sK fun r=>(Sv r,bW (aP (dV r)),r)
theorem JD:aH Tryz.prog 17 OT:=oP (by kernel_rfl) fun r h=>JC r h
end Go.Proofs.YtepmdidomecebaaGreatDoor
