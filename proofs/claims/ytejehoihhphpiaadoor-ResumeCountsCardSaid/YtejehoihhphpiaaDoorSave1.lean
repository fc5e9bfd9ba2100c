/- strings.Builder: what its calls do to the bytes that were written. -/
import Derived.Test.YtejehoihhphpiaaDoorPres1
import Derived.Test.YtejehoihhphpiaaDoorLoom5
import Derived.Test.YtejehoihhphpiaaDoorEng5
import Derived.Test.YtejehoihhphpiaaDoorShelf1
import Derived.Lib.ItoaLen
namespace Go.Proofs.YtejehoihhphpiaaDoor
open Go.Loom
set_option maxRecDepth 100000
def ren240:Go.Shelf.Ren:=⟨fun | 240=>44 | 276=>58 | n=>n,fun | 9=>9 | 4=>4 | 0=>0 | 20=>20 | 72=>63 | 70=>60 | 37=>61 | 164=>113 | 5=>5 | 80=>39 | n=>n,fun | n=>n⟩
theorem lays240:Go.Proofs.Lays.n240 Tryd.prog ren240:={
 mixed:=by kernel_rfl
 f240:=Tryd.func44.trans (congrArg some (by kernel_rfl))
 f276:=Tryd.func58.trans (congrArg some (by kernel_rfl))
 t0:=Tryd.underlying0
 a0:=Tryd.isAgg0
 z0:=Tryd.sizeOf0
 v0:=Tryd.zeroValue0
 t4:=Tryd.underlying4
 a4:=Tryd.isAgg4
 z4:=Tryd.sizeOf4
 v4:=Tryd.zeroValue4
 t9:=Tryd.underlying9
 a9:=Tryd.isAgg9
 z9:=Tryd.sizeOf9
 v9:=Tryd.zeroValue9
 t20:=Tryd.underlying20
 a20:=Tryd.isAgg20
 z20:=Tryd.sizeOf20
 v20:=Tryd.zeroValue20
 t70:=Tryd.underlying60
 a70:=Tryd.isAgg60
 z70:=Tryd.sizeOf60
 v70:=Tryd.zeroValue60
 t72:=Tryd.underlying63
 a72:=Tryd.isAgg63
 z72:=Tryd.sizeOf63
 v72:=Tryd.zeroValue63
 t164:=Tryd.underlying113
 a164:=Tryd.isAgg113
 z164:=Tryd.sizeOf113
 v164:=Tryd.zeroValue113 }
theorem x72:Go.Proofs.Builder.X72 Tryd.prog ren240:={ sizeBuilder:=by kernel_rfl,liesBuilder:=by kernel_rfl }
abbrev obB (n:Nat):Ob:=⟨63,[.c (.ba 0),.c (.sl 1 0 n 1)]⟩
abbrev obU (l:List Int):Ob:=⟨5,[.a 0 (.int .u8) l]⟩
def cCc:Con:={ refs:=[true],f:=fun args objs=>match args,objs with
 | [.p (.c (.ptr a b))],(⟨t,[.c (.ba n),.c x]⟩::rest)=>bif Nat.beq a 0&&(Nat.beq b 0&&(Nat.beq n 0&&Nat.beq t 63)) then some (.t,.tup [],(⟨t,[.c (.ba n),.c x]⟩::rest)) else none
 | _,_=>none }
theorem cCc_ok:ConOk Tryd.prog 44 cCc:=by
 refine ⟨by kernel_rfl,fun args objs c r objs' e hc=>?_⟩
 simp only [cCc] at e
 split at e
 . obtain ⟨hb,e⟩:=Mill.bif_some e
   simp only [Bool.and_eq_true,Nat.beq_eq] at hb
   obtain ⟨rfl,rfl,rfl,rfl⟩:=hb
   cases e
   exact copyCheck_sem lays240 x72 (by kernel_rfl) _ _
 . cases e
def asU:Ob->Option (List Int)
 | ⟨ty,[.a k d l]⟩=>bif Nat.beq ty 5&&Nat.beq k 0 then (if h:d=.int .u8 then some (h▸l:List (D.int .u8).ty) else none) else none
 | _=>none
theorem asU_eq {o:Ob} {l:List Int} (e:asU o=some l):o=obU l:=by
 unfold asU at e
 split at e
 . obtain ⟨hb,e⟩:=Mill.bif_some e
   simp only [Bool.and_eq_true,Nat.beq_eq] at hb
   obtain ⟨rfl,rfl⟩:=hb
   split at e
   . rename_i h;subst h;cases e;rfl
   . cases e
 . cases e
def asB:Ob->Option Nat
 | ⟨ty,[.c (.ba a),.c (.sl b c n z)]⟩=>bif Nat.beq ty 63&&(Nat.beq a 0&&(Nat.beq b 1&&(Nat.beq c 0&&Nat.beq z 1))) then some n else none
 | _=>none
theorem asB_eq {o:Ob} {n:Nat} (e:asB o=some n):o=obB n:=by
 unfold asB at e
 split at e
 . obtain ⟨hb,e⟩:=Mill.bif_some e
   simp only [Bool.and_eq_true,Nat.beq_eq] at hb
   obtain ⟨rfl,rfl,rfl,rfl,rfl⟩:=hb
   cases e;rfl
 . cases e
theorem bytesI_len (s:ByteArray):(bytesI s).length=s.size:=by simp [bytesI]
noncomputable def gWst:Gam:=[(44,cCc)]
theorem gWst_ok:GamOk Tryd.prog gWst:=gamOk_cons cCc_ok gamOk_nil
theorem wst_sem (l:List Int) (s:ByteArray) (h:l.length+s.size<=1000000):FnSemK Tryd.prog 26 1 [pt 0,.p (.c (.str s))] [obB l.length,obU l] (.tup [.c (.int .i64 s.size),.c .nilif]) [obB (l.length+s.size),obU (l++bytesI s)]:=by
 refine fnSemK_at (live:=[]) (fzl:=[]) (fz:=[]) gWst_ok Tryd.func26 (by kernel_rfl) 1 (by kernel_rfl) 100 ?_
 apply of_eq (q:=((0:Nat)=(0:Nat)/\l.length=l.length/\(l.length+(bytesI s).length)*(1:Nat)<=(140737488355328:Nat))/\packV [V.c (W.int .i64 (s.size:Int)),V.c W.nilif]=A.tup [V.c (W.int .i64 (s.size:Int)),V.c W.nilif]/\[Ob.mk 63 [Fd.c (W.ba (0:Nat)),Fd.c (W.sl ((0:Nat)+(1:Nat)) (0:Nat) (l.length+(bytesI s).length) (1:Nat))],Ob.mk 5 [Fd.a 0 (D.int .u8) (List.take l.length (List.drop (0:Nat) l)++bytesI s)]]=[obB (l.length+s.size),obU (l++bytesI s)]) (by kernel_rfl)
 try simp only [true_and,Nat.zero_add,Nat.mul_one,List.drop_zero,List.take_length]
 rw [bytesI_len]
 exact ⟨by omega,rfl,rfl⟩
def cWst:Con:={ refs:=[true,false],keep:=some 1,f:=fun args objs=>match args,objs with
 | [.p (.c (.ptr a b)),x],[o,u]=>bif Nat.beq a 0&&Nat.beq b 0 then (match asB o,asU u,asD .str x with | some n,some l,some s=>some (.p (n=l.length/\l.length+s.size<=1000000),.tup [.c (.int .i64 s.size),.c .nilif],[obB (l.length+s.size),obU (l++bytesI s)]) | _,_,_=>none) else none
 | _,_=>none }
theorem cWst_ok:ConOk Tryd.prog 26 cWst:=by
 refine ⟨by kernel_rfl,fun args objs c r objs' e hc=>?_⟩
 simp only [cWst] at e
 split at e
 . obtain ⟨hb,e⟩:=Mill.bif_some e
   simp only [Bool.and_eq_true,Nat.beq_eq] at hb
   obtain ⟨rfl,rfl⟩:=hb
   split at e
   . rename_i n l s ho hu hx
     cases e
     obtain ⟨rfl,h2⟩:=hc
     rw [asB_eq ho,asU_eq hu]
     intro base η Z w vs R hv
     refine wst_sem l s h2 base η Z w vs R ?_
     match vs,hv with
     | [u,v],⟨h1,h2,h3⟩=>exact ⟨h1,asD_rel hx h2,h3⟩
   . cases e
 . cases e
end Go.Proofs.YtejehoihhphpiaaDoor

namespace Go.Proofs.YtejehoihhphpiaaDoor
open Go.Loom Go.Words Go.Eng
set_option maxRecDepth 100000
def itB (n:Int):ByteArray:=⟨(Lib.itoa n).toArray⟩
theorem pow10_is {Z:Zeta} (hK:Know Tryd.prog Z) {base:Nat} {η:Eta} {S:Sto} {w:World} (R:St base η Z S w):Lib.TabIs Tryd.prog w "internal/strconv.uint64pow10" .u64 Lib.pow10Tab:=by
 obtain ⟨g,hg⟩:∃ g,Tryd.prog.globalNamed "internal/strconv.uint64pow10" = some g:=⟨0,by kernel_rfl⟩
 have h:=hK ("internal/strconv.uint64pow10",.u64,tab10) (by simp [tabsK]) g hg
 obtain ⟨ty,fz,e⟩:=R.zs _ _ h
 unfold Lib.TabIs World.var?
 rw [hg]
 simp only [Option.bind_some,e]
 rfl
theorem itB_sem (n:Int) (h:-9223372036854775808<=n/\n<=9223372036854775807):FnSem Tryd.prog 27 [nI n] [] (stT (itB n)) [] :=
 fnSem_belowT (d:=.str) (y:=itB n) fun base η Z w vs R hvs hK=>by
  match vs,hvs with
  | [v],⟨⟨_,h1⟩,_⟩ =>
    have h1:v=.int .i64 n:=h1
    subst h1
    refine (Tryd.strconv_Itoa n h.1 h.2 w (pow10_is hK R)).mono ?_
    rintro e w' ⟨rfl,k,os,rfl⟩
    exact ⟨_,rfl,fun _=>rfl,⟨rfl,rfl,rfl,by simp [Sort.grow,World.drewN],fun b hb=>by simp only [Sort.grow,World.drewN];rw [Array.getElem?_append_left hb]⟩⟩
def cItB:Con:=con1 (.int .i64) fun n=>(.p (-9223372036854775808<=(show Int from n)/\(show Int from n)<=9223372036854775807),stT (itB n),[])
theorem cItB_ok:ConOk Tryd.prog 27 cItB:=con1_ok (by kernel_rfl) fun n h=>itB_sem n h
theorem itB_size (n:Int) (h:-9223372036854775808<=n/\n<=9223372036854775807):(itB n).size<=21:=Lib.itoa_length_le n h.1 h.2
/-! ### A byte is written -/
theorem wb_sem (l:List Int) (c:Int) (h:l.length+1<=1000000):FnSemK Tryd.prog 28 1 [pt 0,.p (.c (.int .u8 c))] [obB l.length,obU l] (.p (.c .nilif)) [obB (l.length+1),obU (l++[c])]:=by
 refine fnSemK_at (live:=[]) (fzl:=[]) (fz:=[]) gWst_ok Tryd.func28 (by kernel_rfl) 1 (by kernel_rfl) 100 ?_
 apply of_eq (q:=(0:Nat)+(1:Nat)<=(1:Nat)/\((0:Nat)=(0:Nat)/\l.length=l.length/\(l.length+(1:Nat))*(1:Nat)<=(140737488355328:Nat))/\packV [V.c W.nilif]=A.p (V.c W.nilif)/\[Ob.mk 63 [Fd.c (W.ba (0:Nat)),Fd.c (W.sl ((0:Nat)+(1:Nat)) (0:Nat) (l.length+(1:Nat)) (1:Nat))],Ob.mk 5 [Fd.a 0 (D.int .u8) (List.take l.length (List.drop (0:Nat) l)++List.take (1:Nat) (List.drop (0:Nat) [c]))]]=[obB (l.length+(1:Nat)),obU (l++[c])]) (by kernel_rfl)
 try simp only [true_and,and_true,Nat.zero_add,Nat.mul_one,List.drop_zero,List.take_length,List.take_succ_cons,List.take_zero,Nat.le_refl]
 exact ⟨by omega,rfl⟩
def cWb:Con:={ refs:=[true,false],keep:=some 1,f:=fun args objs=>match args,objs with
 | [.p (.c (.ptr a b)),.p (.c (.int .u8 c))],[o,u]=>bif Nat.beq a 0&&Nat.beq b 0 then (match asB o,asU u with | some n,some l=>some (.p (n=l.length/\l.length+1<=1000000),.p (.c .nilif),[obB (l.length+1),obU (l++[c])]) | _,_=>none) else none
 | _,_=>none }
theorem cWb_ok:ConOk Tryd.prog 28 cWb:=by
 refine ⟨by kernel_rfl,fun args objs c r objs' e hc=>?_⟩
 simp only [cWb] at e
 split at e
 . obtain ⟨hb,e⟩:=Mill.bif_some e
   simp only [Bool.and_eq_true,Nat.beq_eq] at hb
   obtain ⟨rfl,rfl⟩:=hb
   split at e
   . rename_i n l ho hu
     cases e
     obtain ⟨rfl,h2⟩:=hc
     rw [asB_eq ho,asU_eq hu]
     exact wb_sem l _ h2
   . cases e
 . cases e
/-! ### Lines -/
def numsL (l:List Int):List Int:=l.flatMap fun x=>32::bytesI (itB x)
def I64 (x:Int):Prop:=-9223372036854775808<=x/\x<=9223372036854775807
theorem numsL_len:∀ l:List Int,(∀ x∈l,I64 x)->(numsL l).length<=22*l.length
 | [],_=>Nat.le_refl _
 | x::l,h=>by
   have h1:=itB_size x (h x (by simp))
   have h2:=numsL_len l fun y hy=>h y (by simp [hy])
   unfold numsL at h2 ⊢
   rw [List.flatMap_cons,List.length_append,List.length_cons,bytesI_len,List.length_cons]
   omega
noncomputable def gLn:Gam:=[(26,cWst),(28,cWb),(27,cItB)]
theorem gLn_ok:GamOk Tryd.prog gLn:=gamOk_cons cWst_ok (gamOk_cons cWb_ok (gamOk_cons cItB_ok gamOk_nil))
noncomputable def sLn:Site:=mkSiteF Tryd.prog gLn Tryd.f25 1 [([0,1,0,1],[0,11,12,13])] [] []
theorem ln_loop (R:List Int) (xs:List Int) (hx:∀ x∈xs,I64 x) (hxl:xs.length<=1000000):∀ (n i:Nat) (l:List Int),n=xs.length-i->i<=xs.length->l.length+22*n+1<=1000000->R=l++numsL (xs.drop i)++[10]->
 AtLoop sLn (Says1 (.tup []) [obB R.length,obU R]) [0,1,0,1] (fr [(0,pt 0),(11,lsI xs),(12,nI xs.length),(13,nI i)]) (.ofList [obB l.length,obU l])
 | n, i, l, hn, hi, hl, hR => by
   refine atLoop_at gLn_ok (by kernel_rfl) 100 ?_
   apply of_eq (q:=(decide ((i:Int)<(xs.length:Int))=true->((0:Int)<=(i:Int)/\(i:Int)<(xs.length:Int))/\i<xs.length/\(l.length=l.length/\l.length+(1:Nat)<=(1000000:Nat))/\((-9223372036854775808:Int)<=xs.getD i (0:Int)/\xs.getD i (0:Int)<=(9223372036854775807:Int))/\(l.length+(1:Nat)=(l++[(32:Int)]).length/\(l++[(32:Int)]).length+(itB (xs.getD i (0:Int))).size<=(1000000:Nat))/\AtLoop sLn (Says1 (A.tup []) [obB R.length,obU R]) [0,1,0,1] (fr [(0,A.p (V.c (W.ptr 0 0))),(11,lsI xs),(12,nI (xs.length:Int)),(13,nI (IntKind.i64.wrap ((i:Int)+(1:Int))))]) (Sto.ofList [Ob.mk 63 [Fd.c (W.ba (0:Nat)),Fd.c (W.sl 1 0 ((l++[(32:Int)]).length+(itB (xs.getD i (0:Int))).size) (1:Nat))],Ob.mk 5 [Fd.a 0 (D.int .u8) (l++[(32:Int)]++bytesI (itB (xs.getD i (0:Int))))]]))/\(decide ((i:Int)<(xs.length:Int))=false->(l.length=l.length/\l.length+(1:Nat)<=(1000000:Nat))/\packV []=A.tup []/\[Ob.mk 63 [Fd.c (W.ba (0:Nat)),Fd.c (W.sl ((0:Nat)+(1:Nat)) (0:Nat) (l.length+(1:Nat)) (1:Nat))],Ob.mk 5 [Fd.a 0 (D.int .u8) (l++[(10:Int)])]]=[obB R.length,obU R])) (by kernel_rfl)
   try simp only [true_and,Nat.zero_add,decide_eq_true_eq,decide_eq_false_iff_not,Int.not_lt]
   have hd:i<xs.length->numsL (xs.drop i)=(32::bytesI (itB (xs.getD i 0)))++numsL (xs.drop (i+1)):=fun h=>by
    unfold numsL
    rw [getD_lt h,List.flatMap_cons]
   refine ⟨fun h=>?_,fun h=>⟨by omega,rfl,?_⟩⟩
   . have hi':i<xs.length:=by omega
     have hxi:=hx _ (getD_mem hi')
     have hsz:=itB_size _ hxi
     have e32:(l++[32]).length=l.length+1:=by rw [List.length_append];rfl
     refine ⟨by omega,hi',by omega,hxi,⟨by omega,by omega⟩,?_⟩
     have e:(l++[32]).length+(itB (xs.getD i 0)).size=(l++[32]++bytesI (itB (xs.getD i 0))).length:=by
      have:=List.length_append (bs:=bytesI (itB (xs.getD i 0))) («as»:=l++[32])
      rw [this,bytesI_len]
     rw [wrap64 (n:=(i:Int)+1) (by omega) (by omega),e]
     cases n with
     | zero=>omega
     | succ n =>
       exact ln_loop R xs hx hxl n (i+1) (l++[32]++bytesI (itB (xs.getD i 0))) (by omega) (by omega) (by rw [<-e];omega) (by rw [hR,hd hi'];simp)
   . rw [hR,List.drop_eq_nil_of_le (by omega)]
     simp [numsL]
def lineL (s:ByteArray) (xs:List Int):List Int:=bytesI s++numsL xs++[10]
theorem line_sem (l:List Int) (s:ByteArray) (xs:List Int) (hx:∀ x∈xs,I64 x) (h:l.length+s.size+22*xs.length+1<=1000000):FnSemK Tryd.prog 25 1 [pt 0,stT s,lsI xs] [obB l.length,obU l] (.tup []) [obB (l++lineL s xs).length,obU (l++lineL s xs)]:=by
 refine fnSemK_at (live:=[([0,1,0,1],[0,11,12,13])]) (fzl:=[]) (fz:=[]) gLn_ok Tryd.func25 (by kernel_rfl) 1 (by kernel_rfl) 100 ?_
 apply of_eq (q:=(l.length=l.length/\l.length+s.size<=(1000000:Nat))/\AtLoop (mkSiteF Tryd.prog gLn Tryd.f25 (1:Nat) [([0,1,0,1],[0,11,12,13])] [] []) (Says1 (A.tup []) [obB (l++lineL s xs).length,obU (l++lineL s xs)]) [0,1,0,1] (fr [(0,A.p (V.c (W.ptr 0 0))),(11,lsI xs),(12,nI (xs.length:Int)),(13,nI (0))]) (Sto.ofList [Ob.mk 63 [Fd.c (W.ba (0:Nat)),Fd.c (W.sl 1 0 (l.length+s.size) 1)],Ob.mk 5 [Fd.a 0 (D.int .u8) (l++bytesI s)]])) (by kernel_rfl)
 try simp only [true_and]
 have e:l.length+s.size=(l++bytesI s).length:=by rw [List.length_append,bytesI_len]
 rw [e]
 exact ⟨by omega,ln_loop (l++lineL s xs) xs hx (by omega) xs.length 0 (l++bytesI s) (by omega) (by omega) (by omega) (by simp [lineL])⟩
def cLine:Con:={ refs:=[true,false,false],keep:=some 1,f:=fun args objs=>match args,objs with
 | [.p (.c (.ptr a b)),x,y],[o,u]=>bif Nat.beq a 0&&Nat.beq b 0 then (match asB o,asU u,asD .str x,asD dI y with | some n,some l,some s,some xs=>some (.p (n=l.length/\(∀ x∈(show List Int from xs),I64 x)/\l.length+s.size+22*List.length (α:=Int) xs+1<=1000000),.tup [],[obB (l++lineL s xs).length,obU (l++lineL s xs)]) | _,_,_,_=>none) else none
 | _,_=>none }
theorem cLine_ok:ConOk Tryd.prog 25 cLine:=by
 refine ⟨by kernel_rfl,fun args objs c r objs' e hc=>?_⟩
 simp only [cLine] at e
 split at e
 . obtain ⟨hb,e⟩:=Mill.bif_some e
   simp only [Bool.and_eq_true,Nat.beq_eq] at hb
   obtain ⟨rfl,rfl⟩:=hb
   split at e
   . rename_i n l s xs ho hu hs hxs
     cases e
     obtain ⟨rfl,h2,h3⟩:=hc
     rw [asB_eq ho,asU_eq hu]
     intro base η Z w vs R hv hK
     match vs,hv with
     | [u,v,t],⟨h4,h5,h6,h7⟩=>exact line_sem l s xs h2 h3 base η Z w _ R ⟨h4,asD_rel hs h5,asD_rel hxs h6,h7⟩ hK
   . cases e
 . cases e
/-! ### The sum -/
def sumGo:List Int->Int->Int
 | [],h=>h
 | c::l,h=>sumGo l (IntKind.u32.wrap ((IntKind.u32.wrap ((BitVec.ofInt 32 h ^^^ BitVec.ofInt 32 (IntKind.u32.wrap c)).toNat:Int))*16777619))
def sumI (s:ByteArray):Int:=IntKind.i64.wrap (sumGo (bytesI s) 2166136261)
theorem wrap_i64 (n:Int):I64 (IntKind.i64.wrap n):=by
 unfold I64
 simp only [IntKind.wrap,IntKind.bits,IntKind.signed]
 simp
 omega
noncomputable def sSm:Site:=mkSite Tryd.prog [] Tryd.f31 0 [([0,1,0,1,1],[0,3,6,7])]
theorem sm_loop (s:ByteArray) (hs:s.size<=1000000):∀ (n i:Nat) (h:Int),n=s.size-i->i<=s.size->sumGo (bytesI s) 2166136261=sumGo ((bytesI s).drop i) h->
 AtLoop sSm (Says1 (nI (sumI s)) []) [0,1,0,1,1] (fr [(0,stT s),(3,.p (.c (.int .u32 h))),(6,nI s.size),(7,nI i)]) (.ofList [])
 | n,i,h,hn,hi,hh=>by
   refine atLoop_at gamOk_nil (by kernel_rfl) 100 ?_
   apply of_eq (q:=(decide ((i:Int)<(s.size:Int))=true->((0:Int)<=(i:Int)/\(i:Int)<(s.size:Int))/\AtLoop sSm (Says1 (nI (sumI s)) []) [0,1,0,1,1] (fr [(0,A.p (V.c (W.str s))),(3,A.p (V.c (W.int IntKind.u32 (IntKind.u32.wrap (IntKind.u32.wrap (↑(BitVec.ofInt (32:Nat) h ^^^ BitVec.ofInt (32:Nat) (IntKind.u32.wrap (bAt s i))).toNat:Int)*(16777619:Int)))))),(6,nI (s.size:Int)),(7,nI (IntKind.i64.wrap ((i:Int)+(1:Int))))]) (Sto.ofList []))/\(decide ((i:Int)<(s.size:Int))=false->packV [V.c (W.int .i64 (IntKind.i64.wrap h))]=nI (sumI s)/\([]:List Ob)=[])) (by kernel_rfl)
   try simp only [and_true,decide_eq_true_eq,decide_eq_false_iff_not,Int.not_lt]
   have hbl:=bytesI_len s
   rw [wrap64 (n:=(i:Int)+1) (by omega) (by omega)]
   refine ⟨fun h1=>⟨by omega,?_⟩,fun h1=>?_⟩
   . cases n with
     | zero=>omega
     | succ n =>
       refine sm_loop s hs n (i+1) _ (by omega) (by omega) ?_
       rw [hh,getD_lt (l:=bytesI s) (i:=i) (by omega),sumGo,bAt_get]
   . rw [List.drop_eq_nil_of_le (by omega)] at hh
     unfold sumI
     rw [hh];rfl
theorem sum_sem (s:ByteArray) (hs:s.size<=1000000):FnSem Tryd.prog 31 [stT s] [] (nI (sumI s)) []:=by
 refine fnSem_at (live:=[([0,1,0,1,1],[0,3,6,7])]) gamOk_nil Tryd.func31 (by kernel_rfl) (keep:=0) rfl (by kernel_rfl) 100 ?_
 apply of_eq (q:=AtLoop (mkSite Tryd.prog [] Tryd.f31 (0:Nat) [([0,1,0,1,1],[0,3,6,7])]) (Says1 (nI (sumI s)) []) [0,1,0,1,1] (fr [(0,A.p (V.c (W.str s))),(3,A.p (V.c (W.int IntKind.u32 (2166136261:Int)))),(6,nI (s.size:Int)),(7,nI (0))]) (Sto.ofList [])) (by kernel_rfl)
 exact sm_loop s hs s.size 0 _ (by omega) (by omega) rfl
def cSumR:Con:=con1 .str fun s=>(.p (s.size<=1000000),nI (sumI s),[])
theorem cSumR_ok:ConOk Tryd.prog 31 cSumR:=con1_ok (by kernel_rfl) fun s h=>sum_sem s h
end Go.Proofs.YtejehoihhphpiaaDoor

namespace Go.Proofs.YtejehoihhphpiaaDoor
open Go.Loom Go.Words Go.Eng
set_option maxRecDepth 100000
/-! ### A text out of a builder that goes on -/
theorem bs1_sem (l:List Int) (h0:0<l.length) (h:l.length<=1000000):FnSemK Tryd.prog 32 1 [pt 0] [obB l.length,obU l] (.p (.c (.str (packI l)))) [obB l.length,obU l]:=by
 refine fnSemK_at (live:=[]) (fzl:=[]) (fz:=[]) gWst_ok Tryd.func32 (by kernel_rfl) 1 (by kernel_rfl) 100 ?_
 apply of_eq (q:=(0:Nat)<l.length/\((0:Int)<(l.length:Int)/\(↑(0:Nat):Int)+(l.length:Int)<=(l.length:Int)/\(l.length:Int)<=(9223372036854775807:Int))/\packV [V.c (W.str (packI (List.take l.length (List.drop (0:Nat) l))))]=A.p (V.c (W.str (packI l)))/\[Ob.mk 63 [Fd.c (W.ba (0:Nat)),Fd.c (W.sl ((0:Nat)+(1:Nat)) (0:Nat) l.length (1:Nat))],Ob.mk 5 [Fd.a 0 (D.int .u8) l]]=[obB l.length,obU l]) (by kernel_rfl)
 try simp only [and_true,Nat.zero_add,List.drop_zero,List.take_length]
 exact ⟨h0,by omega,rfl⟩
def cBs1:Con:={ refs:=[true],keep:=some 1,f:=fun args objs=>match args,objs with
 | [.p (.c (.ptr a b))],[o,u]=>bif Nat.beq a 0&&Nat.beq b 0 then (match asB o,asU u with | some n,some l=>some (.p (n=l.length/\0<l.length/\l.length<=1000000),.p (.c (.str (packI l))),[obB l.length,obU l]) | _,_=>none) else none
 | _,_=>none }
theorem cBs1_ok:ConOk Tryd.prog 32 cBs1:=by
 refine ⟨by kernel_rfl,fun args objs c r objs' e hc=>?_⟩
 simp only [cBs1] at e
 split at e
 . obtain ⟨hb,e⟩:=Mill.bif_some e
   simp only [Bool.and_eq_true,Nat.beq_eq] at hb
   obtain ⟨rfl,rfl⟩:=hb
   split at e
   . rename_i n l ho hu
     cases e
     obtain ⟨rfl,h2,h3⟩:=hc
     rw [asB_eq ho,asU_eq hu]
     exact bs1_sem l h2 h3
   . cases e
 . cases e
/-! ### Two lists put together, a list of one's own -/
noncomputable def sCatO:Site:=mkSiteF Tryd.prog gCat Tryd.f30 0 [(pcA,[0,3,9,10,11]),(pcB,[6,25,26,27])] [] []
theorem catO_loopB (xs:List (List Int)) (hx:xs.length<=100) (hf:xs.flatten.length<=1000000):∀ (k i m:Nat) (l:List Int),k=xs.length-i->i<=xs.length->(i=0->m=0)->(0<i->l.length=m)->l.take m=(xs.take i).flatten->0<xs.length->
 AtLoop sCatO (Says1 (slI 0 xs.flatten.length) [obI xs.flatten]) pcB (fr [(6,slI 0 m),(25,llI xs),(26,nI xs.length),(27,nI i)]) (.ofList [obI l])
 | k,i,m,l,hk,hi,hm0,hm,hr,hpos=>by
   refine atLoop_at gCat_ok (by kernel_rfl) 100 ?_
   apply of_eq (q:=(decide ((i:Int)<(xs.length:Int))=true->((0:Int)<=(i:Int)/\(i:Int)<(xs.length:Int))/\i<xs.length/\((0:Nat)+m<=l.length/\(m+(xs.getD i []).length)*(8:Nat)<=(140737488355328:Nat))/\AtLoop sCatO (Says1 (slI (0:Nat) xs.flatten.length) [obI xs.flatten]) [0,1,0,1,1,1,1] (fr [(6,A.p (V.c (W.sl 0 0 (m+(xs.getD i []).length) 1))),(25,llI xs),(26,nI (xs.length:Int)),(27,nI (IntKind.i64.wrap ((i:Int)+(1:Int))))]) (Sto.ofList [Ob.mk 3 [Fd.a 0 (D.int .i64) (List.take m (List.drop (0:Nat) l)++xs.getD i [])]]))/\(decide ((i:Int)<(xs.length:Int))=false->packV [V.c (W.sl 0 0 m 1)]=slI (0:Nat) xs.flatten.length/\[Ob.mk 3 [Fd.a 0 (D.int .i64) l]]=[obI xs.flatten])) (by kernel_rfl)
   try simp only [Nat.zero_add,decide_eq_true_eq,decide_eq_false_iff_not,Int.not_lt,List.drop_zero]
   rw [wrap64 (n:=(i:Int)+1) (by omega) (by omega)]
   have hml:m<=l.length:=by
    rcases Nat.eq_zero_or_pos i with h | h
    . have:=hm0 h;omega
    . have:=hm h;omega
   refine ⟨fun h=>?_,fun h=>?_⟩
   . have hil:i<xs.length:=by omega
     have e:=flat_snoc hil
     have hle:=flat_le xs (i+1)
     have hml':m=(xs.take i).flatten.length:=by rw [<-hr];simp;omega
     rw [e,List.length_append] at hle
     refine ⟨by omega,hil,⟨hml,by omega⟩,?_⟩
     cases k with
     | zero=>omega
     | succ k =>
       refine catO_loopB xs hx hf k (i+1) _ _ (by omega) (by omega) (by omega) (fun _=>by simp;omega) ?_ hpos
       rw [List.take_of_length_le (by simp;omega),hr,e]
   . have hi':i=xs.length:=by omega
     have:=hm (by omega)
     rw [hi',List.take_of_length_le (Nat.le_refl _),List.take_of_length_le (by omega)] at hr
     subst hr
     rw [<-this]
     exact ⟨rfl,rfl⟩
theorem catO_loopA (xs:List (List Int)) (hx:xs.length<=100) (hf:xs.flatten.length<=1000000) (hpos:0<xs.length):∀ (k i:Nat),k=xs.length-i->i<=xs.length->
 AtLoop sCatO (Says1 (slI 0 xs.flatten.length) [obI xs.flatten]) pcA (fr [(0,llI xs),(3,nI (xs.take i).flatten.length),(9,llI xs),(10,nI xs.length),(11,nI i)]) (.ofList [])
 | k,i,hk,hi=>by
   refine atLoop_at gCat_ok (by kernel_rfl) 100 ?_
   apply of_eq (q:=let q1:=(↑(List.take i xs).flatten.length:Int);let q2:=decide (IntKind.i64.wrap (q1+(↑(xs.getD i []).length:Int))<(0:Int));let q3:=(xs.length:Int);(decide ((i:Int)<q3)=true->((0:Int)<=(i:Int)/\(i:Int)<q3)/\i<xs.length/\(q2=true->False)/\(q2=false->AtLoop sCatO (Says1 (slI (0:Nat) xs.flatten.length) [obI xs.flatten]) [0,1,0,1,1] (fr [(0,llI xs),(3,nI (IntKind.i64.wrap (q1+(↑(xs.getD i []).length:Int)))),(9,llI xs),(10,nI q3),(11,nI (IntKind.i64.wrap ((i:Int)+(1:Int))))]) (Sto.ofList [])))/\(decide ((i:Int)<q3)=false->((0:Int)<=q1/\q1<=(1000000:Int))/\AtLoop sCatO (Says1 (slI (0:Nat) xs.flatten.length) [obI xs.flatten]) [0,1,0,1,1,1,1] (fr [(6,A.p (V.c (W.sl 0 0 0 1))),(25,llI xs),(26,nI q3),(27,nI (0))]) (Sto.ofList [Ob.mk 3 [Fd.a 0 (D.int .i64) (List.replicate (List.take i xs).flatten.length (0:Int))]]))) (by kernel_rfl)
   try simp only [decide_eq_true_eq,decide_eq_false_iff_not,Int.not_lt]
   have hle:=flat_le xs i
   refine ⟨fun h=>?_,fun h=>⟨by omega,?_⟩⟩
   . have hil:i<xs.length:=by omega
     have e:=flat_snoc hil
     have hle1:=flat_le xs (i+1)
     rw [e,List.length_append] at hle1
     rw [wrap64 (n:=(i:Int)+1) (by omega) (by omega),wrap64 (n:=((xs.take i).flatten.length:Int)+(xs.getD i []).length) (by omega) (by omega)]
     refine ⟨by omega,hil,fun g=>by omega,fun _=>?_⟩
     cases k with
     | zero=>omega
     | succ k =>
       have:=catO_loopA xs hx hf hpos k (i+1) (by omega) (by omega)
       rw [e,List.length_append,Int.natCast_add] at this
       exact this
   . exact catO_loopB xs hx hf xs.length 0 0 _ (by omega) (by omega) (fun _=>rfl) (by omega) (by simp) hpos
theorem concatO_sem (xs:List (List Int)) (h:0<xs.length/\xs.length<=100/\xs.flatten.length<=1000000):FnSem Tryd.prog 30 [llI xs] [] (slI 0 xs.flatten.length) [obI xs.flatten]:=by
 refine fnSemF_at (live:=[(pcA,[0,3,9,10,11]),(pcB,[6,25,26,27])]) (fzl:=[]) (fz:=[]) gCat_ok Tryd.func30 (by kernel_rfl) (keep:=0) rfl (by kernel_rfl) 100 ?_
 apply of_eq (q:=AtLoop (mkSiteF Tryd.prog gCat Tryd.f30 (0:Nat) [(pcA,[0,3,9,10,11]),(pcB,[6,25,26,27])] [] []) (Says1 (slI (0:Nat) xs.flatten.length) [obI xs.flatten]) [0,1,0,1,1] (fr [(0,llI xs),(3,nI (0)),(9,llI xs),(10,nI (xs.length:Int)),(11,nI (0))]) (Sto.ofList [])) (by kernel_rfl)
 exact catO_loopA xs h.2.1 h.2.2 h.1 xs.length 0 (by omega) (by omega)
def cCatO:Con:=con1 dL fun xs=>(.p (0<List.length (α:=List Int) xs/\List.length (α:=List Int) xs<=100/\(List.flatten (α:=Int) xs).length<=1000000),slI 0 (List.flatten (α:=Int) xs).length,[obI (List.flatten (α:=Int) xs)])
theorem cCatO_ok:ConOk Tryd.prog 30 cCatO:=con1_ok (by kernel_rfl) fun xs h=>concatO_sem xs h
/-! ### The text -/
noncomputable def gSv:Gam:=[(22,cValid),(25,cLine),(27,cItB),(26,cWst),(28,cWb),(29,cText),(30,cCatO),(32,cBs1),(31,cSumR)]
theorem gSv_ok:GamOk Tryd.prog gSv:=gamOk_cons cValid_ok (gamOk_cons cLine_ok (gamOk_cons cItB_ok (gamOk_cons cWst_ok (gamOk_cons cWb_ok (gamOk_cons cText_ok (gamOk_cons cCatO_ok (gamOk_cons cBs1_ok (gamOk_cons cSumR_ok gamOk_nil))))))))
abbrev pSa:List Nat:=[0,1,0,1,1,1,1]
abbrev pSb:List Nat:=[0,1,0,1,1,1,1,1,1]
abbrev pSi:List Nat:=[0,1,1,0,0,1,1,0,0,1,0,1,1,1,1,1,1]
abbrev pSc:List Nat:=[0,1,0,1,1,1,1,1,1,1,1]
abbrev liveSv:List (List Nat×List Nat):=[(pSa,[0,3,42,43,44]),(pSb,[0,3,70,71,72]),(pSi,[0,3,7,70,71,72,77,78,79]),(pSc,[0,3,117,118,119])]
noncomputable def sSv:Site:=mkSiteF Tryd.prog gSv Tryd.f12 1 liveSv [] []
def cosetS:ByteArray:=⟨#[99,111,115,101,116,32,49]⟩
def gensS:ByteArray:=⟨#[103,101,110,115,32]⟩
def limS:ByteArray:=⟨#[32,108,105,109,105,116,32]⟩
def mostS:ByteArray:=⟨#[32,109,111,115,116,32]⟩
def statS:ByteArray:=⟨#[32,115,116,97,116,117,115,32]⟩
def relS:ByteArray:=⟨#[114,101,108,32]⟩
def subS:ByteArray:=⟨#[115,117,98,32]⟩
def atS:ByteArray:=⟨#[97,116]⟩
def rowS:ByteArray:=⟨#[114,111,119]⟩
def sumS:ByteArray:=⟨#[115,117,109]⟩
abbrev obBk (k m n:Nat):Ob:=⟨63,[.c (.ba k),.c (.sl m 0 n 1)]⟩
abbrev headO (r:Rn):Ob:=⟨65,[.c (.str gensS),.c (.int .i64 r.g),.c (.str limS),.c (.int .i64 r.lim),.c (.str mostS),.c (.int .i64 r.most),.c (.str statS),.c (.int .i64 r.stat)]⟩
abbrev wordO2 (r:Rn):Ob:=⟨73,[.c (.str relS),.c (.rd (.sl (.int .i64)) r.rels),.c (.str subS),.c (.rd (.sl (.int .i64)) r.sub)]⟩
def rowLn (r:Rn) (a:Nat):List Int:=lineL rowS (r.par.getD a 0::r.rows.getD a [])
def rowsFrom (r:Rn):Nat->Nat->List Int
 | 0,_=>[]
 | n+1,i=>rowLn r i++rowsFrom r n (i+1)
def wLns (tag:ByteArray) (ws:List (List Int)):List Int:=ws.flatMap fun w=>lineL (tag++textS w) []
def fin (l:List Int):List Int:=l++lineL sumS [sumI (packI l)]
def headT (r:Rn):List Int:=lineL cosetS []++bytesI (gensS++itB r.g)++bytesI (limS++itB r.lim)++bytesI (mostS++itB r.most)++bytesI (statS++itB r.stat)++[10]
def bodyT (r:Rn):List Int:=headT r++wLns relS r.rels++wLns subS r.sub++lineL atS [r.ph,r.co,r.ix]++rowsFrom r r.rows.length 0
def saveT (r:Rn):List Int:=fin (bodyT r)
structure Sv (r:Rn):Prop where
 n0:0<r.rows.length
 n1:r.rows.length<=1000
 pl:r.par.length=r.rows.length
 rl:∀ l∈r.rows,l.length<=32/\∀ x∈l,I64 x
 pr:∀ x∈r.par,I64 x
 g:I64 r.g
 lim:I64 r.lim
 most:I64 r.most
 stat:I64 r.stat
 ph:I64 r.ph
 co:I64 r.co
 ix:I64 r.ix
 rels:∀ w∈r.rels,GoodW 16 w/\w.length<100
 sub:∀ w∈r.sub,GoodW 16 w/\w.length<100
 nr:r.rels.length<=110
 ns:r.sub.length<=110
theorem lineL_len (s:ByteArray) (xs:List Int) (h:∀ x∈xs,I64 x):(lineL s xs).length<=s.size+22*xs.length+1:=by
 have:=numsL_len xs h
 unfold lineL
 rw [List.length_append,List.length_append,bytesI_len,List.length_singleton]
 omega
theorem lineL_pos (s:ByteArray) (xs:List Int):0<(lineL s xs).length:=by
 unfold lineL
 rw [List.length_append,List.length_singleton]
 omega
theorem packI_size (l:List Int):(packI l).size=l.length:=by
 rw [packI_eq]
 have:∀ (l:List Int) (r:ByteArray),(l.foldl (fun r n=>r.push (UInt8.ofNat n.toNat)) r).size=r.size+l.length:=by
  intro l
  induction l with
  | nil=>intro r;rfl
  | cons x l ih=>intro r;rw [List.foldl_cons,ih,ByteArray.size_push,List.length_cons];omega
 rw [this]
 exact Nat.zero_add _
theorem svC (r:Rn) (H:Sv r) (T:List Int):∀ (n i:Nat) (l:List Int),n=r.rows.length-i->i<=r.rows.length->0<l.length->l.length<=140000+760*i->T=fin (l++rowsFrom r n i)->
 AtLoop sSv (Says1 (stT (packI T)) (obs r)) pSc (fr [(0,pR),(3,.p (.c (.ptr 1 0))),(117,.p (.c (.sl 2 0 r.rows.length 1))),(118,nI r.rows.length),(119,nI i)]) (.ofList [runO r 2 3 4,obBk 1 5 l.length,tabO r,obI r.par,obI r.dl,obU l])
 | n, i, l, hn, hi, h0, hl, hT => by
   refine atLoop_at gSv_ok (by kernel_rfl) 100 ?_
   apply of_eq (q:=let q4:=(1:Nat);let q5:=(0:Nat);let q7:=(1000000:Nat);let q8:=(r.rows.length:Int);let q2:=(l++lineL (ByteArray.mk #[(115:UInt8),(117:UInt8),(109:UInt8)]) (List.take q4 (List.drop q5 [sumI (packI l)])));let q3:=(List.drop q5 [r.par.getD (q5+i) (0:Int)]);let q1:=(List.take [List.take q4 q3,r.rows.getD (q5+i) []].flatten.length (List.drop q5 [List.take q4 q3,r.rows.getD (q5+i) []].flatten));let q6:=(l++lineL (ByteArray.mk #[(114:UInt8),(111:UInt8),(119:UInt8)]) q1);(decide ((i:Int)<q8)=true->((0:Int)<=(i:Int)/\(i:Int)<q8)/\q5+i<r.rows.length/\((0:Int)<=(i:Int)/\(i:Int)<(r.par.length:Int))/\q5+i<r.par.length/\q5+q4<=q4/\(q5+i<r.rows.length/\((2:Int)*r.g).toNat=((2:Int)*r.g).toNat)/\(q5<(2:Nat)/\(2:Nat)<=(100:Nat)/\[List.take q4 q3,r.rows.getD (q5+i) []].flatten.length<=q7)/\q5 + [List.take q4 q3,r.rows.getD (q5+i) []].flatten.length<=[List.take q4 q3,r.rows.getD (q5+i) []].flatten.length/\(l.length=l.length/\(∀ (x:Int),x∈List.take [List.take q4 q3,r.rows.getD (q5+i) []].flatten.length (List.drop q5 [List.take q4 q3,r.rows.getD (q5+i) []].flatten)->I64 x)/\l.length+(3:Nat)+(22:Nat)*q1.length+q4<=q7)/\AtLoop sSv (Says1 (stT (packI T)) (obs r)) [0,1,0,1,1,1,1,1,1,1,1] (fr [(0,A.p (V.c (W.ptr 0 0))),(3,A.p (V.c (W.ptr 1 0))),(117,A.p (V.c (W.sl 2 0 r.rows.length 1))),(118,nI q8),(119,nI (IntKind.i64.wrap ((i:Int)+(1:Int))))]) (Sto.ofList [Ob.mk 57 [Fd.c (W.int .i64 r.g),Fd.c (W.rd (D.int .i64).sl r.rels),Fd.c (W.rd (D.int .i64).sl r.sub),Fd.c (W.int .i64 r.lim),Fd.c (W.int .i64 r.most),Fd.c (W.int .i64 r.live),Fd.c (W.int .i64 r.stat),Fd.c (W.int .i64 r.ph),Fd.c (W.int .i64 r.co),Fd.c (W.int .i64 r.ix),Fd.c (W.sl 2 0 r.rows.length 1),Fd.c (W.sl 3 0 r.par.length 1),Fd.c (W.sl 4 0 r.dn 1)],Ob.mk 63 [Fd.c (W.ba q4),Fd.c (W.sl 5 0 q6.length q4)],Ob.mk 22 [Fd.c (W.th ((2:Int)*r.g).toNat r.rows)],Ob.mk 3 [Fd.a 0 (D.int .i64) r.par],Ob.mk 3 [Fd.a 0 (D.int .i64) r.dl],Ob.mk 5 [Fd.a 0 (D.int .u8) q6]]))/\(decide ((i:Int)<q8)=false->(l.length=l.length/\q5<l.length/\l.length<=q7)/\(packI l).size<=q7/\q5+q4<=q4/\(l.length=l.length/\(∀ (x:Int),x∈List.take q4 (List.drop q5 [sumI (packI l)])->I64 x)/\l.length+(3:Nat)+(22:Nat)*q4+q4<=q7)/\(q2.length=q2.length/\q5<q2.length/\q2.length<=q7)/\packV [V.c (W.str (packI q2))]=stT (packI T)/\[Ob.mk 57 [Fd.c (W.int .i64 r.g),Fd.c (W.rd (D.int .i64).sl r.rels),Fd.c (W.rd (D.int .i64).sl r.sub),Fd.c (W.int .i64 r.lim),Fd.c (W.int .i64 r.most),Fd.c (W.int .i64 r.live),Fd.c (W.int .i64 r.stat),Fd.c (W.int .i64 r.ph),Fd.c (W.int .i64 r.co),Fd.c (W.int .i64 r.ix),Fd.c (W.sl (q5+q4) q5 r.rows.length q4),Fd.c (W.sl (q5+q4+q4) q5 r.par.length q4),Fd.c (W.sl (q5+q4+q4+q4) q5 r.dn q4)],Ob.mk 22 [Fd.c (W.th ((2:Int)*r.g).toNat r.rows)],Ob.mk 3 [Fd.a 0 (D.int .i64) r.par],Ob.mk 3 [Fd.a 0 (D.int .i64) r.dl]]=obs r)) (by kernel_rfl)
   try simp only [true_and,and_true,Nat.zero_add,Nat.mul_one,decide_eq_true_eq,decide_eq_false_iff_not,Int.not_lt,List.drop_zero,List.take_length,List.take_succ_cons,List.take_zero,Nat.le_refl,Nat.reduceAdd]
   have hn1:=H.n1
   have hpl:=H.pl
   refine ⟨fun h=>?_,fun h=>?_⟩
   . have hi':i<r.rows.length:=by omega
     have hrow:=H.rl _ (getL_mem hi')
     have e:[[r.par.getD i 0],r.rows.getD i []].flatten=r.par.getD i 0::r.rows.getD i []:=by simp
     have hp:=H.pr _ (getD_mem (l:=r.par) (a:=i) (by omega))
     have hall:∀ x∈r.par.getD i 0::r.rows.getD i [],I64 x:=by
      intro x hx
      rcases List.mem_cons.1 hx with rfl | hx
      . exact hp
      . exact hrow.2 x hx
     have hlen:(r.par.getD i 0::r.rows.getD i []).length<=33:=by rw [List.length_cons];omega
     have hll:=lineL_len rowS _ hall
     have hz:rowS.size=3:=rfl
     rw [e,wrap64 (n:=(i:Int)+1) (by omega) (by omega)]
     refine ⟨by omega,hi',by omega,by omega,hi',⟨by omega,by omega,by omega⟩,⟨hall,by omega⟩,?_⟩
     cases n with
     | zero=>omega
     | succ n =>
       exact svC r H T n (i+1) (l++rowLn r i) (by omega) (by omega) (by rw [List.length_append];omega) (by rw [List.length_append,rowLn];omega) (by rw [hT,rowsFrom,List.append_assoc])
   . have hp:=packI_size l
     have hs:∀ x∈[sumI (packI l)],I64 x:=by
      intro x hx
      rw [List.mem_singleton.1 hx]
      exact wrap_i64 _
     have hll:=lineL_len sumS _ hs
     have hz:sumS.size=3:=rfl
     have h1:[sumI (packI l)].length=1:=rfl
     have hff:(l++lineL sumS [sumI (packI l)]).length<=1000000:=by rw [List.length_append];omega
     refine ⟨⟨h0,by omega⟩,by omega,⟨hs,by omega⟩,⟨by rw [List.length_append];omega,hff⟩,?_⟩
     have hn0:n=0:=by omega
     subst hn0
     rw [rowsFrom,List.append_nil] at hT
     rw [hT]
     rfl
theorem svI (r:Rn) (T:List Int) (tag:ByteArray) (ws:List (List Int)) (j:Nat) (hj:j<=5) (htag:tag.size<=4) (hws:∀ w∈ws,GoodW 16 w/\w.length<100) (hwl:ws.length<=110) (F:List Int)
 (hF:AtLoop sSv (Says1 (stT (packI T)) (obs r)) pSb (fr [(0,pR),(3,.p (.c (.ptr 1 0))),(70,.p (.c (.sl 2 0 2 2))),(71,nI 2),(72,nI (j+1:Nat))]) (.ofList [runO r 3 4 5,obBk 1 6 F.length,wordO2 r,tabO r,obI r.par,obI r.dl,obU F])) :
 ∀ (n i:Nat) (l:List Int),n=ws.length-i->i<=ws.length->l.length+606*n<=900000->F=l++wLns tag (ws.drop i)->
 AtLoop sSv (Says1 (stT (packI T)) (obs r)) pSi (fr [(0,pR),(3,.p (.c (.ptr 1 0))),(7,.p (.c (.ptr 2 0))),(70,.p (.c (.sl 3 0 2 2))),(71,nI 2),(72,nI j),(77,llI ws),(78,nI ws.length),(79,nI i)]) (.ofList [runO r 4 5 6,obBk 1 7 l.length,⟨73,[.c (.str tag),.c (.rd (.sl (.int .i64)) ws)]⟩,wordO2 r,tabO r,obI r.par,obI r.dl,obU l])
 | n,i,l,hn,hi,hl,hFl=>by
   refine atLoop_at gSv_ok (by kernel_rfl) 100 ?_
   apply of_eq (q:=let q1:=(W.rd (D.int .i64).sl r.rels);let q2:=(W.rd (D.int .i64).sl r.sub);let q3:=(ws.getD i []);(decide ((i:Int)<(ws.length:Int))=true->((0:Int)<=(i:Int)/\(i:Int)<(ws.length:Int))/\i<ws.length/\(GoodW (16:Int) q3/\q3.length<(100:Nat))/\tag.size+(textS q3).size<=(9223372036854775807:Nat)/\(l.length=l.length/\(∀ (x:Int),x∈[]->I64 x)/\l.length+(tag++textS q3).size+(22:Nat)*(0:Nat)+(1:Nat)<=(1000000:Nat))/\AtLoop sSv (Says1 (stT (packI T)) (obs r)) [0,1,1,0,0,1,1,0,0,1,0,1,1,1,1,1,1] (fr [(0,A.p (V.c (W.ptr 0 0))),(3,A.p (V.c (W.ptr 1 0))),(7,A.p (V.c (W.ptr 2 0))),(70,A.p (V.c (W.sl 3 0 2 2))),(71,nI (2)),(72,nI (j:Int)),(77,llI ws),(78,nI (ws.length:Int)),(79,nI (IntKind.i64.wrap ((i:Int)+(1:Int))))]) (Sto.ofList [Ob.mk 57 [Fd.c (W.int .i64 r.g),Fd.c q1,Fd.c q2,Fd.c (W.int .i64 r.lim),Fd.c (W.int .i64 r.most),Fd.c (W.int .i64 r.live),Fd.c (W.int .i64 r.stat),Fd.c (W.int .i64 r.ph),Fd.c (W.int .i64 r.co),Fd.c (W.int .i64 r.ix),Fd.c (W.sl 4 0 r.rows.length 1),Fd.c (W.sl 5 0 r.par.length 1),Fd.c (W.sl 6 0 r.dn 1)],Ob.mk 63 [Fd.c (W.ba (1:Nat)),Fd.c (W.sl 7 0 (l++lineL (tag++textS q3) []).length (1:Nat))],Ob.mk 73 [Fd.c (W.str tag),Fd.c (W.rd (D.int .i64).sl ws)],Ob.mk 73 [Fd.c (W.str relS),Fd.c q1,Fd.c (W.str subS),Fd.c q2],Ob.mk 22 [Fd.c (W.th ((2:Int)*r.g).toNat r.rows)],Ob.mk 3 [Fd.a 0 (D.int .i64) r.par],Ob.mk 3 [Fd.a 0 (D.int .i64) r.dl],Ob.mk 5 [Fd.a 0 (D.int .u8) (l++lineL (tag++textS q3) [])]]))/\(decide ((i:Int)<(ws.length:Int))=false->AtLoop sSv (Says1 (stT (packI T)) (obs r)) [0,1,0,1,1,1,1,1,1] (fr [(0,A.p (V.c (W.ptr 0 0))),(3,A.p (V.c (W.ptr 1 0))),(70,A.p (V.c (W.sl 2 0 2 2))),(71,nI (2)),(72,nI (IntKind.i64.wrap ((j:Int)+(1:Int))))]) (Sto.ofList [Ob.mk 57 [Fd.c (W.int .i64 r.g),Fd.c q1,Fd.c q2,Fd.c (W.int .i64 r.lim),Fd.c (W.int .i64 r.most),Fd.c (W.int .i64 r.live),Fd.c (W.int .i64 r.stat),Fd.c (W.int .i64 r.ph),Fd.c (W.int .i64 r.co),Fd.c (W.int .i64 r.ix),Fd.c (W.sl 3 0 r.rows.length 1),Fd.c (W.sl 4 0 r.par.length 1),Fd.c (W.sl 5 0 r.dn 1)],Ob.mk 63 [Fd.c (W.ba (1:Nat)),Fd.c (W.sl 6 0 l.length 1)],Ob.mk 73 [Fd.c (W.str relS),Fd.c q1,Fd.c (W.str subS),Fd.c q2],Ob.mk 22 [Fd.c (W.th ((2:Int)*r.g).toNat r.rows)],Ob.mk 3 [Fd.a 0 (D.int .i64) r.par],Ob.mk 3 [Fd.a 0 (D.int .i64) r.dl],Ob.mk 5 [Fd.a 0 (D.int .u8) l]]))) (by kernel_rfl)
   try simp only [true_and,decide_eq_true_eq,decide_eq_false_iff_not,Int.not_lt]
   refine ⟨fun h=>?_,fun h=>?_⟩
   . have hi':i<ws.length:=by omega
     obtain ⟨g1,g2⟩:=hws _ (getL_mem hi')
     have hsz:=textS_size (g:=16) (Int.le_refl _) g1 g2
     have hn0:∀ x∈([]:List Int),I64 x:=fun x hx=>by cases hx
     have hll:=lineL_len (tag++textS (ws.getD i [])) [] hn0
     have hta:(tag++textS (ws.getD i [])).size=tag.size+(textS (ws.getD i [])).size:=ByteArray.size_append ..
     have h0:([]:List Int).length=0:=rfl
     rw [wrap64 (n:=(i:Int)+1) (by omega) (by omega)]
     refine ⟨by omega,hi',⟨g1,g2⟩,by omega,⟨hn0,by omega⟩,?_⟩
     cases n with
     | zero=>omega
     | succ n =>
       refine svI r T tag ws j hj htag hws hwl F hF n (i+1) (l++lineL (tag++textS (ws.getD i [])) []) (by omega) (by omega) (by rw [List.length_append];omega) ?_
       rw [hFl]
       unfold wLns
       rw [show ws.drop i=ws.getD i []::ws.drop (i+1) from ?_,List.flatMap_cons,List.append_assoc]
       rw [List.getD_eq_getElem?_getD,List.getElem?_eq_getElem hi']
       exact List.drop_eq_getElem_cons hi'
   . rw [wrap64 (n:=(j:Int)+1) (by omega) (by omega)]
     rw [List.drop_eq_nil_of_le (by omega)] at hFl
     have:F=l:=by rw [hFl];exact List.append_nil _
     subst this
     exact hF
theorem wLns_len (tag:ByteArray) (htag:tag.size<=4):∀ (ws:List (List Int)),(∀ w∈ws,GoodW 16 w/\w.length<100)->(wLns tag ws).length<=605*ws.length
 | [],_=>Nat.le_refl _
 | w::ws,h=>by
   have ih:=wLns_len tag htag ws fun w hw=>h w (by simp [hw])
   obtain ⟨g1,g2⟩:=h w (by simp)
   have hsz:=textS_size (g:=16) (Int.le_refl _) g1 g2
   have hn0:∀ x∈([]:List Int),I64 x:=fun x hx=>by cases hx
   have hll:=lineL_len (tag++textS w) [] hn0
   have hta:(tag++textS w).size=tag.size+(textS w).size:=ByteArray.size_append ..
   have h0:([]:List Int).length=0:=rfl
   unfold wLns at ih ⊢
   rw [List.flatMap_cons,List.length_append,List.length_cons]
   omega
theorem svB2 (r:Rn) (H:Sv r) (T:List Int) (l:List Int) (hl:l.length<=139000) (hT:T=fin (l++lineL atS [r.ph,r.co,r.ix]++rowsFrom r r.rows.length 0)) :
 AtLoop sSv (Says1 (stT (packI T)) (obs r)) pSb (fr [(0,pR),(3,.p (.c (.ptr 1 0))),(70,.p (.c (.sl 2 0 2 2))),(71,nI 2),(72,nI (1+1:Nat))]) (.ofList [runO r 3 4 5,obBk 1 6 l.length,wordO2 r,tabO r,obI r.par,obI r.dl,obU l]):=by
 refine atLoop_at gSv_ok (by kernel_rfl) 100 ?_
 apply of_eq (q:=let q1:=(l++lineL (ByteArray.mk #[(97:UInt8),(116:UInt8)]) (List.take (3:Nat) (List.drop (0:Nat) [r.ph,r.co,r.ix])));let q2:=(↑((1:Nat)+(1:Nat)):Int);(decide (q2<(2:Int))=true->((0:Int)<=q2/\q2<(↑(2:Nat):Int))/\False)/\(decide (q2<(2:Int))=false->(0:Nat)+(3:Nat)<=(3:Nat)/\(l.length=l.length/\(∀ (x:Int),x∈List.take (3:Nat) (List.drop (0:Nat) [r.ph,r.co,r.ix])->I64 x)/\l.length+(2:Nat)+(22:Nat)*(3:Nat)+(1:Nat)<=(1000000:Nat))/\AtLoop sSv (Says1 (stT (packI T)) (obs r)) [0,1,0,1,1,1,1,1,1,1,1] (fr [(0,A.p (V.c (W.ptr 0 0))),(3,A.p (V.c (W.ptr 1 0))),(117,A.p (V.c (W.sl 2 0 r.rows.length 1))),(118,nI (r.rows.length:Int)),(119,nI (0))]) (Sto.ofList [Ob.mk 57 [Fd.c (W.int .i64 r.g),Fd.c (W.rd (D.int .i64).sl r.rels),Fd.c (W.rd (D.int .i64).sl r.sub),Fd.c (W.int .i64 r.lim),Fd.c (W.int .i64 r.most),Fd.c (W.int .i64 r.live),Fd.c (W.int .i64 r.stat),Fd.c (W.int .i64 r.ph),Fd.c (W.int .i64 r.co),Fd.c (W.int .i64 r.ix),Fd.c (W.sl 2 0 r.rows.length 1),Fd.c (W.sl 3 0 r.par.length 1),Fd.c (W.sl 4 0 r.dn 1)],Ob.mk 63 [Fd.c (W.ba (1:Nat)),Fd.c (W.sl 5 0 q1.length (1:Nat))],Ob.mk 22 [Fd.c (W.th ((2:Int)*r.g).toNat r.rows)],Ob.mk 3 [Fd.a 0 (D.int .i64) r.par],Ob.mk 3 [Fd.a 0 (D.int .i64) r.dl],Ob.mk 5 [Fd.a 0 (D.int .u8) q1]]))) (by kernel_rfl)
 try simp only [true_and,Nat.zero_add,decide_eq_true_eq,decide_eq_false_iff_not,Int.not_lt,List.drop_zero,List.take_succ_cons,List.take_zero,Nat.le_refl,Nat.reduceAdd]
 have hs:∀ x∈[r.ph,r.co,r.ix],I64 x:=by
  intro x hx
  simp only [List.mem_cons,List.not_mem_nil,or_false] at hx
  rcases hx with rfl | rfl | rfl
  . exact H.ph
  . exact H.co
  . exact H.ix
 have hll:=lineL_len atS _ hs
 have hz:atS.size=2:=rfl
 have h1:[r.ph,r.co,r.ix].length=3:=rfl
 have hp:=lineL_pos atS [r.ph,r.co,r.ix]
 refine ⟨fun h=>by omega,fun _=>⟨⟨hs,by omega⟩,?_⟩⟩
 exact svC r H T r.rows.length 0 (l++lineL atS [r.ph,r.co,r.ix]) (by omega) (by omega) (by rw [List.length_append];omega) (by rw [List.length_append];omega) hT
theorem svB1 (r:Rn) (H:Sv r) (T:List Int) (l:List Int) (hl:l.length<=70000) (hT:T=fin (l++wLns subS r.sub++lineL atS [r.ph,r.co,r.ix]++rowsFrom r r.rows.length 0)) :
 AtLoop sSv (Says1 (stT (packI T)) (obs r)) pSb (fr [(0,pR),(3,.p (.c (.ptr 1 0))),(70,.p (.c (.sl 2 0 2 2))),(71,nI 2),(72,nI (0+1:Nat))]) (.ofList [runO r 3 4 5,obBk 1 6 l.length,wordO2 r,tabO r,obI r.par,obI r.dl,obU l]):=by
 refine atLoop_at gSv_ok (by kernel_rfl) 100 ?_
 apply of_eq (q:=let q1:=(↑((0:Nat)+(1:Nat)):Int);let q2:=(l++lineL (ByteArray.mk #[(97:UInt8),(116:UInt8)]) (List.take (3:Nat) (List.drop (0:Nat) [r.ph,r.co,r.ix])));let q3:=(W.rd (D.int .i64).sl r.sub);let q4:=(W.rd (D.int .i64).sl r.rels);(decide (q1<(2:Int))=true->((0:Int)<=q1/\q1<(↑(2:Nat):Int))/\AtLoop sSv (Says1 (stT (packI T)) (obs r)) [0,1,1,0,0,1,1,0,0,1,0,1,1,1,1,1,1] (fr [(0,A.p (V.c (W.ptr 0 0))),(3,A.p (V.c (W.ptr 1 0))),(7,A.p (V.c (W.ptr 2 0))),(70,A.p (V.c (W.sl 3 0 2 2))),(71,nI (2)),(72,nI q1),(77,llI r.sub),(78,nI (r.sub.length:Int)),(79,nI (0))]) (Sto.ofList [Ob.mk 57 [Fd.c (W.int .i64 r.g),Fd.c q4,Fd.c q3,Fd.c (W.int .i64 r.lim),Fd.c (W.int .i64 r.most),Fd.c (W.int .i64 r.live),Fd.c (W.int .i64 r.stat),Fd.c (W.int .i64 r.ph),Fd.c (W.int .i64 r.co),Fd.c (W.int .i64 r.ix),Fd.c (W.sl 4 0 r.rows.length 1),Fd.c (W.sl 5 0 r.par.length 1),Fd.c (W.sl 6 0 r.dn 1)],Ob.mk 63 [Fd.c (W.ba (1:Nat)),Fd.c (W.sl 7 0 l.length 1)],Ob.mk 73 [Fd.c (W.str subS),Fd.c q3],Ob.mk 73 [Fd.c (W.str relS),Fd.c q4,Fd.c (W.str subS),Fd.c q3],Ob.mk 22 [Fd.c (W.th ((2:Int)*r.g).toNat r.rows)],Ob.mk 3 [Fd.a 0 (D.int .i64) r.par],Ob.mk 3 [Fd.a 0 (D.int .i64) r.dl],Ob.mk 5 [Fd.a 0 (D.int .u8) l]]))/\(decide (q1<(2:Int))=false->(0:Nat)+(3:Nat)<=(3:Nat)/\(l.length=l.length/\(∀ (x:Int),x∈List.take (3:Nat) (List.drop (0:Nat) [r.ph,r.co,r.ix])->I64 x)/\l.length+(2:Nat)+(22:Nat)*(3:Nat)+(1:Nat)<=(1000000:Nat))/\AtLoop sSv (Says1 (stT (packI T)) (obs r)) [0,1,0,1,1,1,1,1,1,1,1] (fr [(0,A.p (V.c (W.ptr 0 0))),(3,A.p (V.c (W.ptr 1 0))),(117,A.p (V.c (W.sl 2 0 r.rows.length 1))),(118,nI (r.rows.length:Int)),(119,nI (0))]) (Sto.ofList [Ob.mk 57 [Fd.c (W.int .i64 r.g),Fd.c q4,Fd.c q3,Fd.c (W.int .i64 r.lim),Fd.c (W.int .i64 r.most),Fd.c (W.int .i64 r.live),Fd.c (W.int .i64 r.stat),Fd.c (W.int .i64 r.ph),Fd.c (W.int .i64 r.co),Fd.c (W.int .i64 r.ix),Fd.c (W.sl 2 0 r.rows.length 1),Fd.c (W.sl 3 0 r.par.length 1),Fd.c (W.sl 4 0 r.dn 1)],Ob.mk 63 [Fd.c (W.ba (1:Nat)),Fd.c (W.sl 5 0 q2.length (1:Nat))],Ob.mk 22 [Fd.c (W.th ((2:Int)*r.g).toNat r.rows)],Ob.mk 3 [Fd.a 0 (D.int .i64) r.par],Ob.mk 3 [Fd.a 0 (D.int .i64) r.dl],Ob.mk 5 [Fd.a 0 (D.int .u8) q2]]))) (by kernel_rfl)
 try simp only [true_and,Nat.zero_add,decide_eq_true_eq,decide_eq_false_iff_not,Int.not_lt,List.drop_zero,List.take_succ_cons,List.take_zero,Nat.le_refl]
 have hw:=wLns_len subS (by decide) r.sub H.sub
 have hns:=H.ns
 refine ⟨fun h=>⟨by omega,?_⟩,fun h=>by omega⟩
 exact svI r T subS r.sub 1 (by omega) (by decide) H.sub hns (l++wLns subS r.sub) (svB2 r H T _ (by rw [List.length_append];omega) hT) r.sub.length 0 l (by omega) (by omega) (by omega) (by rw [List.drop_zero])
theorem svB0 (r:Rn) (H:Sv r) (T:List Int) (l:List Int) (hl:l.length<=500) (hT:T=fin (l++wLns relS r.rels++wLns subS r.sub++lineL atS [r.ph,r.co,r.ix]++rowsFrom r r.rows.length 0)) :
 AtLoop sSv (Says1 (stT (packI T)) (obs r)) pSb (fr [(0,pR),(3,.p (.c (.ptr 1 0))),(70,.p (.c (.sl 2 0 2 2))),(71,nI 2),(72,nI 0)]) (.ofList [runO r 3 4 5,obBk 1 6 l.length,wordO2 r,tabO r,obI r.par,obI r.dl,obU l]):=by
 refine atLoop_at gSv_ok (by kernel_rfl) 100 ?_
 apply of_eq (q:=let q1:=(l++lineL (ByteArray.mk #[(97:UInt8),(116:UInt8)]) (List.take (3:Nat) (List.drop (0:Nat) [r.ph,r.co,r.ix])));let q2:=(W.rd (D.int .i64).sl r.rels);let q3:=(W.rd (D.int .i64).sl r.sub);(decide ((0:Int)<(2:Int))=true->((0:Int)<=(0:Int)/\(0:Int)<(↑(2:Nat):Int))/\AtLoop sSv (Says1 (stT (packI T)) (obs r)) [0,1,1,0,0,1,1,0,0,1,0,1,1,1,1,1,1] (fr [(0,A.p (V.c (W.ptr 0 0))),(3,A.p (V.c (W.ptr 1 0))),(7,A.p (V.c (W.ptr 2 0))),(70,A.p (V.c (W.sl 3 0 2 2))),(71,nI (2)),(72,nI (0)),(77,llI r.rels),(78,nI (r.rels.length:Int)),(79,nI (0))]) (Sto.ofList [Ob.mk 57 [Fd.c (W.int .i64 r.g),Fd.c q2,Fd.c q3,Fd.c (W.int .i64 r.lim),Fd.c (W.int .i64 r.most),Fd.c (W.int .i64 r.live),Fd.c (W.int .i64 r.stat),Fd.c (W.int .i64 r.ph),Fd.c (W.int .i64 r.co),Fd.c (W.int .i64 r.ix),Fd.c (W.sl 4 0 r.rows.length 1),Fd.c (W.sl 5 0 r.par.length 1),Fd.c (W.sl 6 0 r.dn 1)],Ob.mk 63 [Fd.c (W.ba (1:Nat)),Fd.c (W.sl 7 0 l.length 1)],Ob.mk 73 [Fd.c (W.str relS),Fd.c q2],Ob.mk 73 [Fd.c (W.str relS),Fd.c q2,Fd.c (W.str subS),Fd.c q3],Ob.mk 22 [Fd.c (W.th ((2:Int)*r.g).toNat r.rows)],Ob.mk 3 [Fd.a 0 (D.int .i64) r.par],Ob.mk 3 [Fd.a 0 (D.int .i64) r.dl],Ob.mk 5 [Fd.a 0 (D.int .u8) l]]))/\(decide ((0:Int)<(2:Int))=false->(0:Nat)+(3:Nat)<=(3:Nat)/\(l.length=l.length/\(∀ (x:Int),x∈List.take (3:Nat) (List.drop (0:Nat) [r.ph,r.co,r.ix])->I64 x)/\l.length+(2:Nat)+(22:Nat)*(3:Nat)+(1:Nat)<=(1000000:Nat))/\AtLoop sSv (Says1 (stT (packI T)) (obs r)) [0,1,0,1,1,1,1,1,1,1,1] (fr [(0,A.p (V.c (W.ptr 0 0))),(3,A.p (V.c (W.ptr 1 0))),(117,A.p (V.c (W.sl 2 0 r.rows.length 1))),(118,nI (r.rows.length:Int)),(119,nI (0))]) (Sto.ofList [Ob.mk 57 [Fd.c (W.int .i64 r.g),Fd.c q2,Fd.c q3,Fd.c (W.int .i64 r.lim),Fd.c (W.int .i64 r.most),Fd.c (W.int .i64 r.live),Fd.c (W.int .i64 r.stat),Fd.c (W.int .i64 r.ph),Fd.c (W.int .i64 r.co),Fd.c (W.int .i64 r.ix),Fd.c (W.sl 2 0 r.rows.length 1),Fd.c (W.sl 3 0 r.par.length 1),Fd.c (W.sl 4 0 r.dn 1)],Ob.mk 63 [Fd.c (W.ba (1:Nat)),Fd.c (W.sl 5 0 q1.length (1:Nat))],Ob.mk 22 [Fd.c (W.th ((2:Int)*r.g).toNat r.rows)],Ob.mk 3 [Fd.a 0 (D.int .i64) r.par],Ob.mk 3 [Fd.a 0 (D.int .i64) r.dl],Ob.mk 5 [Fd.a 0 (D.int .u8) q1]]))) (by kernel_rfl)
 try simp only [true_and,Nat.zero_add,decide_eq_true_eq,decide_eq_false_iff_not,Int.not_lt,List.drop_zero,List.take_succ_cons,List.take_zero,Nat.le_refl,Int.le_refl]
 have hw:=wLns_len relS (by decide) r.rels H.rels
 have hnr:=H.nr
 refine ⟨fun h=>⟨by omega,?_⟩,fun h=>by omega⟩
 exact svI r T relS r.rels 0 (by omega) (by decide) H.rels hnr (l++wLns relS r.rels) (svB1 r H T _ (by rw [List.length_append];omega) hT) r.rels.length 0 l (by omega) (by omega) (by omega) (by rw [List.drop_zero])
theorem svA4 (r:Rn) (H:Sv r) (T l:List Int) (hl:l.length<=400) (hT:T=fin (l++[10]++wLns relS r.rels++wLns subS r.sub++lineL atS [r.ph,r.co,r.ix]++rowsFrom r r.rows.length 0)):AtLoop sSv (Says1 (stT (packI T)) (obs r)) pSa (fr [(0,pR),(3,.p (.c (.ptr 1 0))),(42,.p (.c (.sl 2 0 4 2))),(43,nI 4),(44,nI 4)]) (.ofList [runO r 3 4 5,obBk 1 6 l.length,headO r,tabO r,obI r.par,obI r.dl,obU l]):=by
 refine atLoop_at gSv_ok (by kernel_rfl) 100 ?_
 apply of_eq (q:=(decide ((4:Int)<(4:Int))=true->((0:Int)<=(4:Int)/\(4:Int)<(↑(4:Nat):Int))/\False)/\(decide ((4:Int)<(4:Int))=false->(l.length=l.length/\l.length+(1:Nat)<=(1000000:Nat))/\AtLoop sSv (Says1 (stT (packI T)) (obs r)) [0,1,0,1,1,1,1,1,1] (fr [(0,A.p (V.c (W.ptr 0 0))),(3,A.p (V.c (W.ptr 1 0))),(70,A.p (V.c (W.sl 2 0 2 2))),(71,nI (↑(2:Nat):Int)),(72,nI (0))]) (Sto.ofList [Ob.mk 57 [Fd.c (W.int .i64 r.g),Fd.c (W.rd (D.int .i64).sl r.rels),Fd.c (W.rd (D.int .i64).sl r.sub),Fd.c (W.int .i64 r.lim),Fd.c (W.int .i64 r.most),Fd.c (W.int .i64 r.live),Fd.c (W.int .i64 r.stat),Fd.c (W.int .i64 r.ph),Fd.c (W.int .i64 r.co),Fd.c (W.int .i64 r.ix),Fd.c (W.sl 3 0 r.rows.length 1),Fd.c (W.sl 4 0 r.par.length 1),Fd.c (W.sl 5 0 r.dn 1)],Ob.mk 63 [Fd.c (W.ba (1:Nat)),Fd.c (W.sl 6 0 (l.length+(1:Nat)) 1)],Ob.mk 73 [Fd.c (W.str (ByteArray.mk #[(114:UInt8),(101:UInt8),(108:UInt8),(32:UInt8)])),Fd.c (W.rd (D.int .i64).sl r.rels),Fd.c (W.str (ByteArray.mk #[(115:UInt8),(117:UInt8),(98:UInt8),(32:UInt8)])),Fd.c (W.rd (D.int .i64).sl r.sub)],Ob.mk 22 [Fd.c (W.th ((2:Int)*r.g).toNat r.rows)],Ob.mk 3 [Fd.a 0 (D.int .i64) r.par],Ob.mk 3 [Fd.a 0 (D.int .i64) r.dl],Ob.mk 5 [Fd.a 0 (D.int .u8) (l++[(10:Int)])]]))) (by kernel_rfl)
 try simp only [true_and,decide_eq_true_eq,decide_eq_false_iff_not,Int.not_lt,Int.le_refl]
 refine ⟨fun h=>by omega,fun _=>⟨by omega,?_⟩⟩
 have e:l.length+1=(l++[10]).length:=by rw [List.length_append];rfl
 rw [e]
 exact svB0 r H T (l++[10]) (by rw [<-e];omega) hT
theorem svA0 (r:Rn) (H:Sv r) (T l F:List Int) (hl:l.length<=300) (hF:F=l++bytesI (gensS++itB r.g)) (hN:AtLoop sSv (Says1 (stT (packI T)) (obs r)) pSa (fr [(0,pR),(3,.p (.c (.ptr 1 0))),(42,.p (.c (.sl 2 0 4 2))),(43,nI 4),(44,nI 1)]) (.ofList [runO r 3 4 5,obBk 1 6 F.length,headO r,tabO r,obI r.par,obI r.dl,obU F])):AtLoop sSv (Says1 (stT (packI T)) (obs r)) pSa (fr [(0,pR),(3,.p (.c (.ptr 1 0))),(42,.p (.c (.sl 2 0 4 2))),(43,nI 4),(44,nI 0)]) (.ofList [runO r 3 4 5,obBk 1 6 l.length,headO r,tabO r,obI r.par,obI r.dl,obU l]):=by
 refine atLoop_at gSv_ok (by kernel_rfl) 100 ?_
 apply of_eq (q:=let q1:=(W.rd (D.int .i64).sl r.rels);let q2:=(A.p (V.c (W.str gensS)));let q3:=(R1.pure (Cd.t.and Cd.t) q2);let q4:=(W.rd (D.int .i64).sl r.sub);(decide ((0:Int)<(4:Int))=true->((0:Int)<=(0:Int)/\(0:Int)<(↑(4:Nat):Int))/\((-9223372036854775808:Int)<=r.g/\r.g<=(9223372036854775807:Int))/\(5:Nat)+(itB r.g).size<=(9223372036854775807:Nat)/\(l.length=l.length/\l.length+(gensS++itB r.g).size<=(1000000:Nat))/\q3.v=q3.v/\q3.v=q3.v/\AtLoop sSv (Says1 (stT (packI T)) (obs r)) [0,1,0,1,1,1,1] (fr [(0,A.p (V.c (W.ptr 0 0))),(3,A.p (V.c (W.ptr 1 0))),(42,A.p (V.c (W.sl 2 0 4 2))),(43,nI (4)),(44,nI (IntKind.i64.wrap ((0:Int)+(1:Int))))]) (Sto.ofList [Ob.mk 57 [Fd.c (W.int .i64 r.g),Fd.c q1,Fd.c q4,Fd.c (W.int .i64 r.lim),Fd.c (W.int .i64 r.most),Fd.c (W.int .i64 r.live),Fd.c (W.int .i64 r.stat),Fd.c (W.int .i64 r.ph),Fd.c (W.int .i64 r.co),Fd.c (W.int .i64 r.ix),Fd.c (W.sl 3 0 r.rows.length 1),Fd.c (W.sl 4 0 r.par.length 1),Fd.c (W.sl 5 0 r.dn 1)],Ob.mk 63 [Fd.c (W.ba (1:Nat)),Fd.c (W.sl 6 0 (l.length+(gensS++itB r.g).size) 1)],Ob.mk 65 [Fd.c (W.str gensS),Fd.c (W.int .i64 r.g),Fd.c (W.str limS),Fd.c (W.int .i64 r.lim),Fd.c (W.str mostS),Fd.c (W.int .i64 r.most),Fd.c (W.str statS),Fd.c (W.int .i64 r.stat)],Ob.mk 22 [Fd.c (W.th ((2:Int)*r.g).toNat r.rows)],Ob.mk 3 [Fd.a 0 (D.int .i64) r.par],Ob.mk 3 [Fd.a 0 (D.int .i64) r.dl],Ob.mk 5 [Fd.a 0 (D.int .u8) (l++bytesI (gensS++itB r.g))]]))/\(decide ((0:Int)<(4:Int))=false->(l.length=l.length/\l.length+(1:Nat)<=(1000000:Nat))/\AtLoop sSv (Says1 (stT (packI T)) (obs r)) [0,1,0,1,1,1,1,1,1] (fr [(0,A.p (V.c (W.ptr 0 0))),(3,A.p (V.c (W.ptr 1 0))),(70,A.p (V.c (W.sl 2 0 2 2))),(71,nI (↑(2:Nat):Int)),(72,nI (0))]) (Sto.ofList [Ob.mk 57 [Fd.c (W.int .i64 r.g),Fd.c q1,Fd.c q4,Fd.c (W.int .i64 r.lim),Fd.c (W.int .i64 r.most),Fd.c (W.int .i64 r.live),Fd.c (W.int .i64 r.stat),Fd.c (W.int .i64 r.ph),Fd.c (W.int .i64 r.co),Fd.c (W.int .i64 r.ix),Fd.c (W.sl 3 0 r.rows.length 1),Fd.c (W.sl 4 0 r.par.length 1),Fd.c (W.sl 5 0 r.dn 1)],Ob.mk 63 [Fd.c (W.ba (1:Nat)),Fd.c (W.sl 6 0 (l.length+(1:Nat)) 1)],Ob.mk 73 [Fd.c (W.str (ByteArray.mk #[(114:UInt8),(101:UInt8),(108:UInt8),(32:UInt8)])),Fd.c q1,Fd.c (W.str (ByteArray.mk #[(115:UInt8),(117:UInt8),(98:UInt8),(32:UInt8)])),Fd.c q4],Ob.mk 22 [Fd.c (W.th ((2:Int)*r.g).toNat r.rows)],Ob.mk 3 [Fd.a 0 (D.int .i64) r.par],Ob.mk 3 [Fd.a 0 (D.int .i64) r.dl],Ob.mk 5 [Fd.a 0 (D.int .u8) (l++[(10:Int)])]]))) (by kernel_rfl)
 try simp only [true_and,decide_eq_true_eq,decide_eq_false_iff_not,Int.not_lt,Int.le_refl]
 have hz:=itB_size r.g H.g
 have ha:(gensS++itB r.g).size=5+(itB r.g).size:=ByteArray.size_append ..
 have e:l.length+(gensS++itB r.g).size=F.length:=by rw [hF,List.length_append,bytesI_len]
 rw [e,wrap64 (n:=(0:Int)+1) (by omega) (by omega),<-hF]
 exact ⟨fun _=>⟨by omega,H.g,by omega,by omega,hN⟩,fun h=>by omega⟩
theorem svA1 (r:Rn) (H:Sv r) (T l F:List Int) (hl:l.length<=300) (hF:F=l++bytesI (limS++itB r.lim)) (hN:AtLoop sSv (Says1 (stT (packI T)) (obs r)) pSa (fr [(0,pR),(3,.p (.c (.ptr 1 0))),(42,.p (.c (.sl 2 0 4 2))),(43,nI 4),(44,nI 2)]) (.ofList [runO r 3 4 5,obBk 1 6 F.length,headO r,tabO r,obI r.par,obI r.dl,obU F])):AtLoop sSv (Says1 (stT (packI T)) (obs r)) pSa (fr [(0,pR),(3,.p (.c (.ptr 1 0))),(42,.p (.c (.sl 2 0 4 2))),(43,nI 4),(44,nI 1)]) (.ofList [runO r 3 4 5,obBk 1 6 l.length,headO r,tabO r,obI r.par,obI r.dl,obU l]):=by
 refine atLoop_at gSv_ok (by kernel_rfl) 100 ?_
 apply of_eq (q:=let q1:=(W.rd (D.int .i64).sl r.rels);let q2:=(W.rd (D.int .i64).sl r.sub);let q3:=(A.p (V.c (W.str limS)));let q4:=(R1.pure (Cd.t.and Cd.t) q3);(decide ((1:Int)<(4:Int))=true->((0:Int)<=(1:Int)/\(1:Int)<(↑(4:Nat):Int))/\((-9223372036854775808:Int)<=r.lim/\r.lim<=(9223372036854775807:Int))/\(7:Nat)+(itB r.lim).size<=(9223372036854775807:Nat)/\(l.length=l.length/\l.length+(limS++itB r.lim).size<=(1000000:Nat))/\q4.v=q4.v/\q4.v=q4.v/\AtLoop sSv (Says1 (stT (packI T)) (obs r)) [0,1,0,1,1,1,1] (fr [(0,A.p (V.c (W.ptr 0 0))),(3,A.p (V.c (W.ptr 1 0))),(42,A.p (V.c (W.sl 2 0 4 2))),(43,nI (4)),(44,nI (IntKind.i64.wrap ((1:Int)+(1:Int))))]) (Sto.ofList [Ob.mk 57 [Fd.c (W.int .i64 r.g),Fd.c q1,Fd.c q2,Fd.c (W.int .i64 r.lim),Fd.c (W.int .i64 r.most),Fd.c (W.int .i64 r.live),Fd.c (W.int .i64 r.stat),Fd.c (W.int .i64 r.ph),Fd.c (W.int .i64 r.co),Fd.c (W.int .i64 r.ix),Fd.c (W.sl 3 0 r.rows.length 1),Fd.c (W.sl 4 0 r.par.length 1),Fd.c (W.sl 5 0 r.dn 1)],Ob.mk 63 [Fd.c (W.ba (1:Nat)),Fd.c (W.sl 6 0 (l.length+(limS++itB r.lim).size) 1)],Ob.mk 65 [Fd.c (W.str gensS),Fd.c (W.int .i64 r.g),Fd.c (W.str limS),Fd.c (W.int .i64 r.lim),Fd.c (W.str mostS),Fd.c (W.int .i64 r.most),Fd.c (W.str statS),Fd.c (W.int .i64 r.stat)],Ob.mk 22 [Fd.c (W.th ((2:Int)*r.g).toNat r.rows)],Ob.mk 3 [Fd.a 0 (D.int .i64) r.par],Ob.mk 3 [Fd.a 0 (D.int .i64) r.dl],Ob.mk 5 [Fd.a 0 (D.int .u8) (l++bytesI (limS++itB r.lim))]]))/\(decide ((1:Int)<(4:Int))=false->(l.length=l.length/\l.length+(1:Nat)<=(1000000:Nat))/\AtLoop sSv (Says1 (stT (packI T)) (obs r)) [0,1,0,1,1,1,1,1,1] (fr [(0,A.p (V.c (W.ptr 0 0))),(3,A.p (V.c (W.ptr 1 0))),(70,A.p (V.c (W.sl 2 0 2 2))),(71,nI (↑(2:Nat):Int)),(72,nI (0))]) (Sto.ofList [Ob.mk 57 [Fd.c (W.int .i64 r.g),Fd.c q1,Fd.c q2,Fd.c (W.int .i64 r.lim),Fd.c (W.int .i64 r.most),Fd.c (W.int .i64 r.live),Fd.c (W.int .i64 r.stat),Fd.c (W.int .i64 r.ph),Fd.c (W.int .i64 r.co),Fd.c (W.int .i64 r.ix),Fd.c (W.sl 3 0 r.rows.length 1),Fd.c (W.sl 4 0 r.par.length 1),Fd.c (W.sl 5 0 r.dn 1)],Ob.mk 63 [Fd.c (W.ba (1:Nat)),Fd.c (W.sl 6 0 (l.length+(1:Nat)) 1)],Ob.mk 73 [Fd.c (W.str (ByteArray.mk #[(114:UInt8),(101:UInt8),(108:UInt8),(32:UInt8)])),Fd.c q1,Fd.c (W.str (ByteArray.mk #[(115:UInt8),(117:UInt8),(98:UInt8),(32:UInt8)])),Fd.c q2],Ob.mk 22 [Fd.c (W.th ((2:Int)*r.g).toNat r.rows)],Ob.mk 3 [Fd.a 0 (D.int .i64) r.par],Ob.mk 3 [Fd.a 0 (D.int .i64) r.dl],Ob.mk 5 [Fd.a 0 (D.int .u8) (l++[(10:Int)])]]))) (by kernel_rfl)
 try simp only [true_and,decide_eq_true_eq,decide_eq_false_iff_not,Int.not_lt]
 have hz:=itB_size r.lim H.lim
 have ha:(limS++itB r.lim).size=7+(itB r.lim).size:=ByteArray.size_append ..
 have e:l.length+(limS++itB r.lim).size=F.length:=by rw [hF,List.length_append,bytesI_len]
 rw [e,wrap64 (n:=(1:Int)+1) (by omega) (by omega),<-hF]
 exact ⟨fun _=>⟨by omega,H.lim,by omega,by omega,hN⟩,fun h=>by omega⟩
theorem svA2 (r:Rn) (H:Sv r) (T l F:List Int) (hl:l.length<=300) (hF:F=l++bytesI (mostS++itB r.most)) (hN:AtLoop sSv (Says1 (stT (packI T)) (obs r)) pSa (fr [(0,pR),(3,.p (.c (.ptr 1 0))),(42,.p (.c (.sl 2 0 4 2))),(43,nI 4),(44,nI 3)]) (.ofList [runO r 3 4 5,obBk 1 6 F.length,headO r,tabO r,obI r.par,obI r.dl,obU F])):AtLoop sSv (Says1 (stT (packI T)) (obs r)) pSa (fr [(0,pR),(3,.p (.c (.ptr 1 0))),(42,.p (.c (.sl 2 0 4 2))),(43,nI 4),(44,nI 2)]) (.ofList [runO r 3 4 5,obBk 1 6 l.length,headO r,tabO r,obI r.par,obI r.dl,obU l]):=by
 refine atLoop_at gSv_ok (by kernel_rfl) 100 ?_
 apply of_eq (q:=let q1:=(W.rd (D.int .i64).sl r.rels);let q2:=(A.p (V.c (W.str mostS)));let q3:=(R1.pure (Cd.t.and Cd.t) q2);let q4:=(W.rd (D.int .i64).sl r.sub);(decide ((2:Int)<(4:Int))=true->((0:Int)<=(2:Int)/\(2:Int)<(↑(4:Nat):Int))/\((-9223372036854775808:Int)<=r.most/\r.most<=(9223372036854775807:Int))/\(6:Nat)+(itB r.most).size<=(9223372036854775807:Nat)/\(l.length=l.length/\l.length+(mostS++itB r.most).size<=(1000000:Nat))/\q3.v=q3.v/\q3.v=q3.v/\AtLoop sSv (Says1 (stT (packI T)) (obs r)) [0,1,0,1,1,1,1] (fr [(0,A.p (V.c (W.ptr 0 0))),(3,A.p (V.c (W.ptr 1 0))),(42,A.p (V.c (W.sl 2 0 4 2))),(43,nI (4)),(44,nI (IntKind.i64.wrap ((2:Int)+(1:Int))))]) (Sto.ofList [Ob.mk 57 [Fd.c (W.int .i64 r.g),Fd.c q1,Fd.c q4,Fd.c (W.int .i64 r.lim),Fd.c (W.int .i64 r.most),Fd.c (W.int .i64 r.live),Fd.c (W.int .i64 r.stat),Fd.c (W.int .i64 r.ph),Fd.c (W.int .i64 r.co),Fd.c (W.int .i64 r.ix),Fd.c (W.sl 3 0 r.rows.length 1),Fd.c (W.sl 4 0 r.par.length 1),Fd.c (W.sl 5 0 r.dn 1)],Ob.mk 63 [Fd.c (W.ba (1:Nat)),Fd.c (W.sl 6 0 (l.length+(mostS++itB r.most).size) 1)],Ob.mk 65 [Fd.c (W.str gensS),Fd.c (W.int .i64 r.g),Fd.c (W.str limS),Fd.c (W.int .i64 r.lim),Fd.c (W.str mostS),Fd.c (W.int .i64 r.most),Fd.c (W.str statS),Fd.c (W.int .i64 r.stat)],Ob.mk 22 [Fd.c (W.th ((2:Int)*r.g).toNat r.rows)],Ob.mk 3 [Fd.a 0 (D.int .i64) r.par],Ob.mk 3 [Fd.a 0 (D.int .i64) r.dl],Ob.mk 5 [Fd.a 0 (D.int .u8) (l++bytesI (mostS++itB r.most))]]))/\(decide ((2:Int)<(4:Int))=false->(l.length=l.length/\l.length+(1:Nat)<=(1000000:Nat))/\AtLoop sSv (Says1 (stT (packI T)) (obs r)) [0,1,0,1,1,1,1,1,1] (fr [(0,A.p (V.c (W.ptr 0 0))),(3,A.p (V.c (W.ptr 1 0))),(70,A.p (V.c (W.sl 2 0 2 2))),(71,nI (↑(2:Nat):Int)),(72,nI (0))]) (Sto.ofList [Ob.mk 57 [Fd.c (W.int .i64 r.g),Fd.c q1,Fd.c q4,Fd.c (W.int .i64 r.lim),Fd.c (W.int .i64 r.most),Fd.c (W.int .i64 r.live),Fd.c (W.int .i64 r.stat),Fd.c (W.int .i64 r.ph),Fd.c (W.int .i64 r.co),Fd.c (W.int .i64 r.ix),Fd.c (W.sl 3 0 r.rows.length 1),Fd.c (W.sl 4 0 r.par.length 1),Fd.c (W.sl 5 0 r.dn 1)],Ob.mk 63 [Fd.c (W.ba (1:Nat)),Fd.c (W.sl 6 0 (l.length+(1:Nat)) 1)],Ob.mk 73 [Fd.c (W.str (ByteArray.mk #[(114:UInt8),(101:UInt8),(108:UInt8),(32:UInt8)])),Fd.c q1,Fd.c (W.str (ByteArray.mk #[(115:UInt8),(117:UInt8),(98:UInt8),(32:UInt8)])),Fd.c q4],Ob.mk 22 [Fd.c (W.th ((2:Int)*r.g).toNat r.rows)],Ob.mk 3 [Fd.a 0 (D.int .i64) r.par],Ob.mk 3 [Fd.a 0 (D.int .i64) r.dl],Ob.mk 5 [Fd.a 0 (D.int .u8) (l++[(10:Int)])]]))) (by kernel_rfl)
 try simp only [true_and,decide_eq_true_eq,decide_eq_false_iff_not,Int.not_lt]
 have hz:=itB_size r.most H.most
 have ha:(mostS++itB r.most).size=6+(itB r.most).size:=ByteArray.size_append ..
 have e:l.length+(mostS++itB r.most).size=F.length:=by rw [hF,List.length_append,bytesI_len]
 rw [e,wrap64 (n:=(2:Int)+1) (by omega) (by omega),<-hF]
 exact ⟨fun _=>⟨by omega,H.most,by omega,by omega,hN⟩,fun h=>by omega⟩
theorem svA3 (r:Rn) (H:Sv r) (T l F:List Int) (hl:l.length<=300) (hF:F=l++bytesI (statS++itB r.stat)) (hN:AtLoop sSv (Says1 (stT (packI T)) (obs r)) pSa (fr [(0,pR),(3,.p (.c (.ptr 1 0))),(42,.p (.c (.sl 2 0 4 2))),(43,nI 4),(44,nI 4)]) (.ofList [runO r 3 4 5,obBk 1 6 F.length,headO r,tabO r,obI r.par,obI r.dl,obU F])):AtLoop sSv (Says1 (stT (packI T)) (obs r)) pSa (fr [(0,pR),(3,.p (.c (.ptr 1 0))),(42,.p (.c (.sl 2 0 4 2))),(43,nI 4),(44,nI 3)]) (.ofList [runO r 3 4 5,obBk 1 6 l.length,headO r,tabO r,obI r.par,obI r.dl,obU l]):=by
 refine atLoop_at gSv_ok (by kernel_rfl) 100 ?_
 apply of_eq (q:=let q1:=(W.rd (D.int .i64).sl r.rels);let q2:=(A.p (V.c (W.str statS)));let q3:=(R1.pure (Cd.t.and Cd.t) q2);let q4:=(W.rd (D.int .i64).sl r.sub);(decide ((3:Int)<(4:Int))=true->((0:Int)<=(3:Int)/\(3:Int)<(↑(4:Nat):Int))/\((-9223372036854775808:Int)<=r.stat/\r.stat<=(9223372036854775807:Int))/\(8:Nat)+(itB r.stat).size<=(9223372036854775807:Nat)/\(l.length=l.length/\l.length+(statS++itB r.stat).size<=(1000000:Nat))/\q3.v=q3.v/\q3.v=q3.v/\AtLoop sSv (Says1 (stT (packI T)) (obs r)) [0,1,0,1,1,1,1] (fr [(0,A.p (V.c (W.ptr 0 0))),(3,A.p (V.c (W.ptr 1 0))),(42,A.p (V.c (W.sl 2 0 4 2))),(43,nI (4)),(44,nI (IntKind.i64.wrap ((3:Int)+(1:Int))))]) (Sto.ofList [Ob.mk 57 [Fd.c (W.int .i64 r.g),Fd.c q1,Fd.c q4,Fd.c (W.int .i64 r.lim),Fd.c (W.int .i64 r.most),Fd.c (W.int .i64 r.live),Fd.c (W.int .i64 r.stat),Fd.c (W.int .i64 r.ph),Fd.c (W.int .i64 r.co),Fd.c (W.int .i64 r.ix),Fd.c (W.sl 3 0 r.rows.length 1),Fd.c (W.sl 4 0 r.par.length 1),Fd.c (W.sl 5 0 r.dn 1)],Ob.mk 63 [Fd.c (W.ba (1:Nat)),Fd.c (W.sl 6 0 (l.length+(statS++itB r.stat).size) 1)],Ob.mk 65 [Fd.c (W.str gensS),Fd.c (W.int .i64 r.g),Fd.c (W.str limS),Fd.c (W.int .i64 r.lim),Fd.c (W.str mostS),Fd.c (W.int .i64 r.most),Fd.c (W.str statS),Fd.c (W.int .i64 r.stat)],Ob.mk 22 [Fd.c (W.th ((2:Int)*r.g).toNat r.rows)],Ob.mk 3 [Fd.a 0 (D.int .i64) r.par],Ob.mk 3 [Fd.a 0 (D.int .i64) r.dl],Ob.mk 5 [Fd.a 0 (D.int .u8) (l++bytesI (statS++itB r.stat))]]))/\(decide ((3:Int)<(4:Int))=false->(l.length=l.length/\l.length+(1:Nat)<=(1000000:Nat))/\AtLoop sSv (Says1 (stT (packI T)) (obs r)) [0,1,0,1,1,1,1,1,1] (fr [(0,A.p (V.c (W.ptr 0 0))),(3,A.p (V.c (W.ptr 1 0))),(70,A.p (V.c (W.sl 2 0 2 2))),(71,nI (↑(2:Nat):Int)),(72,nI (0))]) (Sto.ofList [Ob.mk 57 [Fd.c (W.int .i64 r.g),Fd.c q1,Fd.c q4,Fd.c (W.int .i64 r.lim),Fd.c (W.int .i64 r.most),Fd.c (W.int .i64 r.live),Fd.c (W.int .i64 r.stat),Fd.c (W.int .i64 r.ph),Fd.c (W.int .i64 r.co),Fd.c (W.int .i64 r.ix),Fd.c (W.sl 3 0 r.rows.length 1),Fd.c (W.sl 4 0 r.par.length 1),Fd.c (W.sl 5 0 r.dn 1)],Ob.mk 63 [Fd.c (W.ba (1:Nat)),Fd.c (W.sl 6 0 (l.length+(1:Nat)) 1)],Ob.mk 73 [Fd.c (W.str (ByteArray.mk #[(114:UInt8),(101:UInt8),(108:UInt8),(32:UInt8)])),Fd.c q1,Fd.c (W.str (ByteArray.mk #[(115:UInt8),(117:UInt8),(98:UInt8),(32:UInt8)])),Fd.c q4],Ob.mk 22 [Fd.c (W.th ((2:Int)*r.g).toNat r.rows)],Ob.mk 3 [Fd.a 0 (D.int .i64) r.par],Ob.mk 3 [Fd.a 0 (D.int .i64) r.dl],Ob.mk 5 [Fd.a 0 (D.int .u8) (l++[(10:Int)])]]))) (by kernel_rfl)
 try simp only [true_and,decide_eq_true_eq,decide_eq_false_iff_not,Int.not_lt]
 have hz:=itB_size r.stat H.stat
 have ha:(statS++itB r.stat).size=8+(itB r.stat).size:=ByteArray.size_append ..
 have e:l.length+(statS++itB r.stat).size=F.length:=by rw [hF,List.length_append,bytesI_len]
 rw [e,wrap64 (n:=(3:Int)+1) (by omega) (by omega),<-hF]
 exact ⟨fun _=>⟨by omega,H.stat,by omega,by omega,hN⟩,fun h=>by omega⟩
theorem save_sem (r:Rn) (H:Sv r):FnSemK Tryd.prog 12 1 [pR] (obs r) (stT (packI (saveT r))) (obs r):=by
 refine fnSemK_at (live:=liveSv) (fzl:=[]) (fz:=[]) gSv_ok Tryd.func12 (by kernel_rfl) 1 (by kernel_rfl) 100 ?_
 apply of_eq (q:=let q1:=(32:UInt8);let q2:=(0:Nat);let q3:=(1:Nat);((r.rows.length=r.rows.length/\r.par.length=r.par.length/\((2:Int)*r.g).toNat=((2:Int)*r.g).toNat)/\True)/\((!decide (q2<r.rows.length))=true->packV [V.c (W.str (ByteArray.mk #[]))]=stT (packI (saveT r))/\[Ob.mk 57 [Fd.c (W.int .i64 r.g),Fd.c (W.rd (D.int .i64).sl r.rels),Fd.c (W.rd (D.int .i64).sl r.sub),Fd.c (W.int .i64 r.lim),Fd.c (W.int .i64 r.most),Fd.c (W.int .i64 r.live),Fd.c (W.int .i64 r.stat),Fd.c (W.int .i64 r.ph),Fd.c (W.int .i64 r.co),Fd.c (W.int .i64 r.ix),Fd.c (W.sl (q2+q3) q2 r.rows.length q3),Fd.c (W.sl (q2+q3+q3) q2 r.par.length q3),Fd.c (W.sl (q2+q3+q3+q3) q2 r.dn q3)],Ob.mk 22 [Fd.c (W.th ((2:Int)*r.g).toNat r.rows)],Ob.mk 3 [Fd.a 0 (D.int .i64) r.par],Ob.mk 3 [Fd.a 0 (D.int .i64) r.dl]]=obs r)/\((!decide (q2<r.rows.length))=false->(q2=q2/\(∀ (x:Int),x∈[]->I64 x)/\q2+(7:Nat)+(22:Nat)*q2+q3<=(1000000:Nat))/\AtLoop (mkSiteF Tryd.prog gSv Tryd.f12 q3 liveSv [] []) (Says1 (stT (packI (saveT r))) (obs r)) [0,1,0,1,1,1,1] (fr [(0,A.p (V.c (W.ptr 0 0))),(3,A.p (V.c (W.ptr 1 0))),(42,A.p (V.c (W.sl 2 0 4 2))),(43,nI (↑(4:Nat):Int)),(44,nI (0))]) (Sto.ofList [Ob.mk 57 [Fd.c (W.int .i64 r.g),Fd.c (W.rd (D.int .i64).sl r.rels),Fd.c (W.rd (D.int .i64).sl r.sub),Fd.c (W.int .i64 r.lim),Fd.c (W.int .i64 r.most),Fd.c (W.int .i64 r.live),Fd.c (W.int .i64 r.stat),Fd.c (W.int .i64 r.ph),Fd.c (W.int .i64 r.co),Fd.c (W.int .i64 r.ix),Fd.c (W.sl 3 0 r.rows.length 1),Fd.c (W.sl 4 0 r.par.length 1),Fd.c (W.sl 5 0 r.dn 1)],Ob.mk 63 [Fd.c (W.ba q3),Fd.c (W.sl 6 0 8 1)],Ob.mk 65 [Fd.c (W.str (ByteArray.mk #[(103:UInt8),(101:UInt8),(110:UInt8),(115:UInt8),q1])),Fd.c (W.int .i64 r.g),Fd.c (W.str (ByteArray.mk #[q1,(108:UInt8),(105:UInt8),(109:UInt8),(105:UInt8),(116:UInt8),q1])),Fd.c (W.int .i64 r.lim),Fd.c (W.str (ByteArray.mk #[q1,(109:UInt8),(111:UInt8),(115:UInt8),(116:UInt8),q1])),Fd.c (W.int .i64 r.most),Fd.c (W.str (ByteArray.mk #[q1,(115:UInt8),(116:UInt8),(97:UInt8),(116:UInt8),(117:UInt8),(115:UInt8),q1])),Fd.c (W.int .i64 r.stat)],Ob.mk 22 [Fd.c (W.th ((2:Int)*r.g).toNat r.rows)],Ob.mk 3 [Fd.a 0 (D.int .i64) r.par],Ob.mk 3 [Fd.a 0 (D.int .i64) r.dl],Ob.mk 5 [Fd.a 0 (D.int .u8) ([]++lineL (ByteArray.mk #[(99:UInt8),(111:UInt8),(115:UInt8),(101:UInt8),(116:UInt8),q1,(49:UInt8)]) [])]]))) (by kernel_rfl)
 try simp only [true_and,and_true,Nat.zero_add,Bool.not_eq_true',Bool.not_eq_false',decide_eq_true_eq,decide_eq_false_iff_not,Nat.reduceAdd]
 refine ⟨fun h=>absurd H.n0 h,fun _=>⟨⟨fun x hx=>(by cases hx),by omega⟩,?_⟩⟩
 have g0:(lineL cosetS []).length=8:=rfl
 have h1:=itB_size r.g H.g
 have h2:=itB_size r.lim H.lim
 have h3:=itB_size r.most H.most
 have h4:=itB_size r.stat H.stat
 have a1:(gensS++itB r.g).size=5+(itB r.g).size:=ByteArray.size_append ..
 have a2:(limS++itB r.lim).size=7+(itB r.lim).size:=ByteArray.size_append ..
 have a3:(mostS++itB r.most).size=6+(itB r.most).size:=ByteArray.size_append ..
 have a4:(statS++itB r.stat).size=8+(itB r.stat).size:=ByteArray.size_append ..
 have b1:(lineL cosetS []++bytesI (gensS++itB r.g)).length<=50:=by simp only [List.length_append,bytesI_len];omega
 have b2:(lineL cosetS []++bytesI (gensS++itB r.g)++bytesI (limS++itB r.lim)).length<=100:=by simp only [List.length_append,bytesI_len];omega
 have b3:(lineL cosetS []++bytesI (gensS++itB r.g)++bytesI (limS++itB r.lim)++bytesI (mostS++itB r.most)).length<=150:=by simp only [List.length_append,bytesI_len];omega
 have b4:(lineL cosetS []++bytesI (gensS++itB r.g)++bytesI (limS++itB r.lim)++bytesI (mostS++itB r.most)++bytesI (statS++itB r.stat)).length<=200:=by simp only [List.length_append,bytesI_len];omega
 exact svA0 r H _ (lineL cosetS []) _ (by omega) rfl (svA1 r H _ _ _ (by omega) rfl (svA2 r H _ _ _ (by omega) rfl (svA3 r H _ _ _ (by omega) rfl (svA4 r H _ _ (by omega) rfl))))
def cSave:Con:=conR0 fun r=>(Sv r,stT (packI (saveT r)),r)
theorem cSave_ok:ConOk Tryd.prog 12 cSave:=conR0_ok (by kernel_rfl) fun r h=>save_sem r h
end Go.Proofs.YtejehoihhphpiaaDoor
