/- Words' texts as strings of bytes. -/
import Derived.Test.YtejehoihhphpiaaDoorRead1
import Derived.Test.YtejehoihhphpiaaDoorText0
import Derived.Test.YtejehoihhphpiaaDoorWord2
namespace Go.Proofs.YtejehoihhphpiaaDoor
open Go.Loom Go.Words
set_option maxRecDepth 100000
theorem bytesI_app (a b:ByteArray):bytesI (a++b)=bytesI a++bytesI b:=by
 simp [bytesI,ByteArray.data_append]
theorem bytesI_pack {l:List Int} (h:∀ x∈l,0<=x/\x<256):bytesI (packI l)=l:=by
 unfold bytesI packI
 rw [List.map_map]
 conv=>rhs;rw [<-List.map_id l]
 refine List.map_congr_left fun x hx=>?_
 have:=h x hx
 simp only [Function.comp,id]
 rw [UInt8.toNat_ofNat']
 omega
theorem enc1 {c:Int} (h:0<=c/\c<128):Utf8.encode c=packI [c]:=by
 have e:((c.toNat:Nat):Int)=c:=by omega
 rw [<-e]
 have:∀ n:Nat,n<128->Utf8.encode (n:Int)=packI [(n:Int)]:=by decide +kernel
 exact this _ (by omega)
theorem decT_bytes (n:Nat) (h:n<100):bytesI (decT n)=decL n:=by
 revert n
 decide +kernel
/-! ### Lists of strings put together -/
def joinI (sep:List Int):List (List Int)->List Int
 | []=>[]
 | [p]=>p
 | p::q::r=>p++sep++joinI sep (q::r)
theorem join_cons2 (x y:List UInt8) (r:List (List UInt8)) (sep:List UInt8):Lib.join (x::y::r) sep=x++sep++Lib.join (y::r) sep:=by
 simp [Lib.join,List.intercalate]
theorem bytesI_mk (l:List UInt8):bytesI ⟨l.toArray⟩=l.map fun b=>(b.toNat:Int):=by simp [bytesI]
theorem joinT_bytes (sep:ByteArray):∀ xs:List ByteArray,bytesI (joinT xs sep)=joinI (bytesI sep) (xs.map bytesI)
 | []=>by simp [joinT,bytesI_mk,Lib.join,joinI]
 | [x]=>by simp [joinT,Lib.join,joinI,bytesI]
 | x::y::r=>by
   have ih:=joinT_bytes sep (y::r)
   unfold joinT at ih ⊢
   rw [bytesI_mk] at ih ⊢
   simp only [List.map_cons] at ih ⊢
   rw [join_cons2,List.map_append,List.map_append,ih,joinI]
   rfl
theorem joinI_star:∀ ps:List (List Int),joinI [42] ps=joinL ps
 | []=>rfl
 | [p]=>rfl
 | p::q::r=>by rw [joinI,joinL,joinI_star (q::r)];simp
/-! ### A word's text -/
def hatS:ByteArray:=⟨#[94]⟩
def hatM:ByteArray:=⟨#[94,45]⟩
def starS:ByteArray:=⟨#[42]⟩
def pieceB (x:Int) (n:Nat):ByteArray:=if x<0 then packI [96+(x.natAbs:Int)]++(hatM++decT n) else if 1<n then packI [96+(x.natAbs:Int)]++(hatS++decT n) else packI [96+(x.natAbs:Int)]
def pieceS (y:List Int):ByteArray:=pieceB (y.getD 0 0) (y.getD 1 0).toNat
theorem pieceB_bytes {x:Int} {n:Nat} (hx:(x.natAbs:Int)<=100) (hn:n<100):bytesI (pieceB x n)=pieceL x n:=by
 have e:bytesI (packI [96+(x.natAbs:Int)])=[96+(x.natAbs:Int)]:=bytesI_pack (by simp;omega)
 unfold pieceB pieceL
 split
 . rw [bytesI_app,bytesI_app,e,decT_bytes n hn];rfl
 . split
   . rw [bytesI_app,bytesI_app,e,decT_bytes n hn];rfl
   . rw [e]
theorem pieceS_bytes {g:Int} (hg:g<=16) {y:List Int} (h:GoodY g y):bytesI (pieceS y)=pieceY y:=by
 obtain ⟨x,n,rfl,h1,h2,h3,h4⟩:=h
 exact pieceB_bytes (x:=x) (n:=n) (by omega) h4
def oneS:ByteArray:=⟨#[49]⟩
def textS (a:List Int):ByteArray:=if a=[] then oneS else joinT ((runsL a).map pieceS) starS
theorem textS_bytes {g:Int} (hg:g<=16) {a:List Int} (ha:GoodW g a) (hl:a.length<100):bytesI (textS a)=textL a:=by
 unfold textS textL
 split
 . rfl
 . rw [joinT_bytes,List.map_map,show bytesI starS=[42] from rfl,joinI_star]
   congr 1
   refine List.map_congr_left fun y hy=>?_
   exact pieceS_bytes hg (runs_good _ a (Nat.le_refl _) hl ha y hy)
theorem pieceL_len (x:Int) (n:Nat) (_hn:n<100):(pieceL x n).length<=5:=by
 have:(decL n).length<=2:=by unfold decL;split <;> simp
 unfold pieceL
 split
 . simp;omega
 . split <;> simp <;> omega
theorem joinL_len:∀ ps:List (List Int),(∀ p∈ps,p.length<=5)->(joinL ps).length<=6*ps.length
 | [],_=>by simp [joinL]
 | [p],h=>by have:=h p (by simp);simp [joinL];omega
 | p::q::r,h=>by
   have h1:=h p (by simp)
   have h2:=joinL_len (q::r) fun x hx=>h x (by simp [hx])
   rw [joinL]
   simp only [List.length_append,List.length_cons] at h2 ⊢
   omega
theorem runs_len:∀ (n:Nat) (a:List Int),a.length<=n->(runsL a).length<=a.length
 | _,[],_=>by rw [runsL];simp
 | 0,x::l,h=>by simp at h
 | n+1,x::l,h=>by
   have hl:=runLen_le x l
   simp only [List.length_cons] at h
   rw [runsL]
   have:=runs_len n (l.drop (runLen x l)) (by simp;omega)
   rw [List.length_drop] at this
   simp only [List.length_cons]
   omega
theorem textL_len {g:Int} {a:List Int} (ha:GoodW g a) (hl:a.length<100):(textL a).length<=600:=by
 unfold textL
 split
 . simp
 . have:=joinL_len ((runsL a).map pieceY) fun p hp=>by
    obtain ⟨y,hy,rfl⟩:=List.mem_map.1 hp
    obtain ⟨x,n,rfl,_,_,_,h4⟩:=runs_good _ a (Nat.le_refl _) hl ha y hy
    exact pieceL_len _ _ h4
   have h2:=runs_len _ a (Nat.le_refl _)
   rw [List.length_map] at this
   omega
theorem textS_size {g:Int} (hg:g<=16) {a:List Int} (ha:GoodW g a) (hl:a.length<100):(textS a).size<=600:=by
 rw [<-bytesI_length,textS_bytes hg ha hl]
 exact textL_len ha hl
end Go.Proofs.YtejehoihhphpiaaDoor

namespace Go.Proofs.YtejehoihhphpiaaDoor
open Go.Loom Go.Words
set_option maxRecDepth 100000
/-! ### Runs -/
abbrev capW (a:List Int):Ob:=⟨41,[.c (.rd (.int .i64) a)]⟩
abbrev ghR (l:Nat) (ys:List (List Int)):Option Gh:=some ⟨l,.sl (.int .i64),ys,true⟩
abbrev ylA (l:Nat):A:=.p (.c (.yield l))
abbrev liveRu:List (List Nat×List Nat):=[([0,1],[0,1,3]),([0,0,1,0,1,0,0,1],[0,1,3,4])]
noncomputable def sRu:Site:=mkIter Tryd.prog [] Tryd.f60 liveRu
theorem runs_at {a:List Int} {i:Nat} (h:i<a.length):runsL (a.drop i)=[a.getD i 0,((runLen (a.getD i 0) (a.drop (i+1))+1:Nat):Int)]::runsL (a.drop (i+(runLen (a.getD i 0) (a.drop (i+1))+1))):=by
 rw [getD_lt h,runsL,List.drop_drop,show i+1+runLen (a.getD i 0) (a.drop (i+1))=i+(runLen (a.getD i 0) (a.drop (i+1))+1) by omega]
theorem runs_inner (a:List Int) (ha:a.length<=4000) (l:Nat) (i:Nat) (hi:i<a.length)
 (hout:∀ j,i<j->j<=a.length->AtLoop sRu (fun _ _=>True) [0,1] (fr [(0,ylA l),(1,.p (.c (.ptr 0 0))),(3,nI j)]) (.ofListG (ghR l (runsL (a.drop j))) [capW a])) :
 ∀ m n,m+(i+n)=a.length->1<=n->runLen (a.getD i 0) (a.drop (i+n))+n=runLen (a.getD i 0) (a.drop (i+1))+1->
 AtLoop sRu (fun _ _=>True) [0,0,1,0,1,0,0,1] (fr [(0,ylA l),(1,.p (.c (.ptr 0 0))),(3,nI i),(4,nI n)]) (.ofListG (ghR l (runsL (a.drop i))) [capW a])
 | m, n, hm, hn, hr => by
   refine atLoop_at gamOk_nil (by kernel_rfl) 100 ?_
   apply of_eq (q:=let q0:=IntKind.i64.wrap;let q1:=decide (q0 ((i:Int)+(n:Int))<(a.length:Int));let q2:=(q0 ((i:Int)+(n:Int)));let q3:=decide (a.getD q2.toNat (0:Int)=a.getD i (0:Int));(q1=true->q1=true)/\(q1=true->q1=true)/\(q1=true->q1=true)/\(q1=true->q1=true)/\(q1=true->(0:Int)<=q0 ((i:Int)+(n:Int))/\q0 ((i:Int)+(n:Int))<(a.length:Int))/\(q1=true->q1=true)/\(q1=true->q2.toNat<a.length)/\(q1=true->q1=true)/\(q1=true->q1=true)/\(q1=true->(0:Int)<=(i:Int)/\(i:Int)<(a.length:Int))/\(q1=true->q1=true)/\(q1=true->i<a.length)/\(q1=true->q1=true)/\(q1=true->q1=true)/\(q1=true->q1=true)/\((bif q1 then q3 else false)=true->AtLoop sRu (fun x x_1=>True) [0,0,1,0,1,0,0,1] (fr [(0,A.p (V.c (W.yield l))),(1,A.p (V.c (W.ptr 0 0))),(3,nI (i:Int)),(4,nI (q0 ((n:Int)+(1:Int))))]) (Sto.ofListG (some (Gh.mk l (D.int .i64).sl (runsL (List.drop i a)) true)) [Ob.mk 41 [Fd.c (W.rd (D.int .i64) a)]]))/\((bif q1 then q3 else false)=false->((0:Int)<=(i:Int)/\(i:Int)<(a.length:Int))/\i<a.length/\(l=l/\(runsL (List.drop i a)).head?.bind (pairOf (D.int .i64).sl)=some (a.getD i (0:Int),(n:Int)))/\AtLoop sRu (fun x x_1=>True) [0,1] (fr [(0,A.p (V.c (W.yield l))),(1,A.p (V.c (W.ptr 0 0))),(3,nI q2)]) (Sto.ofListG (some (Gh.mk l (D.int .i64).sl (runsL (List.drop i a)).tail true)) [Ob.mk 41 [Fd.c (W.rd (D.int .i64) a)]]))) (by kernel_rfl)
   try simp only [imp_self,true_and,Bool.cond_false_right,Bool.and_eq_true,Bool.and_eq_false_imp,decide_eq_true_eq,decide_eq_false_iff_not]
   have e:=runs_at hi
   rw [wrap64 (n:=(i:Int)+n) (by omega) (by omega),show ((i:Int)+n).toNat=i+n by omega]
   refine ⟨fun h=>by omega,fun h=>by omega,fun _=>by omega,fun _=>by omega,fun h=>?_,fun h=>?_⟩
   . have hin:i+n<a.length:=by omega
     rw [wrap64 (n:=(n:Int)+1) (by omega) (by omega)]
     cases m with
     | zero=>omega
     | succ m =>
       refine runs_inner a ha l i hi hout m (n+1) (by omega) (by omega) ?_
       rw [<-hr,getD_lt hin,runLen,if_pos h.2,show i+n+1=i+(n+1) by omega]
       omega
   . have h0:runLen (a.getD i 0) (a.drop (i+n))=0:=by
      rcases Nat.lt_or_ge (i+n) a.length with hin | hin
      . rw [getD_lt hin,runLen,if_neg (h (by omega))]
      . rw [List.drop_eq_nil_of_le hin];rfl
     rw [h0,Nat.zero_add] at hr
     rw [<-hr] at e
     rw [e]
     refine ⟨by omega,hi,rfl,?_⟩
     exact hout (i+n) (by omega) (by omega)
theorem runs_outer (a:List Int) (ha:a.length<=4000) (l:Nat):∀ m i,m=a.length-i->i<=a.length->AtLoop sRu (fun _ _=>True) [0,1] (fr [(0,ylA l),(1,.p (.c (.ptr 0 0))),(3,nI i)]) (.ofListG (ghR l (runsL (a.drop i))) [capW a])
 | m,i,hm,hi=>by
   refine atLoop_at gamOk_nil (by kernel_rfl) 100 ?_
   apply of_eq (q:=(decide ((i:Int)<(a.length:Int))=true->AtLoop sRu (fun x x_1=>True) [0,0,1,0,1,0,0,1] (fr [(0,A.p (V.c (W.yield l))),(1,A.p (V.c (W.ptr 0 0))),(3,nI (i:Int)),(4,nI (1))]) (Sto.ofListG (some (Gh.mk l (D.int .i64).sl (runsL (List.drop i a)) true)) [Ob.mk 41 [Fd.c (W.rd (D.int .i64) a)]]))/\(decide ((i:Int)<(a.length:Int))=false->runsL (List.drop i a)=[]/\True)) (by kernel_rfl)
   try simp only [and_true,decide_eq_true_eq,decide_eq_false_iff_not,Int.not_lt]
   refine ⟨fun h=>?_,fun h=>?_⟩
   . cases m with
     | zero=>omega
     | succ m =>
       exact runs_inner a ha l i (by omega) (fun j h1 h2=>runs_outer a ha l (a.length-j) j rfl h2) (a.length-(i+1)) 1 (by omega) (by omega) rfl
   . rw [List.drop_eq_nil_of_le (by omega),runsL]
 termination_by m=>m
theorem runs_iter (a:List Int) (ha:a.length<=4000):IterSem Tryd.prog 60 [.p (.c (.ptr 0 0))] [capW a] (.sl (.int .i64)) (runsL a) true:=by
 refine iterSem_at (live:=liveRu) gamOk_nil Tryd.func60 (by kernel_rfl) (by kernel_rfl) 100 ?_
 intro l
 apply of_eq (q:=AtLoop (mkIter Tryd.prog [] Tryd.f60 liveRu) (fun x x_1=>True) [0,1] (fr [(0,A.p (V.c (W.yield l))),(1,A.p (V.c (W.ptr 0 0))),(3,nI (0))]) (Sto.ofListG (some (Gh.mk l (D.int .i64).sl (runsL a) true)) [Ob.mk 41 [Fd.c (W.rd (D.int .i64) a)]])) (by kernel_rfl)
 have:=runs_outer a ha l a.length 0 (by omega) (by omega)
 exact this
theorem runs_sem (a:List Int):FnSem Tryd.prog 47 [lsI a] [] (.p (.c (.func 60 [(0,0)]))) [capW a]:=by
 refine fnSem_at (live:=[]) gamOk_nil Tryd.func47 (by kernel_rfl) (keep:=0) rfl (by kernel_rfl) 100 ?_
 apply of_eq (q:=packV [V.c (W.func 60 [(0,(0:Nat))])]=A.p (V.c (W.func (60:FuncId) [(0,(0:Nat))]))/\[Ob.mk 41 [Fd.c (W.rd (D.int .i64) a)]]=[capW a]) (by kernel_rfl)
 try simp only [and_true]
 rfl
def cRuns:Con:=con1 dI fun a=>(.t,.p (.c (.func 60 [(0,0)])),[capW a])
theorem cRuns_ok:ConOk Tryd.prog 47 cRuns:=con1_ok (by kernel_rfl) fun a _=>runs_sem a
/-! ### The text -/
theorem letter_enc {x:Int} (_h0:x≠0) (h:(x.natAbs:Int)<=16):Utf8.encode (IntKind.i32.wrap (IntKind.u64.wrap (IntKind.u64.wrap (97+sz x)-1)))=packI [96+(x.natAbs:Int)]:=by
 rw [sz_abs ⟨by omega,by omega⟩,wrapU64 (n:=97+(x.natAbs:Int)) (by omega) (by omega),wrapU64 (by omega) (by omega),show 97+(x.natAbs:Int)-1=96+x.natAbs by omega,IntWalk.i32_in _ (by constructor <;> omega),enc1 (by omega)]
theorem decT_size (x:Nat) (h:x<100):(decT x).size<=2:=by
 revert x
 decide +kernel
theorem one_size (x:Int):(packI [x]).size=1:=rfl
abbrev txA (s:ByteArray) (e:Int):A:=.tup [.c (.str s),.c (.int .i64 e)]
noncomputable def gTx:Gam:=[(46,cCheckw),(47,cRuns),(48,cSize),(27,cItoa),(49,cJoin)]
theorem gTx_ok:GamOk Tryd.prog gTx:=gamOk_cons cCheck_okw (gamOk_cons cRuns_ok (gamOk_cons cSize_ok (gamOk_cons cItoa_ok (gamOk_cons cJoin_ok gamOk_nil))))
abbrev pTx:List Nat:=[0,1,0,1,1,1]
abbrev liveTx:List (List Nat×List Nat):=[(pTx,[5,15])]
noncomputable def sTx:Site:=mkSite Tryd.prog gTx Tryd.f29 0 liveTx
abbrev obS (l:List ByteArray):Ob:=⟨9,[.a 0 .str l]⟩
theorem text_rng (R:List ByteArray) (hR:R.length<=4000/\(R≠[]->(joinT R starS).size<=1000000)):∀ (ys:List (List Int)) (l:List ByteArray),R=l++ys.map pieceS->(∀ y∈ys,GoodY 16 y)->
 AtYield sTx (Says1 (txA (if R=[] then oneS else joinT R starS) 0) []) pTx (.sl (.int .i64)) ys (fr [(5,.p (.c (.ptr 0 0)))]) (.ofList [⟨94,[.c (.sl 1 0 l.length 1)]⟩,obS l]) true
 | [],l,h,_=>by
   refine atYield_nil gTx_ok rfl 100 ?_
   apply of_eq (q:=let q1:=(List.take l.length (List.drop (0:Nat) l));(decide ((l.length:Int)=(0:Int))=true->packV [V.c (W.str (ByteArray.mk #[(49:UInt8)])),V.c (W.int .i64 (0))]=txA (if R=[] then oneS else joinT R starS) (0:Int)/\([]:List Ob)=[])/\(decide ((l.length:Int)=(0:Int))=false->(0:Nat)+l.length<=l.length/\(q1.length<=(100000:Nat)/\(joinT q1 (ByteArray.mk #[(42:UInt8)])).size<=(1000000:Nat))/\packV [V.c (W.str (joinT q1 (ByteArray.mk #[(42:UInt8)]))),V.c (W.int .i64 (0))]=txA (if R=[] then oneS else joinT R starS) (0:Int)/\([]:List Ob)=[])) (by kernel_rfl)
   try simp only [true_and,and_true,Nat.zero_add,decide_eq_true_eq,decide_eq_false_iff_not,List.drop_zero,List.take_length,Nat.le_refl]
   simp only [List.map_nil,List.append_nil] at h
   subst h
   refine ⟨fun h=>?_,fun h=>⟨⟨by omega,hR.2 (by rintro rfl;exact h rfl)⟩,?_⟩⟩
   . rw [if_pos (List.eq_nil_of_length_eq_zero (by omega))];rfl
   . rw [if_neg (by rintro rfl;exact h rfl)];rfl
 | y :: ys, l, h, hx => by
   obtain ⟨x,n,rfl,h1,h2,h3,h4⟩:=hx y (by simp)
   refine atYield_consK2 gTx_ok 1 (by kernel_rfl) 100 ?_
   apply of_eq (q:=let q1:=(IntKind.i32.wrap (IntKind.u64.wrap (IntKind.u64.wrap ((97:Int)+sz x)-(1:Int))));let q2:=(l.length+(1:Nat));let q3:=(9223372036854775807:Nat);let q4:=(fr [(5,A.p (V.c (W.ptr 0 0)))]);let q5:=(0:Nat);let q6:=(ByteArray.mk #[(94:UInt8),(45:UInt8)]++decT n);(decide (x<(0:Int))=true->((0:Int)<=(n:Int)/\(n:Int)<(100:Int))/\(2:Nat)+(decT n).size<=q3/\(Utf8.encode q1).size+q6.size<=q3/\q5+(1:Nat)<=(1:Nat)/\(q5+l.length<=l.length/\(q2*(16:Nat)).le (140737488355328:Nat))/\AtYield sTx (Says1 (txA (if R=[] then oneS else joinT R starS) (0:Int)) []) [0,1,0,1,1,1] (D.int .i64).sl ys q4 (Sto.ofList [Ob.mk 94 [Fd.c (W.sl 1 0 q2 1)],Ob.mk 9 [Fd.a 0 D.str (List.take l.length (List.drop q5 l)++List.take (1:Nat) (List.drop q5 [Utf8.encode q1++q6]))]]) true)/\(decide (x<(0:Int))=false->(decide ((1:Int)<(n:Int))=true->((0:Int)<=(n:Int)/\(n:Int)<(100:Int))/\(1:Nat)+(decT n).size<=q3/\(Utf8.encode q1).size+(ByteArray.mk #[(94:UInt8)]++decT n).size<=q3/\q5+(1:Nat)<=(1:Nat)/\(q5+l.length<=l.length/\(q2*(16:Nat)).le (140737488355328:Nat))/\AtYield sTx (Says1 (txA (if R=[] then oneS else joinT R starS) (0:Int)) []) [0,1,0,1,1,1] (D.int .i64).sl ys q4 (Sto.ofList [Ob.mk 94 [Fd.c (W.sl 1 0 q2 1)],Ob.mk 9 [Fd.a 0 D.str (List.take l.length (List.drop q5 l)++List.take (1:Nat) (List.drop q5 [Utf8.encode q1++(ByteArray.mk #[(94:UInt8)]++decT n)]))]]) true)/\(decide ((1:Int)<(n:Int))=false->q5+(1:Nat)<=(1:Nat)/\(q5+l.length<=l.length/\(q2*(16:Nat)).le (140737488355328:Nat))/\AtYield sTx (Says1 (txA (if R=[] then oneS else joinT R starS) (0:Int)) []) [0,1,0,1,1,1] (D.int .i64).sl ys q4 (Sto.ofList [Ob.mk 94 [Fd.c (W.sl 1 0 q2 1)],Ob.mk 9 [Fd.a 0 D.str (List.take l.length (List.drop q5 l)++List.take (1:Nat) (List.drop q5 [Utf8.encode q1]))]]) true))) (by kernel_rfl)
   try simp only [true_and,Nat.zero_add,decide_eq_true_eq,decide_eq_false_iff_not,Int.not_lt,List.drop_zero,List.take_length,List.take_succ_cons,List.take_zero,Nat.le_refl]
   have hd:=decT_size n h4
   have hsm:(⟨#[94,45]⟩++decT n:ByteArray).size=2+(decT n).size:=by rw [ByteArray.size_append];rfl
   have hsp:(⟨#[94]⟩++decT n:ByteArray).size=1+(decT n).size:=by rw [ByteArray.size_append];rfl
   have hRl:=congrArg List.length h
   simp only [List.length_append,List.length_map,List.length_cons] at hRl
   have hR1:=hR.1
   have hle:((l.length+1)*16).le 140737488355328:=by show (l.length+1)*16<=_;omega
   have ih:∀ p,p=pieceS [x,(n:Int)]->_:=fun p hp=>text_rng R hR ys (l++[p]) (by rw [h,hp];simp) (fun y hy=>hx y (by simp [hy]))
   have hps:pieceS [x,(n:Int)]=pieceB x n:=rfl
   rw [hps] at ih
   unfold pieceB at ih
   rw [letter_enc h1 h2,hsm,hsp,one_size]
   refine ⟨fun hx0=>⟨by omega,by omega,by omega,hle,?_⟩,fun hx0=>⟨fun hn=>⟨by omega,by omega,by omega,hle,?_⟩,fun hn=>⟨hle,?_⟩⟩⟩
   . rw [if_pos hx0] at ih
     have:=ih _ rfl
     rw [List.length_append] at this
     exact this
   . rw [if_neg (by omega),if_pos (by omega)] at ih
     have:=ih _ rfl
     rw [List.length_append] at this
     exact this
   . rw [if_neg (by omega),if_neg (by omega)] at ih
     have:=ih _ rfl
     rw [List.length_append] at this
     exact this
theorem text_rng0 (R:List ByteArray) (hR:R.length<=4000/\(R≠[]->(joinT R starS).size<=1000000)):∀ (ys:List (List Int)),R=ys.map pieceS->(∀ y∈ys,GoodY 16 y)->
 AtYield sTx (Says1 (txA (if R=[] then oneS else joinT R starS) 0) []) pTx (.sl (.int .i64)) ys (fr [(5,.p (.c (.ptr 0 0)))]) (.ofList [⟨94,[.c .nil]⟩]) true
 | [],h,_=>by
   refine atYield_nil gTx_ok rfl 100 ?_
   apply of_eq (q:=(decide ((0:Int)=(0:Int))=true->packV [V.c (W.str (ByteArray.mk #[(49:UInt8)])),V.c (W.int .i64 (0))]=txA (if R=[] then oneS else joinT R starS) (0:Int)/\([]:List Ob)=[])/\(decide ((0:Int)=(0:Int))=false->((0:Nat)<=(100000:Nat)/\(0:Nat)<=(1000000:Nat))/\packV [V.c (W.str (joinT [] (ByteArray.mk #[(42:UInt8)]))),V.c (W.int .i64 (0))]=txA (if R=[] then oneS else joinT R starS) (0:Int)/\([]:List Ob)=[])) (by kernel_rfl)
   try simp only [and_true,decide_eq_true_eq,decide_eq_false_iff_not]
   rw [List.map_nil] at h
   rw [if_pos h]
   exact ⟨fun _=>rfl,fun h=>absurd trivial h⟩
 | y :: ys, h, hx => by
   obtain ⟨x,n,rfl,h1,h2,h3,h4⟩:=hx y (by simp)
   refine atYield_consK2 gTx_ok 1 (by kernel_rfl) 100 ?_
   apply of_eq (q:=let q1:=(IntKind.i32.wrap (IntKind.u64.wrap (IntKind.u64.wrap ((97:Int)+sz x)-(1:Int))));let q2:=(9223372036854775807:Nat);let q3:=(1:Nat);let q4:=(fr [(5,A.p (V.c (W.ptr 0 0)))]);let q5:=(ByteArray.mk #[(94:UInt8),(45:UInt8)]++decT n);(decide (x<(0:Int))=true->((0:Int)<=(n:Int)/\(n:Int)<(100:Int))/\(2:Nat)+(decT n).size<=q2/\(Utf8.encode q1).size+q5.size<=q2/\(0:Nat)+q3<=q3/\(q3*(16:Nat)).le (140737488355328:Nat)/\AtYield sTx (Says1 (txA (if R=[] then oneS else joinT R starS) (0:Int)) []) [0,1,0,1,1,1] (D.int .i64).sl ys q4 (Sto.ofList [Ob.mk 94 [Fd.c (W.sl 1 0 1 1)],Ob.mk 9 [Fd.a 0 D.str (List.take q3 (List.drop (0:Nat) [Utf8.encode q1++q5]))]]) true)/\(decide (x<(0:Int))=false->(decide ((1:Int)<(n:Int))=true->((0:Int)<=(n:Int)/\(n:Int)<(100:Int))/\q3+(decT n).size<=q2/\(Utf8.encode q1).size+(ByteArray.mk #[(94:UInt8)]++decT n).size<=q2/\(0:Nat)+q3<=q3/\(q3*(16:Nat)).le (140737488355328:Nat)/\AtYield sTx (Says1 (txA (if R=[] then oneS else joinT R starS) (0:Int)) []) [0,1,0,1,1,1] (D.int .i64).sl ys q4 (Sto.ofList [Ob.mk 94 [Fd.c (W.sl 1 0 1 1)],Ob.mk 9 [Fd.a 0 D.str (List.take q3 (List.drop (0:Nat) [Utf8.encode q1++(ByteArray.mk #[(94:UInt8)]++decT n)]))]]) true)/\(decide ((1:Int)<(n:Int))=false->(0:Nat)+q3<=q3/\(q3*(16:Nat)).le (140737488355328:Nat)/\AtYield sTx (Says1 (txA (if R=[] then oneS else joinT R starS) (0:Int)) []) [0,1,0,1,1,1] (D.int .i64).sl ys q4 (Sto.ofList [Ob.mk 94 [Fd.c (W.sl 1 0 1 1)],Ob.mk 9 [Fd.a 0 D.str (List.take q3 (List.drop (0:Nat) [Utf8.encode q1]))]]) true))) (by kernel_rfl)
   try simp only [true_and,Nat.zero_add,decide_eq_true_eq,decide_eq_false_iff_not,Int.not_lt,List.drop_zero,List.take_succ_cons,List.take_zero,Nat.le_refl]
   have hd:=decT_size n h4
   have hsm:(⟨#[94,45]⟩++decT n:ByteArray).size=2+(decT n).size:=by rw [ByteArray.size_append];rfl
   have hsp:(⟨#[94]⟩++decT n:ByteArray).size=1+(decT n).size:=by rw [ByteArray.size_append];rfl
   have hle:(1*16).le 140737488355328:=by show 1*16<=_;omega
   have ih:∀ p,p=pieceS [x,(n:Int)]->_:=fun p hp=>text_rng R hR ys [p] (by rw [h,hp];simp) (fun y hy=>hx y (by simp [hy]))
   have hps:pieceS [x,(n:Int)]=pieceB x n:=rfl
   rw [hps] at ih
   unfold pieceB at ih
   rw [letter_enc h1 h2,hsm,hsp,one_size]
   refine ⟨fun hx0=>⟨by omega,by omega,by omega,hle,?_⟩,fun hx0=>⟨fun hn=>⟨by omega,by omega,by omega,hle,?_⟩,fun hn=>⟨hle,?_⟩⟩⟩
   . rw [if_pos hx0] at ih
     exact ih _ rfl
   . rw [if_neg (by omega),if_pos (by omega)] at ih
     exact ih _ rfl
   . rw [if_neg (by omega),if_neg (by omega)] at ih
     exact ih _ rfl
theorem checkW_good {a:List Int} (ha:GoodW 16 a) (hl:a.length<100):checkW a 16=0:=by
 unfold checkW
 rw [if_neg (by omega),if_neg (by omega),if_neg]
 rw [Bool.not_eq_true,List.any_eq_false]
 intro x hx
 have:=ha x hx
 simp only [badLw,Bool.or_eq_true,decide_eq_true_eq]
 omega
theorem text_sem (a:List Int) (ha:GoodW 16 a) (hl:a.length<100):FnSem Tryd.prog 29 [lsI a] [] (txA (textS a) 0) []:=by
 refine fnSem_at (live:=liveTx) gTx_ok Tryd.func29 (by kernel_rfl) (keep:=0) rfl (by kernel_rfl) 100 ?_
 apply of_eq (q:=a.length<=(1000000:Nat)/\((!decide (checkW a (16:Int)=(0:Int)))=true->packV [V.c (W.str (ByteArray.mk #[])),V.c (W.int .i64 (checkW a (16:Int)))]=txA (textS a) (0:Int)/\([]:List Ob)=[])/\((!decide (checkW a (16:Int)=(0:Int)))=false->AtRange (mkSite Tryd.prog gTx Tryd.f29 (0:Nat) liveTx) (Says1 (txA (textS a) (0:Int)) []) [0,1,0,1,1,1] (fr [(5,A.p (V.c (W.ptr 0 0))),(15,A.p (V.c (W.func 60 [(1,(0:Nat))])))]) (Sto.ofList [Ob.mk 94 [Fd.c W.nil],Ob.mk 41 [Fd.c (W.rd (D.int .i64) a)]]))) (by kernel_rfl)
 try simp only [and_true,Bool.not_eq_true',Bool.not_eq_false',decide_eq_true_eq,decide_eq_false_iff_not]
 have hc:=checkW_good ha hl
 refine ⟨by omega,fun h=>absurd hc h,fun _=>?_⟩
 have hsz:=textS_size (g:=16) (Int.le_refl _) ha hl
 have hrl:=runs_len _ a (Nat.le_refl _)
 have hne:((runsL a).map pieceS=[])↔a=[]:=by
  constructor
  . intro h
    by_cases h0:a=[]
    . exact h0
    . exact absurd (List.map_eq_nil_iff.1 h) (runs_ne h0)
  . rintro rfl;rw [runsL];rfl
 have:=text_rng0 ((runsL a).map pieceS) ⟨by rw [List.length_map];omega,fun h=>?_⟩ (runsL a) rfl (runs_good _ a (Nat.le_refl _) hl ha)
 . have e:(if (runsL a).map pieceS=[] then oneS else joinT ((runsL a).map pieceS) starS)=textS a:=by
    unfold textS
    by_cases h0:a=[]
    . rw [if_pos h0,if_pos (hne.2 h0)]
    . rw [if_neg h0,if_neg (fun h=>h0 (hne.1 h))]
   rw [e] at this
   exact atRange_at rfl (by kernel_rfl) (runs_iter a (by omega)) this
 . unfold textS at hsz
   rw [if_neg (fun h0=>h (hne.2 h0))] at hsz
   omega
def cText:Con:=con1 dI fun a=>(.p (GoodW 16 a/\List.length (α:=Int) a<100),txA (textS a) 0,[])
theorem cText_ok:ConOk Tryd.prog 29 cText:=con1_ok (by kernel_rfl) fun a h=>text_sem a h.1 h.2
end Go.Proofs.YtejehoihhphpiaaDoor

namespace Go.Proofs.YtejehoihhphpiaaDoor
open Go.Loom Go.Words
set_option maxRecDepth 100000
/-! ### A number from 0 on -/
def turnI (x n:Int):Int:=Int.tmod (Int.tmod x n+n) n
theorem turn_sem (x n:Int) (h1:1<=n) (h2:n<=1000):FnSem Tryd.prog 6 [nI x,nI n] [] (nI (turnI x n)) []:=by
 refine fnSem_at (live:=[]) gamOk_nil Tryd.func6 (by kernel_rfl) (keep:=0) rfl (by kernel_rfl) 100 ?_
 apply of_eq (q:=n≠(0:Int)/\n≠(0:Int)/\packV [V.c (W.int .i64 ((IntKind.i64.wrap (x.tmod n+n)).tmod n))]=nI (turnI x n)/\([]:List Ob)=[]) (by kernel_rfl)
 try simp only [and_true,ne_eq]
 have h3:=Int.lt_tmod_of_pos x (show 0<n by omega)
 have h4:=Int.tmod_lt_of_pos x (show 0<n by omega)
 rw [wrap64 (n:=x.tmod n+n) (by omega) (by omega)]
 exact ⟨by omega,by omega,rfl⟩
def cTurn:Con:=con2 (.int .i64) (.int .i64) fun x n=>(.p (1<=(show Int from n)/\(show Int from n)<=1000),nI (turnI x n),[])
theorem cTurn_ok:ConOk Tryd.prog 6 cTurn:=con2_ok (by kernel_rfl) fun x n h=>turn_sem x n h.1 h.2
theorem turn_range (x n:Int) (h:1<=n):0<=turnI x n/\turnI x n<n:=by
 unfold turnI
 have h1:=Int.lt_tmod_of_pos x (show 0<n by omega)
 exact ⟨Int.tmod_nonneg _ (by omega),Int.tmod_lt_of_pos _ (by omega)⟩
/-! ### Letters and words -/
def ltrI (c:Int):Int:=if Int.tmod c 2=0 then Int.tdiv c 2+1 else 0-(Int.tdiv c 2+1)
theorem letter_sem (c:Int) (h:0<=c/\c<=1000):FnSem Tryd.prog 55 [nI c] [] (nI (ltrI c)) []:=by
 refine fnSem_at (live:=[]) gamOk_nil Tryd.func55 (by kernel_rfl) (keep:=0) rfl (by kernel_rfl) 100 ?_
 apply of_eq (q:=let q0:=IntKind.i64.wrap;(2:Int)≠(0:Int)/\(decide (c.tmod (2:Int)=(0:Int))=true->(2:Int)≠(0:Int)/\packV [V.c (W.int .i64 (q0 (q0 (c.tdiv (2:Int))+(1:Int))))]=nI (ltrI c)/\([]:List Ob)=[])/\(decide (c.tmod (2:Int)=(0:Int))=false->(2:Int)≠(0:Int)/\packV [V.c (W.int .i64 (q0 ((0:Int)-q0 (q0 (c.tdiv (2:Int))+(1:Int)))))]=nI (ltrI c)/\([]:List Ob)=[])) (by kernel_rfl)
 try simp only [true_and,and_true,decide_eq_true_eq,decide_eq_false_iff_not,ne_eq,Int.reduceEq,not_false_eq_true]
 have e:c.tdiv 2=c / 2:=Int.tdiv_eq_ediv_of_nonneg (by omega)
 rw [wrap64 (n:=c.tdiv 2) (by omega) (by omega),wrap64 (n:=c.tdiv 2+1) (by omega) (by omega),wrap64 (n:=0-(c.tdiv 2+1)) (by omega) (by omega)]
 refine ⟨fun h1=>?_,fun h1=>?_⟩
 . rw [ltrI,if_pos h1];rfl
 . rw [ltrI,if_neg h1];rfl
def cLetter:Con:=con1 (.int .i64) fun c=>(.p (0<=(show Int from c)/\(show Int from c)<=1000),nI (ltrI c),[])
theorem cLetter_ok:ConOk Tryd.prog 55 cLetter:=con1_ok (by kernel_rfl) fun c h=>letter_sem c h
def wordO (g:Int) (l:List Int):List Int:=l.map fun x=>ltrI (turnI x (2*g))
noncomputable def gWof:Gam:=[(6,cTurn),(55,cLetter)]
theorem gWof_ok:GamOk Tryd.prog gWof:=gamOk_cons cTurn_ok (gamOk_cons cLetter_ok gamOk_nil)
noncomputable def sWof:Site:=mkSiteF Tryd.prog gWof Tryd.f41 0 [([0,1,0,1,1],[0,1,5,6])] [] [some dI]
theorem wo_loop (g:Int) (l:List Int) (hg:1<=g/\g<=16) (hl:l.length<=1000):∀ (n i:Nat),n=l.length-i->i<=l.length->
 AtLoop sWof (Says1 (lsI (wordO g l)) []) [0,1,0,1,1] (fr [(0,lsI l),(1,nI g),(5,slI 0 i),(6,nI i)]) (.ofList [obI (wordO g (l.take i))])
 | n, i, hn, hi => by
   refine atLoop_at gWof_ok (by kernel_rfl) 100 ?_
   apply of_eq (q:=let q0:=IntKind.i64.wrap;let q1:=(wordO g (List.take i l));let q2:=(q0 ((2:Int)*g));(decide ((i:Int)<(l.length:Int))=true->((0:Int)<=(i:Int)/\(i:Int)<(l.length:Int))/\i<l.length/\((1:Int)<=q0 ((2:Int)*g)/\q0 ((2:Int)*g)<=(1000:Int))/\((0:Int)<=turnI (l.getD i (0:Int)) q2/\turnI (l.getD i (0:Int)) q2<=(1000:Int))/\(0:Nat)+(1:Nat)<=(1:Nat)/\((0:Nat)+i<=q1.length/\(i+(1:Nat))*(8:Nat)<=(140737488355328:Nat))/\AtLoop sWof (Says1 (lsI (wordO g l)) []) [0,1,0,1,1] (fr [(0,lsI l),(1,nI g),(5,A.p (V.c (W.sl 0 0 (i+(1:Nat)) 1))),(6,nI (q0 ((i:Int)+(1:Int))))]) (Sto.ofList [Ob.mk 3 [Fd.a 0 (D.int .i64) (List.take i (List.drop (0:Nat) q1)++List.take (1:Nat) (List.drop (0:Nat) [ltrI (turnI (l.getD i (0:Int)) q2)]))]]))/\(decide ((i:Int)<(l.length:Int))=false->(0:Nat)+i<=q1.length/\packV [V.c (W.rd (D.int .i64) (List.take i (List.drop (0:Nat) q1)))]=lsI (wordO g l)/\([]:List Ob)=[])) (by kernel_rfl)
   try simp only [true_and,and_true,Nat.zero_add,decide_eq_true_eq,decide_eq_false_iff_not,Int.not_lt,List.drop_zero,List.take_succ_cons,List.take_zero,Nat.le_refl]
   have hlw:(wordO g (l.take i)).length=i:=by simp [wordO];omega
   have t:=turn_range (l.getD i 0) (2*g) (by omega)
   rw [wrap64 (n:=2*g) (by omega) (by omega),wrap64 (n:=(i:Int)+1) (by omega) (by omega),List.take_of_length_le (show (wordO g (l.take i)).length<=i by omega)]
   refine ⟨fun h=>⟨by omega,by omega,by omega,by omega,⟨by omega,by omega⟩,?_⟩,fun h=>⟨by omega,?_⟩⟩
   . have hi':i<l.length:=by omega
     have e:wordO g (l.take i)++[ltrI (turnI (l.getD i 0) (2*g))]=wordO g (l.take (i+1)):=by
      rw [take_snoc hi',wordO,wordO,List.map_append];rfl
     rw [e]
     cases n with
     | zero=>omega
     | succ n=>exact wo_loop g l hg hl n (i+1) (by omega) (by omega)
   . rw [List.take_of_length_le (show l.length<=i by omega)];rfl
theorem wo_sem (g:Int) (l:List Int) (hg:1<=g/\g<=16) (hl:l.length<=1000):FnSem Tryd.prog 41 [lsI l,nI g] [] (lsI (wordO g l)) []:=by
 refine fnSemF_at (live:=[([0,1,0,1,1],[0,1,5,6])]) (fzl:=[]) (fz:=[some dI]) gWof_ok Tryd.func41 (by kernel_rfl) (keep:=0) rfl (by kernel_rfl) 100 ?_
 apply of_eq (q:=AtLoop (mkSiteF Tryd.prog gWof Tryd.f41 (0:Nat) [([0,1,0,1,1],[0,1,5,6])] [] [some dI]) (Says1 (lsI (wordO g l)) []) [0,1,0,1,1] (fr [(0,lsI l),(1,nI g),(5,A.p (V.c (W.sl 0 0 0 1))),(6,nI (0))]) (Sto.ofList [Ob.mk 3 [Fd.a 0 (D.int .i64) []]])) (by kernel_rfl)
 exact wo_loop g l hg hl l.length 0 rfl (by omega)
def cWof:Con:=con2 dI (.int .i64) fun l g=>(.p ((1<=(show Int from g)/\(show Int from g)<=16)/\List.length (α:=Int) l<=1000),lsI (wordO g l),[])
theorem cWof_ok:ConOk Tryd.prog 41 cWof:=con2_ok (by kernel_rfl) fun l g h=>wo_sem g l h.1 h.2
/-! ### Several words -/
def wordsG (g most:Int):Nat->List Int->List (List Int)->List (List Int)
 | 0,_,acc=>acc
 | f+1,l,acc=>match l with
   | []=>acc
   | x::l=>wordsG g most f (l.drop (min (turnI x (most+1)) l.length).toNat) (acc++[wordO g (l.take (min (turnI x (most+1)) l.length).toNat)])
theorem wordsG_nil (g most:Int) (n:Nat) (acc:List (List Int)):wordsG g most n [] acc=acc:=by cases n <;> rfl
noncomputable def gWsf:Gam:=[(6,cTurn),(41,cWof)]
theorem gWsf_ok:GamOk Tryd.prog gWsf:=gamOk_cons cTurn_ok (gamOk_cons cWof_ok gamOk_nil)
noncomputable def sWsf:Site:=mkSiteF Tryd.prog gWsf Tryd.f21 0 [([0,0,1,1],[0,1,2,7])] [] [some dL]
theorem ws_loop (g most:Int) (hg:1<=g/\g<=16) (hm:0<=most/\most<=100) (R:List (List Int)):∀ (n:Nat) (l:List Int) (acc:List (List Int)),l.length<=n->n+acc.length<=1000->R=wordsG g most n l acc->
 AtLoop sWsf (Says1 (llI R) []) [0,0,1,1] (fr [(0,lsI l),(1,nI g),(2,nI most),(7,slI 0 acc.length)]) (.ofList [obLL acc])
 | n,l,acc,hl,hn,hr=>by
   refine atLoop_at gWsf_ok (by kernel_rfl) 100 ?_
   apply of_eq (q:=let q0:=IntKind.i64.wrap;let q2:=(l.length:Int);let q1:=((1:Int)+min (turnI (l.getD (0:Nat) (0:Int)) (q0 (most+(1:Int)))) (q0 (q2-(1:Int))));let q3:=(List.drop (1:Nat) (List.take (q0 q1).toNat l));(decide ((0:Int)<q2)=true->((0:Int)<=(0:Int)/\(0:Int)<q2)/\(0:Nat)<l.length/\((1:Int)<=q0 (most+(1:Int))/\q0 (most+(1:Int))<=(1000:Int))/\((0:Int)<=(1:Int)/\(1:Int)<=q0 q1/\q0 q1<=q2)/\(((1:Int)<=g/\g<=(16:Int))/\q3.length<=(1000:Nat))/\(0:Nat)+(1:Nat)<=(1:Nat)/\((0:Nat)+acc.length<=acc.length/\(acc.length+(1:Nat))*(24:Nat)<=(140737488355328:Nat))/\((0:Int)<=q0 q1/\q0 q1<=q2/\q2<=q2)/\AtLoop sWsf (Says1 (llI R) []) [0,0,1,1] (fr [(0,lsI (List.drop (q0 q1).toNat (List.take l.length l))),(1,nI g),(2,nI most),(7,A.p (V.c (W.sl 0 0 (acc.length+(1:Nat)) 1)))]) (Sto.ofList [Ob.mk 41 [Fd.a 0 (D.int .i64).sl (List.take acc.length (List.drop (0:Nat) acc)++List.take (1:Nat) (List.drop (0:Nat) [wordO g q3]))]]))/\(decide ((0:Int)<q2)=false->(0:Nat)+acc.length<=acc.length/\packV [V.c (W.rd (D.int .i64).sl (List.take acc.length (List.drop (0:Nat) acc)))]=llI R/\([]:List Ob)=[])) (by kernel_rfl)
   try simp only [true_and,and_true,Nat.zero_add,decide_eq_true_eq,decide_eq_false_iff_not,Int.not_lt,List.drop_zero,List.take_length,List.take_succ_cons,List.take_zero,Nat.le_refl,Int.le_refl]
   cases l with
   | nil=>exact ⟨fun h=>by simp at h,fun _=>by rw [hr,wordsG_nil];rfl⟩
   | cons x l =>
     refine ⟨fun _=>?_,fun h=>by simp at h;omega⟩
     have t:=turn_range x (most+1) (by omega)
     simp only [List.length_cons] at hl ⊢
     have e0:(x::l).getD 0 0=x:=rfl
     have e1:IntKind.i64.wrap (most+1)=most+1:=wrap64 (by omega) (by omega)
     have e2:IntKind.i64.wrap (((l.length+1:Nat):Int)-1)=(l.length:Int):=by rw [wrap64 (by omega) (by omega)];omega
     have e3:IntKind.i64.wrap (1+min (turnI x (most+1)) (l.length:Int))=1+min (turnI x (most+1)) (l.length:Int):=wrap64 (by omega) (by omega)
     simp only [e0,e1,e2,e3]
     cases n with
     | zero=>omega
     | succ n =>
       simp only [wordsG] at hr
       have hm1:0<=min (turnI x (most+1)) (l.length:Int):=by omega
       have hm2:min (turnI x (most+1)) (l.length:Int)<=l.length:=by omega
       revert hm1 hm2 hr
       generalize min (turnI x (most+1)) (l.length:Int)=m
       intro hr hm1 hm2
       have e4:(1+m).toNat=m.toNat+1:=by omega
       rw [e4,List.take_succ_cons,List.drop_succ_cons,List.drop_succ_cons,List.drop_zero]
       refine ⟨by omega,by omega,by omega,by omega,⟨hg,by simp;omega⟩,by omega,by omega,?_⟩
       have:=ws_loop g most hg hm R n (l.drop m.toNat) (acc++[wordO g (l.take m.toNat)]) (by simp;omega) (by simp;omega) hr
       rw [List.length_append] at this
       exact this
theorem ws_sem (g most:Int) (l:List Int) (hg:1<=g/\g<=16) (hm:0<=most/\most<=100) (hl:l.length<=1000):FnSem Tryd.prog 21 [lsI l,nI g,nI most] [] (llI (wordsG g most l.length l [])) []:=by
 refine fnSemF_at (live:=[([0,0,1,1],[0,1,2,7])]) (fzl:=[]) (fz:=[some dL]) gWsf_ok Tryd.func21 (by kernel_rfl) (keep:=0) rfl (by kernel_rfl) 100 ?_
 apply of_eq (q:=AtLoop (mkSiteF Tryd.prog gWsf Tryd.f21 (0:Nat) [([0,0,1,1],[0,1,2,7])] [] [some dL]) (Says1 (llI (wordsG g most l.length l [])) []) [0,0,1,1] (fr [(0,lsI l),(1,nI g),(2,nI most),(7,A.p (V.c (W.sl 0 0 0 1)))]) (Sto.ofList [Ob.mk 41 [Fd.a 0 (D.int .i64).sl []]])) (by kernel_rfl)
 exact ws_loop g most hg hm _ l.length l [] (by omega) (by simp;omega) rfl
def cWs:Con:=con3 dI (.int .i64) (.int .i64) fun l g m=>(.p ((1<=(show Int from g)/\(show Int from g)<=16)/\(0<=(show Int from m)/\(show Int from m)<=100)/\List.length (α:=Int) l<=1000),llI (wordsG g m (List.length (α:=Int) l) l []),[])
theorem cWs_ok:ConOk Tryd.prog 21 cWs:=con3_ok (by kernel_rfl) fun l g m h=>ws_sem g m l h.1 h.2.1 h.2.2
end Go.Proofs.YtejehoihhphpiaaDoor
