/- strings.Join of a list of strings. -/
import Derived.Test.YtdpbidkgdnnamaaGreatDoorShelf1
import Derived.Test.YtdpbidkgdnnamaaGreatDoorWord1
import Derived.Test.YtdpbidkgdnnamaaGreatDoorLoom4
open List renaming take->acP,drop->acQ,length->acS,length_append->acT,take_of_length_le->acV,length_cons->acX,drop_eq_nil_of_le->acZ,eq_nil_of_length_eq_zero->ac0,replicate->ac1,map_append->ac4,length_map->ac5,map_congr_left->ac6,drop_succ_cons->ac7,take_left->adf,any_cons->adg,map_map->adh,map_nil->adj
open ByteArray renaming mk->acR,size_append->acW
open Int renaming fdiv_eq_ediv_of_nonneg->acU,lt_tmod_of_pos->ac8,tmod_lt_of_pos->ac9,toNat_natCast->ada,tmod->adk
open Nat renaming mul_le_mul_right->acY,le_refl->ac2,lt_or_ge->ac3,min_eq_left->adb,succ_mul->adi,one_mul->adl
open Bool renaming or_eq_true->ade
noncomputable section
namespace Go.Proofs.YtdpbidkgdnnamaaGreatDoor
open Go.aW Go.RowKit
set_option maxRecDepth 100000
abbrev dS:D:=.sl .str
abbrev ou(l:List ByteArray):A:=.p (.c (.rd .str l))
abbrev cV(s:ByteArray):A:=.p (.c (.str s))
def gD(xs:List ByteArray)(sep:ByteArray):ByteArray:=⟨(Lib.join (xs.map (·.data.toList)) sep.data.toList).toArray⟩
theorem aan{P:Program}{f:FuncId}{args:List A}{d:D}{y:d.ty}(h:∀(base:Nat) (η:Eta) (Z:aF) (w:World) vs,St base η Z (.ofList []) w->bp (cN η Z) args vs->Calls P f vs.toArray w fun e w'=>∃ u,e=.returned u/\(∀ Z:aF,cW Z d y u)/\Below w.heap.size w w'):bA P f args [] (dat d y) [] :=
 Ay fun base η Z w vs R hvs _=>h base η Z w vs R hvs
theorem aao(xs : List ByteArray)(sep : ByteArray)(h : xs.length ≤ 100000 ∧ (gD xs sep).size ≤ 1000000) : bA Tryz.prog 69 [ou xs, cV sep] [] (cV (gD xs sep)) [] :=
 aan (d := .str) (y := gD xs sep) fun base η Z w vs R hvs => by
  match vs,hvs with
  | [v, s], ⟨⟨_, h1⟩, ⟨_, h2⟩, _⟩ =>
    have h2:s=.string sep:=h2;subst h2;obtain⟨a,len,c,rfl,hl,hc,hx⟩:=aJ.rd h1;subst hl;by_cases h0:xs=[];subst h0;exact(Tryz.strings_Join_none a c sep w).mono fun e w' ⟨he,hw⟩=>⟨_,he,fun _=>rfl,hw▸Below.refl _ _⟩;rcases hx with hx|⟨b,off,cells,rfl,hb,hd⟩;exact absurd hx h0;obtain⟨ty,fz,hw⟩:=R.zs b cells hb;refine(Tryz.strings_Join b off c xs sep w (fun j x hj=>?_) (dN hw) (by omega) hc ?_).mono fun e w' ⟨he,hB⟩=>⟨_,he,fun _=>rfl,hB⟩;obtain⟨u,e1,e2⟩:=hd j x hj;have e2:u=.string x:=e2;subst e2;simp[World.cell?,hw,e1];have:=h.2;have e:(gD xs sep).size=(Lib.join (xs.map (·.data.toList)) sep.data.toList).length:=by simp[gD,ByteArray.size]
    omega
def cJoin:bQ:=kJ dS .str fun xs sep=>(.p (acS (α:=ByteArray) xs<=100000/\(gD xs sep).size<=1000000),cV (gD xs sep),[])
theorem aap:aM Tryz.prog 69 cJoin:=gF (by kernel_rfl) fun xs s h=>aao xs s h
end Go.Proofs.YtdpbidkgdnnamaaGreatDoor
namespace Go.Proofs.YtdpbidkgdnnamaaGreatDoor
open Go.aW
set_option maxRecDepth 100000
def fw(n:Nat):ByteArray:=if n<10 then ⟨#[UInt8.ofNat (48+n)]⟩ else ⟨#[UInt8.ofNat (48+n/10),UInt8.ofNat (48+n%10)]⟩
theorem WA(n:Nat)(h:n<100):bA Tryz.prog 111 [nI n] [] (.p (.c (.str (fw n)))) []:=by
 refine bU (aj:=[]) aG Tryz.func111 (by kernel_rfl) (ay:=0) rfl (by kernel_rfl) 100 ?_;apply of_eq (q:=let q0:=IntKind.i64.wrap;let q1:=(48:UInt8);let q2:=(49:UInt8);let q3:=(50:UInt8);let q4:=(51:UInt8);let q5:=(52:UInt8);let q6:=(53:UInt8);let q7:=(54:UInt8);let q8:=(55:UInt8);let q9:=(56:UInt8);let aX:=(57:UInt8);let bL:=(n:Int);let bH:=(q0 (bL*2)+2);(decide (bL<10)=true->((0:Int)<=bL/\bL<=q0 (bL+1)/\q0 (bL+1)<=(↑(36:Nat):Int))/\aE [V.c (W.str ((acR #[q1,q2,q3,q4,q5,q6,q7,q8,q9,aX,(97:UInt8),(98:UInt8),(99:UInt8),(100:UInt8),(101:UInt8),(102:UInt8),(103:UInt8),(104:UInt8),(105:UInt8),(106:UInt8),(107:UInt8),(108:UInt8),(109:UInt8),(110:UInt8),(111:UInt8),(112:UInt8),(113:UInt8),(114:UInt8),(115:UInt8),(116:UInt8),(117:UInt8),(118:UInt8),(119:UInt8),(120:UInt8),(121:UInt8),(122:UInt8)]).extract n (q0 (bL+1)).toNat))]=aP (W.str (fw n))/\([]:List Ob)=[])/\(decide (bL<10)=false->((0:Int)<=q0 (bL*2)/\q0 (bL*2)<=q0 bH/\q0 bH<=(↑(200:Nat):Int))/\aE [V.c (W.str ((acR (([q1,q1,q1,q2,q1,q3,q1,q4,q1,q5,q1,q6,q1,q7,q1,q8,q1,q9,q1,aX,q2,q1,q2,q2,q2,q3,q2,q4,q2,q5,q2,q6,q2,q7,q2,q8,q2,q9,q2,aX,q3,q1,q3,q2,q3,q3,q3,q4,q3,q5].append [q3,q6,q3,q7,q3,q8,q3,q9,q3,aX,q4,q1,q4,q2,q4,q3,q4,q4,q4,q5,q4,q6,q4,q7,q4,q8,q4,q9,q4,aX,q5,q1,q5,q2,q5,q3,q5,q4,q5,q5,q5,q6,q5,q7,q5,q8,q5,q9,q5,aX]).append ([q6,q1,q6,q2,q6,q3,q6,q4,q6,q5,q6,q6,q6,q7,q6,q8,q6,q9,q6,aX,q7,q1,q7,q2,q7,q3,q7,q4,q7,q5,q7,q6,q7,q7,q7,q8,q7,q9,q7,aX,q8,q1,q8,q2,q8,q3,q8,q4,q8,q5].append [q8,q6,q8,q7,q8,q8,q8,q9,q8,aX,q9,q1,q9,q2,q9,q3,q9,q4,q9,q5,q9,q6,q9,q7,q9,q8,q9,q9,q9,aX,aX,q1,aX,q2,aX,q3,aX,q4,aX,q5,aX,q6,aX,q7,aX,q8,aX,q9,aX,aX])).toArray).extract (q0 (bL*2)).toNat (q0 bH).toNat))]=aP (W.str (fw n))/\([]:List Ob)=[])) (by kernel_rfl)
 try simp only[sL]
 rw[wrap64 (n:=(n:Int)+1) (by omega) (by omega),wrap64 (n:=(n:Int)*2) (by omega) (by omega),wrap64 (n:=(n:Int)*2+2) (by omega) (by omega),show ((n:Int)+1).toNat=n+1 by omega,show ((n:Int)*2).toNat=n*2 by omega,show ((n:Int)*2+2).toNat=n*2+2 by omega];refine⟨fun hn=>⟨by omega,congrArg (fun s=>A.p (V.c (W.str s))) ?_⟩,fun hn=>⟨by omega,congrArg (fun s=>A.p (V.c (W.str s))) ?_⟩⟩;revert n;decide +kernel;revert n;decide +kernel
theorem SR(n:Int)(h:0<=n/\n<100):bA Tryz.prog 111 [nI n] [] (.p (.c (.str (fw n.toNat)))) []:=by
 have:=WA n.toNat (by omega)
 rwa [show ((n.toNat:Nat):Int)=n by omega] at this
def WB:bQ:=kI (.int .i64) fun n=>(.p (0<=(show Int from n)/\(show Int from n)<100),.p (.c (.str (fw (show Int from n).toNat))),[])
theorem WC:aM Tryz.prog 111 WB:=gE (by kernel_rfl) fun n h=>SR n h
def gFi:bW:=[(111,WB)]
theorem gFi_ok:bt Tryz.prog gFi:=ar WC aG
theorem fi_sem(n:Int)(h:0<=n/\n<100):bA Tryz.prog 92 [nI n,nI 10] [] (.p (.c (.str (fw n.toNat)))) []:=by
 refine bU (aj:=[]) gFi_ok Tryz.func92 (by kernel_rfl) (ay:=0) rfl (by kernel_rfl) 100 ?_;apply of_eq (q:=let q1:=decide ((0:Int)<=n);(decide ((10:Int)=10)=true->(q1=true->q1=true)/\(q1=true->q1=true)/\((bif q1 then decide (n<100) else false)=true->((0:Int)<=n/\n<100)/\aE [V.c (W.str (fw n.toNat))]=aP (W.str (fw n.toNat))/\([]:List Ob)=[])/\((bif q1 then decide (n<100) else false)=false->(decide (n<0)=true->False)/\(decide (n<0)=false->False)))/\(decide ((10:Int)=10)=false->False)) (by kernel_rfl)
 try simp only[sL]
 exact⟨fun _=>⟨fun _=>⟨h,rfl⟩,fun g=>by have:=g h.1;omega⟩,fun g=>absurd trivial g⟩
def cFi:bQ:=kJ (.int .i64) (.int .i64) fun n b=>(.p ((show Int from b)=10/\0<=(show Int from n)/\(show Int from n)<100),.p (.c (.str (fw (show Int from n).toNat))),[])
theorem cFi_ok:aM Tryz.prog 92 cFi:=gF (by kernel_rfl) fun n b h=>by
 obtain⟨rfl,h2⟩:=h;exact fi_sem n h2
def gIt:bW:=[(92,cFi)]
theorem gIt_ok:bt Tryz.prog gIt:=ar cFi_ok aG
theorem it1_sem(n:Int)(h:0<=n/\n<100):bA Tryz.prog 65 [nI n] [] (.p (.c (.str (fw n.toNat)))) []:=by
 refine bU (aj:=[]) gIt_ok Tryz.func65 (by kernel_rfl) (ay:=0) rfl (by kernel_rfl) 100 ?_;apply of_eq (q:=((10:Int)=10/\(0:Int)<=n/\n<100)/\aE [V.c (W.str (fw n.toNat))]=aP (W.str (fw n.toNat))/\([]:List Ob)=[]) (by kernel_rfl)
 try simp only[sL]
 exact⟨h,rfl⟩
def cIt1:bQ:=kI (.int .i64) fun n=>(.p (0<=(show Int from n)/\(show Int from n)<100),.p (.c (.str (fw (show Int from n).toNat))),[])
theorem cIt1_ok:aM Tryz.prog 65 cIt1:=gE (by kernel_rfl) fun n h=>it1_sem n h
def gIt2:bW:=[(65,cIt1)]
theorem gIt2_ok:bt Tryz.prog gIt2:=ar cIt1_ok aG
theorem aaq(n:Int)(h:0<=n/\n<100):bA Tryz.prog 35 [nI n] [] (.p (.c (.str (fw n.toNat)))) []:=by
 refine bU (aj:=[]) gIt2_ok Tryz.func35 (by kernel_rfl) (ay:=0) rfl (by kernel_rfl) 100 ?_;apply of_eq (q:=((0:Int)<=n/\n<100)/\aE [V.c (W.str (fw n.toNat))]=aP (W.str (fw n.toNat))/\([]:List Ob)=[]) (by kernel_rfl)
 try simp only[sL]
 exact⟨h,rfl⟩
def cItoa:bQ:=kI (.int .i64) fun n=>(.p (0<=(show Int from n)/\(show Int from n)<100),.p (.c (.str (fw (show Int from n).toNat))),[])
theorem aar:aM Tryz.prog 35 cItoa:=gE (by kernel_rfl) fun n h=>aaq n h
end Go.Proofs.YtdpbidkgdnnamaaGreatDoor
namespace Go.Proofs.YtdpbidkgdnnamaaGreatDoor
open Go.aW Go.Words
set_option maxRecDepth 100000
theorem dK(a b:ByteArray):ai (a++b)=ai a++ai b:=by
 simp[ai,ByteArray.data_append]
theorem gG{l:List Int}(h:∀ x∈l,0<=x/\x<256):ai (bE l)=l:=by
 unfold ai bE;rw[adh]
 conv=>rhs;rw[<-List.map_id l]
 refine ac6 fun x hx=>?_;have:=h x hx;simp only[Function.comp,id];rw[UInt8.toNat_ofNat'];omega
theorem enc1{c:Int}(h:0<=c/\c<128):Utf8.encode c=bE [c]:=by
 have e:((c.toNat:Nat):Int)=c:=by omega
 rw[<-e];have:∀ n:Nat,n<128->Utf8.encode (n:Int)=bE [(n:Int)]:=by decide +kernel
 exact this _ (by omega)
theorem E9(n:Nat)(h:n<100):ai (fw n)=rz n:=by
 revert n;decide +kernel
def yK(sep:List Int):List (List Int)->List Int
 | []=>[]
 | [p]=>p
 | p::q::r=>p++sep++yK sep (q::r)
theorem SS(x y:List UInt8)(r:List (List UInt8))(sep:List UInt8):Lib.join (x::y::r) sep=x++sep++Lib.join (y::r) sep:=by
 simp[Lib.join,List.intercalate]
theorem vo(l:List UInt8):ai ⟨l.toArray⟩=l.map fun b=>(b.toNat:Int):=by simp[ai]
theorem CZ(sep:ByteArray):∀ xs:List ByteArray,ai (gD xs sep)=yK (ai sep) (xs.map ai)
 | []=>by simp[gD,vo,Lib.join,yK]
 | [x]=>by simp[gD,Lib.join,yK,ai]
 | x::y::r=>by
   have ih:=CZ sep (y::r);unfold gD at ih ⊢;rw[vo] at ih ⊢;simp only[List.map_cons] at ih ⊢;rw[SS,ac4,ac4,ih,yK];rfl
theorem Fa:∀ ps:List (List Int),yK [42] ps=lQ ps
 | []=>rfl
 | [p]=>rfl
 | p::q::r=>by rw[yK,lQ,Fa (q::r)];simp
def hatS:ByteArray:=⟨#[94]⟩
def hatM:ByteArray:=⟨#[94,45]⟩
def lD:ByteArray:=⟨#[42]⟩
def uz(x:Int)(n:Nat):ByteArray:=if x<0 then bE [96+(x.natAbs:Int)]++(hatM++fw n) else if 1<n then bE [96+(x.natAbs:Int)]++(hatS++fw n) else bE [96+(x.natAbs:Int)]
def mP(y:List Int):ByteArray:=uz (y.getD 0 0) (y.getD 1 0).toNat
theorem L5{x:Int}{n:Nat}(hx:(x.natAbs:Int)<=100)(hn:n<100):ai (uz x n)=lX x n:=by
 have e:ai (bE [96+(x.natAbs:Int)])=[96+(x.natAbs:Int)]:=gG (by simp;omega);unfold uz lX;split;rw[dK,dK,e,E9 n hn];rfl;split;rw[dK,dK,e,E9 n hn];rfl;rw[e]
theorem L6{g:Int}(hg:g<=16){y:List Int}(h:E5 g y):ai (mP y)=sA y:=by
 obtain⟨x,n,rfl,h1,h2,h3,h4⟩:=h;exact L5 (x:=x) (n:=n) (by omega) h4
def qx:ByteArray:=⟨#[49]⟩
def eC(a:List Int):ByteArray:=if a=[] then qx else gD ((eV a).map mP) lD
theorem wg{g:Int}(hg:g<=16){a:List Int}(ha:iQ g a)(hl:a.length<100):ai (eC a)=rR a:=by
 unfold eC rR;split;rfl;rw[CZ,adh,show ai lD=[42] from rfl,Fa];congr 1;refine ac6 fun y hy=>?_;exact L6 hg (pZ _ a (ac2 _) hl ha y hy)
theorem SV(x:Int)(n:Nat)(_hn:n<100):(lX x n).length<=5:=by
 have:(rz n).length<=2:=by unfold rz;split<;>simp
 unfold lX;split;simp;omega;split<;>simp<;>omega
theorem Jb:∀ ps:List (List Int),(∀ p∈ps,p.length<=5)->(lQ ps).length<=6*ps.length
 | [],_=>by simp[lQ]
 | [p],h=>by have:=h p (by simp);simp[lQ];omega
 | p::q::r,h=>by
   have h1:=h p (by simp);have h2:=Jb (q::r) fun x hx=>h x (by simp[hx]);rw[lQ];simp only[acT,acX] at h2 ⊢;omega
theorem DN:∀(n:Nat)(a:List Int),a.length<=n->(eV a).length<=a.length
 | _,[],_=>by rw[eV];simp
 | 0,x::l,h=>by simp at h
 | n+1,x::l,h=>by
   have hl:=AF x l;simp only[acX] at h;rw[eV];have:=DN n (l.drop (iZ x l)) (by simp;omega);rw[List.length_drop] at this;simp only[acX];omega
theorem WD{g:Int}{a:List Int}(ha:iQ g a)(hl:a.length<100):(rR a).length<=600:=by
 unfold rR;split;simp;have:=Jb ((eV a).map sA) fun p hp=>by
  obtain⟨y,hy,rfl⟩:=List.mem_map.1 hp;obtain⟨x,n,rfl,_,_,_,h4⟩:=pZ _ a (ac2 _) hl ha y hy;exact SV _ _ h4
 have h2:=DN _ a (ac2 _);rw[ac5] at this;omega
theorem qy{g:Int}(hg:g<=16){a:List Int}(ha:iQ g a)(hl:a.length<100):(eC a).size<=600:=by
 rw[<-bM,wg hg ha hl];exact WD ha hl
theorem WE(w:List Int)(h:w.length<=1000000):bA Tryz.prog 54 [bI w] [] (bI w) []:=by
 refine dJ (aj:=[]) (cx:=[]) (fz:=[some dI]) aG Tryz.func54 (by kernel_rfl) (ay:=0) rfl (by kernel_rfl) 100 ?_;apply of_eq (q:=let q1:=(0:Nat);∀(b:Bool),(b=!false->w=[])->(b=true->q1<=0/\aE [V.c (wR (acP q1 (acQ q1 [])))]=bI w/\([]:List Ob)=[])/\(b=false->(q1+0<=0/\(q1+w.length)*8<=140737488355328)/\q1+(q1+w.length)<=(acP q1 (acQ q1 [])++w).length/\aE [V.c (wR (acP (q1+w.length) (acQ q1 (acP q1 (acQ q1 [])++w))))]=bI w/\([]:List Ob)=[])) (by kernel_rfl)
 try simp only[sL]
 intro b hb;refine⟨fun g=>?_,fun g=>?_⟩;rw[hb g];rfl;refine⟨by omega,by simp,?_⟩;rw[show acP w.length ([]++w)=w from List.take_length];rfl
def WG:bQ:=kI dI fun w=>(.p (acS (α:=Int) w<=1000000),bI w,[])
theorem WH:aM Tryz.prog 54 WG:=gE (by kernel_rfl) fun w h=>WE w h
theorem kV{n:Int}(h1:0<=n)(h2:n<18446744073709551616):IntKind.u64.wrap n=n:=by
 simp only[IntKind.wrap,IntKind.bits,IntKind.signed];simp;omega
theorem SW{n:Int}(h1:0<=n)(h2:n<4294967296):((BitVec.ofInt 64 n &&& BitVec.ofInt 64 4294967295).toNat:Int)=n:=by
 obtain⟨m,rfl⟩:∃ m:Nat,n=m:=⟨n.toNat,by omega⟩;have e:(BitVec.ofInt 64 (m:Int) &&& BitVec.ofInt 64 4294967295).toNat=m &&& (2 ^ 32-1):=by
  rw[BitVec.toNat_and];simp only[BitVec.toNat_ofInt];congr 1;omega
 rw[e,Nat.and_two_pow_sub_one_eq_mod];omega
theorem WI(x y:Int)(h:(0<=x/\x<1073741824)/\0<=y/\y<1073741824):bA Tryz.prog 100 [uI x,uI y] [] (.aL [.c (.int .u64 0),.c (.int .u64 (x*y))]) []:=by
 refine bU (aj:=[]) aG Tryz.func100 (by kernel_rfl) (ay:=0) rfl (by kernel_rfl) 100 ?_;apply of_eq (q:=let q2:=((2:Int) ^ (32:Nat));let q3:=(↑(BitVec.ofInt (64:Nat) y &&& BitVec.ofInt (64:Nat) (4294967295:Int)).toNat:Int);let q4:=(↑(BitVec.ofInt (64:Nat) x &&& BitVec.ofInt (64:Nat) (4294967295:Int)).toNat:Int);let q1:=(IntKind.u64.wrap (IntKind.u64.wrap (x.fdiv q2*IntKind.u64.wrap q3)+(IntKind.u64.wrap (IntKind.u64.wrap q4*IntKind.u64.wrap q3)).fdiv q2));(0:Int)<=32/\(0:Int)<=32/\(0:Int)<=32/\(0:Int)<=32/\(0:Int)<=32/\aE [V.c (W.int .u64 (IntKind.u64.wrap (IntKind.u64.wrap (IntKind.u64.wrap (x.fdiv q2*y.fdiv q2)+q1.fdiv q2)+(IntKind.u64.wrap (IntKind.u64.wrap (↑(BitVec.ofInt (64:Nat) q1 &&& BitVec.ofInt (64:Nat) (4294967295:Int)).toNat:Int)+IntKind.u64.wrap (IntKind.u64.wrap q4*y.fdiv q2))).fdiv q2))),V.c (W.int .u64 (IntKind.u64.wrap (x*y)))]=A.aL [V.c (W.int .u64 (0:Int)),V.c (W.int .u64 (x*y))]/\([]:List Ob)=[]) (by kernel_rfl)
 try simp only[sL]
 obtain⟨⟨h1,h2⟩,h3,h4⟩:=h;have ur:0<=x*y:=Int.mul_nonneg h1 h3;have hp1:x*y<=1073741824*1073741824:=Int.mul_le_mul (by omega) (by omega) h3 (by omega);have dx:x.fdiv (2 ^ 32)=0:=by rw[acU _ (by omega)];omega
 have dy:y.fdiv (2 ^ 32)=0:=by rw[acU _ (by omega)];omega
 have w0:IntKind.u64.wrap 0=0:=kV (by omega) (by omega);have wx:IntKind.u64.wrap x=x:=kV (by omega) (by omega);have wy:IntKind.u64.wrap y=y:=kV (by omega) (by omega);have wp:IntKind.u64.wrap (x*y)=x*y:=kV ur (by omega);have dp:0<=(x*y).fdiv (2 ^ 32)/\(x*y).fdiv (2 ^ 32)<4294967296:=by rw[acU _ (by omega)];omega
 have wd:IntKind.u64.wrap ((x*y).fdiv (2 ^ 32))=(x*y).fdiv (2 ^ 32):=kV dp.1 (by omega);have dd:((x*y).fdiv (2 ^ 32)).fdiv (2 ^ 32)=0:=by rw[acU (a:=(x*y).fdiv (2 ^ 32)) (by omega)];omega
 simp only[SW (n:=x) h1 (by omega),SW (n:=y) h3 (by omega),dx,dy,wx,wy,wp,Int.zero_mul,Int.mul_zero,w0,Int.zero_add,Int.add_zero,wd,dd,SW dp.1 dp.2];refine⟨by omega,by omega,by omega,by omega,by omega,rfl⟩
def WJ:bQ:=kJ (.int .u64) (.int .u64) fun x y=>(.p ((0<=(show Int from x)/\(show Int from x)<1073741824)/\0<=(show Int from y)/\(show Int from y)<1073741824),.aL [.c (.int .u64 0),.c (.int .u64 ((show Int from x)*(show Int from y)))],[])
theorem WK:aM Tryz.prog 100 WJ:=gF (by kernel_rfl) fun x y h=>WI x y h
def gBm:bW:=[(100,WJ)]
theorem gBm_ok:bt Tryz.prog gBm:=ar WK aG
theorem aas(x y:Int)(h:(0<=x/\x<1073741824)/\0<=y/\y<1073741824):bA Tryz.prog 82 [uI x,uI y] [] (.aL [.c (.int .u64 0),.c (.int .u64 (x*y))]) []:=by
 refine bU (aj:=[]) gBm_ok Tryz.func82 (by kernel_rfl) (ay:=0) rfl (by kernel_rfl) 100 ?_;apply of_eq (q:=(((0:Int)<=x/\x<1073741824)/\(0:Int)<=y/\y<1073741824)/\aE [V.c (W.int .u64 (0:Int)),V.c (W.int .u64 (x*y))]=A.aL [V.c (W.int .u64 (0:Int)),V.c (W.int .u64 (x*y))]/\([]:List Ob)=[]) (by kernel_rfl)
 try simp only[sL]
 exact⟨h,rfl⟩
def cBm:bQ:=kJ (.int .u64) (.int .u64) fun x y=>(.p ((0<=(show Int from x)/\(show Int from x)<1073741824)/\0<=(show Int from y)/\(show Int from y)<1073741824),.aL [.c (.int .u64 0),.c (.int .u64 ((show Int from x)*(show Int from y)))],[])
theorem cBm_ok:aM Tryz.prog 82 cBm:=gF (by kernel_rfl) fun x y h=>aas x y h
def L7:bW:=[(82,cBm)]
theorem BZ:bt Tryz.prog L7:=ar cBm_ok aG
def sRep:bJ:=bG Tryz.prog L7 Tryz.f159 0 [([0,0,1,1,1,1,1,1],[7,8])] [] [some dI]
theorem P5(x:List Int){m k:Nat}(h:k<=m):(pw x m).take (k*x.length)=pw x k:=by
 obtain⟨j,rfl⟩:∃ j,m=k+j:=⟨m-k,by omega⟩;rw[AB,<-lC x k,adf]
theorem yL(x : List Int)(c : Nat)(hL : c * x.length ≤ 1000000) : ∀(k m : Nat)(l : List Int), k = c - m → (0 < m ∨ c = 0) → m ≤ c → l.length = c * x.length → l.take (m * x.length) = pw x m →
 av sRep (aD (bI (pw x c)) []) [0,0,1,1,1,1,1,1] (fr [(7,fK 0 (c*x.length)),(8,nI ((m*x.length:Nat):Int))]) (.ofList [aB l])
 | k, m, l, hk, hm, hmc, hl, hr => by
   refine aN BZ (by kernel_rfl) 100 ?_;apply of_eq (q:=let q1:=(↑(m*x.length):Int);let q2:=(↑(c*x.length):Int);let q3:=(acP (q1-0).toNat (acQ ((0:Nat)+0*1) l));(decide (q1<q2)=true->((0:Int)<=q1/\q1<=q2/\q2<=q2)/\((0:Int)<=0/\(0:Int)<=q1/\q1<=q2)/\(0:Nat)+0*1+(q1-0).toNat<=l.length/\(0:Nat)+m*x.length*1+(q2-q1).toNat<=l.length/\av sRep (aD (bI (pw x c)) []) [0,0,1,1,1,1,1,1] (fr [(7,aS 0 0 (c*x.length)),(8,nI (IntKind.i64.wrap (q1+(↑(q3.length.min (q2-q1).toNat):Int))))]) (ak.ofList [aB (spl l ((0:Nat)+m*x.length*1) (acP (q2-q1).toNat q3))]))/\(decide (q1<q2)=false->(0:Nat)+c*x.length<=l.length/\aE [V.c (wR (acP (c*x.length) (acQ (0:Nat) l)))]=bI (pw x c)/\([]:List Ob)=[])) (by kernel_rfl)
   try simp only[sL]
   have hnL:m*x.length<=c*x.length:=acY _ hmc;have hpl:(pw x m).length=m*x.length:=lC x m;generalize hn:m*x.length=n at *;generalize uD:c*x.length=L at *;rw[show ((n:Int)-0).toNat=n by omega,show ((L:Int)-n).toNat=L-n by omega,hr,hpl];refine⟨fun h=>⟨by omega,by omega,by omega,by omega,?_⟩,fun h=>⟨by omega,?_⟩⟩
   · have hne : m < c := by
      rcases ac3 m c with h1|h1;exact h1;have:m=c:=by omega
      subst this;omega
     rw[wrap64 (n:=(n:Int)+((n.min (L-n):Nat):Int)) (by omega) (by have:=Nat.min_le_right n (L-n);simp only[Nat.min_def] at *;split<;>omega)];have hsl:∀ q:List Int,q.length<=L-n->(spl l n q).length=L/\(spl l n q).take (n+q.length)=pw x m++q:=by
      intro q hq;have e:spl l n q=(pw x m++q)++l.drop (n+q.length):=by rw[spl,hr]
      refine⟨by rw[e];simp[hpl];omega,?_⟩;rw[e,show n+q.length=(pw x m++q).length by simp[hpl],adf]
     cases k with
     | zero=>omega
     | succ k =>
       rcases ac3 c (2*m) with h2|h2;have h3:L-n=(c-m)*x.length:=by rw[Nat.sub_mul,hn,uD]
       have h4:L-n<=n:=by rw[h3,<-hn];exact acY _ (by omega)
       have e1:n.min (L-n)=L-n:=Nat.min_eq_right h4;have e2:acP (L-n) (pw x m)=pw x (c-m):=by rw[h3];exact P5 x (by omega)
       have e3:(pw x (c-m)).length=L-n:=by rw[lC,h3]
       obtain⟨g1,g2⟩:=hsl (pw x (c-m)) (by omega);have:=yL x c (by omega) 0 c (spl l n (pw x (c-m))) (by omega) (by omega) (by omega) (by omega) (by
        rw[uD,show L=n+(pw x (c-m)).length by omega,g2,<-AB];congr 1;omega)
       rw[e1,e2,show ((n:Int)+((L-n:Nat):Int))=((L:Nat):Int) by omega];rw[uD] at this;exact this;have h3:2*m*x.length<=L:=by rw[<-uD];exact acY _ h2
       have h4:2*m*x.length=n+n:=by rw[Nat.mul_assoc,hn];omega
       have e1:n.min (L-n)=n:=adb (by omega);have e2:acP (L-n) (pw x m)=pw x m:=acV (by omega);obtain⟨g1,g2⟩:=hsl (pw x m) (by omega);have:=yL x c (by omega) (c-2*m) (2*m) (spl l n (pw x m)) (by omega) (by omega) (by omega) (by omega) (by
        rw[h4,show n+n=n+(pw x m).length by omega,g2,<-AB];congr 1;omega)
       rw[e1,e2,show ((n:Int)+((n:Nat):Int))=((n+n:Nat):Int) by omega];rw[uD,h4] at this;exact this
   have aat:n=L:=by omega
   have:m=c∨x.length=0:=by
    rcases ac3 m c with h1|h1;right;have:=acY x.length (show m+1<=c by omega);rw[adi] at this;omega;left;omega
   rw[show acP L l=pw x c from ?_];rfl;rcases this with rfl|h0;rw[<-aat];exact hr;have:(pw x c).length=0:=by rw[lC,h0];simp
   rw[ac0 this];rw[h0,Nat.mul_zero] at uD;rw[<-uD];rfl
 termination_by k=>k
theorem SX(x:List Int)(n:Int)(h:0<=n/\n<=100000/\x.length<=100000/\n.toNat*x.length<=1000000):bA Tryz.prog 159 [bI x,nI n] [] (bI (pw x n.toNat)) []:=by
 refine dJ (aj:=[([0,0,1,1,1,1,1,1],[7,8])]) (cx:=[]) (fz:=[some dI]) BZ Tryz.func159 (by kernel_rfl) (ay:=0) rfl (by kernel_rfl) 100 ?_;apply of_eq (q:=let q0:=IntKind.i64.wrap;let q1:=(IntKind.u64.wrap (x.length:Int)*IntKind.u64.wrap n);let q2:=decide ((0:Int)<0);let q3:=decide ((9223372036854775807:Int)<IntKind.u64.wrap (x.length:Int)*IntKind.u64.wrap n);let q4:=(q0 q1);(decide (n<0)=true->False)/\(decide (n<0)=false->(((0:Int)<=IntKind.u64.wrap (x.length:Int)/\IntKind.u64.wrap (x.length:Int)<1073741824)/\(0:Int)<=IntKind.u64.wrap n/\IntKind.u64.wrap n<1073741824)/\(q2=false->q2=false)/\(q2=false->q2=false)/\((bif q2 then true else q3)=true->False)/\((bif q2 then true else q3)=false->((0:Int)<=q0 q1/\q0 q1<=q0 q1/\(↑(8:Nat):Int)*q0 q1<=140737488355328)/\(0:Nat)+q4.toNat<=(ac1 q4.toNat (0:Int)).length/\av (bG Tryz.prog L7 Tryz.f159 (0:Nat) [([0,0,1,1,1,1,1,1],[7,8])] [] [some dI]) (aD (bI (pw x n.toNat)) []) [0,0,1,1,1,1,1,1] (fr [(7,aS 0 0 q4.toNat),(8,nI (↑(x.length.min q4.toNat):Int))]) (ak.ofList [aB (spl (ac1 q4.toNat (0:Int)) (0:Nat) (acP q4.toNat x))])))) (by kernel_rfl)
 try simp only[sL]
 obtain⟨c,rfl⟩:∃ c:Nat,n=c:=⟨n.toNat,by omega⟩;obtain⟨h1,h2,h3,h4⟩:=h;rw[ada] at h4;have e1:IntKind.u64.wrap (x.length:Int)=x.length:=kV (by omega) (by omega);have e2:IntKind.u64.wrap (c:Int)=c:=kV (by omega) (by omega);have e3:(x.length:Int)*(c:Int)=((c*x.length:Nat):Int):=by rw[Nat.mul_comm,Int.natCast_mul]
 rw[e1,e2,e3];have e4:IntKind.i64.wrap ((c*x.length:Nat):Int)=((c*x.length:Nat):Int):=wrap64 (by omega) (by omega);rw[e4,ada];refine⟨fun g=>by omega,fun _=>⟨⟨by omega,by omega⟩,fun g=>by omega,fun _=>⟨by omega,by simp,?_⟩⟩⟩;cases c with
 | zero =>
   have:=yL x 0 (by omega) 0 0 (spl (ac1 (0*x.length) 0) 0 (acP (0*x.length) x)) rfl (.inr rfl) (by omega) (by simp[spl]) (by simp[pw]);rw[show x.length.min (0*x.length)=0*x.length by simp];exact this
 | succ c =>
   have hl:x.length<=(c+1)*x.length:=by rw[adi];omega
   have e5:acP ((c+1)*x.length) x=x:=acV hl;have e6:x.length.min ((c+1)*x.length)=x.length:=adb hl;rw[e5,e6];have:=yL x (c+1) (by omega) (c+1-1) 1 (spl (ac1 ((c+1)*x.length) 0) 0 x) rfl (by omega) (by omega) (by simp[spl];omega) (by
    rw[adl,spl];simp[pw])
   rw[adl] at this;exact this
def cRep:bQ:=kJ dI (.int .i64) fun x n=>(.p (0<=(show Int from n)/\(show Int from n)<=100000/\acS (α:=Int) x<=100000/\(show Int from n).toNat*acS (α:=Int) x<=1000000),bI (pw x (show Int from n).toNat),[])
theorem cRep_ok:aM Tryz.prog 159 cRep:=gF (by kernel_rfl) fun x n h=>SX x n h
theorem sz_abs{n:Int}(h:R64 n):sz n=n.natAbs:=by
 obtain⟨h1,h2⟩:=h;unfold sz;split;have:IntKind.u64.wrap n=n+18446744073709551616:=by simp only[IntKind.wrap,IntKind.bits,IntKind.signed];simp;omega
 rw[this];have:IntKind.u64.wrap (0-(n+18446744073709551616))=-n:=by simp only[IntKind.wrap,IntKind.bits,IntKind.signed];simp;omega
 rw[this];omega;rw[kV (by omega) (by omega)];omega
def oT(g x:Int):Bool:=decide (x=0)||decide (g<x)||decide (x < -g)
def lY(w:List Int)(g:Int):Int:=if g<1∨16<g then 2 else if 4000<w.length then 4 else if w.any (oT g) then 2 else 0
def WL:bJ:=eJ Tryz.prog [] Tryz.f66 0 [([0,1,0,1,1,1],[1,16,17,18])]
theorem C0(w:List Int)(g:Int)(hg:1<=g/\g<=16)(hl:w.length<=4000):∀(k i:Nat),k=w.length-i->i<=w.length->
 av WL (aD (nI (if(w.drop i).any (oT g) then 2 else 0)) []) [0,1,0,1,1,1] (fr [(1,nI g),(16,bI w),(17,nI w.length),(18,nI i)]) (.ofList [])
 | k, i, hk, hi => by
   refine aN aG (by kernel_rfl) 100 ?_;apply of_eq (q:=let q2:=decide (w.getD i (0:Int)=0);let q3:=decide (w.getD i (0:Int)<IntKind.i64.wrap ((0:Int)-g));let q4:=decide (g<w.getD i (0:Int));let q1:=(bif q2 then true else q4)=false;(decide ((i:Int)<(w.length:Int))=true->((0:Int)<=(i:Int)/\(i:Int)<(w.length:Int))/\i<w.length/\(q2=false->q2=false)/\(q2=false->q2=false)/\(q2=false->q2=false)/\(q1->q1)/\(q1->q1)/\(q1->q1)/\(q1->q1)/\((bif bif q2 then true else q4 then true else q3)=true->aE [vI (2)]=nI (if(acQ i w).any (oT g)=true then(2:Int) else(0:Int))/\([]:List Ob)=[])/\((bif bif q2 then true else q4 then true else q3)=false->av WL (aD (nI (if(acQ i w).any (oT g)=true then(2:Int) else(0:Int))) []) [0,1,0,1,1,1] (fr [(1,nI g),(16,bI w),(17,nI (w.length:Int)),(18,nI (IntKind.i64.wrap ((i:Int)+1)))]) (ak.ofList [])))/\(decide ((i:Int)<(w.length:Int))=false->aE [vI (0)]=nI (if(acQ i w).any (oT g)=true then(2:Int) else(0:Int))/\([]:List Ob)=[])) (by kernel_rfl)
   try simp only[sL]
   rw[wrap64 (n:=0-g) (by omega) (by omega),wrap64 (n:=(i:Int)+1) (by omega) (by omega)];refine⟨fun h=>⟨by omega,by omega,fun h2=>?_,fun h2=>?_⟩,fun h=>?_⟩;rw[jM (by omega),adg,show oT g (w.getD i 0)=true by simp only[oT,ade,decide_eq_true_eq];omega];rfl
   . have e:(w.drop i).any (oT g)=(w.drop (i+1)).any (oT g):=by
      rw[jM (by omega),adg,show oT g (w.getD i 0)=false by simp only[oT,Bool.or_eq_false_iff,decide_eq_false_iff_not];omega];rfl
     rw[e];cases k with
     | zero=>omega
     | succ k=>exact C0 w g hg hl k (i+1) (by omega) (by omega)
   rw[acZ (by omega)];rfl
theorem SY(w:List Int)(g:Int)(hw:w.length<=1000000):bA Tryz.prog 66 [bI w,nI g] [] (nI (lY w g)) []:=by
 refine bU (aj:=[([0,1,0,1,1,1],[1,16,17,18])]) aG Tryz.func66 (by kernel_rfl) (ay:=0) rfl (by kernel_rfl) 100 ?_;apply of_eq (q:=let q1:=decide (g<1)=false;(q1->q1)/\(q1->q1)/\((bif decide (g<1) then true else decide ((16:Int)<g))=true->aE [vI (2)]=nI (lY w g)/\([]:List Ob)=[])/\((bif decide (g<1) then true else decide ((16:Int)<g))=false->(decide ((4000:Int)<(w.length:Int))=true->aE [vI (4)]=nI (lY w g)/\([]:List Ob)=[])/\(decide ((4000:Int)<(w.length:Int))=false->av (eJ Tryz.prog [] Tryz.f66 (0:Nat) [([0,1,0,1,1,1],[1,16,17,18])]) (aD (nI (lY w g)) []) [0,1,0,1,1,1] (fr [(1,nI g),(16,bI w),(17,nI (w.length:Int)),(18,nI (0))]) (ak.ofList [])))) (by kernel_rfl)
 try simp only[sL]
 refine⟨fun h=>?_,fun h=>⟨fun h2=>?_,fun h2=>?_⟩⟩;rw[lY,if_pos h];rfl;rw[lY,if_neg (by omega),if_pos (by omega)];rfl;rw[lY,if_neg (by omega),if_neg (by omega)];exact C0 w g h (by omega) w.length 0 (by omega) (by omega)
def P6:bQ:=kJ dI (.int .i64) fun w g=>(.p (acS (α:=Int) w<=1000000),nI (lY w g),[])
theorem SZ:aM Tryz.prog 66 P6:=gF (by kernel_rfl) fun w g h=>SY w g h
abbrev DP(a:List Int):Ob:=⟨51,[.c (.rd (.int .i64) a)]⟩
abbrev ghR(l:Nat)(ys:List (List Int)):Option Gh:=some ⟨l,.sl (.int .i64),ys,true⟩
abbrev ylA(l:Nat):A:=.p (.c (.yield l))
abbrev L8:List (List Nat×List Nat):=[([0,1],[0,1,3]),([0,0,1,0,1,0,0,1],[0,1,3,4])]
def P7:bJ:=EZ Tryz.prog [] Tryz.f93 L8
theorem runs_at{a:List Int}{i:Nat}(h:i<a.length):eV (a.drop i)=[a.getD i 0,((iZ (a.getD i 0) (a.drop (i+1))+1:Nat):Int)]::eV (a.drop (i+(iZ (a.getD i 0) (a.drop (i+1))+1))):=by
 rw[jM h,eV,List.drop_drop,show i+1+iZ (a.getD i 0) (a.drop (i+1))=i+(iZ (a.getD i 0) (a.drop (i+1))+1) by omega]
theorem Fb(a:List Int)(ha:a.length<=4000)(l:Nat)(i:Nat)(hi:i<a.length)
 (hout:∀ j,i<j->j<=a.length->av P7 (fun _ _=>True) [0,1] (fr [(0,ylA l),(1,.p (.c (.ptr 0 0))),(3,nI j)]) (.fF (ghR l (eV (a.drop j))) [DP a])) :
 ∀ m n,m+(i+n)=a.length->1<=n->iZ (a.getD i 0) (a.drop (i+n))+n=iZ (a.getD i 0) (a.drop (i+1))+1->
 av P7 (fun _ _=>True) [0,0,1,0,1,0,0,1] (fr [(0,ylA l),(1,.p (.c (.ptr 0 0))),(3,nI i),(4,nI n)]) (.fF (ghR l (eV (a.drop i))) [DP a])
 | m, n, hm, hn, hr => by
   refine aN aG (by kernel_rfl) 100 ?_;apply of_eq (q:=let q0:=IntKind.i64.wrap;let q2:=((i:Int)+(n:Int));let q3:=decide (q0 q2<(a.length:Int));let q4:=decide (a.getD (q0 q2).toNat (0:Int)=a.getD i (0:Int));let q1:=q3=true;(q1->q1)/\(q1->q1)/\(q1->q1)/\(q1->q1)/\(q1->(0:Int)<=q0 q2/\q0 q2<(a.length:Int))/\(q1->q1)/\(q1->(q0 q2).toNat<a.length)/\(q1->q1)/\(q1->q1)/\(q1->(0:Int)<=(i:Int)/\(i:Int)<(a.length:Int))/\(q1->q1)/\(q1->i<a.length)/\(q1->q1)/\(q1->q1)/\(q1->q1)/\((bif q3 then q4 else false)=true->av P7 (fun x x_1=>True) [0,0,1,0,1,0,0,1] (fr [(0,aP (W.yield l)),(1,aR 0 0),(3,nI (i:Int)),(4,nI (q0 ((n:Int)+1)))]) (ak.fF (some (Gh.mk l (D.int .i64).sl (eV (acQ i a)) true)) [Ob.mk 51 [Fd.c (wR a)]]))/\((bif q3 then q4 else false)=false->((0:Int)<=(i:Int)/\(i:Int)<(a.length:Int))/\i<a.length/\(l=l/\(eV (acQ i a)).head?.bind (Ly (D.int .i64).sl)=some (a.getD i (0:Int),(n:Int)))/\av P7 (fun x x_1=>True) [0,1] (fr [(0,aP (W.yield l)),(1,aR 0 0),(3,nI (q0 q2))]) (ak.fF (some (Gh.mk l (D.int .i64).sl (eV (acQ i a)).tail true)) [Ob.mk 51 [Fd.c (wR a)]]))) (by kernel_rfl)
   try simp only[sL]
   have e:=runs_at hi;rw[wrap64 (n:=(i:Int)+n) (by omega) (by omega),show ((i:Int)+n).toNat=i+n by omega];refine⟨fun h=>by omega,fun h=>by omega,fun _=>by omega,fun _=>by omega,fun h=>?_,fun h=>?_⟩
   . have hin:i+n<a.length:=by omega
     rw[wrap64 (n:=(n:Int)+1) (by omega) (by omega)];cases m with
     | zero=>omega
     | succ m =>
       refine Fb a ha l i hi hout m (n+1) (by omega) (by omega) ?_;rw[<-hr,jM hin,iZ,if_pos h.2,show i+n+1=i+(n+1) by omega];omega
   have h0:iZ (a.getD i 0) (a.drop (i+n))=0:=by
    rcases ac3 (i+n) a.length with hin|hin;rw[jM hin,iZ,if_neg (h (by omega))];rw[acZ hin];rfl
   rw[h0,Nat.zero_add] at hr;rw[<-hr] at e;rw[e];refine⟨by omega,hi,rfl,?_⟩;exact hout (i+n) (by omega) (by omega)
theorem Fe(a:List Int)(ha:a.length<=4000)(l:Nat):∀ m i,m=a.length-i->i<=a.length->av P7 (fun _ _=>True) [0,1] (fr [(0,ylA l),(1,.p (.c (.ptr 0 0))),(3,nI i)]) (.fF (ghR l (eV (a.drop i))) [DP a])
 | m,i,hm,hi=>by
   refine aN aG (by kernel_rfl) 100 ?_;apply of_eq (q:=(decide ((i:Int)<(a.length:Int))=true->av P7 (fun x x_1=>True) [0,0,1,0,1,0,0,1] (fr [(0,aP (W.yield l)),(1,aR 0 0),(3,nI (i:Int)),(4,nI (1))]) (ak.fF (some (Gh.mk l (D.int .i64).sl (eV (acQ i a)) true)) [Ob.mk 51 [Fd.c (wR a)]]))/\(decide ((i:Int)<(a.length:Int))=false->eV (acQ i a)=[]/\True)) (by kernel_rfl)
   try simp only[sL]
   refine⟨fun h=>?_,fun h=>?_⟩
   . cases m with
     | zero=>omega
     | succ m =>
       exact Fb a ha l i (by omega) (fun j h1 h2=>Fe a ha l (a.length-j) j rfl h2) (a.length-(i+1)) 1 (by omega) (by omega) rfl
   rw[acZ (by omega),eV]
 termination_by m=>m
theorem WM(a:List Int)(ha:a.length<=4000):GF Tryz.prog 93 [.p (.c (.ptr 0 0))] [DP a] (.sl (.int .i64)) (eV a) true:=by
 refine Sw (aj:=L8) aG Tryz.func93 (by kernel_rfl) (by kernel_rfl) 100 ?_;intro l;apply of_eq (q:=av (EZ Tryz.prog [] Tryz.f93 L8) (fun x x_1=>True) [0,1] (fr [(0,aP (W.yield l)),(1,aR 0 0),(3,nI (0))]) (ak.fF (some (Gh.mk l (D.int .i64).sl (eV a) true)) [Ob.mk 51 [Fd.c (wR a)]])) (by kernel_rfl)
 try simp only[sL,Int.reduceEq,Int.reduceNe,Nat.reduceAdd]
 have:=Fe a ha l a.length 0 (by omega) (by omega);exact this
theorem aau(a:List Int):bA Tryz.prog 67 [bI a] [] (.p (.c (.func 93 [(0,0)]))) [DP a]:=by
 refine bU (aj:=[]) aG Tryz.func67 (by kernel_rfl) (ay:=0) rfl (by kernel_rfl) 100 ?_;apply of_eq (q:=aE [V.c (W.func 93 [(0,(0:Nat))])]=aP (W.func (93:FuncId) [(0,(0:Nat))])/\[Ob.mk 51 [Fd.c (wR a)]]=[DP a]) (by kernel_rfl)
 try simp only[sL]
 rfl
def cRuns:bQ:=kI dI fun a=>(.t,.p (.c (.func 93 [(0,0)])),[DP a])
theorem aav:aM Tryz.prog 67 cRuns:=gE (by kernel_rfl) fun a _=>aau a
theorem Ff{x:Int}(_h0:x≠0)(h:(x.natAbs:Int)<=16):Utf8.encode (IntKind.i32.wrap (IntKind.u64.wrap (IntKind.u64.wrap (97+sz x)-1)))=bE [96+(x.natAbs:Int)]:=by
 rw[sz_abs ⟨by omega,by omega⟩,kV (n:=97+(x.natAbs:Int)) (by omega) (by omega),kV (by omega) (by omega),show 97+(x.natAbs:Int)-1=96+x.natAbs by omega,IntWalk.i32_in _ (by constructor<;>omega),enc1 (by omega)]
theorem Jc(x:Nat)(h:x<100):(fw x).size<=2:=by
 revert x;decide +kernel
theorem L9(x:Int):(bE [x]).size=1:=rfl
abbrev sW(s:ByteArray)(e:Int):A:=.aL [.c (.str s),.c (.int .i64 e)]
def gTx:bW:=[(66,P6),(67,cRuns),(68,cSize),(35,cItoa),(69,cJoin)]
theorem AJ:bt Tryz.prog gTx:=ar SZ (ar aav (ar aac (ar aar (ar aap aG))))
abbrev pTx:List Nat:=[0,1,0,1,1,1]
abbrev Ma:List (List Nat×List Nat):=[(pTx,[5,15])]
def Jd:bJ:=eJ Tryz.prog gTx Tryz.f37 0 Ma
abbrev obS(l:List ByteArray):Ob:=⟨9,[.a 0 .str l]⟩
theorem Mb(R:List ByteArray)(hR:R.length<=4000/\(R≠[]->(gD R lD).size<=1000000)):∀(ys:List (List Int))(l:List ByteArray),R=l++ys.map mP->(∀ y∈ys,E5 16 y)->
 kC Jd (aD (sW (if R=[] then qx else gD R lD) 0) []) pTx (.sl (.int .i64)) ys (fr [(5,.p (.c (.ptr 0 0)))]) (.ofList [⟨65,[.c (.sl 1 0 l.length 1)]⟩,obS l]) true
 | [],l,h,_=>by
   refine CN AJ rfl 100 ?_;apply of_eq (q:=let q1:=(acP l.length (acQ (0:Nat) l));(decide ((l.length:Int)=0)=true->aE [V.c (W.str (acR #[(49:UInt8)])),vI (0)]=sW (if R=[] then qx else gD R lD) (0:Int)/\([]:List Ob)=[])/\(decide ((l.length:Int)=0)=false->(0:Nat)+l.length<=l.length/\(q1.length<=100000/\(gD q1 (acR #[(42:UInt8)])).size<=1000000)/\aE [V.c (W.str (gD q1 (acR #[(42:UInt8)]))),vI (0)]=sW (if R=[] then qx else gD R lD) (0:Int)/\([]:List Ob)=[])) (by kernel_rfl)
   try simp only[sL]
   simp only[adj,List.append_nil] at h;subst h;refine⟨fun h=>?_,fun h=>⟨⟨by omega,hR.2 (by rintro rfl;exact h rfl)⟩,?_⟩⟩;rw[if_pos (ac0 (by omega))];rfl;rw[if_neg (by rintro rfl;exact h rfl)];rfl
 | y :: ys, l, h, hx => by
   obtain⟨x,n,rfl,h1,h2,h3,h4⟩:=hx y (by simp);refine w9 AJ 1 (by kernel_rfl) 100 ?_;apply of_eq (q:=let q1:=(IntKind.i32.wrap (IntKind.u64.wrap (IntKind.u64.wrap ((97:Int)+sz x)-1)));let q2:=(0:Nat)+l.length<=l.length;let q3:=Ob.mk 65 [fS 1 0 (l.length+1)];let q4:=(acR #[(94:UInt8),(45:UInt8)]++fw n);(decide (x<0)=true->((0:Int)<=(n:Int)/\(n:Int)<100)/\(2:Nat)+(fw n).size<=9223372036854775807/\(Utf8.encode q1).size+q4.size<=9223372036854775807/\(0:Nat)+1<=1/\(q2/\((l.length+1)*16).le (140737488355328:Nat))/\kC Jd (aD (sW (if R=[] then qx else gD R lD) (0:Int)) []) [0,1,0,1,1,1] (D.int .i64).sl ys (fr [(5,aR 0 0)]) (ak.ofList [q3,Ob.mk 9 [Fd.a 0 D.str (acP l.length (acQ (0:Nat) l)++acP (1:Nat) (acQ (0:Nat) [Utf8.encode q1++q4]))]]) true)/\(decide (x<0)=false->(decide ((1:Int)<(n:Int))=true->((0:Int)<=(n:Int)/\(n:Int)<100)/\(1:Nat)+(fw n).size<=9223372036854775807/\(Utf8.encode q1).size+(acR #[(94:UInt8)]++fw n).size<=9223372036854775807/\(0:Nat)+1<=1/\(q2/\((l.length+1)*16).le (140737488355328:Nat))/\kC Jd (aD (sW (if R=[] then qx else gD R lD) (0:Int)) []) [0,1,0,1,1,1] (D.int .i64).sl ys (fr [(5,aR 0 0)]) (ak.ofList [q3,Ob.mk 9 [Fd.a 0 D.str (acP l.length (acQ (0:Nat) l)++acP (1:Nat) (acQ (0:Nat) [Utf8.encode q1++(acR #[(94:UInt8)]++fw n)]))]]) true)/\(decide ((1:Int)<(n:Int))=false->(0:Nat)+1<=1/\(q2/\((l.length+1)*16).le (140737488355328:Nat))/\kC Jd (aD (sW (if R=[] then qx else gD R lD) (0:Int)) []) [0,1,0,1,1,1] (D.int .i64).sl ys (fr [(5,aR 0 0)]) (ak.ofList [q3,Ob.mk 9 [Fd.a 0 D.str (acP l.length (acQ (0:Nat) l)++acP (1:Nat) (acQ (0:Nat) [Utf8.encode q1]))]]) true))) (by kernel_rfl)
   try simp only[sL]
   have hd:=Jc n h4;have Py:(⟨#[94,45]⟩++fw n:ByteArray).size=2+(fw n).size:=by rw[acW];rfl
   have hsp:(⟨#[94]⟩++fw n:ByteArray).size=1+(fw n).size:=by rw[acW];rfl
   have hRl:=congrArg acS h;simp only[acT,ac5,acX] at hRl;have hR1:=hR.1;have hle:((l.length+1)*16).le 140737488355328:=by show (l.length+1)*16<=_;omega
   have ih:∀ p,p=mP [x,(n:Int)]->_:=fun p hp=>Mb R hR ys (l++[p]) (by rw[h,hp];simp) (fun y hy=>hx y (by simp[hy]));have hps:mP [x,(n:Int)]=uz x n:=rfl;rw[hps] at ih;unfold uz at ih;rw[Ff h1 h2,Py,hsp,L9];refine⟨fun hx0=>⟨by omega,by omega,by omega,hle,?_⟩,fun hx0=>⟨fun hn=>⟨by omega,by omega,by omega,hle,?_⟩,fun hn=>⟨hle,?_⟩⟩⟩;rw[if_pos hx0] at ih;have:=ih _ rfl;rw[acT] at this;exact this;rw[if_neg (by omega),if_pos (by omega)] at ih;have:=ih _ rfl;rw[acT] at this;exact this;rw[if_neg (by omega),if_neg (by omega)] at ih;have:=ih _ rfl;rw[acT] at this;exact this
theorem WN(R:List ByteArray)(hR:R.length<=4000/\(R≠[]->(gD R lD).size<=1000000)):∀(ys:List (List Int)),R=ys.map mP->(∀ y∈ys,E5 16 y)->
 kC Jd (aD (sW (if R=[] then qx else gD R lD) 0) []) pTx (.sl (.int .i64)) ys (fr [(5,.p (.c (.ptr 0 0)))]) (.ofList [⟨65,[.c .nil]⟩]) true
 | [],h,_=>by
   refine CN AJ rfl 100 ?_;apply of_eq (q:=(decide ((0:Int)=0)=true->aE [V.c (W.str (acR #[(49:UInt8)])),vI (0)]=sW (if R=[] then qx else gD R lD) (0:Int)/\([]:List Ob)=[])/\(decide ((0:Int)=0)=false->((0:Nat)<=100000/\(0:Nat)<=1000000)/\aE [V.c (W.str (gD [] (acR #[(42:UInt8)]))),vI (0)]=sW (if R=[] then qx else gD R lD) (0:Int)/\([]:List Ob)=[])) (by kernel_rfl)
   try simp only[sL]
   rw[adj] at h;rw[if_pos h];exact⟨fun _=>rfl,fun h=>absurd trivial h⟩
 | y :: ys, h, hx => by
   obtain⟨x,n,rfl,h1,h2,h3,h4⟩:=hx y (by simp);refine w9 AJ 1 (by kernel_rfl) 100 ?_;apply of_eq (q:=let q1:=(IntKind.i32.wrap (IntKind.u64.wrap (IntKind.u64.wrap ((97:Int)+sz x)-1)));let q2:=(acR #[(94:UInt8),(45:UInt8)]++fw n);(decide (x<0)=true->((0:Int)<=(n:Int)/\(n:Int)<100)/\(2:Nat)+(fw n).size<=9223372036854775807/\(Utf8.encode q1).size+q2.size<=9223372036854775807/\(0:Nat)+1<=1/\((1:Nat)*16).le (140737488355328:Nat)/\kC Jd (aD (sW (if R=[] then qx else gD R lD) (0:Int)) []) [0,1,0,1,1,1] (D.int .i64).sl ys (fr [(5,aR 0 0)]) (ak.ofList [Ob.mk 65 [fS 1 0 1],Ob.mk 9 [Fd.a 0 D.str (acP (1:Nat) (acQ (0:Nat) [Utf8.encode q1++q2]))]]) true)/\(decide (x<0)=false->(decide ((1:Int)<(n:Int))=true->((0:Int)<=(n:Int)/\(n:Int)<100)/\(1:Nat)+(fw n).size<=9223372036854775807/\(Utf8.encode q1).size+(acR #[(94:UInt8)]++fw n).size<=9223372036854775807/\(0:Nat)+1<=1/\((1:Nat)*16).le (140737488355328:Nat)/\kC Jd (aD (sW (if R=[] then qx else gD R lD) (0:Int)) []) [0,1,0,1,1,1] (D.int .i64).sl ys (fr [(5,aR 0 0)]) (ak.ofList [Ob.mk 65 [fS 1 0 1],Ob.mk 9 [Fd.a 0 D.str (acP (1:Nat) (acQ (0:Nat) [Utf8.encode q1++(acR #[(94:UInt8)]++fw n)]))]]) true)/\(decide ((1:Int)<(n:Int))=false->(0:Nat)+1<=1/\((1:Nat)*16).le (140737488355328:Nat)/\kC Jd (aD (sW (if R=[] then qx else gD R lD) (0:Int)) []) [0,1,0,1,1,1] (D.int .i64).sl ys (fr [(5,aR 0 0)]) (ak.ofList [Ob.mk 65 [fS 1 0 1],Ob.mk 9 [Fd.a 0 D.str (acP (1:Nat) (acQ (0:Nat) [Utf8.encode q1]))]]) true))) (by kernel_rfl)
   try simp only[sL]
   have hd:=Jc n h4;have Py:(⟨#[94,45]⟩++fw n:ByteArray).size=2+(fw n).size:=by rw[acW];rfl
   have hsp:(⟨#[94]⟩++fw n:ByteArray).size=1+(fw n).size:=by rw[acW];rfl
   have hle:(1*16).le 140737488355328:=by show 1*16<=_;omega
   have ih:∀ p,p=mP [x,(n:Int)]->_:=fun p hp=>Mb R hR ys [p] (by rw[h,hp];simp) (fun y hy=>hx y (by simp[hy]));have hps:mP [x,(n:Int)]=uz x n:=rfl;rw[hps] at ih;unfold uz at ih;rw[Ff h1 h2,Py,hsp,L9];refine⟨fun hx0=>⟨by omega,by omega,by omega,hle,?_⟩,fun hx0=>⟨fun hn=>⟨by omega,by omega,by omega,hle,?_⟩,fun hn=>⟨hle,?_⟩⟩⟩;rw[if_pos hx0] at ih;exact ih _ rfl;rw[if_neg (by omega),if_pos (by omega)] at ih;exact ih _ rfl;rw[if_neg (by omega),if_neg (by omega)] at ih;exact ih _ rfl
theorem O1{a:List Int}(ha:iQ 16 a)(hl:a.length<100):lY a 16=0:=by
 unfold lY;rw[if_neg (by omega),if_neg (by omega),if_neg];rw[Bool.not_eq_true,List.any_eq_false];intro x hx;have:=ha x hx;simp only[oT,ade,decide_eq_true_eq];omega
theorem aaw(a:List Int)(ha:iQ 16 a)(hl:a.length<100):bA Tryz.prog 37 [bI a] [] (sW (eC a) 0) []:=by
 refine bU (aj:=Ma) AJ Tryz.func37 (by kernel_rfl) (ay:=0) rfl (by kernel_rfl) 100 ?_;apply of_eq (q:=a.length<=1000000/\((!decide (lY a (16:Int)=0))=true->aE [V.c (W.str (acR #[])),vI (lY a (16:Int))]=sW (eC a) (0:Int)/\([]:List Ob)=[])/\((!decide (lY a (16:Int)=0))=false->GA (eJ Tryz.prog gTx Tryz.f37 (0:Nat) Ma) (aD (sW (eC a) (0:Int)) []) [0,1,0,1,1,1] (fr [(5,aR 0 0),(15,aP (W.func 93 [(1,(0:Nat))]))]) (ak.ofList [Ob.mk 65 [Fd.c W.nil],Ob.mk 51 [Fd.c (wR a)]]))) (by kernel_rfl)
 try simp only[sL]
 have hc:=O1 ha hl;refine⟨by omega,fun h=>absurd hc h,fun _=>?_⟩;have hsz:=qy (g:=16) (Int.le_refl _) ha hl;have hrl:=DN _ a (ac2 _);have hne:((eV a).map mP=[])↔a=[]:=by
  constructor;intro h;by_cases h0:a=[];exact h0;exact absurd (List.map_eq_nil_iff.1 h) (P3 h0);rintro rfl;rw[eV];rfl
 have:=WN ((eV a).map mP) ⟨by rw[ac5];omega,fun h=>?_⟩ (eV a) rfl (pZ _ a (ac2 _) hl ha);have e:(if(eV a).map mP=[] then qx else gD ((eV a).map mP) lD)=eC a:=by
  unfold eC;by_cases h0:a=[];rw[if_pos h0,if_pos (hne.2 h0)];rw[if_neg h0,if_neg (fun h=>h0 (hne.1 h))]
 rw[e] at this;exact Sy rfl (by kernel_rfl) (WM a (by omega)) this;unfold eC at hsz;rw[if_neg (fun h0=>h (hne.2 h0))] at hsz;omega
def cText:bQ:=kI dI fun a=>(.p (iQ 16 a/\acS (α:=Int) a<100),sW (eC a) 0,[])
theorem aax:aM Tryz.prog 37 cText:=gE (by kernel_rfl) fun a h=>aaw a h.1 h.2
def ck(x n:Int):Int:=adk (adk x n+n) n
theorem aay(x n:Int)(h1:1<=n)(h2:n<=1000):bA Tryz.prog 7 [nI x,nI n] [] (nI (ck x n)) []:=by
 refine bU (aj:=[]) aG Tryz.func7 (by kernel_rfl) (ay:=0) rfl (by kernel_rfl) 100 ?_;apply of_eq (q:=n≠(0:Int)/\n≠(0:Int)/\aE [vI ((IntKind.i64.wrap (x.tmod n+n)).tmod n)]=nI (ck x n)/\([]:List Ob)=[]) (by kernel_rfl)
 try simp only[sL]
 have h3:=ac8 x (show 0<n by omega);have h4:=ac9 x (show 0<n by omega);rw[wrap64 (n:=x.tmod n+n) (by omega) (by omega)];exact⟨by omega,by omega,rfl⟩
def B0:bQ:=kJ (.int .i64) (.int .i64) fun x n=>(.p (1<=(show Int from n)/\(show Int from n)<=1000),nI (ck x n),[])
theorem uE:aM Tryz.prog 7 B0:=gF (by kernel_rfl) fun x n h=>aay x n h.1 h.2
theorem lE(x n:Int)(h:1<=n):0<=ck x n/\ck x n<n:=by
 unfold ck;have h1:=ac8 x (show 0<n by omega);exact⟨Int.tmod_nonneg _ (by omega),ac9 _ (by omega)⟩
def rB(c:Int):Int:=if adk c 2=0 then Int.tdiv c 2+1 else 0-(Int.tdiv c 2+1)
theorem S5(c:Int)(h:0<=c/\c<=1000):bA Tryz.prog 80 [nI c] [] (nI (rB c)) []:=by
 refine bU (aj:=[]) aG Tryz.func80 (by kernel_rfl) (ay:=0) rfl (by kernel_rfl) 100 ?_;apply of_eq (q:=let q0:=IntKind.i64.wrap;(2:Int)≠(0:Int)/\(decide (c.tmod (2:Int)=0)=true->(2:Int)≠(0:Int)/\aE [vI (q0 (q0 (c.tdiv (2:Int))+1))]=nI (rB c)/\([]:List Ob)=[])/\(decide (c.tmod (2:Int)=0)=false->(2:Int)≠(0:Int)/\aE [vI (q0 ((0:Int)-q0 (q0 (c.tdiv (2:Int))+1)))]=nI (rB c)/\([]:List Ob)=[])) (by kernel_rfl)
 try simp only[sL,Int.reduceEq]
 have e:c.tdiv 2=c/2:=Int.tdiv_eq_ediv_of_nonneg (by omega);rw[wrap64 (n:=c.tdiv 2) (by omega) (by omega),wrap64 (n:=c.tdiv 2+1) (by omega) (by omega),wrap64 (n:=0-(c.tdiv 2+1)) (by omega) (by omega)];refine⟨fun h1=>?_,fun h1=>?_⟩;rw[rB,if_pos h1];rfl;rw[rB,if_neg h1];rfl
def P8:bQ:=kI (.int .i64) fun c=>(.p (0<=(show Int from c)/\(show Int from c)<=1000),nI (rB c),[])
theorem S6:aM Tryz.prog 80 P8:=gE (by kernel_rfl) fun c h=>S5 c h
def jh(g:Int)(l:List Int):List Int:=l.map fun x=>rB (ck x (2*g))
def aaz:bW:=[(7,B0),(80,P8)]
theorem P9:bt Tryz.prog aaz:=ar uE (ar S6 aG)
def sWof:bJ:=bG Tryz.prog aaz Tryz.f51 0 [([0,1,0,1,1],[0,1,5,6])] [] [some dI]
theorem Qa(g:Int)(l:List Int)(hg:1<=g/\g<=16)(hl:l.length<=1000):∀(n i:Nat),n=l.length-i->i<=l.length->
 av sWof (aD (bI (jh g l)) []) [0,1,0,1,1] (fr [(0,bI l),(1,nI g),(5,fK 0 i),(6,nI i)]) (.ofList [aB (jh g (l.take i))])
 | n, i, hn, hi => by
   refine aN P9 (by kernel_rfl) 100 ?_;apply of_eq (q:=let q0:=IntKind.i64.wrap;let q1:=(jh g (acP i l));let q2:=(q0 ((2:Int)*g));(decide ((i:Int)<(l.length:Int))=true->((0:Int)<=(i:Int)/\(i:Int)<(l.length:Int))/\i<l.length/\((1:Int)<=q0 ((2:Int)*g)/\q0 ((2:Int)*g)<=1000)/\((0:Int)<=ck (l.getD i (0:Int)) q2/\ck (l.getD i (0:Int)) q2<=1000)/\(0:Nat)+1<=1/\((0:Nat)+i<=q1.length/\(i+1)*8<=140737488355328)/\av sWof (aD (bI (jh g l)) []) [0,1,0,1,1] (fr [(0,bI l),(1,nI g),(5,aS 0 0 (i+1)),(6,nI (q0 ((i:Int)+1)))]) (ak.ofList [aB (acP i (acQ (0:Nat) q1)++acP (1:Nat) (acQ (0:Nat) [rB (ck (l.getD i (0:Int)) q2)]))]))/\(decide ((i:Int)<(l.length:Int))=false->(0:Nat)+i<=q1.length/\aE [V.c (wR (acP i (acQ (0:Nat) q1)))]=bI (jh g l)/\([]:List Ob)=[])) (by kernel_rfl)
   try simp only[sL]
   have hlw:(jh g (l.take i)).length=i:=by simp[jh];omega
   have t:=lE (l.getD i 0) (2*g) (by omega);rw[wrap64 (n:=2*g) (by omega) (by omega),wrap64 (n:=(i:Int)+1) (by omega) (by omega),acV (show (jh g (l.take i)).length<=i by omega)];refine⟨fun h=>⟨by omega,by omega,by omega,by omega,⟨by omega,by omega⟩,?_⟩,fun h=>⟨by omega,?_⟩⟩
   . have hi':i<l.length:=by omega
     have e:jh g (l.take i)++[rB (ck (l.getD i 0) (2*g))]=jh g (l.take (i+1)):=by
      rw[AA hi',jh,jh,ac4];rfl
     rw[e];cases n with
     | zero=>omega
     | succ n=>exact Qa g l hg hl n (i+1) (by omega) (by omega)
   rw[acV (show l.length<=i by omega)];rfl
theorem wo_sem(g:Int)(l:List Int)(hg:1<=g/\g<=16)(hl:l.length<=1000):bA Tryz.prog 51 [bI l,nI g] [] (bI (jh g l)) []:=by
 refine dJ (aj:=[([0,1,0,1,1],[0,1,5,6])]) (cx:=[]) (fz:=[some dI]) P9 Tryz.func51 (by kernel_rfl) (ay:=0) rfl (by kernel_rfl) 100 ?_;apply of_eq (q:=av (bG Tryz.prog aaz Tryz.f51 (0:Nat) [([0,1,0,1,1],[0,1,5,6])] [] [some dI]) (aD (bI (jh g l)) []) [0,1,0,1,1] (fr [(0,bI l),(1,nI g),(5,aS 0 0 0),(6,nI (0))]) (ak.ofList [aB ([])])) (by kernel_rfl)
 try simp only[sL,Int.reduceEq,Int.reduceNe,Nat.reduceAdd]
 exact Qa g l hg hl l.length 0 rfl (by omega)
def cWof:bQ:=kJ dI (.int .i64) fun l g=>(.p ((1<=(show Int from g)/\(show Int from g)<=16)/\acS (α:=Int) l<=1000),bI (jh g l),[])
theorem cWof_ok:aM Tryz.prog 51 cWof:=gF (by kernel_rfl) fun l g h=>wo_sem g l h.1 h.2
def jG(g aH:Int):Nat->List Int->List (List Int)->List (List Int)
 | 0,_,acc=>acc
 | f+1,l,acc=>match l with
   | []=>acc
   | x::l=>jG g aH f (l.drop (min (ck x (aH+1)) l.length).toNat) (acc++[jh g (l.take (min (ck x (aH+1)) l.length).toNat)])
theorem S7(g aH:Int)(n:Nat)(acc:List (List Int)):jG g aH n [] acc=acc:=by cases n<;>rfl
def aaA:bW:=[(7,B0),(51,cWof)]
theorem Qb:bt Tryz.prog aaA:=ar uE (ar cWof_ok aG)
def sWsf:bJ:=bG Tryz.prog aaA Tryz.f19 0 [([0,0,1,1],[0,1,2,7])] [] [some dL]
theorem Qc(g aH:Int)(hg:1<=g/\g<=16)(hm:0<=aH/\aH<=100)(R:List (List Int)):∀(n:Nat)(l:List Int)(acc:List (List Int)),l.length<=n->n+acc.length<=1000->R=jG g aH n l acc->
 av sWsf (aD (bK R) []) [0,0,1,1] (fr [(0,bI l),(1,nI g),(2,nI aH),(7,fK 0 acc.length)]) (.ofList [obLL acc])
 | n,l,acc,hl,hn,hr=>by
   refine aN Qb (by kernel_rfl) 100 ?_;apply of_eq (q:=let q0:=IntKind.i64.wrap;let q2:=(l.length:Int);let q1:=((1:Int)+min (ck (l.getD (0:Nat) (0:Int)) (q0 (aH+1))) (q0 (q2-1)));let q3:=(acQ (1:Nat) (acP (q0 q1).toNat l));(decide ((0:Int)<q2)=true->((0:Int)<=0/\(0:Int)<q2)/\(0:Nat)<l.length/\((1:Int)<=q0 (aH+1)/\q0 (aH+1)<=1000)/\((0:Int)<=1/\(1:Int)<=q0 q1/\q0 q1<=q2)/\(((1:Int)<=g/\g<=16)/\q3.length<=1000)/\(0:Nat)+1<=1/\((0:Nat)+acc.length<=acc.length/\(acc.length+1)*24<=140737488355328)/\((0:Int)<=q0 q1/\q0 q1<=q2/\q2<=q2)/\av sWsf (aD (bK R) []) [0,0,1,1] (fr [(0,bI (acQ (q0 q1).toNat (acP l.length l))),(1,nI g),(2,nI aH),(7,aS 0 0 (acc.length+1))]) (ak.ofList [Ob.mk 51 [Fd.a 0 (D.int .i64).sl (acP acc.length (acQ (0:Nat) acc)++acP (1:Nat) (acQ (0:Nat) [jh g q3]))]]))/\(decide ((0:Int)<q2)=false->(0:Nat)+acc.length<=acc.length/\aE [V.c (wL (acP acc.length (acQ (0:Nat) acc)))]=bK R/\([]:List Ob)=[])) (by kernel_rfl)
   try simp only[sL]
   cases l with
   | nil=>exact⟨fun h=>by simp at h,fun _=>by rw[hr,S7];rfl⟩
   | cons x l =>
     refine⟨fun _=>?_,fun h=>by simp at h;omega⟩;have t:=lE x (aH+1) (by omega);simp only[acX] at hl ⊢;have e0:(x::l).getD 0 0=x:=rfl;have e1:IntKind.i64.wrap (aH+1)=aH+1:=wrap64 (by omega) (by omega);have e2:IntKind.i64.wrap (((l.length+1:Nat):Int)-1)=(l.length:Int):=by rw[wrap64 (by omega) (by omega)];omega
     have e3:IntKind.i64.wrap (1+min (ck x (aH+1)) (l.length:Int))=1+min (ck x (aH+1)) (l.length:Int):=wrap64 (by omega) (by omega);simp only[e0,e1,e2,e3];cases n with
     | zero=>omega
     | succ n =>
       simp only[jG] at hr;have hm1:0<=min (ck x (aH+1)) (l.length:Int):=by omega
       have hm2:min (ck x (aH+1)) (l.length:Int)<=l.length:=by omega
       revert hm1 hm2 hr;generalize min (ck x (aH+1)) (l.length:Int)=m;intro hr hm1 hm2;have e4:(1+m).toNat=m.toNat+1:=by omega
       rw[e4,List.take_succ_cons,ac7,ac7,List.drop_zero];refine⟨by omega,by omega,by omega,by omega,⟨hg,by simp;omega⟩,by omega,by omega,?_⟩;have:=Qc g aH hg hm R n (l.drop m.toNat) (acc++[jh g (l.take m.toNat)]) (by simp;omega) (by simp;omega) hr;rw[acT] at this;exact this
theorem ws_sem(g aH:Int)(l:List Int)(hg:1<=g/\g<=16)(hm:0<=aH/\aH<=100)(hl:l.length<=1000):bA Tryz.prog 19 [bI l,nI g,nI aH] [] (bK (jG g aH l.length l [])) []:=by
 refine dJ (aj:=[([0,0,1,1],[0,1,2,7])]) (cx:=[]) (fz:=[some dL]) Qb Tryz.func19 (by kernel_rfl) (ay:=0) rfl (by kernel_rfl) 100 ?_;apply of_eq (q:=av (bG Tryz.prog aaA Tryz.f19 (0:Nat) [([0,0,1,1],[0,1,2,7])] [] [some dL]) (aD (bK (jG g aH l.length l [])) []) [0,0,1,1] (fr [(0,bI l),(1,nI g),(2,nI aH),(7,aS 0 0 0)]) (ak.ofList [Ob.mk 51 [Fd.a 0 (D.int .i64).sl []]])) (by kernel_rfl)
 try simp only[sL,Int.reduceEq,Int.reduceNe,Nat.reduceAdd]
 exact Qc g aH hg hm _ l.length l [] (by omega) (by simp;omega) rfl
def cWs:bQ:=ZU dI (.int .i64) (.int .i64) fun l g m=>(.p ((1<=(show Int from g)/\(show Int from g)<=16)/\(0<=(show Int from m)/\(show Int from m)<=100)/\acS (α:=Int) l<=1000),bK (jG g m (acS (α:=Int) l) l []),[])
theorem cWs_ok:aM Tryz.prog 19 cWs:=con3_ok (by kernel_rfl) fun l g m h=>ws_sem g m l h.1 h.2.1 h.2.2
end Go.Proofs.YtdpbidkgdnnamaaGreatDoor
