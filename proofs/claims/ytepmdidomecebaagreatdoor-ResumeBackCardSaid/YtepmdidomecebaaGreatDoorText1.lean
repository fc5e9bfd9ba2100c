/- strings.Join of a list of strings. -/
import Derived.Test.YtepmdidomecebaaGreatDoorShelf1
import Derived.Test.YtepmdidomecebaaGreatDoorWord0
import Derived.Test.YtepmdidomecebaaGreatDoorLoom4
import Derived.Test.YtepmdidomecebaaGreatDoorRead1
namespace Go.Proofs.YtepmdidomecebaaGreatDoor
open Go.aJ Go.RowKit
set_option maxRecDepth 100000
abbrev dS:D:=.sl .str
abbrev kR (l:List ByteArray):A:=.p (.c (.rd .str l))
abbrev bW (s:ByteArray):A:=.p (.c (.str s))
def eO (xs:List ByteArray) (sep:ByteArray):ByteArray:=⟨(Lib.join (xs.map (·.data.toList)) sep.data.toList).toArray⟩
theorem Vi {P:Program} {f:FuncId} {args:List A} {d:D} {y:d.ty} (h:∀ (base:Nat) (η:Eta) (Z:Zeta) (w:World) vs,St base η Z (.ofList []) w->aN (bL η Z) args vs->Calls P f vs.toArray w fun e w'=>∃ u,e=.returned u/\(∀ Z:Zeta,bX Z d y u)/\Below w.heap.size w w'):aT P f args [] (dat d y) [] :=
 x5 fun base η Z w vs R hvs _=>h base η Z w vs R hvs
theorem Vj (xs : List ByteArray) (sep : ByteArray) (h : xs.length ≤ 100000 ∧ (eO xs sep).size ≤ 1000000) : aT Tryz.prog 113 [kR xs, bW sep] [] (bW (eO xs sep)) [] :=
 Vi (d := .str) (y := eO xs sep) fun base η Z w vs R hvs => by
  match vs,hvs with
  | [v, s], ⟨⟨_, h1⟩, ⟨_, h2⟩, _⟩ =>
    have h2:s=.string sep:=h2;subst h2;obtain ⟨a,len,c,rfl,hl,hc,hx⟩:=aA.rd h1;subst hl;by_cases h0:xs=[]
    . subst h0;exact (Tryz.strings_Join_none a c sep w).mono fun e w' ⟨he,hw⟩=>⟨_,he,fun _=>rfl,hw▸Below.refl _ _⟩
    . rcases hx with hx | ⟨b,off,cells,rfl,hb,hd⟩
      . exact absurd hx h0
      . obtain ⟨ty,fz,hw⟩:=R.zs b cells hb;refine (Tryz.strings_Join b off c xs sep w (fun j x hj=>?_) (cH hw) (by omega) hc ?_).mono fun e w' ⟨he,hB⟩=>⟨_,he,fun _=>rfl,hB⟩
        . obtain ⟨u,e1,e2⟩:=hd j x hj;have e2:u=.string x:=e2;subst e2;simp [World.cell?,hw,e1]
        . have:=h.2;have e:(eO xs sep).size=(Lib.join (xs.map (·.data.toList)) sep.data.toList).length:=by simp [eO,ByteArray.size]
          omega
def XJ:bw:=jj dS .str fun xs sep=>(.p (List.length (α:=ByteArray) xs<=100000/\(eO xs sep).size<=1000000),bW (eO xs sep),[])
theorem Vk:aH Tryz.prog 113 XJ:=fu (by kernel_rfl) fun xs s h=>Vj xs s h
end Go.Proofs.YtepmdidomecebaaGreatDoor
namespace Go.Proofs.YtepmdidomecebaaGreatDoor
open Go.aJ
set_option maxRecDepth 100000
def dM (n:Nat):ByteArray:=if n<10 then ⟨#[UInt8.ofNat (48+n)]⟩ else ⟨#[UInt8.ofNat (48+n / 10),UInt8.ofNat (48+n % 10)]⟩
theorem RH (n:Nat) (h:n<100):aT Tryz.prog 166 [nI n] [] (.p (.c (.str (dM n)))) []:=by
 refine bI (live:=[]) ay Tryz.func166 (by kernel_rfl) (keep:=0) rfl (by kernel_rfl) 100 ?_;apply of_eq (q:=let q0:=IntKind.i64.wrap;let q1:=(48:UInt8);let q2:=(49:UInt8);let q3:=(50:UInt8);let q4:=(51:UInt8);let q5:=(52:UInt8);let q6:=(53:UInt8);let q7:=(54:UInt8);let q8:=(55:UInt8);let q9:=(56:UInt8);let aC:=(57:UInt8);let aM:=(q0 ((n:Int)*(2:Int))+(2:Int));(decide ((n:Int)<(10:Int))=true->((0:Int)<=(n:Int)/\(n:Int)<=q0 ((n:Int)+(1:Int))/\q0 ((n:Int)+(1:Int))<=(↑(36:Nat):Int))/\ak [V.c (W.str ((ByteArray.mk #[q1,q2,q3,q4,q5,q6,q7,q8,q9,aC,(97:UInt8),(98:UInt8),(99:UInt8),(100:UInt8),(101:UInt8),(102:UInt8),(103:UInt8),(104:UInt8),(105:UInt8),(106:UInt8),(107:UInt8),(108:UInt8),(109:UInt8),(110:UInt8),(111:UInt8),(112:UInt8),(113:UInt8),(114:UInt8),(115:UInt8),(116:UInt8),(117:UInt8),(118:UInt8),(119:UInt8),(120:UInt8),(121:UInt8),(122:UInt8)]).extract n (q0 ((n:Int)+(1:Int))).toNat))]=A.p (V.c (W.str (dM n)))/\([]:List Ob)=[])/\(decide ((n:Int)<(10:Int))=false->((0:Int)<=q0 ((n:Int)*(2:Int))/\q0 ((n:Int)*(2:Int))<=q0 aM/\q0 aM<=(↑(200:Nat):Int))/\ak [V.c (W.str ((ByteArray.mk (([q1,q1,q1,q2,q1,q3,q1,q4,q1,q5,q1,q6,q1,q7,q1,q8,q1,q9,q1,aC,q2,q1,q2,q2,q2,q3,q2,q4,q2,q5,q2,q6,q2,q7,q2,q8,q2,q9,q2,aC,q3,q1,q3,q2,q3,q3,q3,q4,q3,q5].append [q3,q6,q3,q7,q3,q8,q3,q9,q3,aC,q4,q1,q4,q2,q4,q3,q4,q4,q4,q5,q4,q6,q4,q7,q4,q8,q4,q9,q4,aC,q5,q1,q5,q2,q5,q3,q5,q4,q5,q5,q5,q6,q5,q7,q5,q8,q5,q9,q5,aC]).append ([q6,q1,q6,q2,q6,q3,q6,q4,q6,q5,q6,q6,q6,q7,q6,q8,q6,q9,q6,aC,q7,q1,q7,q2,q7,q3,q7,q4,q7,q5,q7,q6,q7,q7,q7,q8,q7,q9,q7,aC,q8,q1,q8,q2,q8,q3,q8,q4,q8,q5].append [q8,q6,q8,q7,q8,q8,q8,q9,q8,aC,q9,q1,q9,q2,q9,q3,q9,q4,q9,q5,q9,q6,q9,q7,q9,q8,q9,q9,q9,aC,aC,q1,aC,q2,aC,q3,aC,q4,aC,q5,aC,q6,aC,q7,aC,q8,aC,q9,aC,aC])).toArray).extract (q0 ((n:Int)*(2:Int))).toNat (q0 aM).toNat))]=A.p (V.c (W.str (dM n)))/\([]:List Ob)=[])) (by kernel_rfl)
 try simp only [and_true,decide_eq_true_eq,decide_eq_false_iff_not,Int.not_lt]
 rw [wrap64 (n:=(n:Int)+1) (by omega) (by omega),wrap64 (n:=(n:Int)*2) (by omega) (by omega),wrap64 (n:=(n:Int)*2+2) (by omega) (by omega),show ((n:Int)+1).toNat=n+1 by omega,show ((n:Int)*2).toNat=n*2 by omega,show ((n:Int)*2+2).toNat=n*2+2 by omega];refine ⟨fun hn=>⟨by omega,congrArg (fun s=>A.p (V.c (W.str s))) ?_⟩,fun hn=>⟨by omega,congrArg (fun s=>A.p (V.c (W.str s))) ?_⟩⟩
 . revert n;decide +kernel
 . revert n;decide +kernel
theorem Oe (n:Int) (h:0<=n/\n<100):aT Tryz.prog 166 [nI n] [] (.p (.c (.str (dM n.toNat)))) []:=by
 have:=RH n.toNat (by omega)
 rwa [show ((n.toNat:Nat):Int)=n by omega] at this
def RI:bw:=jC (.int .i64) fun n=>(.p (0<=(show Int from n)/\(show Int from n)<100),.p (.c (.str (dM (show Int from n).toNat))),[])
theorem RJ:aH Tryz.prog 166 RI:=fD (by kernel_rfl) fun n h=>Oe n h
noncomputable def gFi:bF:=[(166,RI)]
theorem gFi_ok:aS Tryz.prog gFi:=ai RJ ay
theorem fi_sem (n:Int) (h:0<=n/\n<100):aT Tryz.prog 143 [nI n,nI 10] [] (.p (.c (.str (dM n.toNat)))) []:=by
 refine bI (live:=[]) gFi_ok Tryz.func143 (by kernel_rfl) (keep:=0) rfl (by kernel_rfl) 100 ?_;apply of_eq (q:=let q1:=decide ((0:Int)<=n);(decide ((10:Int)=(10:Int))=true->(q1=true->q1=true)/\(q1=true->q1=true)/\((bif q1 then decide (n<(100:Int)) else false)=true->((0:Int)<=n/\n<(100:Int))/\ak [V.c (W.str (dM n.toNat))]=A.p (V.c (W.str (dM n.toNat)))/\([]:List Ob)=[])/\((bif q1 then decide (n<(100:Int)) else false)=false->(decide (n<(0:Int))=true->False)/\(decide (n<(0:Int))=false->False)))/\(decide ((10:Int)=(10:Int))=false->False)) (by kernel_rfl)
 try simp only [imp_self,true_and,and_true,Bool.cond_false_right,Bool.and_eq_true,Bool.and_eq_false_imp,decide_eq_true_eq,decide_eq_false_iff_not,Int.not_lt]
 exact ⟨fun _=>⟨fun _=>⟨h,rfl⟩,fun g=>by have:=g h.1;omega⟩,fun g=>absurd trivial g⟩
def cFi:bw:=jj (.int .i64) (.int .i64) fun n b=>(.p ((show Int from b)=10/\0<=(show Int from n)/\(show Int from n)<100),.p (.c (.str (dM (show Int from n).toNat))),[])
theorem cFi_ok:aH Tryz.prog 143 cFi:=fu (by kernel_rfl) fun n b h=>by
 obtain ⟨rfl,h2⟩:=h;exact fi_sem n h2
noncomputable def gIt:bF:=[(143,cFi)]
theorem gIt_ok:aS Tryz.prog gIt:=ai cFi_ok ay
theorem YP (n:Int) (h:0<=n/\n<100):aT Tryz.prog 109 [nI n] [] (.p (.c (.str (dM n.toNat)))) []:=by
 refine bI (live:=[]) gIt_ok Tryz.func109 (by kernel_rfl) (keep:=0) rfl (by kernel_rfl) 100 ?_;apply of_eq (q:=((10:Int)=(10:Int)/\(0:Int)<=n/\n<(100:Int))/\ak [V.c (W.str (dM n.toNat))]=A.p (V.c (W.str (dM n.toNat)))/\([]:List Ob)=[]) (by kernel_rfl)
 try simp only [true_and,and_true]
 exact ⟨h,rfl⟩
def cIt1:bw:=jC (.int .i64) fun n=>(.p (0<=(show Int from n)/\(show Int from n)<100),.p (.c (.str (dM (show Int from n).toNat))),[])
theorem YQ:aH Tryz.prog 109 cIt1:=fD (by kernel_rfl) fun n h=>YP n h
noncomputable def gIt2:bF:=[(109,cIt1)]
theorem YR:aS Tryz.prog gIt2:=ai YQ ay
theorem Vl (n:Int) (h:0<=n/\n<100):aT Tryz.prog 59 [nI n] [] (.p (.c (.str (dM n.toNat)))) []:=by
 refine bI (live:=[]) YR Tryz.func59 (by kernel_rfl) (keep:=0) rfl (by kernel_rfl) 100 ?_;apply of_eq (q:=((0:Int)<=n/\n<(100:Int))/\ak [V.c (W.str (dM n.toNat))]=A.p (V.c (W.str (dM n.toNat)))/\([]:List Ob)=[]) (by kernel_rfl)
 try simp only [and_true]
 exact ⟨h,rfl⟩
def XK:bw:=jC (.int .i64) fun n=>(.p (0<=(show Int from n)/\(show Int from n)<100),.p (.c (.str (dM (show Int from n).toNat))),[])
theorem Vm:aH Tryz.prog 59 XK:=fD (by kernel_rfl) fun n h=>Vl n h
end Go.Proofs.YtepmdidomecebaaGreatDoor
namespace Go.Proofs.YtepmdidomecebaaGreatDoor
open Go.aJ Go.Words
set_option maxRecDepth 100000
theorem cE (a b:ByteArray):af (a++b)=af a++af b:=by
 simp [af,ByteArray.data_append]
theorem eP {l:List Int} (h:∀ x∈l,0<=x/\x<256):af (aP l)=l:=by
 unfold af aP;rw [List.map_map]
 conv=>rhs;rw [<-List.map_id l]
 refine List.map_congr_left fun x hx=>?_;have:=h x hx;simp only [Function.comp,id];rw [UInt8.toNat_ofNat'];omega
theorem enc1 {c:Int} (h:0<=c/\c<128):Utf8.encode c=aP [c]:=by
 have e:((c.toNat:Nat):Int)=c:=by omega
 rw [<-e];have:∀ n:Nat,n<128->Utf8.encode (n:Int)=aP [(n:Int)]:=by decide +kernel
 exact this _ (by omega)
theorem CC (n:Nat) (h:n<100):af (dM n)=oK n:=by
 revert n;decide +kernel
def vM (sep:List Int):List (List Int)->List Int
 | []=>[]
 | [p]=>p
 | p::q::r=>p++sep++vM sep (q::r)
theorem Og (x y:List UInt8) (r:List (List UInt8)) (sep:List UInt8):Lib.join (x::y::r) sep=x++sep++Lib.join (y::r) sep:=by
 simp [Lib.join,List.intercalate]
theorem sH (l:List UInt8):af ⟨l.toArray⟩=l.map fun b=>(b.toNat:Int):=by simp [af]
theorem Au (sep:ByteArray):∀ xs:List ByteArray,af (eO xs sep)=vM (af sep) (xs.map af)
 | []=>by simp [eO,sH,Lib.join,vM]
 | [x]=>by simp [eO,Lib.join,vM,af]
 | x::y::r=>by
   have ih:=Au sep (y::r);unfold eO at ih ⊢;rw [sH] at ih ⊢;simp only [List.map_cons] at ih ⊢;rw [Og,List.map_append,List.map_append,ih,vM];rfl
theorem CD:∀ ps:List (List Int),vM [42] ps=jH ps
 | []=>rfl
 | [p]=>rfl
 | p::q::r=>by rw [vM,jH,CD (q::r)];simp
def hatS:ByteArray:=⟨#[94]⟩
def hatM:ByteArray:=⟨#[94,45]⟩
def jw:ByteArray:=⟨#[42]⟩
def rL (x:Int) (n:Nat):ByteArray:=if x<0 then aP [96+(x.natAbs:Int)]++(hatM++dM n) else if 1<n then aP [96+(x.natAbs:Int)]++(hatS++dM n) else aP [96+(x.natAbs:Int)]
def kC (y:List Int):ByteArray:=rL (y.getD 0 0) (y.getD 1 0).toNat
theorem IE {x:Int} {n:Nat} (hx:(x.natAbs:Int)<=100) (hn:n<100):af (rL x n)=jP x n:=by
 have e:af (aP [96+(x.natAbs:Int)])=[96+(x.natAbs:Int)]:=eP (by simp;omega);unfold rL jP;split
 . rw [cE,cE,e,CC n hn];rfl
 . split
   . rw [cE,cE,e,CC n hn];rfl
   . rw [e]
theorem IG {g:Int} (hg:g<=16) {y:List Int} (h:Cy g y):af (kC y)=pY y:=by
 obtain ⟨x,n,rfl,h1,h2,h3,h4⟩:=h;exact IE (x:=x) (n:=n) (by omega) h4
def nW:ByteArray:=⟨#[49]⟩
def cV (a:List Int):ByteArray:=if a=[] then nW else eO ((dD a).map kC) jw
theorem tG {g:Int} (hg:g<=16) {a:List Int} (ha:gq g a) (hl:a.length<100):af (cV a)=o9 a:=by
 unfold cV o9;split
 . rfl
 . rw [Au,List.map_map,show af jw=[42] from rfl,CD];congr 1;refine List.map_congr_left fun y hy=>?_;exact IG hg (ny _ a (Nat.le_refl _) hl ha y hy)
theorem Oh (x:Int) (n:Nat) (_hn:n<100):(jP x n).length<=5:=by
 have:(oK n).length<=2:=by unfold oK;split <;> simp
 unfold jP;split
 . simp;omega
 . split <;> simp <;> omega
theorem Fu:∀ ps:List (List Int),(∀ p∈ps,p.length<=5)->(jH ps).length<=6*ps.length
 | [],_=>by simp [jH]
 | [p],h=>by have:=h p (by simp);simp [jH];omega
 | p::q::r,h=>by
   have h1:=h p (by simp);have h2:=Fu (q::r) fun x hx=>h x (by simp [hx]);rw [jH];simp only [List.length_append,List.length_cons] at h2 ⊢;omega
theorem Be:∀ (n:Nat) (a:List Int),a.length<=n->(dD a).length<=a.length
 | _,[],_=>by rw [dD];simp
 | 0,x::l,h=>by simp at h
 | n+1,x::l,h=>by
   have hl:=yd x l;simp only [List.length_cons] at h;rw [dD];have:=Be n (l.drop (gC x l)) (by simp;omega);rw [List.length_drop] at this;simp only [List.length_cons];omega
theorem RL {g:Int} {a:List Int} (ha:gq g a) (hl:a.length<100):(o9 a).length<=600:=by
 unfold o9;split
 . simp
 . have:=Fu ((dD a).map pY) fun p hp=>by
    obtain ⟨y,hy,rfl⟩:=List.mem_map.1 hp;obtain ⟨x,n,rfl,_,_,_,h4⟩:=ny _ a (Nat.le_refl _) hl ha y hy;exact Oh _ _ h4
   have h2:=Be _ a (Nat.le_refl _);rw [List.length_map] at this;omega
theorem nX {g:Int} (hg:g<=16) {a:List Int} (ha:gq g a) (hl:a.length<100):(cV a).size<=600:=by
 rw [<-aW,tG hg ha hl];exact RL ha hl
theorem RM (w:List Int) (h:w.length<=1000000):aT Tryz.prog 98 [aZ w] [] (aZ w) []:=by
 refine cJ (live:=[]) (bQ:=[]) (fz:=[some dI]) ay Tryz.func98 (by kernel_rfl) (keep:=0) rfl (by kernel_rfl) 100 ?_;apply of_eq (q:=let q1:=(0:Nat);∀ (b:Bool),(b=!false->w=[])->(b=true->q1<=q1/\ak [V.c (W.rd (D.int .i64) (List.take q1 (List.drop q1 [])))]=aZ w/\([]:List Ob)=[])/\(b=false->(q1+q1<=q1/\(q1+w.length)*(8:Nat)<=(140737488355328:Nat))/\q1+(q1+w.length)<=(List.take q1 (List.drop q1 [])++w).length/\ak [V.c (W.rd (D.int .i64) (List.take (q1+w.length) (List.drop q1 (List.take q1 (List.drop q1 [])++w))))]=aZ w/\([]:List Ob)=[])) (by kernel_rfl)
 try simp only [true_and,and_true,Nat.zero_add,List.drop_zero,List.take_zero,Nat.le_refl]
 intro b hb;refine ⟨fun g=>?_,fun g=>?_⟩
 . rw [hb g];rfl
 . refine ⟨by omega,by simp,?_⟩;rw [show List.take w.length ([]++w)=w from List.take_length];rfl
def RN:bw:=jC dI fun w=>(.p (List.length (α:=Int) w<=1000000),aZ w,[])
theorem RO:aH Tryz.prog 98 RN:=fD (by kernel_rfl) fun w h=>RM w h
theorem jn {n:Int} (h1:0<=n) (h2:n<18446744073709551616):IntKind.u64.wrap n=n:=by
 simp only [IntKind.wrap,IntKind.bits,IntKind.signed];simp;omega
theorem Oi {n:Int} (h1:0<=n) (h2:n<4294967296):((BitVec.ofInt 64 n &&& BitVec.ofInt 64 4294967295).toNat:Int)=n:=by
 obtain ⟨m,rfl⟩:∃ m:Nat,n=m:=⟨n.toNat,by omega⟩;have e:(BitVec.ofInt 64 (m:Int) &&& BitVec.ofInt 64 4294967295).toNat=m &&& (2 ^ 32-1):=by
  rw [BitVec.toNat_and];simp only [BitVec.toNat_ofInt];congr 1;omega
 rw [e,Nat.and_two_pow_sub_one_eq_mod];omega
theorem RP (x y:Int) (h:(0<=x/\x<1073741824)/\0<=y/\y<1073741824):aT Tryz.prog 155 [uI x,uI y] [] (.aF [.c (.int .u64 0),.c (.int .u64 (x*y))]) []:=by
 refine bI (live:=[]) ay Tryz.func155 (by kernel_rfl) (keep:=0) rfl (by kernel_rfl) 100 ?_;apply of_eq (q:=let q2:=((2:Int) ^ (32:Nat));let q1:=(IntKind.u64.wrap (IntKind.u64.wrap (x.fdiv q2*IntKind.u64.wrap (↑(BitVec.ofInt (64:Nat) y &&& BitVec.ofInt (64:Nat) (4294967295:Int)).toNat:Int))+(IntKind.u64.wrap (IntKind.u64.wrap (↑(BitVec.ofInt (64:Nat) x &&& BitVec.ofInt (64:Nat) (4294967295:Int)).toNat:Int)*IntKind.u64.wrap (↑(BitVec.ofInt (64:Nat) y &&& BitVec.ofInt (64:Nat) (4294967295:Int)).toNat:Int))).fdiv q2));(0:Int)<=(32:Int)/\(0:Int)<=(32:Int)/\(0:Int)<=(32:Int)/\(0:Int)<=(32:Int)/\(0:Int)<=(32:Int)/\ak [V.c (W.int .u64 (IntKind.u64.wrap (IntKind.u64.wrap (IntKind.u64.wrap (x.fdiv q2*y.fdiv q2)+q1.fdiv q2)+(IntKind.u64.wrap (IntKind.u64.wrap (↑(BitVec.ofInt (64:Nat) q1 &&& BitVec.ofInt (64:Nat) (4294967295:Int)).toNat:Int)+IntKind.u64.wrap (IntKind.u64.wrap (↑(BitVec.ofInt (64:Nat) x &&& BitVec.ofInt (64:Nat) (4294967295:Int)).toNat:Int)*y.fdiv q2))).fdiv q2))),V.c (W.int .u64 (IntKind.u64.wrap (x*y)))]=A.aF [V.c (W.int .u64 (0:Int)),V.c (W.int .u64 (x*y))]/\([]:List Ob)=[]) (by kernel_rfl)
 try simp only [and_true]
 obtain ⟨⟨h1,h2⟩,h3,h4⟩:=h;have mg:0<=x*y:=Int.mul_nonneg h1 h3;have hp1:x*y<=1073741824*1073741824:=Int.mul_le_mul (by omega) (by omega) h3 (by omega);have dx:x.fdiv (2 ^ 32)=0:=by rw [Int.fdiv_eq_ediv_of_nonneg _ (by omega)];omega
 have dy:y.fdiv (2 ^ 32)=0:=by rw [Int.fdiv_eq_ediv_of_nonneg _ (by omega)];omega
 have w0:IntKind.u64.wrap 0=0:=jn (by omega) (by omega);have wx:IntKind.u64.wrap x=x:=jn (by omega) (by omega);have wy:IntKind.u64.wrap y=y:=jn (by omega) (by omega);have wp:IntKind.u64.wrap (x*y)=x*y:=jn mg (by omega);have dp:0<=(x*y).fdiv (2 ^ 32)/\(x*y).fdiv (2 ^ 32)<4294967296:=by rw [Int.fdiv_eq_ediv_of_nonneg _ (by omega)];omega
 have wd:IntKind.u64.wrap ((x*y).fdiv (2 ^ 32))=(x*y).fdiv (2 ^ 32):=jn dp.1 (by omega);have dd:((x*y).fdiv (2 ^ 32)).fdiv (2 ^ 32)=0:=by rw [Int.fdiv_eq_ediv_of_nonneg (a:=(x*y).fdiv (2 ^ 32)) (by omega)];omega
 simp only [Oi (n:=x) h1 (by omega),Oi (n:=y) h3 (by omega),dx,dy,wx,wy,wp,Int.zero_mul,Int.mul_zero,w0,Int.zero_add,Int.add_zero,wd,dd,Oi dp.1 dp.2];refine ⟨by omega,by omega,by omega,by omega,by omega,rfl⟩
def RQ:bw:=jj (.int .u64) (.int .u64) fun x y=>(.p ((0<=(show Int from x)/\(show Int from x)<1073741824)/\0<=(show Int from y)/\(show Int from y)<1073741824),.aF [.c (.int .u64 0),.c (.int .u64 ((show Int from x)*(show Int from y)))],[])
theorem RR:aH Tryz.prog 155 RQ:=fu (by kernel_rfl) fun x y h=>RP x y h
noncomputable def gBm:bF:=[(155,RQ)]
theorem gBm_ok:aS Tryz.prog gBm:=ai RR ay
theorem Vn (x y:Int) (h:(0<=x/\x<1073741824)/\0<=y/\y<1073741824):aT Tryz.prog 133 [uI x,uI y] [] (.aF [.c (.int .u64 0),.c (.int .u64 (x*y))]) []:=by
 refine bI (live:=[]) gBm_ok Tryz.func133 (by kernel_rfl) (keep:=0) rfl (by kernel_rfl) 100 ?_;apply of_eq (q:=(((0:Int)<=x/\x<(1073741824:Int))/\(0:Int)<=y/\y<(1073741824:Int))/\ak [V.c (W.int .u64 (0:Int)),V.c (W.int .u64 (x*y))]=A.aF [V.c (W.int .u64 (0:Int)),V.c (W.int .u64 (x*y))]/\([]:List Ob)=[]) (by kernel_rfl)
 try simp only [and_true]
 exact ⟨h,rfl⟩
def cBm:bw:=jj (.int .u64) (.int .u64) fun x y=>(.p ((0<=(show Int from x)/\(show Int from x)<1073741824)/\0<=(show Int from y)/\(show Int from y)<1073741824),.aF [.c (.int .u64 0),.c (.int .u64 ((show Int from x)*(show Int from y)))],[])
theorem cBm_ok:aH Tryz.prog 133 cBm:=fu (by kernel_rfl) fun x y h=>Vn x y h
noncomputable def II:bF:=[(133,cBm)]
theorem zC:aS Tryz.prog II:=ai cBm_ok ay
noncomputable def sRep:Site:=aY Tryz.prog II Tryz.f219 0 [([0,0,1,1,1,1,1,1],[7,8])] [] [some dI]
theorem LL (x:List Int) {m k:Nat} (h:k<=m):(pw x m).take (k*x.length)=pw x k:=by
 obtain ⟨j,rfl⟩:∃ j,m=k+j:=⟨m-k,by omega⟩;rw [x9,<-jv x k,List.take_left]
theorem vN (x : List Int) (c : Nat) (hL : c * x.length ≤ 1000000) : ∀ (k m : Nat) (l : List Int), k = c - m → (0 < m ∨ c = 0) → m ≤ c → l.length = c * x.length → l.take (m * x.length) = pw x m →
 aq sRep (ax (aZ (pw x c)) []) [0,0,1,1,1,1,1,1] (fr [(7,gi 0 (c*x.length)),(8,nI ((m*x.length:Nat):Int))]) (.ofList [bp l])
 | k, m, l, hk, hm, hmc, hl, hr => by
   refine aK zC (by kernel_rfl) 100 ?_;apply of_eq (q:=let q1:=(↑(m*x.length):Int);let q2:=(↑(c*x.length):Int);let q3:=(List.take (q1-(0:Int)).toNat (List.drop ((0:Nat)+(0:Nat)*(1:Nat)) l));(decide (q1<q2)=true->((0:Int)<=q1/\q1<=q2/\q2<=q2)/\((0:Int)<=(0:Int)/\(0:Int)<=q1/\q1<=q2)/\(0:Nat)+(0:Nat)*(1:Nat)+(q1-(0:Int)).toNat<=l.length/\(0:Nat)+m*x.length*(1:Nat)+(q2-q1).toNat<=l.length/\aq sRep (ax (aZ (pw x c)) []) [0,0,1,1,1,1,1,1] (fr [(7,A.p (V.c (W.sl 0 0 (c*x.length) 1))),(8,nI (IntKind.i64.wrap (q1+(↑(q3.length.min (q2-q1).toNat):Int))))]) (ah.ofList [Ob.mk 3 [Fd.a 0 (D.int .i64) (spl l ((0:Nat)+m*x.length*(1:Nat)) (List.take (q2-q1).toNat q3))]]))/\(decide (q1<q2)=false->(0:Nat)+c*x.length<=l.length/\ak [V.c (W.rd (D.int .i64) (List.take (c*x.length) (List.drop (0:Nat) l)))]=aZ (pw x c)/\([]:List Ob)=[])) (by kernel_rfl)
   try simp only [true_and,and_true,Nat.zero_add,Nat.mul_one,decide_eq_true_eq,decide_eq_false_iff_not,Int.not_lt,List.drop_zero,Int.le_refl]
   have hnL:m*x.length<=c*x.length:=Nat.mul_le_mul_right _ hmc;have hpl:(pw x m).length=m*x.length:=jv x m;generalize hn:m*x.length=n at *;generalize rM:c*x.length=L at *;rw [show ((n:Int)-0).toNat=n by omega,show ((L:Int)-n).toNat=L-n by omega,hr,hpl];refine ⟨fun h=>⟨by omega,by omega,by omega,by omega,?_⟩,fun h=>⟨by omega,?_⟩⟩
   · have hne : m < c := by
      rcases Nat.lt_or_ge m c with h1 | h1
      . exact h1
      . have:m=c:=by omega
        subst this;omega
     rw [wrap64 (n:=(n:Int)+((n.min (L-n):Nat):Int)) (by omega) (by have:=Nat.min_le_right n (L-n);simp only [Nat.min_def] at *;split <;> omega)];have hsl:∀ q:List Int,q.length<=L-n->(spl l n q).length=L/\(spl l n q).take (n+q.length)=pw x m++q:=by
      intro q hq;have e:spl l n q=(pw x m++q)++l.drop (n+q.length):=by rw [spl,hr]
      refine ⟨by rw [e];simp [hpl];omega,?_⟩;rw [e,show n+q.length=(pw x m++q).length by simp [hpl],List.take_left]
     cases k with
     | zero=>omega
     | succ k =>
       rcases Nat.lt_or_ge c (2*m) with h2 | h2
       . have h3:L-n=(c-m)*x.length:=by rw [Nat.sub_mul,hn,rM]
         have h4:L-n<=n:=by rw [h3,<-hn];exact Nat.mul_le_mul_right _ (by omega)
         have e1:n.min (L-n)=L-n:=Nat.min_eq_right h4;have e2:List.take (L-n) (pw x m)=pw x (c-m):=by rw [h3];exact LL x (by omega)
         have e3:(pw x (c-m)).length=L-n:=by rw [jv,h3]
         obtain ⟨g1,g2⟩:=hsl (pw x (c-m)) (by omega);have:=vN x c (by omega) 0 c (spl l n (pw x (c-m))) (by omega) (by omega) (by omega) (by omega) (by
          rw [rM,show L=n+(pw x (c-m)).length by omega,g2,<-x9];congr 1;omega)
         rw [e1,e2,show ((n:Int)+((L-n:Nat):Int))=((L:Nat):Int) by omega];rw [rM] at this;exact this
       . have h3:2*m*x.length<=L:=by rw [<-rM];exact Nat.mul_le_mul_right _ h2
         have h4:2*m*x.length=n+n:=by rw [Nat.mul_assoc,hn];omega
         have e1:n.min (L-n)=n:=Nat.min_eq_left (by omega);have e2:List.take (L-n) (pw x m)=pw x m:=List.take_of_length_le (by omega);obtain ⟨g1,g2⟩:=hsl (pw x m) (by omega);have:=vN x c (by omega) (c-2*m) (2*m) (spl l n (pw x m)) (by omega) (by omega) (by omega) (by omega) (by
          rw [h4,show n+n=n+(pw x m).length by omega,g2,<-x9];congr 1;omega)
         rw [e1,e2,show ((n:Int)+((n:Nat):Int))=((n+n:Nat):Int) by omega];rw [rM,h4] at this;exact this
   . have Vo:n=L:=by omega
     have:m=c∨x.length=0:=by
      rcases Nat.lt_or_ge m c with h1 | h1
      . right;have:=Nat.mul_le_mul_right x.length (show m+1<=c by omega);rw [Nat.succ_mul] at this;omega
      . left;omega
     rw [show List.take L l=pw x c from ?_];rfl;rcases this with rfl | h0
     . rw [<-Vo];exact hr
     . have:(pw x c).length=0:=by rw [jv,h0];simp
       rw [List.eq_nil_of_length_eq_zero this];rw [h0,Nat.mul_zero] at rM;rw [<-rM];rfl
 termination_by k=>k
theorem Oj (x:List Int) (n:Int) (h:0<=n/\n<=100000/\x.length<=100000/\n.toNat*x.length<=1000000):aT Tryz.prog 219 [aZ x,nI n] [] (aZ (pw x n.toNat)) []:=by
 refine cJ (live:=[([0,0,1,1,1,1,1,1],[7,8])]) (bQ:=[]) (fz:=[some dI]) zC Tryz.func219 (by kernel_rfl) (keep:=0) rfl (by kernel_rfl) 100 ?_;apply of_eq (q:=let q0:=IntKind.i64.wrap;let q1:=(IntKind.u64.wrap (x.length:Int)*IntKind.u64.wrap n);let q2:=decide ((0:Int)<(0:Int));let q3:=decide ((9223372036854775807:Int)<IntKind.u64.wrap (x.length:Int)*IntKind.u64.wrap n);let q4:=(q0 q1);(decide (n<(0:Int))=true->False)/\(decide (n<(0:Int))=false->(((0:Int)<=IntKind.u64.wrap (x.length:Int)/\IntKind.u64.wrap (x.length:Int)<(1073741824:Int))/\(0:Int)<=IntKind.u64.wrap n/\IntKind.u64.wrap n<(1073741824:Int))/\(q2=false->q2=false)/\(q2=false->q2=false)/\((bif q2 then true else q3)=true->False)/\((bif q2 then true else q3)=false->((0:Int)<=q0 q1/\q0 q1<=q0 q1/\(↑(8:Nat):Int)*q0 q1<=(140737488355328:Int))/\(0:Nat)+q4.toNat<=(List.replicate q4.toNat (0:Int)).length/\aq (aY Tryz.prog II Tryz.f219 (0:Nat) [([0,0,1,1,1,1,1,1],[7,8])] [] [some dI]) (ax (aZ (pw x n.toNat)) []) [0,0,1,1,1,1,1,1] (fr [(7,A.p (V.c (W.sl 0 0 q4.toNat (1:Nat)))),(8,nI (↑(x.length.min q4.toNat):Int))]) (ah.ofList [Ob.mk 3 [Fd.a 0 (D.int .i64) (spl (List.replicate q4.toNat (0:Int)) (0:Nat) (List.take q4.toNat x))]])))) (by kernel_rfl)
 try simp only [imp_self,true_and,Nat.zero_add,Bool.cond_true_left,Bool.or_eq_true,Bool.or_eq_false_iff,decide_eq_true_eq,decide_eq_false_iff_not,Int.not_lt,Int.le_refl]
 obtain ⟨c,rfl⟩:∃ c:Nat,n=c:=⟨n.toNat,by omega⟩;obtain ⟨h1,h2,h3,h4⟩:=h;rw [Int.toNat_natCast] at h4;have e1:IntKind.u64.wrap (x.length:Int)=x.length:=jn (by omega) (by omega);have e2:IntKind.u64.wrap (c:Int)=c:=jn (by omega) (by omega);have e3:(x.length:Int)*(c:Int)=((c*x.length:Nat):Int):=by rw [Nat.mul_comm,Int.natCast_mul]
 rw [e1,e2,e3];have e4:IntKind.i64.wrap ((c*x.length:Nat):Int)=((c*x.length:Nat):Int):=wrap64 (by omega) (by omega);rw [e4,Int.toNat_natCast];refine ⟨fun g=>by omega,fun _=>⟨⟨by omega,by omega⟩,fun g=>by omega,fun _=>⟨by omega,by simp,?_⟩⟩⟩;cases c with
 | zero =>
   have:=vN x 0 (by omega) 0 0 (spl (List.replicate (0*x.length) 0) 0 (List.take (0*x.length) x)) rfl (.inr rfl) (by omega) (by simp [spl]) (by simp [pw]);rw [show x.length.min (0*x.length)=0*x.length by simp];exact this
 | succ c =>
   have hl:x.length<=(c+1)*x.length:=by rw [Nat.succ_mul];omega
   have e5:List.take ((c+1)*x.length) x=x:=List.take_of_length_le hl;have e6:x.length.min ((c+1)*x.length)=x.length:=Nat.min_eq_left hl;rw [e5,e6];have:=vN x (c+1) (by omega) (c+1-1) 1 (spl (List.replicate ((c+1)*x.length) 0) 0 x) rfl (by omega) (by omega) (by simp [spl];omega) (by
    rw [Nat.one_mul,spl];simp [pw])
   rw [Nat.one_mul] at this;exact this
def cRep:bw:=jj dI (.int .i64) fun x n=>(.p (0<=(show Int from n)/\(show Int from n)<=100000/\List.length (α:=Int) x<=100000/\(show Int from n).toNat*List.length (α:=Int) x<=1000000),aZ (pw x (show Int from n).toNat),[])
theorem YS:aH Tryz.prog 219 cRep:=fu (by kernel_rfl) fun x n h=>Oj x n h
theorem sz_abs {n:Int} (h:R64 n):sz n=n.natAbs:=by
 obtain ⟨h1,h2⟩:=h;unfold sz;split
 . have:IntKind.u64.wrap n=n+18446744073709551616:=by simp only [IntKind.wrap,IntKind.bits,IntKind.signed];simp;omega
   rw [this];have:IntKind.u64.wrap (0-(n+18446744073709551616))=-n:=by simp only [IntKind.wrap,IntKind.bits,IntKind.signed];simp;omega
   rw [this];omega
 . rw [jn (by omega) (by omega)];omega
def mC (g x:Int):Bool:=decide (x=0)||decide (g<x)||decide (x < -g)
def jQ (w:List Int) (g:Int):Int:=if g<1∨16<g then 2 else if 4000<w.length then 4 else if w.any (mC g) then 2 else 0
noncomputable def RS:Site:=eB Tryz.prog [] Tryz.f110 0 [([0,1,0,1,1,1],[1,16,17,18])]
theorem Av (w:List Int) (g:Int) (hg:1<=g/\g<=16) (hl:w.length<=4000):∀ (k i:Nat),k=w.length-i->i<=w.length->
 aq RS (ax (nI (if (w.drop i).any (mC g) then 2 else 0)) []) [0,1,0,1,1,1] (fr [(1,nI g),(16,aZ w),(17,nI w.length),(18,nI i)]) (.ofList [])
 | k, i, hk, hi => by
   refine aK ay (by kernel_rfl) 100 ?_;apply of_eq (q:=let q1:=decide (w.getD i (0:Int)=(0:Int));let q2:=decide (g<w.getD i (0:Int));let q3:=decide (w.getD i (0:Int)<IntKind.i64.wrap ((0:Int)-g));(decide ((i:Int)<(w.length:Int))=true->((0:Int)<=(i:Int)/\(i:Int)<(w.length:Int))/\i<w.length/\(q1=false->q1=false)/\(q1=false->q1=false)/\(q1=false->q1=false)/\((bif q1 then true else q2)=false->(bif q1 then true else q2)=false)/\((bif q1 then true else q2)=false->(bif q1 then true else q2)=false)/\((bif q1 then true else q2)=false->(bif q1 then true else q2)=false)/\((bif q1 then true else q2)=false->(bif q1 then true else q2)=false)/\((bif bif q1 then true else q2 then true else q3)=true->ak [V.c (W.int .i64 (2))]=nI (if (List.drop i w).any (mC g)=true then (2:Int) else (0:Int))/\([]:List Ob)=[])/\((bif bif q1 then true else q2 then true else q3)=false->aq RS (ax (nI (if (List.drop i w).any (mC g)=true then (2:Int) else (0:Int))) []) [0,1,0,1,1,1] (fr [(1,nI g),(16,aZ w),(17,nI (w.length:Int)),(18,nI (IntKind.i64.wrap ((i:Int)+(1:Int))))]) (ah.ofList [])))/\(decide ((i:Int)<(w.length:Int))=false->ak [V.c (W.int .i64 (0))]=nI (if (List.drop i w).any (mC g)=true then (2:Int) else (0:Int))/\([]:List Ob)=[])) (by kernel_rfl)
   try simp only [imp_self,true_and,and_true,Bool.cond_true_left,Bool.or_eq_true,Bool.or_eq_false_iff,decide_eq_true_eq,decide_eq_false_iff_not,Int.not_lt]
   rw [wrap64 (n:=0-g) (by omega) (by omega),wrap64 (n:=(i:Int)+1) (by omega) (by omega)];refine ⟨fun h=>⟨by omega,by omega,fun h2=>?_,fun h2=>?_⟩,fun h=>?_⟩
   . rw [iA (by omega),List.any_cons,show mC g (w.getD i 0)=true by simp only [mC,Bool.or_eq_true,decide_eq_true_eq];omega];rfl
   . have e:(w.drop i).any (mC g)=(w.drop (i+1)).any (mC g):=by
      rw [iA (by omega),List.any_cons,show mC g (w.getD i 0)=false by simp only [mC,Bool.or_eq_false_iff,decide_eq_false_iff_not];omega];rfl
     rw [e];cases k with
     | zero=>omega
     | succ k=>exact Av w g hg hl k (i+1) (by omega) (by omega)
   . rw [List.drop_eq_nil_of_le (by omega)];rfl
theorem Ol (w:List Int) (g:Int) (hw:w.length<=1000000):aT Tryz.prog 110 [aZ w,nI g] [] (nI (jQ w g)) []:=by
 refine bI (live:=[([0,1,0,1,1,1],[1,16,17,18])]) ay Tryz.func110 (by kernel_rfl) (keep:=0) rfl (by kernel_rfl) 100 ?_;apply of_eq (q:=let q1:=decide (g<(1:Int));(q1=false->q1=false)/\(q1=false->q1=false)/\((bif q1 then true else decide ((16:Int)<g))=true->ak [V.c (W.int .i64 (2))]=nI (jQ w g)/\([]:List Ob)=[])/\((bif q1 then true else decide ((16:Int)<g))=false->(decide ((4000:Int)<(w.length:Int))=true->ak [V.c (W.int .i64 (4))]=nI (jQ w g)/\([]:List Ob)=[])/\(decide ((4000:Int)<(w.length:Int))=false->aq (eB Tryz.prog [] Tryz.f110 (0:Nat) [([0,1,0,1,1,1],[1,16,17,18])]) (ax (nI (jQ w g)) []) [0,1,0,1,1,1] (fr [(1,nI g),(16,aZ w),(17,nI (w.length:Int)),(18,nI (0))]) (ah.ofList [])))) (by kernel_rfl)
 try simp only [imp_self,true_and,and_true,Bool.cond_true_left,Bool.or_eq_true,Bool.or_eq_false_iff,decide_eq_true_eq,decide_eq_false_iff_not,Int.not_lt]
 refine ⟨fun h=>?_,fun h=>⟨fun h2=>?_,fun h2=>?_⟩⟩
 . rw [jQ,if_pos h];rfl
 . rw [jQ,if_neg (by omega),if_pos (by omega)];rfl
 . rw [jQ,if_neg (by omega),if_neg (by omega)];exact Av w g h (by omega) w.length 0 (by omega) (by omega)
def LM:bw:=jj dI (.int .i64) fun w g=>(.p (List.length (α:=Int) w<=1000000),nI (jQ w g),[])
theorem Om:aH Tryz.prog 110 LM:=fu (by kernel_rfl) fun w g h=>Ol w g h
abbrev Bf (a:List Int):Ob:=⟨79,[.c (.rd (.int .i64) a)]⟩
abbrev ghR (l:Nat) (ys:List (List Int)):Option Gh:=some ⟨l,.sl (.int .i64),ys,true⟩
abbrev ylA (l:Nat):A:=.p (.c (.yield l))
abbrev IJ:List (List Nat×List Nat):=[([0,1],[0,1,3]),([0,0,1,0,1,0,0,1],[0,1,3,4])]
noncomputable def LN:Site:=Cs Tryz.prog [] Tryz.f144 IJ
theorem YT {a:List Int} {i:Nat} (h:i<a.length):dD (a.drop i)=[a.getD i 0,((gC (a.getD i 0) (a.drop (i+1))+1:Nat):Int)]::dD (a.drop (i+(gC (a.getD i 0) (a.drop (i+1))+1))):=by
 rw [iA h,dD,List.drop_drop,show i+1+gC (a.getD i 0) (a.drop (i+1))=i+(gC (a.getD i 0) (a.drop (i+1))+1) by omega]
theorem CF (a:List Int) (ha:a.length<=4000) (l:Nat) (i:Nat) (hi:i<a.length)
 (hout:∀ j,i<j->j<=a.length->aq LN (fun _ _=>True) [0,1] (fr [(0,ylA l),(1,.p (.c (.ptr 0 0))),(3,nI j)]) (.dU (ghR l (dD (a.drop j))) [Bf a])) :
 ∀ m n,m+(i+n)=a.length->1<=n->gC (a.getD i 0) (a.drop (i+n))+n=gC (a.getD i 0) (a.drop (i+1))+1->
 aq LN (fun _ _=>True) [0,0,1,0,1,0,0,1] (fr [(0,ylA l),(1,.p (.c (.ptr 0 0))),(3,nI i),(4,nI n)]) (.dU (ghR l (dD (a.drop i))) [Bf a])
 | m, n, hm, hn, hr => by
   refine aK ay (by kernel_rfl) 100 ?_;apply of_eq (q:=let q0:=IntKind.i64.wrap;let q1:=decide (q0 ((i:Int)+(n:Int))<(a.length:Int));let q2:=(q0 ((i:Int)+(n:Int)));let q3:=decide (a.getD q2.toNat (0:Int)=a.getD i (0:Int));(q1=true->q1=true)/\(q1=true->q1=true)/\(q1=true->q1=true)/\(q1=true->q1=true)/\(q1=true->(0:Int)<=q0 ((i:Int)+(n:Int))/\q0 ((i:Int)+(n:Int))<(a.length:Int))/\(q1=true->q1=true)/\(q1=true->q2.toNat<a.length)/\(q1=true->q1=true)/\(q1=true->q1=true)/\(q1=true->(0:Int)<=(i:Int)/\(i:Int)<(a.length:Int))/\(q1=true->q1=true)/\(q1=true->i<a.length)/\(q1=true->q1=true)/\(q1=true->q1=true)/\(q1=true->q1=true)/\((bif q1 then q3 else false)=true->aq LN (fun x x_1=>True) [0,0,1,0,1,0,0,1] (fr [(0,A.p (V.c (W.yield l))),(1,A.p (V.c (W.ptr 0 0))),(3,nI (i:Int)),(4,nI (q0 ((n:Int)+(1:Int))))]) (ah.dU (some (Gh.mk l (D.int .i64).sl (dD (List.drop i a)) true)) [Ob.mk 79 [Fd.c (W.rd (D.int .i64) a)]]))/\((bif q1 then q3 else false)=false->((0:Int)<=(i:Int)/\(i:Int)<(a.length:Int))/\i<a.length/\(l=l/\(dD (List.drop i a)).head?.bind (H7 (D.int .i64).sl)=some (a.getD i (0:Int),(n:Int)))/\aq LN (fun x x_1=>True) [0,1] (fr [(0,A.p (V.c (W.yield l))),(1,A.p (V.c (W.ptr 0 0))),(3,nI q2)]) (ah.dU (some (Gh.mk l (D.int .i64).sl (dD (List.drop i a)).tail true)) [Ob.mk 79 [Fd.c (W.rd (D.int .i64) a)]]))) (by kernel_rfl)
   try simp only [imp_self,true_and,Bool.cond_false_right,Bool.and_eq_true,Bool.and_eq_false_imp,decide_eq_true_eq,decide_eq_false_iff_not]
   have e:=YT hi;rw [wrap64 (n:=(i:Int)+n) (by omega) (by omega),show ((i:Int)+n).toNat=i+n by omega];refine ⟨fun h=>by omega,fun h=>by omega,fun _=>by omega,fun _=>by omega,fun h=>?_,fun h=>?_⟩
   . have hin:i+n<a.length:=by omega
     rw [wrap64 (n:=(n:Int)+1) (by omega) (by omega)];cases m with
     | zero=>omega
     | succ m =>
       refine CF a ha l i hi hout m (n+1) (by omega) (by omega) ?_;rw [<-hr,iA hin,gC,if_pos h.2,show i+n+1=i+(n+1) by omega];omega
   . have h0:gC (a.getD i 0) (a.drop (i+n))=0:=by
      rcases Nat.lt_or_ge (i+n) a.length with hin | hin
      . rw [iA hin,gC,if_neg (h (by omega))]
      . rw [List.drop_eq_nil_of_le hin];rfl
     rw [h0,Nat.zero_add] at hr;rw [<-hr] at e;rw [e];refine ⟨by omega,hi,rfl,?_⟩;exact hout (i+n) (by omega) (by omega)
theorem CG (a:List Int) (ha:a.length<=4000) (l:Nat):∀ m i,m=a.length-i->i<=a.length->aq LN (fun _ _=>True) [0,1] (fr [(0,ylA l),(1,.p (.c (.ptr 0 0))),(3,nI i)]) (.dU (ghR l (dD (a.drop i))) [Bf a])
 | m,i,hm,hi=>by
   refine aK ay (by kernel_rfl) 100 ?_;apply of_eq (q:=(decide ((i:Int)<(a.length:Int))=true->aq LN (fun x x_1=>True) [0,0,1,0,1,0,0,1] (fr [(0,A.p (V.c (W.yield l))),(1,A.p (V.c (W.ptr 0 0))),(3,nI (i:Int)),(4,nI (1))]) (ah.dU (some (Gh.mk l (D.int .i64).sl (dD (List.drop i a)) true)) [Ob.mk 79 [Fd.c (W.rd (D.int .i64) a)]]))/\(decide ((i:Int)<(a.length:Int))=false->dD (List.drop i a)=[]/\True)) (by kernel_rfl)
   try simp only [and_true,decide_eq_true_eq,decide_eq_false_iff_not,Int.not_lt]
   refine ⟨fun h=>?_,fun h=>?_⟩
   . cases m with
     | zero=>omega
     | succ m =>
       exact CF a ha l i (by omega) (fun j h1 h2=>CG a ha l (a.length-j) j rfl h2) (a.length-(i+1)) 1 (by omega) (by omega) rfl
   . rw [List.drop_eq_nil_of_le (by omega),dD]
 termination_by m=>m
theorem RT (a:List Int) (ha:a.length<=4000):DU Tryz.prog 144 [.p (.c (.ptr 0 0))] [Bf a] (.sl (.int .i64)) (dD a) true:=by
 refine NQ (live:=IJ) ay Tryz.func144 (by kernel_rfl) (by kernel_rfl) 100 ?_;intro l;apply of_eq (q:=aq (Cs Tryz.prog [] Tryz.f144 IJ) (fun x x_1=>True) [0,1] (fr [(0,A.p (V.c (W.yield l))),(1,A.p (V.c (W.ptr 0 0))),(3,nI (0))]) (ah.dU (some (Gh.mk l (D.int .i64).sl (dD a) true)) [Ob.mk 79 [Fd.c (W.rd (D.int .i64) a)]])) (by kernel_rfl);have:=CG a ha l a.length 0 (by omega) (by omega);exact this
theorem Vp (a:List Int):aT Tryz.prog 111 [aZ a] [] (.p (.c (.func 144 [(0,0)]))) [Bf a]:=by
 refine bI (live:=[]) ay Tryz.func111 (by kernel_rfl) (keep:=0) rfl (by kernel_rfl) 100 ?_;apply of_eq (q:=ak [V.c (W.func 144 [(0,(0:Nat))])]=A.p (V.c (W.func (144:FuncId) [(0,(0:Nat))]))/\[Ob.mk 79 [Fd.c (W.rd (D.int .i64) a)]]=[Bf a]) (by kernel_rfl)
 try simp only [and_true]
 rfl
def XL:bw:=jC dI fun a=>(.t,.p (.c (.func 144 [(0,0)])),[Bf a])
theorem Vq:aH Tryz.prog 111 XL:=fD (by kernel_rfl) fun a _=>Vp a
theorem CH {x:Int} (_h0:x≠0) (h:(x.natAbs:Int)<=16):Utf8.encode (IntKind.i32.wrap (IntKind.u64.wrap (IntKind.u64.wrap (97+sz x)-1)))=aP [96+(x.natAbs:Int)]:=by
 rw [sz_abs ⟨by omega,by omega⟩,jn (n:=97+(x.natAbs:Int)) (by omega) (by omega),jn (by omega) (by omega),show 97+(x.natAbs:Int)-1=96+x.natAbs by omega,IntWalk.i32_in _ (by constructor <;> omega),enc1 (by omega)]
theorem Fv (x:Nat) (h:x<100):(dM x).size<=2:=by
 revert x;decide +kernel
theorem IK (x:Int):(aP [x]).size=1:=rfl
abbrev qt (s:ByteArray) (e:Int):A:=.aF [.c (.str s),.c (.int .i64 e)]
noncomputable def gTx:bF:=[(110,LM),(111,XL),(112,XG),(59,XK),(113,XJ)]
theorem yg:aS Tryz.prog gTx:=ai Om (ai Vq (ai U7 (ai Vm (ai Vk ay))))
abbrev pTx:List Nat:=[0,1,0,1,1,1]
abbrev IL:List (List Nat×List Nat):=[(pTx,[5,15])]
noncomputable def Fw:Site:=eB Tryz.prog gTx Tryz.f61 0 IL
abbrev obS (l:List ByteArray):Ob:=⟨9,[.a 0 .str l]⟩
theorem IQ (R:List ByteArray) (hR:R.length<=4000/\(R≠[]->(eO R jw).size<=1000000)):∀ (ys:List (List Int)) (l:List ByteArray),R=l++ys.map kC->(∀ y∈ys,Cy 16 y)->
 iX Fw (ax (qt (if R=[] then nW else eO R jw) 0) []) pTx (.sl (.int .i64)) ys (fr [(5,.p (.c (.ptr 0 0)))]) (.ofList [⟨102,[.c (.sl 1 0 l.length 1)]⟩,obS l]) true
 | [],l,h,_=>by
   refine Ag yg rfl 100 ?_;apply of_eq (q:=let q1:=(List.take l.length (List.drop (0:Nat) l));(decide ((l.length:Int)=(0:Int))=true->ak [V.c (W.str (ByteArray.mk #[(49:UInt8)])),V.c (W.int .i64 (0))]=qt (if R=[] then nW else eO R jw) (0:Int)/\([]:List Ob)=[])/\(decide ((l.length:Int)=(0:Int))=false->(0:Nat)+l.length<=l.length/\(q1.length<=(100000:Nat)/\(eO q1 (ByteArray.mk #[(42:UInt8)])).size<=(1000000:Nat))/\ak [V.c (W.str (eO q1 (ByteArray.mk #[(42:UInt8)]))),V.c (W.int .i64 (0))]=qt (if R=[] then nW else eO R jw) (0:Int)/\([]:List Ob)=[])) (by kernel_rfl)
   try simp only [true_and,and_true,Nat.zero_add,decide_eq_true_eq,decide_eq_false_iff_not,List.drop_zero,List.take_length,Nat.le_refl]
   simp only [List.map_nil,List.append_nil] at h;subst h;refine ⟨fun h=>?_,fun h=>⟨⟨by omega,hR.2 (by rintro rfl;exact h rfl)⟩,?_⟩⟩
   . rw [if_pos (List.eq_nil_of_length_eq_zero (by omega))];rfl
   . rw [if_neg (by rintro rfl;exact h rfl)];rfl
 | y :: ys, l, h, hx => by
   obtain ⟨x,n,rfl,h1,h2,h3,h4⟩:=hx y (by simp);refine uo yg 1 (by kernel_rfl) 100 ?_;apply of_eq (q:=let q1:=(IntKind.i32.wrap (IntKind.u64.wrap (IntKind.u64.wrap ((97:Int)+sz x)-(1:Int))));let q2:=(l.length+(1:Nat));let q3:=(9223372036854775807:Nat);let q4:=(fr [(5,A.p (V.c (W.ptr 0 0)))]);let q5:=(0:Nat);let q6:=(ByteArray.mk #[(94:UInt8),(45:UInt8)]++dM n);(decide (x<(0:Int))=true->((0:Int)<=(n:Int)/\(n:Int)<(100:Int))/\(2:Nat)+(dM n).size<=q3/\(Utf8.encode q1).size+q6.size<=q3/\q5+(1:Nat)<=(1:Nat)/\(q5+l.length<=l.length/\(q2*(16:Nat)).le (140737488355328:Nat))/\iX Fw (ax (qt (if R=[] then nW else eO R jw) (0:Int)) []) [0,1,0,1,1,1] (D.int .i64).sl ys q4 (ah.ofList [Ob.mk 102 [Fd.c (W.sl 1 0 q2 1)],Ob.mk 9 [Fd.a 0 D.str (List.take l.length (List.drop q5 l)++List.take (1:Nat) (List.drop q5 [Utf8.encode q1++q6]))]]) true)/\(decide (x<(0:Int))=false->(decide ((1:Int)<(n:Int))=true->((0:Int)<=(n:Int)/\(n:Int)<(100:Int))/\(1:Nat)+(dM n).size<=q3/\(Utf8.encode q1).size+(ByteArray.mk #[(94:UInt8)]++dM n).size<=q3/\q5+(1:Nat)<=(1:Nat)/\(q5+l.length<=l.length/\(q2*(16:Nat)).le (140737488355328:Nat))/\iX Fw (ax (qt (if R=[] then nW else eO R jw) (0:Int)) []) [0,1,0,1,1,1] (D.int .i64).sl ys q4 (ah.ofList [Ob.mk 102 [Fd.c (W.sl 1 0 q2 1)],Ob.mk 9 [Fd.a 0 D.str (List.take l.length (List.drop q5 l)++List.take (1:Nat) (List.drop q5 [Utf8.encode q1++(ByteArray.mk #[(94:UInt8)]++dM n)]))]]) true)/\(decide ((1:Int)<(n:Int))=false->q5+(1:Nat)<=(1:Nat)/\(q5+l.length<=l.length/\(q2*(16:Nat)).le (140737488355328:Nat))/\iX Fw (ax (qt (if R=[] then nW else eO R jw) (0:Int)) []) [0,1,0,1,1,1] (D.int .i64).sl ys q4 (ah.ofList [Ob.mk 102 [Fd.c (W.sl 1 0 q2 1)],Ob.mk 9 [Fd.a 0 D.str (List.take l.length (List.drop q5 l)++List.take (1:Nat) (List.drop q5 [Utf8.encode q1]))]]) true))) (by kernel_rfl)
   try simp only [true_and,Nat.zero_add,decide_eq_true_eq,decide_eq_false_iff_not,Int.not_lt,List.drop_zero,List.take_length,List.take_succ_cons,List.take_zero,Nat.le_refl]
   have hd:=Fv n h4;have Lh:(⟨#[94,45]⟩++dM n:ByteArray).size=2+(dM n).size:=by rw [ByteArray.size_append];rfl
   have hsp:(⟨#[94]⟩++dM n:ByteArray).size=1+(dM n).size:=by rw [ByteArray.size_append];rfl
   have hRl:=congrArg List.length h;simp only [List.length_append,List.length_map,List.length_cons] at hRl;have hR1:=hR.1;have hle:((l.length+1)*16).le 140737488355328:=by show (l.length+1)*16<=_;omega
   have ih:∀ p,p=kC [x,(n:Int)]->_:=fun p hp=>IQ R hR ys (l++[p]) (by rw [h,hp];simp) (fun y hy=>hx y (by simp [hy]));have hps:kC [x,(n:Int)]=rL x n:=rfl;rw [hps] at ih;unfold rL at ih;rw [CH h1 h2,Lh,hsp,IK];refine ⟨fun hx0=>⟨by omega,by omega,by omega,hle,?_⟩,fun hx0=>⟨fun hn=>⟨by omega,by omega,by omega,hle,?_⟩,fun hn=>⟨hle,?_⟩⟩⟩
   . rw [if_pos hx0] at ih;have:=ih _ rfl;rw [List.length_append] at this;exact this
   . rw [if_neg (by omega),if_pos (by omega)] at ih;have:=ih _ rfl;rw [List.length_append] at this;exact this
   . rw [if_neg (by omega),if_neg (by omega)] at ih;have:=ih _ rfl;rw [List.length_append] at this;exact this
theorem RU (R:List ByteArray) (hR:R.length<=4000/\(R≠[]->(eO R jw).size<=1000000)):∀ (ys:List (List Int)),R=ys.map kC->(∀ y∈ys,Cy 16 y)->
 iX Fw (ax (qt (if R=[] then nW else eO R jw) 0) []) pTx (.sl (.int .i64)) ys (fr [(5,.p (.c (.ptr 0 0)))]) (.ofList [⟨102,[.c .nil]⟩]) true
 | [],h,_=>by
   refine Ag yg rfl 100 ?_;apply of_eq (q:=(decide ((0:Int)=(0:Int))=true->ak [V.c (W.str (ByteArray.mk #[(49:UInt8)])),V.c (W.int .i64 (0))]=qt (if R=[] then nW else eO R jw) (0:Int)/\([]:List Ob)=[])/\(decide ((0:Int)=(0:Int))=false->((0:Nat)<=(100000:Nat)/\(0:Nat)<=(1000000:Nat))/\ak [V.c (W.str (eO [] (ByteArray.mk #[(42:UInt8)]))),V.c (W.int .i64 (0))]=qt (if R=[] then nW else eO R jw) (0:Int)/\([]:List Ob)=[])) (by kernel_rfl)
   try simp only [and_true,decide_eq_true_eq,decide_eq_false_iff_not]
   rw [List.map_nil] at h;rw [if_pos h];exact ⟨fun _=>rfl,fun h=>absurd trivial h⟩
 | y :: ys, h, hx => by
   obtain ⟨x,n,rfl,h1,h2,h3,h4⟩:=hx y (by simp);refine uo yg 1 (by kernel_rfl) 100 ?_;apply of_eq (q:=let q1:=(IntKind.i32.wrap (IntKind.u64.wrap (IntKind.u64.wrap ((97:Int)+sz x)-(1:Int))));let q2:=(9223372036854775807:Nat);let q3:=(1:Nat);let q4:=(fr [(5,A.p (V.c (W.ptr 0 0)))]);let q5:=(ByteArray.mk #[(94:UInt8),(45:UInt8)]++dM n);(decide (x<(0:Int))=true->((0:Int)<=(n:Int)/\(n:Int)<(100:Int))/\(2:Nat)+(dM n).size<=q2/\(Utf8.encode q1).size+q5.size<=q2/\(0:Nat)+q3<=q3/\(q3*(16:Nat)).le (140737488355328:Nat)/\iX Fw (ax (qt (if R=[] then nW else eO R jw) (0:Int)) []) [0,1,0,1,1,1] (D.int .i64).sl ys q4 (ah.ofList [Ob.mk 102 [Fd.c (W.sl 1 0 1 1)],Ob.mk 9 [Fd.a 0 D.str (List.take q3 (List.drop (0:Nat) [Utf8.encode q1++q5]))]]) true)/\(decide (x<(0:Int))=false->(decide ((1:Int)<(n:Int))=true->((0:Int)<=(n:Int)/\(n:Int)<(100:Int))/\q3+(dM n).size<=q2/\(Utf8.encode q1).size+(ByteArray.mk #[(94:UInt8)]++dM n).size<=q2/\(0:Nat)+q3<=q3/\(q3*(16:Nat)).le (140737488355328:Nat)/\iX Fw (ax (qt (if R=[] then nW else eO R jw) (0:Int)) []) [0,1,0,1,1,1] (D.int .i64).sl ys q4 (ah.ofList [Ob.mk 102 [Fd.c (W.sl 1 0 1 1)],Ob.mk 9 [Fd.a 0 D.str (List.take q3 (List.drop (0:Nat) [Utf8.encode q1++(ByteArray.mk #[(94:UInt8)]++dM n)]))]]) true)/\(decide ((1:Int)<(n:Int))=false->(0:Nat)+q3<=q3/\(q3*(16:Nat)).le (140737488355328:Nat)/\iX Fw (ax (qt (if R=[] then nW else eO R jw) (0:Int)) []) [0,1,0,1,1,1] (D.int .i64).sl ys q4 (ah.ofList [Ob.mk 102 [Fd.c (W.sl 1 0 1 1)],Ob.mk 9 [Fd.a 0 D.str (List.take q3 (List.drop (0:Nat) [Utf8.encode q1]))]]) true))) (by kernel_rfl)
   try simp only [true_and,Nat.zero_add,decide_eq_true_eq,decide_eq_false_iff_not,Int.not_lt,List.drop_zero,List.take_succ_cons,List.take_zero,Nat.le_refl]
   have hd:=Fv n h4;have Lh:(⟨#[94,45]⟩++dM n:ByteArray).size=2+(dM n).size:=by rw [ByteArray.size_append];rfl
   have hsp:(⟨#[94]⟩++dM n:ByteArray).size=1+(dM n).size:=by rw [ByteArray.size_append];rfl
   have hle:(1*16).le 140737488355328:=by show 1*16<=_;omega
   have ih:∀ p,p=kC [x,(n:Int)]->_:=fun p hp=>IQ R hR ys [p] (by rw [h,hp];simp) (fun y hy=>hx y (by simp [hy]));have hps:kC [x,(n:Int)]=rL x n:=rfl;rw [hps] at ih;unfold rL at ih;rw [CH h1 h2,Lh,hsp,IK];refine ⟨fun hx0=>⟨by omega,by omega,by omega,hle,?_⟩,fun hx0=>⟨fun hn=>⟨by omega,by omega,by omega,hle,?_⟩,fun hn=>⟨hle,?_⟩⟩⟩
   . rw [if_pos hx0] at ih;exact ih _ rfl
   . rw [if_neg (by omega),if_pos (by omega)] at ih;exact ih _ rfl
   . rw [if_neg (by omega),if_neg (by omega)] at ih;exact ih _ rfl
theorem KR {a:List Int} (ha:gq 16 a) (hl:a.length<100):jQ a 16=0:=by
 unfold jQ;rw [if_neg (by omega),if_neg (by omega),if_neg];rw [Bool.not_eq_true,List.any_eq_false];intro x hx;have:=ha x hx;simp only [mC,Bool.or_eq_true,decide_eq_true_eq];omega
theorem Vr (a:List Int) (ha:gq 16 a) (hl:a.length<100):aT Tryz.prog 61 [aZ a] [] (qt (cV a) 0) []:=by
 refine bI (live:=IL) yg Tryz.func61 (by kernel_rfl) (keep:=0) rfl (by kernel_rfl) 100 ?_;apply of_eq (q:=a.length<=(1000000:Nat)/\((!decide (jQ a (16:Int)=(0:Int)))=true->ak [V.c (W.str (ByteArray.mk #[])),V.c (W.int .i64 (jQ a (16:Int)))]=qt (cV a) (0:Int)/\([]:List Ob)=[])/\((!decide (jQ a (16:Int)=(0:Int)))=false->DS (eB Tryz.prog gTx Tryz.f61 (0:Nat) IL) (ax (qt (cV a) (0:Int)) []) [0,1,0,1,1,1] (fr [(5,A.p (V.c (W.ptr 0 0))),(15,A.p (V.c (W.func 144 [(1,(0:Nat))])))]) (ah.ofList [Ob.mk 102 [Fd.c W.nil],Ob.mk 79 [Fd.c (W.rd (D.int .i64) a)]]))) (by kernel_rfl)
 try simp only [and_true,Bool.not_eq_true',Bool.not_eq_false',decide_eq_true_eq,decide_eq_false_iff_not]
 have hc:=KR ha hl;refine ⟨by omega,fun h=>absurd hc h,fun _=>?_⟩;have hsz:=nX (g:=16) (Int.le_refl _) ha hl;have hrl:=Be _ a (Nat.le_refl _);have hne:((dD a).map kC=[])↔a=[]:=by
  constructor
  . intro h;by_cases h0:a=[]
    . exact h0
    . exact absurd (List.map_eq_nil_iff.1 h) (LJ h0)
  . rintro rfl;rw [dD];rfl
 have:=RU ((dD a).map kC) ⟨by rw [List.length_map];omega,fun h=>?_⟩ (dD a) rfl (ny _ a (Nat.le_refl _) hl ha)
 . have e:(if (dD a).map kC=[] then nW else eO ((dD a).map kC) jw)=cV a:=by
    unfold cV;by_cases h0:a=[]
    . rw [if_pos h0,if_pos (hne.2 h0)]
    . rw [if_neg h0,if_neg (fun h=>h0 (hne.1 h))]
   rw [e] at this;exact NS rfl (by kernel_rfl) (RT a (by omega)) this
 . unfold cV at hsz;rw [if_neg (fun h0=>h (hne.2 h0))] at hsz;omega
def XM:bw:=jC dI fun a=>(.p (gq 16 a/\List.length (α:=Int) a<100),qt (cV a) 0,[])
theorem Vs:aH Tryz.prog 61 XM:=fD (by kernel_rfl) fun a h=>Vr a h.1 h.2
def bt (x n:Int):Int:=Int.tmod (Int.tmod x n+n) n
theorem Vt (x n:Int) (h1:1<=n) (h2:n<=1000):aT Tryz.prog 27 [nI x,nI n] [] (nI (bt x n)) []:=by
 refine bI (live:=[]) ay Tryz.func27 (by kernel_rfl) (keep:=0) rfl (by kernel_rfl) 100 ?_;apply of_eq (q:=n≠(0:Int)/\n≠(0:Int)/\ak [V.c (W.int .i64 ((IntKind.i64.wrap (x.tmod n+n)).tmod n))]=nI (bt x n)/\([]:List Ob)=[]) (by kernel_rfl)
 try simp only [and_true,ne_eq]
 have h3:=Int.lt_tmod_of_pos x (show 0<n by omega);have h4:=Int.tmod_lt_of_pos x (show 0<n by omega);rw [wrap64 (n:=x.tmod n+n) (by omega) (by omega)];exact ⟨by omega,by omega,rfl⟩
def zD:bw:=jj (.int .i64) (.int .i64) fun x n=>(.p (1<=(show Int from n)/\(show Int from n)<=1000),nI (bt x n),[])
theorem rN:aH Tryz.prog 27 zD:=fu (by kernel_rfl) fun x n h=>Vt x n h.1 h.2
theorem kq (x n:Int) (h:1<=n):0<=bt x n/\bt x n<n:=by
 unfold bt;have h1:=Int.lt_tmod_of_pos x (show 0<n by omega);exact ⟨Int.tmod_nonneg _ (by omega),Int.tmod_lt_of_pos _ (by omega)⟩
def oM (c:Int):Int:=if Int.tmod c 2=0 then Int.tdiv c 2+1 else 0-(Int.tdiv c 2+1)
theorem Oo (c:Int) (h:0<=c/\c<=1000):aT Tryz.prog 127 [nI c] [] (nI (oM c)) []:=by
 refine bI (live:=[]) ay Tryz.func127 (by kernel_rfl) (keep:=0) rfl (by kernel_rfl) 100 ?_;apply of_eq (q:=let q0:=IntKind.i64.wrap;(2:Int)≠(0:Int)/\(decide (c.tmod (2:Int)=(0:Int))=true->(2:Int)≠(0:Int)/\ak [V.c (W.int .i64 (q0 (q0 (c.tdiv (2:Int))+(1:Int))))]=nI (oM c)/\([]:List Ob)=[])/\(decide (c.tmod (2:Int)=(0:Int))=false->(2:Int)≠(0:Int)/\ak [V.c (W.int .i64 (q0 ((0:Int)-q0 (q0 (c.tdiv (2:Int))+(1:Int)))))]=nI (oM c)/\([]:List Ob)=[])) (by kernel_rfl)
 try simp only [true_and,and_true,decide_eq_true_eq,decide_eq_false_iff_not,ne_eq,Int.reduceEq,not_false_eq_true]
 have e:c.tdiv 2=c / 2:=Int.tdiv_eq_ediv_of_nonneg (by omega);rw [wrap64 (n:=c.tdiv 2) (by omega) (by omega),wrap64 (n:=c.tdiv 2+1) (by omega) (by omega),wrap64 (n:=0-(c.tdiv 2+1)) (by omega) (by omega)];refine ⟨fun h1=>?_,fun h1=>?_⟩
 . rw [oM,if_pos h1];rfl
 . rw [oM,if_neg h1];rfl
def LO:bw:=jC (.int .i64) fun c=>(.p (0<=(show Int from c)/\(show Int from c)<=1000),nI (oM c),[])
theorem Oq:aH Tryz.prog 127 LO:=fD (by kernel_rfl) fun c h=>Oo c h
def gI (g:Int) (l:List Int):List Int:=l.map fun x=>oM (bt x (2*g))
noncomputable def Vu:bF:=[(27,zD),(127,LO)]
theorem LP:aS Tryz.prog Vu:=ai rN (ai Oq ay)
noncomputable def sWof:Site:=aY Tryz.prog Vu Tryz.f87 0 [([0,1,0,1,1],[0,1,5,6])] [] [some dI]
theorem LQ (g:Int) (l:List Int) (hg:1<=g/\g<=16) (hl:l.length<=1000):∀ (n i:Nat),n=l.length-i->i<=l.length->
 aq sWof (ax (aZ (gI g l)) []) [0,1,0,1,1] (fr [(0,aZ l),(1,nI g),(5,gi 0 i),(6,nI i)]) (.ofList [bp (gI g (l.take i))])
 | n, i, hn, hi => by
   refine aK LP (by kernel_rfl) 100 ?_;apply of_eq (q:=let q0:=IntKind.i64.wrap;let q1:=(gI g (List.take i l));let q2:=(q0 ((2:Int)*g));(decide ((i:Int)<(l.length:Int))=true->((0:Int)<=(i:Int)/\(i:Int)<(l.length:Int))/\i<l.length/\((1:Int)<=q0 ((2:Int)*g)/\q0 ((2:Int)*g)<=(1000:Int))/\((0:Int)<=bt (l.getD i (0:Int)) q2/\bt (l.getD i (0:Int)) q2<=(1000:Int))/\(0:Nat)+(1:Nat)<=(1:Nat)/\((0:Nat)+i<=q1.length/\(i+(1:Nat))*(8:Nat)<=(140737488355328:Nat))/\aq sWof (ax (aZ (gI g l)) []) [0,1,0,1,1] (fr [(0,aZ l),(1,nI g),(5,A.p (V.c (W.sl 0 0 (i+(1:Nat)) 1))),(6,nI (q0 ((i:Int)+(1:Int))))]) (ah.ofList [Ob.mk 3 [Fd.a 0 (D.int .i64) (List.take i (List.drop (0:Nat) q1)++List.take (1:Nat) (List.drop (0:Nat) [oM (bt (l.getD i (0:Int)) q2)]))]]))/\(decide ((i:Int)<(l.length:Int))=false->(0:Nat)+i<=q1.length/\ak [V.c (W.rd (D.int .i64) (List.take i (List.drop (0:Nat) q1)))]=aZ (gI g l)/\([]:List Ob)=[])) (by kernel_rfl)
   try simp only [true_and,and_true,Nat.zero_add,decide_eq_true_eq,decide_eq_false_iff_not,Int.not_lt,List.drop_zero,List.take_succ_cons,List.take_zero,Nat.le_refl]
   have hlw:(gI g (l.take i)).length=i:=by simp [gI];omega
   have t:=kq (l.getD i 0) (2*g) (by omega);rw [wrap64 (n:=2*g) (by omega) (by omega),wrap64 (n:=(i:Int)+1) (by omega) (by omega),List.take_of_length_le (show (gI g (l.take i)).length<=i by omega)];refine ⟨fun h=>⟨by omega,by omega,by omega,by omega,⟨by omega,by omega⟩,?_⟩,fun h=>⟨by omega,?_⟩⟩
   . have hi':i<l.length:=by omega
     have e:gI g (l.take i)++[oM (bt (l.getD i 0) (2*g))]=gI g (l.take (i+1)):=by
      rw [x7 hi',gI,gI,List.map_append];rfl
     rw [e];cases n with
     | zero=>omega
     | succ n=>exact LQ g l hg hl n (i+1) (by omega) (by omega)
   . rw [List.take_of_length_le (show l.length<=i by omega)];rfl
theorem wo_sem (g:Int) (l:List Int) (hg:1<=g/\g<=16) (hl:l.length<=1000):aT Tryz.prog 87 [aZ l,nI g] [] (aZ (gI g l)) []:=by
 refine cJ (live:=[([0,1,0,1,1],[0,1,5,6])]) (bQ:=[]) (fz:=[some dI]) LP Tryz.func87 (by kernel_rfl) (keep:=0) rfl (by kernel_rfl) 100 ?_;apply of_eq (q:=aq (aY Tryz.prog Vu Tryz.f87 (0:Nat) [([0,1,0,1,1],[0,1,5,6])] [] [some dI]) (ax (aZ (gI g l)) []) [0,1,0,1,1] (fr [(0,aZ l),(1,nI g),(5,A.p (V.c (W.sl 0 0 0 1))),(6,nI (0))]) (ah.ofList [Ob.mk 3 [Fd.a 0 (D.int .i64) []]])) (by kernel_rfl);exact LQ g l hg hl l.length 0 rfl (by omega)
def cWof:bw:=jj dI (.int .i64) fun l g=>(.p ((1<=(show Int from g)/\(show Int from g)<=16)/\List.length (α:=Int) l<=1000),aZ (gI g l),[])
theorem YU:aH Tryz.prog 87 cWof:=fu (by kernel_rfl) fun l g h=>wo_sem g l h.1 h.2
def iq (g most:Int):Nat->List Int->List (List Int)->List (List Int)
 | 0,_,acc=>acc
 | f+1,l,acc=>match l with
   | []=>acc
   | x::l=>iq g most f (l.drop (min (bt x (most+1)) l.length).toNat) (acc++[gI g (l.take (min (bt x (most+1)) l.length).toNat)])
theorem Ot (g most:Int) (n:Nat) (acc:List (List Int)):iq g most n [] acc=acc:=by cases n <;> rfl
noncomputable def Vv:bF:=[(27,zD),(87,cWof)]
theorem LR:aS Tryz.prog Vv:=ai rN (ai YU ay)
noncomputable def sWsf:Site:=aY Tryz.prog Vv Tryz.f35 0 [([0,0,1,1],[0,1,2,7])] [] [some dL]
theorem LS (g most:Int) (hg:1<=g/\g<=16) (hm:0<=most/\most<=100) (R:List (List Int)):∀ (n:Nat) (l:List Int) (acc:List (List Int)),l.length<=n->n+acc.length<=1000->R=iq g most n l acc->
 aq sWsf (ax (bT R) []) [0,0,1,1] (fr [(0,aZ l),(1,nI g),(2,nI most),(7,gi 0 acc.length)]) (.ofList [obLL acc])
 | n,l,acc,hl,hn,hr=>by
   refine aK LR (by kernel_rfl) 100 ?_;apply of_eq (q:=let q0:=IntKind.i64.wrap;let q2:=(l.length:Int);let q1:=((1:Int)+min (bt (l.getD (0:Nat) (0:Int)) (q0 (most+(1:Int)))) (q0 (q2-(1:Int))));let q3:=(List.drop (1:Nat) (List.take (q0 q1).toNat l));(decide ((0:Int)<q2)=true->((0:Int)<=(0:Int)/\(0:Int)<q2)/\(0:Nat)<l.length/\((1:Int)<=q0 (most+(1:Int))/\q0 (most+(1:Int))<=(1000:Int))/\((0:Int)<=(1:Int)/\(1:Int)<=q0 q1/\q0 q1<=q2)/\(((1:Int)<=g/\g<=(16:Int))/\q3.length<=(1000:Nat))/\(0:Nat)+(1:Nat)<=(1:Nat)/\((0:Nat)+acc.length<=acc.length/\(acc.length+(1:Nat))*(24:Nat)<=(140737488355328:Nat))/\((0:Int)<=q0 q1/\q0 q1<=q2/\q2<=q2)/\aq sWsf (ax (bT R) []) [0,0,1,1] (fr [(0,aZ (List.drop (q0 q1).toNat (List.take l.length l))),(1,nI g),(2,nI most),(7,A.p (V.c (W.sl 0 0 (acc.length+(1:Nat)) 1)))]) (ah.ofList [Ob.mk 79 [Fd.a 0 (D.int .i64).sl (List.take acc.length (List.drop (0:Nat) acc)++List.take (1:Nat) (List.drop (0:Nat) [gI g q3]))]]))/\(decide ((0:Int)<q2)=false->(0:Nat)+acc.length<=acc.length/\ak [V.c (W.rd (D.int .i64).sl (List.take acc.length (List.drop (0:Nat) acc)))]=bT R/\([]:List Ob)=[])) (by kernel_rfl)
   try simp only [true_and,and_true,Nat.zero_add,decide_eq_true_eq,decide_eq_false_iff_not,Int.not_lt,List.drop_zero,List.take_length,List.take_succ_cons,List.take_zero,Nat.le_refl,Int.le_refl]
   cases l with
   | nil=>exact ⟨fun h=>by simp at h,fun _=>by rw [hr,Ot];rfl⟩
   | cons x l =>
     refine ⟨fun _=>?_,fun h=>by simp at h;omega⟩;have t:=kq x (most+1) (by omega);simp only [List.length_cons] at hl ⊢;have e0:(x::l).getD 0 0=x:=rfl;have e1:IntKind.i64.wrap (most+1)=most+1:=wrap64 (by omega) (by omega);have e2:IntKind.i64.wrap (((l.length+1:Nat):Int)-1)=(l.length:Int):=by rw [wrap64 (by omega) (by omega)];omega
     have e3:IntKind.i64.wrap (1+min (bt x (most+1)) (l.length:Int))=1+min (bt x (most+1)) (l.length:Int):=wrap64 (by omega) (by omega);simp only [e0,e1,e2,e3];cases n with
     | zero=>omega
     | succ n =>
       simp only [iq] at hr;have hm1:0<=min (bt x (most+1)) (l.length:Int):=by omega
       have hm2:min (bt x (most+1)) (l.length:Int)<=l.length:=by omega
       revert hm1 hm2 hr;generalize min (bt x (most+1)) (l.length:Int)=m;intro hr hm1 hm2;have e4:(1+m).toNat=m.toNat+1:=by omega
       rw [e4,List.take_succ_cons,List.drop_succ_cons,List.drop_succ_cons,List.drop_zero];refine ⟨by omega,by omega,by omega,by omega,⟨hg,by simp;omega⟩,by omega,by omega,?_⟩;have:=LS g most hg hm R n (l.drop m.toNat) (acc++[gI g (l.take m.toNat)]) (by simp;omega) (by simp;omega) hr;rw [List.length_append] at this;exact this
theorem ws_sem (g most:Int) (l:List Int) (hg:1<=g/\g<=16) (hm:0<=most/\most<=100) (hl:l.length<=1000):aT Tryz.prog 35 [aZ l,nI g,nI most] [] (bT (iq g most l.length l [])) []:=by
 refine cJ (live:=[([0,0,1,1],[0,1,2,7])]) (bQ:=[]) (fz:=[some dL]) LR Tryz.func35 (by kernel_rfl) (keep:=0) rfl (by kernel_rfl) 100 ?_;apply of_eq (q:=aq (aY Tryz.prog Vv Tryz.f35 (0:Nat) [([0,0,1,1],[0,1,2,7])] [] [some dL]) (ax (bT (iq g most l.length l [])) []) [0,0,1,1] (fr [(0,aZ l),(1,nI g),(2,nI most),(7,A.p (V.c (W.sl 0 0 0 1)))]) (ah.ofList [Ob.mk 79 [Fd.a 0 (D.int .i64).sl []]])) (by kernel_rfl);exact LS g most hg hm _ l.length l [] (by omega) (by simp;omega) rfl
def cWs:bw:=UW dI (.int .i64) (.int .i64) fun l g m=>(.p ((1<=(show Int from g)/\(show Int from g)<=16)/\(0<=(show Int from m)/\(show Int from m)<=100)/\List.length (α:=Int) l<=1000),bT (iq g m (List.length (α:=Int) l) l []),[])
theorem cWs_ok:aH Tryz.prog 35 cWs:=YG (by kernel_rfl) fun l g m h=>ws_sem g m l h.1 h.2.1 h.2.2
end Go.Proofs.YtepmdidomecebaaGreatDoor
