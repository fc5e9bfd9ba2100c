/- strings.Join of a list of strings. -/
import Derived.Test.YtmajgbnpplgaoaaGreatDoorShelf1
import Derived.Test.YtmajgbnpplgaoaaGreatDoorWord1
import Derived.Test.YtmajgbnpplgaoaaGreatDoorLoom4
namespace Go.Proofs.YtmajgbnpplgaoaaGreatDoor
open Go.ax Go.RowKit
set_option maxRecDepth 100000
abbrev dS:D:=.sl .str
abbrev mG (l:List ByteArray):A:=.p (.c (.rd .str l))
abbrev ck (s:ByteArray):A:=.p (.c (.str s))
def fR (xs:List ByteArray) (sep:ByteArray):ByteArray:=⟨(Lib.join (xs.map (·.data.toList)) sep.data.toList).toArray⟩
theorem WC {P:Program} {f:FuncId} {args:List A} {d:D} {y:d.ty} (h:∀ (base:Nat) (η:Eta) (Z:aA) (w:World) vs,St base η Z (.ofList []) w->aT (cr η Z) args vs->Calls P f vs.toArray w fun e w'=>∃ u,e=.returned u/\(∀ Z:aA,cH Z d y u)/\Below w.heap.size w w'):bw P f args [] (dat d y) [] :=
 ze fun base η Z w vs R hvs _=>h base η Z w vs R hvs
theorem WD (xs : List ByteArray) (sep : ByteArray) (h : xs.length ≤ 100000 ∧ (fR xs sep).size ≤ 1000000) : bw Tryz.prog 56 [mG xs, ck sep] [] (ck (fR xs sep)) [] :=
 WC (d := .str) (y := fR xs sep) fun base η Z w vs R hvs => by
  match vs,hvs with
  | [v, s], ⟨⟨_, h1⟩, ⟨_, h2⟩, _⟩ =>
    have h2:s=.string sep:=h2
    subst h2
    obtain ⟨a,len,c,rfl,hl,hc,hx⟩:=aF.rd h1
    subst hl
    by_cases h0:xs=[]
    . subst h0
      exact (Tryz.strings_Join_none a c sep w).mono fun e w' ⟨he,hw⟩=>⟨_,he,fun _=>rfl,hw▸Below.refl _ _⟩
    . rcases hx with hx | ⟨b,off,cells,rfl,hb,hd⟩
      . exact absurd hx h0
      . obtain ⟨ty,fz,hw⟩:=R.zs b cells hb
        refine (Tryz.strings_Join b off c xs sep w (fun j x hj=>?_) (cY hw) (by omega) hc ?_).mono fun e w' ⟨he,hB⟩=>⟨_,he,fun _=>rfl,hB⟩
        . obtain ⟨u,e1,e2⟩:=hd j x hj
          have e2:u=.string x:=e2
          subst e2
          simp [World.cell?,hw,e1]
        . have:=h.2
          have e:(fR xs sep).size=(Lib.join (xs.map (·.data.toList)) sep.data.toList).length:=by simp [fR,ByteArray.size]
          omega
def Y8:bP:=jU dS .str fun xs sep=>(.p (List.length (α:=ByteArray) xs<=100000/\(fR xs sep).size<=1000000),ck (fR xs sep),[])
theorem WE:aV Tryz.prog 56 Y8:=fT (by kernel_rfl) fun xs s h=>WD xs s h
end Go.Proofs.YtmajgbnpplgaoaaGreatDoor
namespace Go.Proofs.YtmajgbnpplgaoaaGreatDoor
open Go.ax
set_option maxRecDepth 100000
def eC0 (n:Nat):ByteArray:=if n<10 then ⟨#[UInt8.ofNat (48+n)]⟩ else ⟨#[UInt8.ofNat (48+n / 10),UInt8.ofNat (48+n % 10)]⟩
theorem Tf (n:Nat) (h:n<100):bw Tryz.prog 87 [nI n] [] (.p (.c (.str (eC0 n)))) []:=by
 refine bV (aq:=[]) aC Tryz.func87 (by kernel_rfl) (ay:=0) rfl (by kernel_rfl) 100 ?_
 apply of_eq (q:=let q0:=IntKind.i64.wrap;let q1:=(48:UInt8);let q2:=(49:UInt8);let q3:=(50:UInt8);let q4:=(51:UInt8);let q5:=(52:UInt8);let q6:=(53:UInt8);let q7:=(54:UInt8);let q8:=(55:UInt8);let q9:=(56:UInt8);let aW:=(57:UInt8);let bM:=(n:Int);let bG:=(q0 (bM*2)+2);(decide (bM<10)=true->((0:Int)<=bM/\bM<=q0 (bM+1)/\q0 (bM+1)<=(↑(36:Nat):Int))/\aB [V.c (W.str ((ByteArray.mk #[q1,q2,q3,q4,q5,q6,q7,q8,q9,aW,(97:UInt8),(98:UInt8),(99:UInt8),(100:UInt8),(101:UInt8),(102:UInt8),(103:UInt8),(104:UInt8),(105:UInt8),(106:UInt8),(107:UInt8),(108:UInt8),(109:UInt8),(110:UInt8),(111:UInt8),(112:UInt8),(113:UInt8),(114:UInt8),(115:UInt8),(116:UInt8),(117:UInt8),(118:UInt8),(119:UInt8),(120:UInt8),(121:UInt8),(122:UInt8)]).extract n (q0 (bM+1)).toNat))]=aP (W.str (eC0 n))/\([]:List Ob)=[])/\(decide (bM<10)=false->((0:Int)<=q0 (bM*2)/\q0 (bM*2)<=q0 bG/\q0 bG<=(↑(200:Nat):Int))/\aB [V.c (W.str ((ByteArray.mk (([q1,q1,q1,q2,q1,q3,q1,q4,q1,q5,q1,q6,q1,q7,q1,q8,q1,q9,q1,aW,q2,q1,q2,q2,q2,q3,q2,q4,q2,q5,q2,q6,q2,q7,q2,q8,q2,q9,q2,aW,q3,q1,q3,q2,q3,q3,q3,q4,q3,q5].append [q3,q6,q3,q7,q3,q8,q3,q9,q3,aW,q4,q1,q4,q2,q4,q3,q4,q4,q4,q5,q4,q6,q4,q7,q4,q8,q4,q9,q4,aW,q5,q1,q5,q2,q5,q3,q5,q4,q5,q5,q5,q6,q5,q7,q5,q8,q5,q9,q5,aW]).append ([q6,q1,q6,q2,q6,q3,q6,q4,q6,q5,q6,q6,q6,q7,q6,q8,q6,q9,q6,aW,q7,q1,q7,q2,q7,q3,q7,q4,q7,q5,q7,q6,q7,q7,q7,q8,q7,q9,q7,aW,q8,q1,q8,q2,q8,q3,q8,q4,q8,q5].append [q8,q6,q8,q7,q8,q8,q8,q9,q8,aW,q9,q1,q9,q2,q9,q3,q9,q4,q9,q5,q9,q6,q9,q7,q9,q8,q9,q9,q9,aW,aW,q1,aW,q2,aW,q3,aW,q4,aW,q5,aW,q6,aW,q7,aW,q8,aW,q9,aW,aW])).toArray).extract (q0 (bM*2)).toNat (q0 bG).toNat))]=aP (W.str (eC0 n))/\([]:List Ob)=[])) (by kernel_rfl)
 try simp only [sL]
 rw [wrap64 (n:=(n:Int)+1) (by omega) (by omega),wrap64 (n:=(n:Int)*2) (by omega) (by omega),wrap64 (n:=(n:Int)*2+2) (by omega) (by omega),show ((n:Int)+1).toNat=n+1 by omega,show ((n:Int)*2).toNat=n*2 by omega,show ((n:Int)*2+2).toNat=n*2+2 by omega]
 refine ⟨fun hn=>⟨by omega,congrArg (fun s=>A.p (V.c (W.str s))) ?_⟩,fun hn=>⟨by omega,congrArg (fun s=>A.p (V.c (W.str s))) ?_⟩⟩
 . revert n
   decide +kernel
 . revert n
   decide +kernel
theorem PK (n:Int) (h:0<=n/\n<100):bw Tryz.prog 87 [nI n] [] (.p (.c (.str (eC0 n.toNat)))) []:=by
 have:=Tf n.toNat (by omega)
 rwa [show ((n.toNat:Nat):Int)=n by omega] at this
def Tg:bP:=j9 (.int .i64) fun n=>(.p (0<=(show Int from n)/\(show Int from n)<100),.p (.c (.str (eC0 (show Int from n).toNat))),[])
theorem Ti:aV Tryz.prog 87 Tg:=gA (by kernel_rfl) fun n h=>PK n h
noncomputable def gFi:bS:=[(87,Tg)]
theorem gFi_ok:bt Tryz.prog gFi:=ar Ti aC
theorem fi_sem (n:Int) (h:0<=n/\n<100):bw Tryz.prog 72 [nI n,nI 10] [] (.p (.c (.str (eC0 n.toNat)))) []:=by
 refine bV (aq:=[]) gFi_ok Tryz.func72 (by kernel_rfl) (ay:=0) rfl (by kernel_rfl) 100 ?_
 apply of_eq (q:=let q1:=decide ((0:Int)<=n);(decide ((10:Int)=10)=true->(q1=true->q1=true)/\(q1=true->q1=true)/\((bif q1 then decide (n<100) else false)=true->((0:Int)<=n/\n<100)/\aB [V.c (W.str (eC0 n.toNat))]=aP (W.str (eC0 n.toNat))/\([]:List Ob)=[])/\((bif q1 then decide (n<100) else false)=false->(decide (n<0)=true->False)/\(decide (n<0)=false->False)))/\(decide ((10:Int)=10)=false->False)) (by kernel_rfl)
 try simp only [sL]
 exact ⟨fun _=>⟨fun _=>⟨h,rfl⟩,fun g=>by have:=g h.1;omega⟩,fun g=>absurd trivial g⟩
def cFi:bP:=jU (.int .i64) (.int .i64) fun n b=>(.p ((show Int from b)=10/\0<=(show Int from n)/\(show Int from n)<100),.p (.c (.str (eC0 (show Int from n).toNat))),[])
theorem cFi_ok:aV Tryz.prog 72 cFi:=fT (by kernel_rfl) fun n b h=>by
 obtain ⟨rfl,h2⟩:=h
 exact fi_sem n h2
noncomputable def gIt:bS:=[(72,cFi)]
theorem gIt_ok:bt Tryz.prog gIt:=ar cFi_ok aC
theorem aal (n:Int) (h:0<=n/\n<100):bw Tryz.prog 52 [nI n] [] (.p (.c (.str (eC0 n.toNat)))) []:=by
 refine bV (aq:=[]) gIt_ok Tryz.func52 (by kernel_rfl) (ay:=0) rfl (by kernel_rfl) 100 ?_
 apply of_eq (q:=((10:Int)=10/\(0:Int)<=n/\n<100)/\aB [V.c (W.str (eC0 n.toNat))]=aP (W.str (eC0 n.toNat))/\([]:List Ob)=[]) (by kernel_rfl)
 try simp only [sL]
 exact ⟨h,rfl⟩
def cIt1:bP:=j9 (.int .i64) fun n=>(.p (0<=(show Int from n)/\(show Int from n)<100),.p (.c (.str (eC0 (show Int from n).toNat))),[])
theorem aam:aV Tryz.prog 52 cIt1:=gA (by kernel_rfl) fun n h=>aal n h
noncomputable def gIt2:bS:=[(52,cIt1)]
theorem aan:bt Tryz.prog gIt2:=ar aam aC
theorem WG (n:Int) (h:0<=n/\n<100):bw Tryz.prog 27 [nI n] [] (.p (.c (.str (eC0 n.toNat)))) []:=by
 refine bV (aq:=[]) aan Tryz.func27 (by kernel_rfl) (ay:=0) rfl (by kernel_rfl) 100 ?_
 apply of_eq (q:=((0:Int)<=n/\n<100)/\aB [V.c (W.str (eC0 n.toNat))]=aP (W.str (eC0 n.toNat))/\([]:List Ob)=[]) (by kernel_rfl)
 try simp only [sL]
 exact ⟨h,rfl⟩
def Y9:bP:=j9 (.int .i64) fun n=>(.p (0<=(show Int from n)/\(show Int from n)<100),.p (.c (.str (eC0 (show Int from n).toNat))),[])
theorem WH:aV Tryz.prog 27 Y9:=gA (by kernel_rfl) fun n h=>WG n h
end Go.Proofs.YtmajgbnpplgaoaaGreatDoor
namespace Go.Proofs.YtmajgbnpplgaoaaGreatDoor
open Go.ax Go.Words
set_option maxRecDepth 100000
theorem iH (a b:ByteArray):af (a++b)=af a++af b:=by
 simp [af,ByteArray.data_append]
theorem fU {l:List Int} (h:∀ x∈l,0<=x/\x<256):af (bg l)=l:=by
 unfold af bg
 rw [List.map_map]
 conv=>rhs;rw [<-List.map_id l]
 refine List.map_congr_left fun x hx=>?_
 have:=h x hx
 simp only [Function.comp,id]
 rw [UInt8.toNat_ofNat']
 omega
theorem enc1 {c:Int} (h:0<=c/\c<128):Utf8.encode c=bg [c]:=by
 have e:((c.toNat:Nat):Int)=c:=by omega
 rw [<-e]
 have:∀ n:Nat,n<128->Utf8.encode (n:Int)=bg [(n:Int)]:=by decide +kernel
 exact this _ (by omega)
theorem Dr (n:Nat) (h:n<100):af (eC0 n)=Ca n:=by
 revert n
 decide +kernel
def wW (sep:List Int):List (List Int)->List Int
 | []=>[]
 | [p]=>p
 | p::q::r=>p++sep++wW sep (q::r)
theorem PL (x y:List UInt8) (r:List (List UInt8)) (sep:List UInt8):Lib.join (x::y::r) sep=x++sep++Lib.join (y::r) sep:=by
 simp [Lib.join,List.intercalate]
theorem tR (l:List UInt8):af ⟨l.toArray⟩=l.map fun b=>(b.toNat:Int):=by simp [af]
theorem Br (sep:ByteArray):∀ xs:List ByteArray,af (fR xs sep)=wW (af sep) (xs.map af)
 | []=>by simp [fR,tR,Lib.join,wW]
 | [x]=>by simp [fR,Lib.join,wW,af]
 | x::y::r=>by
   have ih:=Br sep (y::r)
   unfold fR at ih ⊢
   rw [tR] at ih ⊢
   simp only [List.map_cons] at ih ⊢
   rw [PL,List.map_append,List.map_append,ih,wW]
   rfl
theorem Ds:∀ ps:List (List Int),wW [42] ps=qy ps
 | []=>rfl
 | [p]=>rfl
 | p::q::r=>by rw [wW,qy,Ds (q::r)];simp
def hatS:ByteArray:=⟨#[94]⟩
def hatM:ByteArray:=⟨#[94,45]⟩
def kG:ByteArray:=⟨#[42]⟩
def sV (x:Int) (n:Nat):ByteArray:=if x<0 then bg [96+(x.natAbs:Int)]++(hatM++eC0 n) else if 1<n then bg [96+(x.natAbs:Int)]++(hatS++eC0 n) else bg [96+(x.natAbs:Int)]
def lO (y:List Int):ByteArray:=sV (y.getD 0 0) (y.getD 1 0).toNat
theorem JW {x:Int} {n:Nat} (hx:(x.natAbs:Int)<=100) (hn:n<100):af (sV x n)=sU x n:=by
 have e:af (bg [96+(x.natAbs:Int)])=[96+(x.natAbs:Int)]:=fU (by simp;omega)
 unfold sV sU
 split
 . rw [iH,iH,e,Dr n hn];rfl
 . split
   . rw [iH,iH,e,Dr n hn];rfl
   . rw [e]
theorem JX {g:Int} (hg:g<=16) {y:List Int} (h:HK g y):af (lO y)=JO y:=by
 obtain ⟨x,n,rfl,h1,h2,h3,h4⟩:=h
 exact JW (x:=x) (n:=n) (by omega) h4
def pF:ByteArray:=⟨#[49]⟩
def gC (a:List Int):ByteArray:=if a=[] then pF else fR ((fk a).map lO) kG
theorem Bs {g:Int} (hg:g<=16) {a:List Int} (ha:je g a) (hl:a.length<100):af (gC a)=Ax a:=by
 unfold gC Ax
 split
 . rfl
 . rw [Br,List.map_map,show af kG=[42] from rfl,Ds]
   congr 1
   refine List.map_congr_left fun y hy=>?_
   exact JX hg (qU _ a (Nat.le_refl _) hl ha y hy)
theorem PN (x:Int) (n:Nat) (_hn:n<100):(sU x n).length<=5:=by
 have:(Ca n).length<=2:=by unfold Ca;split <;> simp
 unfold sU
 split
 . simp;omega
 . split <;> simp <;> omega
theorem Gx:∀ ps:List (List Int),(∀ p∈ps,p.length<=5)->(qy ps).length<=6*ps.length
 | [],_=>by simp [qy]
 | [p],h=>by have:=h p (by simp);simp [qy];omega
 | p::q::r,h=>by
   have h1:=h p (by simp)
   have h2:=Gx (q::r) fun x hx=>h x (by simp [hx])
   rw [qy]
   simp only [List.length_append,List.length_cons] at h2 ⊢
   omega
theorem Ce:∀ (n:Nat) (a:List Int),a.length<=n->(fk a).length<=a.length
 | _,[],_=>by rw [fk];simp
 | 0,x::l,h=>by simp at h
 | n+1,x::l,h=>by
   have hl:=zm x l
   simp only [List.length_cons] at h
   rw [fk]
   have:=Ce n (l.drop (jV x l)) (by simp;omega)
   rw [List.length_drop] at this
   simp only [List.length_cons]
   omega
theorem Tj {g:Int} {a:List Int} (ha:je g a) (hl:a.length<100):(Ax a).length<=600:=by
 unfold Ax
 split
 . simp
 . have:=Gx ((fk a).map JO) fun p hp=>by
    obtain ⟨y,hy,rfl⟩:=List.mem_map.1 hp
    obtain ⟨x,n,rfl,_,_,_,h4⟩:=qU _ a (Nat.le_refl _) hl ha y hy
    exact PN _ _ h4
   have h2:=Ce _ a (Nat.le_refl _)
   rw [List.length_map] at this
   omega
theorem pG {g:Int} (hg:g<=16) {a:List Int} (ha:je g a) (hl:a.length<100):(gC a).size<=600:=by
 rw [<-bq,Bs hg ha hl]
 exact Tj ha hl
theorem Tk (w:List Int) (h:w.length<=1000000):bw Tryz.prog 46 [bF w] [] (bF w) []:=by
 refine eI (aq:=[]) (cE:=[]) (fz:=[some dI]) aC Tryz.func46 (by kernel_rfl) (ay:=0) rfl (by kernel_rfl) 100 ?_
 apply of_eq (q:=let q1:=(0:Nat);∀ (b:Bool),(b=!false->w=[])->(b=true->q1<=0/\aB [V.c (wR (List.take q1 (List.drop q1 [])))]=bF w/\([]:List Ob)=[])/\(b=false->(q1+0<=0/\(q1+w.length)*8<=140737488355328)/\q1+(q1+w.length)<=(List.take q1 (List.drop q1 [])++w).length/\aB [V.c (wR (List.take (q1+w.length) (List.drop q1 (List.take q1 (List.drop q1 [])++w))))]=bF w/\([]:List Ob)=[])) (by kernel_rfl)
 try simp only [sL]
 intro b hb
 refine ⟨fun g=>?_,fun g=>?_⟩
 . rw [hb g];rfl
 . refine ⟨by omega,by simp,?_⟩
   rw [show List.take w.length ([]++w)=w from List.take_length];rfl
def Tl:bP:=j9 dI fun w=>(.p (List.length (α:=Int) w<=1000000),bF w,[])
theorem Tm:aV Tryz.prog 46 Tl:=gA (by kernel_rfl) fun w h=>Tk w h
theorem kr {n:Int} (h1:0<=n) (h2:n<18446744073709551616):IntKind.u64.wrap n=n:=by
 simp only [IntKind.wrap,IntKind.bits,IntKind.signed];simp;omega
theorem PO {n:Int} (h1:0<=n) (h2:n<4294967296):((BitVec.ofInt 64 n &&& BitVec.ofInt 64 4294967295).toNat:Int)=n:=by
 obtain ⟨m,rfl⟩:∃ m:Nat,n=m:=⟨n.toNat,by omega⟩
 have e:(BitVec.ofInt 64 (m:Int) &&& BitVec.ofInt 64 4294967295).toNat=m &&& (2 ^ 32-1):=by
  rw [BitVec.toNat_and]
  simp only [BitVec.toNat_ofInt]
  congr 1
  omega
 rw [e,Nat.and_two_pow_sub_one_eq_mod]
 omega
theorem Tn (x y:Int) (h:(0<=x/\x<1073741824)/\0<=y/\y<1073741824):bw Tryz.prog 84 [uI x,uI y] [] (.aL [.c (.int .u64 0),.c (.int .u64 (x*y))]) []:=by
 refine bV (aq:=[]) aC Tryz.func84 (by kernel_rfl) (ay:=0) rfl (by kernel_rfl) 100 ?_
 apply of_eq (q:=let q2:=((2:Int) ^ (32:Nat));let q3:=(↑(BitVec.ofInt (64:Nat) y &&& BitVec.ofInt (64:Nat) (4294967295:Int)).toNat:Int);let q4:=(↑(BitVec.ofInt (64:Nat) x &&& BitVec.ofInt (64:Nat) (4294967295:Int)).toNat:Int);let q1:=(IntKind.u64.wrap (IntKind.u64.wrap (x.fdiv q2*IntKind.u64.wrap q3)+(IntKind.u64.wrap (IntKind.u64.wrap q4*IntKind.u64.wrap q3)).fdiv q2));(0:Int)<=32/\(0:Int)<=32/\(0:Int)<=32/\(0:Int)<=32/\(0:Int)<=32/\aB [V.c (W.int .u64 (IntKind.u64.wrap (IntKind.u64.wrap (IntKind.u64.wrap (x.fdiv q2*y.fdiv q2)+q1.fdiv q2)+(IntKind.u64.wrap (IntKind.u64.wrap (↑(BitVec.ofInt (64:Nat) q1 &&& BitVec.ofInt (64:Nat) (4294967295:Int)).toNat:Int)+IntKind.u64.wrap (IntKind.u64.wrap q4*y.fdiv q2))).fdiv q2))),V.c (W.int .u64 (IntKind.u64.wrap (x*y)))]=A.aL [V.c (W.int .u64 (0:Int)),V.c (W.int .u64 (x*y))]/\([]:List Ob)=[]) (by kernel_rfl)
 try simp only [sL]
 obtain ⟨⟨h1,h2⟩,h3,h4⟩:=h
 have oG:0<=x*y:=Int.mul_nonneg h1 h3
 have hp1:x*y<=1073741824*1073741824:=Int.mul_le_mul (by omega) (by omega) h3 (by omega)
 have dx:x.fdiv (2 ^ 32)=0:=by rw [Int.fdiv_eq_ediv_of_nonneg _ (by omega)];omega
 have dy:y.fdiv (2 ^ 32)=0:=by rw [Int.fdiv_eq_ediv_of_nonneg _ (by omega)];omega
 have w0:IntKind.u64.wrap 0=0:=kr (by omega) (by omega)
 have wx:IntKind.u64.wrap x=x:=kr (by omega) (by omega)
 have wy:IntKind.u64.wrap y=y:=kr (by omega) (by omega)
 have wp:IntKind.u64.wrap (x*y)=x*y:=kr oG (by omega)
 have dp:0<=(x*y).fdiv (2 ^ 32)/\(x*y).fdiv (2 ^ 32)<4294967296:=by rw [Int.fdiv_eq_ediv_of_nonneg _ (by omega)];omega
 have wd:IntKind.u64.wrap ((x*y).fdiv (2 ^ 32))=(x*y).fdiv (2 ^ 32):=kr dp.1 (by omega)
 have dd:((x*y).fdiv (2 ^ 32)).fdiv (2 ^ 32)=0:=by rw [Int.fdiv_eq_ediv_of_nonneg (a:=(x*y).fdiv (2 ^ 32)) (by omega)];omega
 simp only [PO (n:=x) h1 (by omega),PO (n:=y) h3 (by omega),dx,dy,wx,wy,wp,Int.zero_mul,Int.mul_zero,w0,Int.zero_add,Int.add_zero,wd,dd,PO dp.1 dp.2]
 refine ⟨by omega,by omega,by omega,by omega,by omega,rfl⟩
def Tp:bP:=jU (.int .u64) (.int .u64) fun x y=>(.p ((0<=(show Int from x)/\(show Int from x)<1073741824)/\0<=(show Int from y)/\(show Int from y)<1073741824),.aL [.c (.int .u64 0),.c (.int .u64 ((show Int from x)*(show Int from y)))],[])
theorem Tq:aV Tryz.prog 84 Tp:=fT (by kernel_rfl) fun x y h=>Tn x y h
noncomputable def gBm:bS:=[(84,Tp)]
theorem gBm_ok:bt Tryz.prog gBm:=ar Tq aC
theorem WI (x y:Int) (h:(0<=x/\x<1073741824)/\0<=y/\y<1073741824):bw Tryz.prog 67 [uI x,uI y] [] (.aL [.c (.int .u64 0),.c (.int .u64 (x*y))]) []:=by
 refine bV (aq:=[]) gBm_ok Tryz.func67 (by kernel_rfl) (ay:=0) rfl (by kernel_rfl) 100 ?_
 apply of_eq (q:=(((0:Int)<=x/\x<1073741824)/\(0:Int)<=y/\y<1073741824)/\aB [V.c (W.int .u64 (0:Int)),V.c (W.int .u64 (x*y))]=A.aL [V.c (W.int .u64 (0:Int)),V.c (W.int .u64 (x*y))]/\([]:List Ob)=[]) (by kernel_rfl)
 try simp only [sL]
 exact ⟨h,rfl⟩
def cBm:bP:=jU (.int .u64) (.int .u64) fun x y=>(.p ((0<=(show Int from x)/\(show Int from x)<1073741824)/\0<=(show Int from y)/\(show Int from y)<1073741824),.aL [.c (.int .u64 0),.c (.int .u64 ((show Int from x)*(show Int from y)))],[])
theorem cBm_ok:aV Tryz.prog 67 cBm:=fT (by kernel_rfl) fun x y h=>WI x y h
noncomputable def JY:bS:=[(67,cBm)]
theorem AA:bt Tryz.prog JY:=ar cBm_ok aC
noncomputable def sRep:bD:=bN Tryz.prog JY Tryz.f139 0 [([0,0,1,1,1,1,1,1],[7,8])] [] [some dI]
theorem M8 (x:List Int) {m k:Nat} (h:k<=m):(pw x m).take (k*x.length)=pw x k:=by
 obtain ⟨j,rfl⟩:∃ j,m=k+j:=⟨m-k,by omega⟩
 rw [zj,<-kF x k,List.take_left]
theorem wX (x : List Int) (c : Nat) (hL : c * x.length ≤ 1000000) : ∀ (k m : Nat) (l : List Int), k = c - m → (0 < m ∨ c = 0) → m ≤ c → l.length = c * x.length → l.take (m * x.length) = pw x m →
 av sRep (aG (bF (pw x c)) []) [0,0,1,1,1,1,1,1] (fr [(7,gL 0 (c*x.length)),(8,nI ((m*x.length:Nat):Int))]) (.ofList [aD l])
 | k, m, l, hk, hm, hmc, hl, hr => by
   refine aX AA (by kernel_rfl) 100 ?_
   apply of_eq (q:=let q1:=(↑(m*x.length):Int);let q2:=(↑(c*x.length):Int);let q3:=(List.take (q1-0).toNat (List.drop ((0:Nat)+0*1) l));(decide (q1<q2)=true->((0:Int)<=q1/\q1<=q2/\q2<=q2)/\((0:Int)<=0/\(0:Int)<=q1/\q1<=q2)/\(0:Nat)+0*1+(q1-0).toNat<=l.length/\(0:Nat)+m*x.length*1+(q2-q1).toNat<=l.length/\av sRep (aG (bF (pw x c)) []) [0,0,1,1,1,1,1,1] (fr [(7,aS 0 0 (c*x.length)),(8,nI (IntKind.i64.wrap (q1+(↑(q3.length.min (q2-q1).toNat):Int))))]) (ai.ofList [aD (spl l ((0:Nat)+m*x.length*1) (List.take (q2-q1).toNat q3))]))/\(decide (q1<q2)=false->(0:Nat)+c*x.length<=l.length/\aB [V.c (wR (List.take (c*x.length) (List.drop (0:Nat) l)))]=bF (pw x c)/\([]:List Ob)=[])) (by kernel_rfl)
   try simp only [sL]
   have hnL:m*x.length<=c*x.length:=Nat.mul_le_mul_right _ hmc
   have hpl:(pw x m).length=m*x.length:=kF x m
   generalize hn:m*x.length=n at *
   generalize sW:c*x.length=L at *
   rw [show ((n:Int)-0).toNat=n by omega,show ((L:Int)-n).toNat=L-n by omega,hr,hpl]
   refine ⟨fun h=>⟨by omega,by omega,by omega,by omega,?_⟩,fun h=>⟨by omega,?_⟩⟩
   · have hne : m < c := by
      rcases Nat.lt_or_ge m c with h1 | h1
      . exact h1
      . have:m=c:=by omega
        subst this;omega
     rw [wrap64 (n:=(n:Int)+((n.min (L-n):Nat):Int)) (by omega) (by have:=Nat.min_le_right n (L-n);simp only [Nat.min_def] at *;split <;> omega)]
     have hsl:∀ q:List Int,q.length<=L-n->(spl l n q).length=L/\(spl l n q).take (n+q.length)=pw x m++q:=by
      intro q hq
      have e:spl l n q=(pw x m++q)++l.drop (n+q.length):=by rw [spl,hr]
      refine ⟨by rw [e];simp [hpl];omega,?_⟩
      rw [e,show n+q.length=(pw x m++q).length by simp [hpl],List.take_left]
     cases k with
     | zero=>omega
     | succ k =>
       rcases Nat.lt_or_ge c (2*m) with h2 | h2
       . have h3:L-n=(c-m)*x.length:=by rw [Nat.sub_mul,hn,sW]
         have h4:L-n<=n:=by rw [h3,<-hn];exact Nat.mul_le_mul_right _ (by omega)
         have e1:n.min (L-n)=L-n:=Nat.min_eq_right h4
         have e2:List.take (L-n) (pw x m)=pw x (c-m):=by rw [h3];exact M8 x (by omega)
         have e3:(pw x (c-m)).length=L-n:=by rw [kF,h3]
         obtain ⟨g1,g2⟩:=hsl (pw x (c-m)) (by omega)
         have:=wX x c (by omega) 0 c (spl l n (pw x (c-m))) (by omega) (by omega) (by omega) (by omega) (by
          rw [sW,show L=n+(pw x (c-m)).length by omega,g2,<-zj];congr 1;omega)
         rw [e1,e2,show ((n:Int)+((L-n:Nat):Int))=((L:Nat):Int) by omega]
         rw [sW] at this
         exact this
       . have h3:2*m*x.length<=L:=by rw [<-sW];exact Nat.mul_le_mul_right _ h2
         have h4:2*m*x.length=n+n:=by rw [Nat.mul_assoc,hn];omega
         have e1:n.min (L-n)=n:=Nat.min_eq_left (by omega)
         have e2:List.take (L-n) (pw x m)=pw x m:=List.take_of_length_le (by omega)
         obtain ⟨g1,g2⟩:=hsl (pw x m) (by omega)
         have:=wX x c (by omega) (c-2*m) (2*m) (spl l n (pw x m)) (by omega) (by omega) (by omega) (by omega) (by
          rw [h4,show n+n=n+(pw x m).length by omega,g2,<-zj];congr 1;omega)
         rw [e1,e2,show ((n:Int)+((n:Nat):Int))=((n+n:Nat):Int) by omega]
         rw [sW,h4] at this
         exact this
   . have WJ:n=L:=by omega
     have:m=c∨x.length=0:=by
      rcases Nat.lt_or_ge m c with h1 | h1
      . right
        have:=Nat.mul_le_mul_right x.length (show m+1<=c by omega)
        rw [Nat.succ_mul] at this;omega
      . left;omega
     rw [show List.take L l=pw x c from ?_];rfl
     rcases this with rfl | h0
     . rw [<-WJ];exact hr
     . have:(pw x c).length=0:=by rw [kF,h0];simp
       rw [List.eq_nil_of_length_eq_zero this]
       rw [h0,Nat.mul_zero] at sW
       rw [<-sW];rfl
 termination_by k=>k
theorem PU (x:List Int) (n:Int) (h:0<=n/\n<=100000/\x.length<=100000/\n.toNat*x.length<=1000000):bw Tryz.prog 139 [bF x,nI n] [] (bF (pw x n.toNat)) []:=by
 refine eI (aq:=[([0,0,1,1,1,1,1,1],[7,8])]) (cE:=[]) (fz:=[some dI]) AA Tryz.func139 (by kernel_rfl) (ay:=0) rfl (by kernel_rfl) 100 ?_
 apply of_eq (q:=let q0:=IntKind.i64.wrap;let q1:=(IntKind.u64.wrap (x.length:Int)*IntKind.u64.wrap n);let q2:=decide ((0:Int)<0);let q3:=decide ((9223372036854775807:Int)<IntKind.u64.wrap (x.length:Int)*IntKind.u64.wrap n);let q4:=(q0 q1);(decide (n<0)=true->False)/\(decide (n<0)=false->(((0:Int)<=IntKind.u64.wrap (x.length:Int)/\IntKind.u64.wrap (x.length:Int)<1073741824)/\(0:Int)<=IntKind.u64.wrap n/\IntKind.u64.wrap n<1073741824)/\(q2=false->q2=false)/\(q2=false->q2=false)/\((bif q2 then true else q3)=true->False)/\((bif q2 then true else q3)=false->((0:Int)<=q0 q1/\q0 q1<=q0 q1/\(↑(8:Nat):Int)*q0 q1<=140737488355328)/\(0:Nat)+q4.toNat<=(List.replicate q4.toNat (0:Int)).length/\av (bN Tryz.prog JY Tryz.f139 (0:Nat) [([0,0,1,1,1,1,1,1],[7,8])] [] [some dI]) (aG (bF (pw x n.toNat)) []) [0,0,1,1,1,1,1,1] (fr [(7,aS 0 0 q4.toNat),(8,nI (↑(x.length.min q4.toNat):Int))]) (ai.ofList [aD (spl (List.replicate q4.toNat (0:Int)) (0:Nat) (List.take q4.toNat x))])))) (by kernel_rfl)
 try simp only [sL]
 obtain ⟨c,rfl⟩:∃ c:Nat,n=c:=⟨n.toNat,by omega⟩
 obtain ⟨h1,h2,h3,h4⟩:=h
 rw [Int.toNat_natCast] at h4
 have e1:IntKind.u64.wrap (x.length:Int)=x.length:=kr (by omega) (by omega)
 have e2:IntKind.u64.wrap (c:Int)=c:=kr (by omega) (by omega)
 have e3:(x.length:Int)*(c:Int)=((c*x.length:Nat):Int):=by rw [Nat.mul_comm,Int.natCast_mul]
 rw [e1,e2,e3]
 have e4:IntKind.i64.wrap ((c*x.length:Nat):Int)=((c*x.length:Nat):Int):=wrap64 (by omega) (by omega)
 rw [e4,Int.toNat_natCast]
 refine ⟨fun g=>by omega,fun _=>⟨⟨by omega,by omega⟩,fun g=>by omega,fun _=>⟨by omega,by simp,?_⟩⟩⟩
 cases c with
 | zero =>
   have:=wX x 0 (by omega) 0 0 (spl (List.replicate (0*x.length) 0) 0 (List.take (0*x.length) x)) rfl (.inr rfl) (by omega) (by simp [spl]) (by simp [pw])
   rw [show x.length.min (0*x.length)=0*x.length by simp]
   exact this
 | succ c =>
   have hl:x.length<=(c+1)*x.length:=by rw [Nat.succ_mul];omega
   have e5:List.take ((c+1)*x.length) x=x:=List.take_of_length_le hl
   have e6:x.length.min ((c+1)*x.length)=x.length:=Nat.min_eq_left hl
   rw [e5,e6]
   have:=wX x (c+1) (by omega) (c+1-1) 1 (spl (List.replicate ((c+1)*x.length) 0) 0 x) rfl (by omega) (by omega) (by simp [spl];omega) (by
    rw [Nat.one_mul,spl];simp [pw])
   rw [Nat.one_mul] at this
   exact this
def cRep:bP:=jU dI (.int .i64) fun x n=>(.p (0<=(show Int from n)/\(show Int from n)<=100000/\List.length (α:=Int) x<=100000/\(show Int from n).toNat*List.length (α:=Int) x<=1000000),bF (pw x (show Int from n).toNat),[])
theorem aao:aV Tryz.prog 139 cRep:=fT (by kernel_rfl) fun x n h=>PU x n h
theorem sz_abs {n:Int} (h:R64 n):sz n=n.natAbs:=by
 obtain ⟨h1,h2⟩:=h
 unfold sz
 split
 . have:IntKind.u64.wrap n=n+18446744073709551616:=by simp only [IntKind.wrap,IntKind.bits,IntKind.signed];simp;omega
   rw [this]
   have:IntKind.u64.wrap (0-(n+18446744073709551616))=-n:=by simp only [IntKind.wrap,IntKind.bits,IntKind.signed];simp;omega
   rw [this];omega
 . rw [kr (by omega) (by omega)];omega
def nV (g x:Int):Bool:=decide (x=0)||decide (g<x)||decide (x < -g)
def kV (w:List Int) (g:Int):Int:=if g<1∨16<g then 2 else if 4000<w.length then 4 else if w.any (nV g) then 2 else 0
noncomputable def Tr:bD:=fG Tryz.prog [] Tryz.f53 0 [([0,1,0,1,1,1],[1,16,17,18])]
theorem Bt (w:List Int) (g:Int) (hg:1<=g/\g<=16) (hl:w.length<=4000):∀ (k i:Nat),k=w.length-i->i<=w.length->
 av Tr (aG (nI (if (w.drop i).any (nV g) then 2 else 0)) []) [0,1,0,1,1,1] (fr [(1,nI g),(16,bF w),(17,nI w.length),(18,nI i)]) (.ofList [])
 | k, i, hk, hi => by
   refine aX aC (by kernel_rfl) 100 ?_
   apply of_eq (q:=let q2:=decide (w.getD i (0:Int)=0);let q3:=decide (w.getD i (0:Int)<IntKind.i64.wrap ((0:Int)-g));let q4:=decide (g<w.getD i (0:Int));let q1:=(bif q2 then true else q4)=false;(decide ((i:Int)<(w.length:Int))=true->((0:Int)<=(i:Int)/\(i:Int)<(w.length:Int))/\i<w.length/\(q2=false->q2=false)/\(q2=false->q2=false)/\(q2=false->q2=false)/\(q1->q1)/\(q1->q1)/\(q1->q1)/\(q1->q1)/\((bif bif q2 then true else q4 then true else q3)=true->aB [vI (2)]=nI (if (List.drop i w).any (nV g)=true then (2:Int) else (0:Int))/\([]:List Ob)=[])/\((bif bif q2 then true else q4 then true else q3)=false->av Tr (aG (nI (if (List.drop i w).any (nV g)=true then (2:Int) else (0:Int))) []) [0,1,0,1,1,1] (fr [(1,nI g),(16,bF w),(17,nI (w.length:Int)),(18,nI (IntKind.i64.wrap ((i:Int)+1)))]) (ai.ofList [])))/\(decide ((i:Int)<(w.length:Int))=false->aB [vI (0)]=nI (if (List.drop i w).any (nV g)=true then (2:Int) else (0:Int))/\([]:List Ob)=[])) (by kernel_rfl)
   try simp only [sL]
   rw [wrap64 (n:=0-g) (by omega) (by omega),wrap64 (n:=(i:Int)+1) (by omega) (by omega)]
   refine ⟨fun h=>⟨by omega,by omega,fun h2=>?_,fun h2=>?_⟩,fun h=>?_⟩
   . rw [jP (by omega),List.any_cons,show nV g (w.getD i 0)=true by simp only [nV,Bool.or_eq_true,decide_eq_true_eq];omega];rfl
   . have e:(w.drop i).any (nV g)=(w.drop (i+1)).any (nV g):=by
      rw [jP (by omega),List.any_cons,show nV g (w.getD i 0)=false by simp only [nV,Bool.or_eq_false_iff,decide_eq_false_iff_not];omega];rfl
     rw [e]
     cases k with
     | zero=>omega
     | succ k=>exact Bt w g hg hl k (i+1) (by omega) (by omega)
   . rw [List.drop_eq_nil_of_le (by omega)];rfl
theorem PV (w:List Int) (g:Int) (hw:w.length<=1000000):bw Tryz.prog 53 [bF w,nI g] [] (nI (kV w g)) []:=by
 refine bV (aq:=[([0,1,0,1,1,1],[1,16,17,18])]) aC Tryz.func53 (by kernel_rfl) (ay:=0) rfl (by kernel_rfl) 100 ?_
 apply of_eq (q:=let q1:=decide (g<1)=false;(q1->q1)/\(q1->q1)/\((bif decide (g<1) then true else decide ((16:Int)<g))=true->aB [vI (2)]=nI (kV w g)/\([]:List Ob)=[])/\((bif decide (g<1) then true else decide ((16:Int)<g))=false->(decide ((4000:Int)<(w.length:Int))=true->aB [vI (4)]=nI (kV w g)/\([]:List Ob)=[])/\(decide ((4000:Int)<(w.length:Int))=false->av (fG Tryz.prog [] Tryz.f53 (0:Nat) [([0,1,0,1,1,1],[1,16,17,18])]) (aG (nI (kV w g)) []) [0,1,0,1,1,1] (fr [(1,nI g),(16,bF w),(17,nI (w.length:Int)),(18,nI (0))]) (ai.ofList [])))) (by kernel_rfl)
 try simp only [sL]
 refine ⟨fun h=>?_,fun h=>⟨fun h2=>?_,fun h2=>?_⟩⟩
 . rw [kV,if_pos h];rfl
 . rw [kV,if_neg (by omega),if_pos (by omega)];rfl
 . rw [kV,if_neg (by omega),if_neg (by omega)]
   exact Bt w g h (by omega) w.length 0 (by omega) (by omega)
def M9:bP:=jU dI (.int .i64) fun w g=>(.p (List.length (α:=Int) w<=1000000),nI (kV w g),[])
theorem PW:aV Tryz.prog 53 M9:=fT (by kernel_rfl) fun w g h=>PV w g h
abbrev Cg (a:List Int):Ob:=⟨43,[.c (.rd (.int .i64) a)]⟩
abbrev ghR (l:Nat) (ys:List (List Int)):Option Gh:=some ⟨l,.sl (.int .i64),ys,true⟩
abbrev ylA (l:Nat):A:=.p (.c (.yield l))
abbrev JZ:List (List Nat×List Nat):=[([0,1],[0,1,3]),([0,0,1,0,1,0,0,1],[0,1,3,4])]
noncomputable def Na:bD:=Di Tryz.prog [] Tryz.f73 JZ
theorem aap {a:List Int} {i:Nat} (h:i<a.length):fk (a.drop i)=[a.getD i 0,((jV (a.getD i 0) (a.drop (i+1))+1:Nat):Int)]::fk (a.drop (i+(jV (a.getD i 0) (a.drop (i+1))+1))):=by
 rw [jP h,fk,List.drop_drop,show i+1+jV (a.getD i 0) (a.drop (i+1))=i+(jV (a.getD i 0) (a.drop (i+1))+1) by omega]
theorem Dt (a:List Int) (ha:a.length<=4000) (l:Nat) (i:Nat) (hi:i<a.length)
 (hout:∀ j,i<j->j<=a.length->av Na (fun _ _=>True) [0,1] (fr [(0,ylA l),(1,.p (.c (.ptr 0 0))),(3,nI j)]) (.eP (ghR l (fk (a.drop j))) [Cg a])) :
 ∀ m n,m+(i+n)=a.length->1<=n->jV (a.getD i 0) (a.drop (i+n))+n=jV (a.getD i 0) (a.drop (i+1))+1->
 av Na (fun _ _=>True) [0,0,1,0,1,0,0,1] (fr [(0,ylA l),(1,.p (.c (.ptr 0 0))),(3,nI i),(4,nI n)]) (.eP (ghR l (fk (a.drop i))) [Cg a])
 | m, n, hm, hn, hr => by
   refine aX aC (by kernel_rfl) 100 ?_
   apply of_eq (q:=let q0:=IntKind.i64.wrap;let q2:=((i:Int)+(n:Int));let q3:=decide (q0 q2<(a.length:Int));let q4:=decide (a.getD (q0 q2).toNat (0:Int)=a.getD i (0:Int));let q1:=q3=true;(q1->q1)/\(q1->q1)/\(q1->q1)/\(q1->q1)/\(q1->(0:Int)<=q0 q2/\q0 q2<(a.length:Int))/\(q1->q1)/\(q1->(q0 q2).toNat<a.length)/\(q1->q1)/\(q1->q1)/\(q1->(0:Int)<=(i:Int)/\(i:Int)<(a.length:Int))/\(q1->q1)/\(q1->i<a.length)/\(q1->q1)/\(q1->q1)/\(q1->q1)/\((bif q3 then q4 else false)=true->av Na (fun x x_1=>True) [0,0,1,0,1,0,0,1] (fr [(0,aP (W.yield l)),(1,aR 0 0),(3,nI (i:Int)),(4,nI (q0 ((n:Int)+1)))]) (ai.eP (some (Gh.mk l (D.int .i64).sl (fk (List.drop i a)) true)) [Ob.mk 43 [Fd.c (wR a)]]))/\((bif q3 then q4 else false)=false->((0:Int)<=(i:Int)/\(i:Int)<(a.length:Int))/\i<a.length/\(l=l/\(fk (List.drop i a)).head?.bind (Jw (D.int .i64).sl)=some (a.getD i (0:Int),(n:Int)))/\av Na (fun x x_1=>True) [0,1] (fr [(0,aP (W.yield l)),(1,aR 0 0),(3,nI (q0 q2))]) (ai.eP (some (Gh.mk l (D.int .i64).sl (fk (List.drop i a)).tail true)) [Ob.mk 43 [Fd.c (wR a)]]))) (by kernel_rfl)
   try simp only [sL]
   have e:=aap hi
   rw [wrap64 (n:=(i:Int)+n) (by omega) (by omega),show ((i:Int)+n).toNat=i+n by omega]
   refine ⟨fun h=>by omega,fun h=>by omega,fun _=>by omega,fun _=>by omega,fun h=>?_,fun h=>?_⟩
   . have hin:i+n<a.length:=by omega
     rw [wrap64 (n:=(n:Int)+1) (by omega) (by omega)]
     cases m with
     | zero=>omega
     | succ m =>
       refine Dt a ha l i hi hout m (n+1) (by omega) (by omega) ?_
       rw [<-hr,jP hin,jV,if_pos h.2,show i+n+1=i+(n+1) by omega]
       omega
   . have h0:jV (a.getD i 0) (a.drop (i+n))=0:=by
      rcases Nat.lt_or_ge (i+n) a.length with hin | hin
      . rw [jP hin,jV,if_neg (h (by omega))]
      . rw [List.drop_eq_nil_of_le hin];rfl
     rw [h0,Nat.zero_add] at hr
     rw [<-hr] at e
     rw [e]
     refine ⟨by omega,hi,rfl,?_⟩
     exact hout (i+n) (by omega) (by omega)
theorem Du (a:List Int) (ha:a.length<=4000) (l:Nat):∀ m i,m=a.length-i->i<=a.length->av Na (fun _ _=>True) [0,1] (fr [(0,ylA l),(1,.p (.c (.ptr 0 0))),(3,nI i)]) (.eP (ghR l (fk (a.drop i))) [Cg a])
 | m,i,hm,hi=>by
   refine aX aC (by kernel_rfl) 100 ?_
   apply of_eq (q:=(decide ((i:Int)<(a.length:Int))=true->av Na (fun x x_1=>True) [0,0,1,0,1,0,0,1] (fr [(0,aP (W.yield l)),(1,aR 0 0),(3,nI (i:Int)),(4,nI (1))]) (ai.eP (some (Gh.mk l (D.int .i64).sl (fk (List.drop i a)) true)) [Ob.mk 43 [Fd.c (wR a)]]))/\(decide ((i:Int)<(a.length:Int))=false->fk (List.drop i a)=[]/\True)) (by kernel_rfl)
   try simp only [sL]
   refine ⟨fun h=>?_,fun h=>?_⟩
   . cases m with
     | zero=>omega
     | succ m =>
       exact Dt a ha l i (by omega) (fun j h1 h2=>Du a ha l (a.length-j) j rfl h2) (a.length-(i+1)) 1 (by omega) (by omega) rfl
   . rw [List.drop_eq_nil_of_le (by omega),fk]
 termination_by m=>m
theorem Ts (a:List Int) (ha:a.length<=4000):E0 Tryz.prog 73 [.p (.c (.ptr 0 0))] [Cg a] (.sl (.int .i64)) (fk a) true:=by
 refine Pt (aq:=JZ) aC Tryz.func73 (by kernel_rfl) (by kernel_rfl) 100 ?_
 intro l
 apply of_eq (q:=av (Di Tryz.prog [] Tryz.f73 JZ) (fun x x_1=>True) [0,1] (fr [(0,aP (W.yield l)),(1,aR 0 0),(3,nI (0))]) (ai.eP (some (Gh.mk l (D.int .i64).sl (fk a) true)) [Ob.mk 43 [Fd.c (wR a)]])) (by kernel_rfl)
 try simp only [sL,Int.reduceEq,Int.reduceNe,Nat.reduceAdd]
 have:=Du a ha l a.length 0 (by omega) (by omega)
 exact this
theorem WK (a:List Int):bw Tryz.prog 54 [bF a] [] (.p (.c (.func 73 [(0,0)]))) [Cg a]:=by
 refine bV (aq:=[]) aC Tryz.func54 (by kernel_rfl) (ay:=0) rfl (by kernel_rfl) 100 ?_
 apply of_eq (q:=aB [V.c (W.func 73 [(0,(0:Nat))])]=aP (W.func (73:FuncId) [(0,(0:Nat))])/\[Ob.mk 43 [Fd.c (wR a)]]=[Cg a]) (by kernel_rfl)
 try simp only [sL]
 rfl
def Za:bP:=j9 dI fun a=>(.t,.p (.c (.func 73 [(0,0)])),[Cg a])
theorem WL:aV Tryz.prog 54 Za:=gA (by kernel_rfl) fun a _=>WK a
theorem Dv {x:Int} (_h0:x≠0) (h:(x.natAbs:Int)<=16):Utf8.encode (IntKind.i32.wrap (IntKind.u64.wrap (IntKind.u64.wrap (97+sz x)-1)))=bg [96+(x.natAbs:Int)]:=by
 rw [sz_abs ⟨by omega,by omega⟩,kr (n:=97+(x.natAbs:Int)) (by omega) (by omega),kr (by omega) (by omega),show 97+(x.natAbs:Int)-1=96+x.natAbs by omega,IntWalk.i32_in _ (by constructor <;> omega),enc1 (by omega)]
theorem Gy (x:Nat) (h:x<100):(eC0 x).size<=2:=by
 revert x
 decide +kernel
theorem J0 (x:Int):(bg [x]).size=1:=rfl
abbrev rT (s:ByteArray) (e:Int):A:=.aL [.c (.str s),.c (.int .i64 e)]
noncomputable def gTx:bS:=[(53,M9),(54,Za),(55,Y4),(27,Y9),(56,Y8)]
theorem zn:bt Tryz.prog gTx:=ar PW (ar WL (ar Wu (ar WH (ar WE aC))))
abbrev pTx:List Nat:=[0,1,0,1,1,1]
abbrev J1:List (List Nat×List Nat):=[(pTx,[5,15])]
noncomputable def Gz:bD:=fG Tryz.prog gTx Tryz.f29 0 J1
abbrev obS (l:List ByteArray):Ob:=⟨9,[.a 0 .str l]⟩
theorem J2 (R:List ByteArray) (hR:R.length<=4000/\(R≠[]->(fR R kG).size<=1000000)):∀ (ys:List (List Int)) (l:List ByteArray),R=l++ys.map lO->(∀ y∈ys,HK 16 y)->
 jO Gz (aG (rT (if R=[] then pF else fR R kG) 0) []) pTx (.sl (.int .i64)) ys (fr [(5,.p (.c (.ptr 0 0)))]) (.ofList [⟨83,[.c (.sl 1 0 l.length 1)]⟩,obS l]) true
 | [],l,h,_=>by
   refine Bh zn rfl 100 ?_
   apply of_eq (q:=let q1:=(List.take l.length (List.drop (0:Nat) l));(decide ((l.length:Int)=0)=true->aB [V.c (W.str (ByteArray.mk #[(49:UInt8)])),vI (0)]=rT (if R=[] then pF else fR R kG) (0:Int)/\([]:List Ob)=[])/\(decide ((l.length:Int)=0)=false->(0:Nat)+l.length<=l.length/\(q1.length<=100000/\(fR q1 (ByteArray.mk #[(42:UInt8)])).size<=1000000)/\aB [V.c (W.str (fR q1 (ByteArray.mk #[(42:UInt8)]))),vI (0)]=rT (if R=[] then pF else fR R kG) (0:Int)/\([]:List Ob)=[])) (by kernel_rfl)
   try simp only [sL]
   simp only [List.map_nil,List.append_nil] at h
   subst h
   refine ⟨fun h=>?_,fun h=>⟨⟨by omega,hR.2 (by rintro rfl;exact h rfl)⟩,?_⟩⟩
   . rw [if_pos (List.eq_nil_of_length_eq_zero (by omega))];rfl
   . rw [if_neg (by rintro rfl;exact h rfl)];rfl
 | y :: ys, l, h, hx => by
   obtain ⟨x,n,rfl,h1,h2,h3,h4⟩:=hx y (by simp)
   refine vD zn 1 (by kernel_rfl) 100 ?_
   apply of_eq (q:=let q1:=(IntKind.i32.wrap (IntKind.u64.wrap (IntKind.u64.wrap ((97:Int)+sz x)-1)));let q2:=(0:Nat)+l.length<=l.length;let q3:=Ob.mk 83 [fS 1 0 (l.length+1)];let q4:=(ByteArray.mk #[(94:UInt8),(45:UInt8)]++eC0 n);(decide (x<0)=true->((0:Int)<=(n:Int)/\(n:Int)<100)/\(2:Nat)+(eC0 n).size<=9223372036854775807/\(Utf8.encode q1).size+q4.size<=9223372036854775807/\(0:Nat)+1<=1/\(q2/\((l.length+1)*16).le (140737488355328:Nat))/\jO Gz (aG (rT (if R=[] then pF else fR R kG) (0:Int)) []) [0,1,0,1,1,1] (D.int .i64).sl ys (fr [(5,aR 0 0)]) (ai.ofList [q3,Ob.mk 9 [Fd.a 0 D.str (List.take l.length (List.drop (0:Nat) l)++List.take (1:Nat) (List.drop (0:Nat) [Utf8.encode q1++q4]))]]) true)/\(decide (x<0)=false->(decide ((1:Int)<(n:Int))=true->((0:Int)<=(n:Int)/\(n:Int)<100)/\(1:Nat)+(eC0 n).size<=9223372036854775807/\(Utf8.encode q1).size+(ByteArray.mk #[(94:UInt8)]++eC0 n).size<=9223372036854775807/\(0:Nat)+1<=1/\(q2/\((l.length+1)*16).le (140737488355328:Nat))/\jO Gz (aG (rT (if R=[] then pF else fR R kG) (0:Int)) []) [0,1,0,1,1,1] (D.int .i64).sl ys (fr [(5,aR 0 0)]) (ai.ofList [q3,Ob.mk 9 [Fd.a 0 D.str (List.take l.length (List.drop (0:Nat) l)++List.take (1:Nat) (List.drop (0:Nat) [Utf8.encode q1++(ByteArray.mk #[(94:UInt8)]++eC0 n)]))]]) true)/\(decide ((1:Int)<(n:Int))=false->(0:Nat)+1<=1/\(q2/\((l.length+1)*16).le (140737488355328:Nat))/\jO Gz (aG (rT (if R=[] then pF else fR R kG) (0:Int)) []) [0,1,0,1,1,1] (D.int .i64).sl ys (fr [(5,aR 0 0)]) (ai.ofList [q3,Ob.mk 9 [Fd.a 0 D.str (List.take l.length (List.drop (0:Nat) l)++List.take (1:Nat) (List.drop (0:Nat) [Utf8.encode q1]))]]) true))) (by kernel_rfl)
   try simp only [sL]
   have hd:=Gy n h4
   have Ry:(⟨#[94,45]⟩++eC0 n:ByteArray).size=2+(eC0 n).size:=by rw [ByteArray.size_append];rfl
   have hsp:(⟨#[94]⟩++eC0 n:ByteArray).size=1+(eC0 n).size:=by rw [ByteArray.size_append];rfl
   have hRl:=congrArg List.length h
   simp only [List.length_append,List.length_map,List.length_cons] at hRl
   have hR1:=hR.1
   have hle:((l.length+1)*16).le 140737488355328:=by show (l.length+1)*16<=_;omega
   have ih:∀ p,p=lO [x,(n:Int)]->_:=fun p hp=>J2 R hR ys (l++[p]) (by rw [h,hp];simp) (fun y hy=>hx y (by simp [hy]))
   have hps:lO [x,(n:Int)]=sV x n:=rfl
   rw [hps] at ih
   unfold sV at ih
   rw [Dv h1 h2,Ry,hsp,J0]
   refine ⟨fun hx0=>⟨by omega,by omega,by omega,hle,?_⟩,fun hx0=>⟨fun hn=>⟨by omega,by omega,by omega,hle,?_⟩,fun hn=>⟨hle,?_⟩⟩⟩
   . rw [if_pos hx0] at ih
     have:=ih _ rfl
     rw [List.length_append] at this
     exact this
   . rw [if_neg (by omega),if_pos (by omega)] at ih
     have:=ih _ rfl
     rw [List.length_append] at this
     exact this
   . rw [if_neg (by omega),if_neg (by omega)] at ih
     have:=ih _ rfl
     rw [List.length_append] at this
     exact this
theorem Tt (R:List ByteArray) (hR:R.length<=4000/\(R≠[]->(fR R kG).size<=1000000)):∀ (ys:List (List Int)),R=ys.map lO->(∀ y∈ys,HK 16 y)->
 jO Gz (aG (rT (if R=[] then pF else fR R kG) 0) []) pTx (.sl (.int .i64)) ys (fr [(5,.p (.c (.ptr 0 0)))]) (.ofList [⟨83,[.c .nil]⟩]) true
 | [],h,_=>by
   refine Bh zn rfl 100 ?_
   apply of_eq (q:=(decide ((0:Int)=0)=true->aB [V.c (W.str (ByteArray.mk #[(49:UInt8)])),vI (0)]=rT (if R=[] then pF else fR R kG) (0:Int)/\([]:List Ob)=[])/\(decide ((0:Int)=0)=false->((0:Nat)<=100000/\(0:Nat)<=1000000)/\aB [V.c (W.str (fR [] (ByteArray.mk #[(42:UInt8)]))),vI (0)]=rT (if R=[] then pF else fR R kG) (0:Int)/\([]:List Ob)=[])) (by kernel_rfl)
   try simp only [sL]
   rw [List.map_nil] at h
   rw [if_pos h]
   exact ⟨fun _=>rfl,fun h=>absurd trivial h⟩
 | y :: ys, h, hx => by
   obtain ⟨x,n,rfl,h1,h2,h3,h4⟩:=hx y (by simp)
   refine vD zn 1 (by kernel_rfl) 100 ?_
   apply of_eq (q:=let q1:=(IntKind.i32.wrap (IntKind.u64.wrap (IntKind.u64.wrap ((97:Int)+sz x)-1)));let q2:=(ByteArray.mk #[(94:UInt8),(45:UInt8)]++eC0 n);(decide (x<0)=true->((0:Int)<=(n:Int)/\(n:Int)<100)/\(2:Nat)+(eC0 n).size<=9223372036854775807/\(Utf8.encode q1).size+q2.size<=9223372036854775807/\(0:Nat)+1<=1/\((1:Nat)*16).le (140737488355328:Nat)/\jO Gz (aG (rT (if R=[] then pF else fR R kG) (0:Int)) []) [0,1,0,1,1,1] (D.int .i64).sl ys (fr [(5,aR 0 0)]) (ai.ofList [Ob.mk 83 [fS 1 0 1],Ob.mk 9 [Fd.a 0 D.str (List.take (1:Nat) (List.drop (0:Nat) [Utf8.encode q1++q2]))]]) true)/\(decide (x<0)=false->(decide ((1:Int)<(n:Int))=true->((0:Int)<=(n:Int)/\(n:Int)<100)/\(1:Nat)+(eC0 n).size<=9223372036854775807/\(Utf8.encode q1).size+(ByteArray.mk #[(94:UInt8)]++eC0 n).size<=9223372036854775807/\(0:Nat)+1<=1/\((1:Nat)*16).le (140737488355328:Nat)/\jO Gz (aG (rT (if R=[] then pF else fR R kG) (0:Int)) []) [0,1,0,1,1,1] (D.int .i64).sl ys (fr [(5,aR 0 0)]) (ai.ofList [Ob.mk 83 [fS 1 0 1],Ob.mk 9 [Fd.a 0 D.str (List.take (1:Nat) (List.drop (0:Nat) [Utf8.encode q1++(ByteArray.mk #[(94:UInt8)]++eC0 n)]))]]) true)/\(decide ((1:Int)<(n:Int))=false->(0:Nat)+1<=1/\((1:Nat)*16).le (140737488355328:Nat)/\jO Gz (aG (rT (if R=[] then pF else fR R kG) (0:Int)) []) [0,1,0,1,1,1] (D.int .i64).sl ys (fr [(5,aR 0 0)]) (ai.ofList [Ob.mk 83 [fS 1 0 1],Ob.mk 9 [Fd.a 0 D.str (List.take (1:Nat) (List.drop (0:Nat) [Utf8.encode q1]))]]) true))) (by kernel_rfl)
   try simp only [sL]
   have hd:=Gy n h4
   have Ry:(⟨#[94,45]⟩++eC0 n:ByteArray).size=2+(eC0 n).size:=by rw [ByteArray.size_append];rfl
   have hsp:(⟨#[94]⟩++eC0 n:ByteArray).size=1+(eC0 n).size:=by rw [ByteArray.size_append];rfl
   have hle:(1*16).le 140737488355328:=by show 1*16<=_;omega
   have ih:∀ p,p=lO [x,(n:Int)]->_:=fun p hp=>J2 R hR ys [p] (by rw [h,hp];simp) (fun y hy=>hx y (by simp [hy]))
   have hps:lO [x,(n:Int)]=sV x n:=rfl
   rw [hps] at ih
   unfold sV at ih
   rw [Dv h1 h2,Ry,hsp,J0]
   refine ⟨fun hx0=>⟨by omega,by omega,by omega,hle,?_⟩,fun hx0=>⟨fun hn=>⟨by omega,by omega,by omega,hle,?_⟩,fun hn=>⟨hle,?_⟩⟩⟩
   . rw [if_pos hx0] at ih
     exact ih _ rfl
   . rw [if_neg (by omega),if_pos (by omega)] at ih
     exact ih _ rfl
   . rw [if_neg (by omega),if_neg (by omega)] at ih
     exact ih _ rfl
theorem Mn {a:List Int} (ha:je 16 a) (hl:a.length<100):kV a 16=0:=by
 unfold kV
 rw [if_neg (by omega),if_neg (by omega),if_neg]
 rw [Bool.not_eq_true,List.any_eq_false]
 intro x hx
 have:=ha x hx
 simp only [nV,Bool.or_eq_true,decide_eq_true_eq]
 omega
theorem WM (a:List Int) (ha:je 16 a) (hl:a.length<100):bw Tryz.prog 29 [bF a] [] (rT (gC a) 0) []:=by
 refine bV (aq:=J1) zn Tryz.func29 (by kernel_rfl) (ay:=0) rfl (by kernel_rfl) 100 ?_
 apply of_eq (q:=a.length<=1000000/\((!decide (kV a (16:Int)=0))=true->aB [V.c (W.str (ByteArray.mk #[])),vI (kV a (16:Int))]=rT (gC a) (0:Int)/\([]:List Ob)=[])/\((!decide (kV a (16:Int)=0))=false->EY (fG Tryz.prog gTx Tryz.f29 (0:Nat) J1) (aG (rT (gC a) (0:Int)) []) [0,1,0,1,1,1] (fr [(5,aR 0 0),(15,aP (W.func 73 [(1,(0:Nat))]))]) (ai.ofList [Ob.mk 83 [Fd.c W.nil],Ob.mk 43 [Fd.c (wR a)]]))) (by kernel_rfl)
 try simp only [sL]
 have hc:=Mn ha hl
 refine ⟨by omega,fun h=>absurd hc h,fun _=>?_⟩
 have hsz:=pG (g:=16) (Int.le_refl _) ha hl
 have hrl:=Ce _ a (Nat.le_refl _)
 have hne:((fk a).map lO=[])↔a=[]:=by
  constructor
  . intro h
    by_cases h0:a=[]
    . exact h0
    . exact absurd (List.map_eq_nil_iff.1 h) (aai h0)
  . rintro rfl;rw [fk];rfl
 have:=Tt ((fk a).map lO) ⟨by rw [List.length_map];omega,fun h=>?_⟩ (fk a) rfl (qU _ a (Nat.le_refl _) hl ha)
 . have e:(if (fk a).map lO=[] then pF else fR ((fk a).map lO) kG)=gC a:=by
    unfold gC
    by_cases h0:a=[]
    . rw [if_pos h0,if_pos (hne.2 h0)]
    . rw [if_neg h0,if_neg (fun h=>h0 (hne.1 h))]
   rw [e] at this
   exact Pv rfl (by kernel_rfl) (Ts a (by omega)) this
 . unfold gC at hsz
   rw [if_neg (fun h0=>h (hne.2 h0))] at hsz
   omega
def Zb:bP:=j9 dI fun a=>(.p (je 16 a/\List.length (α:=Int) a<100),rT (gC a) 0,[])
theorem WN:aV Tryz.prog 29 Zb:=gA (by kernel_rfl) fun a h=>WM a h.1 h.2
def bC (x n:Int):Int:=Int.tmod (Int.tmod x n+n) n
theorem WO (x n:Int) (h1:1<=n) (h2:n<=1000):bw Tryz.prog 8 [nI x,nI n] [] (nI (bC x n)) []:=by
 refine bV (aq:=[]) aC Tryz.func8 (by kernel_rfl) (ay:=0) rfl (by kernel_rfl) 100 ?_
 apply of_eq (q:=n≠(0:Int)/\n≠(0:Int)/\aB [vI ((IntKind.i64.wrap (x.tmod n+n)).tmod n)]=nI (bC x n)/\([]:List Ob)=[]) (by kernel_rfl)
 try simp only [sL]
 have h3:=Int.lt_tmod_of_pos x (show 0<n by omega)
 have h4:=Int.tmod_lt_of_pos x (show 0<n by omega)
 rw [wrap64 (n:=x.tmod n+n) (by omega) (by omega)]
 exact ⟨by omega,by omega,rfl⟩
def Dw:bP:=jU (.int .i64) (.int .i64) fun x n=>(.p (1<=(show Int from n)/\(show Int from n)<=1000),nI (bC x n),[])
theorem wY:aV Tryz.prog 8 Dw:=fT (by kernel_rfl) fun x n h=>WO x n h.1 h.2
theorem jF (x n:Int) (h:1<=n):0<=bC x n/\bC x n<n:=by
 unfold bC
 have h1:=Int.lt_tmod_of_pos x (show 0<n by omega)
 exact ⟨Int.tmod_nonneg _ (by omega),Int.tmod_lt_of_pos _ (by omega)⟩
def qg (c:Int):Int:=if Int.tmod c 2=0 then Int.tdiv c 2+1 else 0-(Int.tdiv c 2+1)
theorem PX (c:Int) (h:0<=c/\c<=1000):bw Tryz.prog 68 [nI c] [] (nI (qg c)) []:=by
 refine bV (aq:=[]) aC Tryz.func68 (by kernel_rfl) (ay:=0) rfl (by kernel_rfl) 100 ?_
 apply of_eq (q:=let q0:=IntKind.i64.wrap;(2:Int)≠(0:Int)/\(decide (c.tmod (2:Int)=0)=true->(2:Int)≠(0:Int)/\aB [vI (q0 (q0 (c.tdiv (2:Int))+1))]=nI (qg c)/\([]:List Ob)=[])/\(decide (c.tmod (2:Int)=0)=false->(2:Int)≠(0:Int)/\aB [vI (q0 ((0:Int)-q0 (q0 (c.tdiv (2:Int))+1)))]=nI (qg c)/\([]:List Ob)=[])) (by kernel_rfl)
 try simp only [sL,Int.reduceEq]
 have e:c.tdiv 2=c / 2:=Int.tdiv_eq_ediv_of_nonneg (by omega)
 rw [wrap64 (n:=c.tdiv 2) (by omega) (by omega),wrap64 (n:=c.tdiv 2+1) (by omega) (by omega),wrap64 (n:=0-(c.tdiv 2+1)) (by omega) (by omega)]
 refine ⟨fun h1=>?_,fun h1=>?_⟩
 . rw [qg,if_pos h1];rfl
 . rw [qg,if_neg h1];rfl
def Nb:bP:=j9 (.int .i64) fun c=>(.p (0<=(show Int from c)/\(show Int from c)<=1000),nI (qg c),[])
theorem PY:aV Tryz.prog 68 Nb:=gA (by kernel_rfl) fun c h=>PX c h
def iR (g:Int) (l:List Int):List Int:=l.map fun x=>qg (bC x (2*g))
noncomputable def WQ:bS:=[(8,Dw),(68,Nb)]
theorem Nc:bt Tryz.prog WQ:=ar wY (ar PY aC)
noncomputable def sWof:bD:=bN Tryz.prog WQ Tryz.f48 0 [([0,1,0,1,1],[0,1,5,6])] [] [some dI]
theorem Nd (g:Int) (l:List Int) (hg:1<=g/\g<=16) (hl:l.length<=1000):∀ (n i:Nat),n=l.length-i->i<=l.length->
 av sWof (aG (bF (iR g l)) []) [0,1,0,1,1] (fr [(0,bF l),(1,nI g),(5,gL 0 i),(6,nI i)]) (.ofList [aD (iR g (l.take i))])
 | n, i, hn, hi => by
   refine aX Nc (by kernel_rfl) 100 ?_
   apply of_eq (q:=let q0:=IntKind.i64.wrap;let q1:=(iR g (List.take i l));let q2:=(q0 ((2:Int)*g));(decide ((i:Int)<(l.length:Int))=true->((0:Int)<=(i:Int)/\(i:Int)<(l.length:Int))/\i<l.length/\((1:Int)<=q0 ((2:Int)*g)/\q0 ((2:Int)*g)<=1000)/\((0:Int)<=bC (l.getD i (0:Int)) q2/\bC (l.getD i (0:Int)) q2<=1000)/\(0:Nat)+1<=1/\((0:Nat)+i<=q1.length/\(i+1)*8<=140737488355328)/\av sWof (aG (bF (iR g l)) []) [0,1,0,1,1] (fr [(0,bF l),(1,nI g),(5,aS 0 0 (i+1)),(6,nI (q0 ((i:Int)+1)))]) (ai.ofList [aD (List.take i (List.drop (0:Nat) q1)++List.take (1:Nat) (List.drop (0:Nat) [qg (bC (l.getD i (0:Int)) q2)]))]))/\(decide ((i:Int)<(l.length:Int))=false->(0:Nat)+i<=q1.length/\aB [V.c (wR (List.take i (List.drop (0:Nat) q1)))]=bF (iR g l)/\([]:List Ob)=[])) (by kernel_rfl)
   try simp only [sL]
   have hlw:(iR g (l.take i)).length=i:=by simp [iR];omega
   have t:=jF (l.getD i 0) (2*g) (by omega)
   rw [wrap64 (n:=2*g) (by omega) (by omega),wrap64 (n:=(i:Int)+1) (by omega) (by omega),List.take_of_length_le (show (iR g (l.take i)).length<=i by omega)]
   refine ⟨fun h=>⟨by omega,by omega,by omega,by omega,⟨by omega,by omega⟩,?_⟩,fun h=>⟨by omega,?_⟩⟩
   . have hi':i<l.length:=by omega
     have e:iR g (l.take i)++[qg (bC (l.getD i 0) (2*g))]=iR g (l.take (i+1)):=by
      rw [zi hi',iR,iR,List.map_append];rfl
     rw [e]
     cases n with
     | zero=>omega
     | succ n=>exact Nd g l hg hl n (i+1) (by omega) (by omega)
   . rw [List.take_of_length_le (show l.length<=i by omega)];rfl
theorem wo_sem (g:Int) (l:List Int) (hg:1<=g/\g<=16) (hl:l.length<=1000):bw Tryz.prog 48 [bF l,nI g] [] (bF (iR g l)) []:=by
 refine eI (aq:=[([0,1,0,1,1],[0,1,5,6])]) (cE:=[]) (fz:=[some dI]) Nc Tryz.func48 (by kernel_rfl) (ay:=0) rfl (by kernel_rfl) 100 ?_
 apply of_eq (q:=av (bN Tryz.prog WQ Tryz.f48 (0:Nat) [([0,1,0,1,1],[0,1,5,6])] [] [some dI]) (aG (bF (iR g l)) []) [0,1,0,1,1] (fr [(0,bF l),(1,nI g),(5,aS 0 0 0),(6,nI (0))]) (ai.ofList [aD ([])])) (by kernel_rfl)
 try simp only [sL,Int.reduceEq,Int.reduceNe,Nat.reduceAdd]
 exact Nd g l hg hl l.length 0 rfl (by omega)
def cWof:bP:=jU dI (.int .i64) fun l g=>(.p ((1<=(show Int from g)/\(show Int from g)<=16)/\List.length (α:=Int) l<=1000),bF (iR g l),[])
theorem aaq:aV Tryz.prog 48 cWof:=fT (by kernel_rfl) fun l g h=>wo_sem g l h.1 h.2
def jl (g aQ:Int):Nat->List Int->List (List Int)->List (List Int)
 | 0,_,acc=>acc
 | f+1,l,acc=>match l with
   | []=>acc
   | x::l=>jl g aQ f (l.drop (min (bC x (aQ+1)) l.length).toNat) (acc++[iR g (l.take (min (bC x (aQ+1)) l.length).toNat)])
theorem PZ (g aQ:Int) (n:Nat) (acc:List (List Int)):jl g aQ n [] acc=acc:=by cases n <;> rfl
noncomputable def WR:bS:=[(8,Dw),(48,cWof)]
theorem Nf:bt Tryz.prog WR:=ar wY (ar aaq aC)
noncomputable def sWsf:bD:=bN Tryz.prog WR Tryz.f21 0 [([0,0,1,1],[0,1,2,7])] [] [some dL]
theorem Ng (g aQ:Int) (hg:1<=g/\g<=16) (hm:0<=aQ/\aQ<=100) (R:List (List Int)):∀ (n:Nat) (l:List Int) (acc:List (List Int)),l.length<=n->n+acc.length<=1000->R=jl g aQ n l acc->
 av sWsf (aG (cC R) []) [0,0,1,1] (fr [(0,bF l),(1,nI g),(2,nI aQ),(7,gL 0 acc.length)]) (.ofList [obLL acc])
 | n,l,acc,hl,hn,hr=>by
   refine aX Nf (by kernel_rfl) 100 ?_
   apply of_eq (q:=let q0:=IntKind.i64.wrap;let q2:=(l.length:Int);let q1:=((1:Int)+min (bC (l.getD (0:Nat) (0:Int)) (q0 (aQ+1))) (q0 (q2-1)));let q3:=(List.drop (1:Nat) (List.take (q0 q1).toNat l));(decide ((0:Int)<q2)=true->((0:Int)<=0/\(0:Int)<q2)/\(0:Nat)<l.length/\((1:Int)<=q0 (aQ+1)/\q0 (aQ+1)<=1000)/\((0:Int)<=1/\(1:Int)<=q0 q1/\q0 q1<=q2)/\(((1:Int)<=g/\g<=16)/\q3.length<=1000)/\(0:Nat)+1<=1/\((0:Nat)+acc.length<=acc.length/\(acc.length+1)*24<=140737488355328)/\((0:Int)<=q0 q1/\q0 q1<=q2/\q2<=q2)/\av sWsf (aG (cC R) []) [0,0,1,1] (fr [(0,bF (List.drop (q0 q1).toNat (List.take l.length l))),(1,nI g),(2,nI aQ),(7,aS 0 0 (acc.length+1))]) (ai.ofList [Ob.mk 43 [Fd.a 0 (D.int .i64).sl (List.take acc.length (List.drop (0:Nat) acc)++List.take (1:Nat) (List.drop (0:Nat) [iR g q3]))]]))/\(decide ((0:Int)<q2)=false->(0:Nat)+acc.length<=acc.length/\aB [V.c (wL (List.take acc.length (List.drop (0:Nat) acc)))]=cC R/\([]:List Ob)=[])) (by kernel_rfl)
   try simp only [sL]
   cases l with
   | nil=>exact ⟨fun h=>by simp at h,fun _=>by rw [hr,PZ];rfl⟩
   | cons x l =>
     refine ⟨fun _=>?_,fun h=>by simp at h;omega⟩
     have t:=jF x (aQ+1) (by omega)
     simp only [List.length_cons] at hl ⊢
     have e0:(x::l).getD 0 0=x:=rfl
     have e1:IntKind.i64.wrap (aQ+1)=aQ+1:=wrap64 (by omega) (by omega)
     have e2:IntKind.i64.wrap (((l.length+1:Nat):Int)-1)=(l.length:Int):=by rw [wrap64 (by omega) (by omega)];omega
     have e3:IntKind.i64.wrap (1+min (bC x (aQ+1)) (l.length:Int))=1+min (bC x (aQ+1)) (l.length:Int):=wrap64 (by omega) (by omega)
     simp only [e0,e1,e2,e3]
     cases n with
     | zero=>omega
     | succ n =>
       simp only [jl] at hr
       have hm1:0<=min (bC x (aQ+1)) (l.length:Int):=by omega
       have hm2:min (bC x (aQ+1)) (l.length:Int)<=l.length:=by omega
       revert hm1 hm2 hr
       generalize min (bC x (aQ+1)) (l.length:Int)=m
       intro hr hm1 hm2
       have e4:(1+m).toNat=m.toNat+1:=by omega
       rw [e4,List.take_succ_cons,List.drop_succ_cons,List.drop_succ_cons,List.drop_zero]
       refine ⟨by omega,by omega,by omega,by omega,⟨hg,by simp;omega⟩,by omega,by omega,?_⟩
       have:=Ng g aQ hg hm R n (l.drop m.toNat) (acc++[iR g (l.take m.toNat)]) (by simp;omega) (by simp;omega) hr
       rw [List.length_append] at this
       exact this
theorem ws_sem (g aQ:Int) (l:List Int) (hg:1<=g/\g<=16) (hm:0<=aQ/\aQ<=100) (hl:l.length<=1000):bw Tryz.prog 21 [bF l,nI g,nI aQ] [] (cC (jl g aQ l.length l [])) []:=by
 refine eI (aq:=[([0,0,1,1],[0,1,2,7])]) (cE:=[]) (fz:=[some dL]) Nf Tryz.func21 (by kernel_rfl) (ay:=0) rfl (by kernel_rfl) 100 ?_
 apply of_eq (q:=av (bN Tryz.prog WR Tryz.f21 (0:Nat) [([0,0,1,1],[0,1,2,7])] [] [some dL]) (aG (cC (jl g aQ l.length l [])) []) [0,0,1,1] (fr [(0,bF l),(1,nI g),(2,nI aQ),(7,aS 0 0 0)]) (ai.ofList [Ob.mk 43 [Fd.a 0 (D.int .i64).sl []]])) (by kernel_rfl)
 try simp only [sL,Int.reduceEq,Int.reduceNe,Nat.reduceAdd]
 exact Ng g aQ hg hm _ l.length l [] (by omega) (by simp;omega) rfl
def cWs:bP:=Wk dI (.int .i64) (.int .i64) fun l g m=>(.p ((1<=(show Int from g)/\(show Int from g)<=16)/\(0<=(show Int from m)/\(show Int from m)<=100)/\List.length (α:=Int) l<=1000),cC (jl g m (List.length (α:=Int) l) l []),[])
theorem cWs_ok:aV Tryz.prog 21 cWs:=Z9 (by kernel_rfl) fun l g m h=>ws_sem g m l h.1 h.2.1 h.2.2
end Go.Proofs.YtmajgbnpplgaoaaGreatDoor
