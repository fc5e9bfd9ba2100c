/- TopResume: presentations, words, numbers that are picked, lists that are compared. -/
import Derived.Test.YtlbmkeimafgemaaGreatDoorBack1
import Derived.Test.YtlbmkeimafgemaaGreatDoorCo1
import Derived.Test.YtlbmkeimafgemaaGreatDoorSave1
import Derived.Test.YtlbmkeimafgemaaGreatDoorLoom4
import Derived.Test.YtlbmkeimafgemaaGreatDoorCards
import Derived.Test.YtlbmkeimafgemaaGreatDoorTie
import Derived.WalkKit
import Derived.ProofKit
import Derived.OpenShut
import Derived.Deep.DeepHandedRow
import Derived.Lib.LaidTab
import Derived.Test.YtlbmkeimafgemaaGreatDoorMill1
open Nat renaming eq_of_beq_eq_true->abZ,beq->ab8,lt_or_ge->ack,sub_zero->acn,zero_add->aco,zero_le->acp
open List renaming length->ab0,getD_eq_getElem?_getD->ab1,drop->ab2,drop_eq_nil_of_le->ab3,take_of_length_le->ab4,getElem?_eq_getElem->ab5,take->ab7,length_append->ab9,length_take->acd,flatten_append->acf,length_cons->ach,length_nil->acj
open Int renaming le_refl->ab6,toNat_of_nonneg->ace,emod_lt_of_pos->acg,emod_nonneg->aci
noncomputable section
namespace Go.Proofs.YtlbmkeimafgemaaGreatDoor
open Go.aT Go.Words Go.bh
set_option maxRecDepth 100000
theorem abd{n k:Int}(hk:0<k):(n.tmod k<0->n.tmod k+k=n%k)/\(0<=n.tmod k->n.tmod k=n%k):=by
 have m1:=aci n (b:=k) (by omega);have m2:=acg n hk;have m3:=Int.tmod_eq_emod (a:=n) (b:=k);refine⟨fun g=>?_,fun g=>?_⟩;rw[m3] at g ⊢;split at g;omega;rename_i hh;rw[if_neg hh];omega;rw[m3] at g ⊢;split at g;rename_i hh;rw[if_pos hh];omega;omega
theorem abe(x k:Int)(hk:1<=k/\k<=4611686018427387904):bA Tryz.prog 6 [nI x,nI k] [] (nI (x%k)) []:=by
 refine bO (aj:=[]) aE Tryz.func6 (by kernel_rfl) (keep:=0) rfl (by kernel_rfl) 100 ?_;apply of_eq (q:=k≠(0:Int)/\(decide (x.tmod k<0)=true->aD [vI (IntKind.i64.wrap (x.tmod k+k))]=nI (x%k)/\([]:List Ob)=[])/\(decide (x.tmod k<0)=false->aD [vI (x.tmod k)]=nI (x%k)/\([]:List Ob)=[])) (by kernel_rfl)
 try simp only[sL]
 have m1:=aci x (b:=k) (by omega);have m2:=acg x (show 0<k by omega);obtain⟨t1,t2⟩:=abd (n:=x) (k:=k) (by omega);refine⟨by omega,fun h=>?_,fun h=>?_⟩;rw[t1 h,wrap64 (by omega) (by omega)];rfl;rw[t2 h];rfl
def Tm:bI:=jK (.int .i64) (.int .i64) fun x k=>(.p (1<=(show Int from k)/\(show Int from k)<=4611686018427387904),nI ((show Int from x)%(show Int from k)),[])
theorem M8:aK Tryz.prog 6 Tm:=fF (by kernel_rfl) fun x k h=>abe x k h
def sSame:Site:=dJ Tryz.prog [] Tryz.f46 0 [([0,1,0,1,1],[0,1,5])]
theorem I8(a b : List Int)(hab : a.length = b.length)(ha : a.length ≤ 1000000000) : ∀(m i : Nat), m = a.length - i → i ≤ a.length →
 au sSame (aC (bB (decide (a.drop i=b.drop i))) []) [0,1,0,1,1] (fr [(0,bw a),(1,bw b),(5,nI i)]) (.ofList [])
 | m,i,hm,hi=>by
   refine aL aE (by kernel_rfl) 100 ?_;apply of_eq (q:=let q1:=decide (ab2 i a=ab2 i b);(decide ((i:Int)<(a.length:Int))=true->((0:Int)<=(i:Int)/\(i:Int)<(a.length:Int))/\i<a.length/\((0:Int)<=(i:Int)/\(i:Int)<(b.length:Int))/\i<b.length/\((!decide (a.getD i (0:Int)=b.getD i (0:Int)))=true->aD [vB false]=bB (q1)/\([]:List Ob)=[])/\((!decide (a.getD i (0:Int)=b.getD i (0:Int)))=false->au sSame (aC (bB (q1)) []) [0,1,0,1,1] (fr [(0,bw a),(1,bw b),(5,nI (IntKind.i64.wrap ((i:Int)+1)))]) (ak.ofList [])))/\(decide ((i:Int)<(a.length:Int))=false->aD [vB true]=bB (q1)/\([]:List Ob)=[])) (by kernel_rfl)
   try simp only[sL]
   refine⟨fun h=>?_,fun h=>?_⟩;have h1:i<a.length:=by omega
   have e1:=iJ h1;have e2:=iJ (l:=b) (i:=i) (by omega);refine⟨by omega,by omega,by omega,by omega,fun h=>?_,fun h=>?_⟩;rw[e1,e2,decide_eq_false (by simp only[List.cons.injEq];exact fun k=>h k.1)];rfl
   . rw[wrap64 (by omega) (by omega)];have e3:decide (a.drop i=b.drop i)=decide (a.drop (i+1)=b.drop (i+1)):=by
      rw[e1,e2];simp only[List.cons.injEq,h,true_and]
     rw[e3];cases m with
     | zero=>omega
     | succ m=>exact I8 a b hab ha m (i+1) (by omega) (by omega)
   rw[ab3 (by omega),ab3 (by omega)];rfl
theorem abf(a b:List Int)(ha:a.length<=1000000000):bA Tryz.prog 46 [bw a,bw b] [] (bB (decide (a=b))) []:=by
 refine bO (aj:=[([0,1,0,1,1],[0,1,5])]) aE Tryz.func46 (by kernel_rfl) (keep:=0) rfl (by kernel_rfl) 100 ?_;apply of_eq (q:=((!decide ((a.length:Int)=(b.length:Int)))=true->aD [vB false]=bB (decide (a=b))/\([]:List Ob)=[])/\((!decide ((a.length:Int)=(b.length:Int)))=false->au (dJ Tryz.prog [] Tryz.f46 (0:Nat) [([0,1,0,1,1],[0,1,5])]) (aC (bB (decide (a=b))) []) [0,1,0,1,1] (fr [(0,bw a),(1,bw b),(5,nI (0))]) (ak.ofList []))) (by kernel_rfl)
 try simp only[sL]
 refine⟨fun h=>?_,fun h=>?_⟩;rw[decide_eq_false (by rintro rfl;exact h rfl)];rfl;exact I8 a b (by omega) ha a.length 0 (by omega) (by omega)
theorem abg:aK Tryz.prog 46 cSame:=fF (by kernel_rfl) fun a b h=>abf a b h
theorem dropL{l:List (List Int)}{i:Nat}(h:i<l.length):l.drop i=l.getD i []::l.drop (i+1):=by
 rw[List.drop_eq_getElem_cons h,ab1,ab5 h];rfl
def gSl:bN:=[(46,cSame)]
theorem XB:bp Tryz.prog gSl:=av abg aE
def sSl:Site:=dJ Tryz.prog gSl Tryz.f14 0 [([0,1,0,1,1],[0,1,5])]
theorem Qj(a b : List (List Int))(hab : a.length = b.length)(ha : a.length ≤ 1000000000)(hc : ∀ c ∈ a, c.length ≤ 1000000000) : ∀(m i : Nat), m + i = a.length →
 au sSl (aC (bB (decide (a.drop i=b.drop i))) []) [0,1,0,1,1] (fr [(0,bH a),(1,bH b),(5,nI i)]) (.ofList [])
 | m,i,hm=>by
   refine aL XB (by kernel_rfl) 100 ?_;apply of_eq (q:=let q1:=decide (ab2 i a=ab2 i b);(decide ((i:Int)<(a.length:Int))=true->((0:Int)<=(i:Int)/\(i:Int)<(a.length:Int))/\i<a.length/\((0:Int)<=(i:Int)/\(i:Int)<(b.length:Int))/\i<b.length/\(a.getD i []).length<=1000000000/\((!decide (a.getD i []=b.getD i []))=true->aD [vB false]=bB (q1)/\([]:List Ob)=[])/\((!decide (a.getD i []=b.getD i []))=false->au sSl (aC (bB (q1)) []) [0,1,0,1,1] (fr [(0,bH a),(1,bH b),(5,nI (IntKind.i64.wrap ((i:Int)+1)))]) (ak.ofList [])))/\(decide ((i:Int)<(a.length:Int))=false->aD [vB true]=bB (q1)/\([]:List Ob)=[])) (by kernel_rfl)
   try simp only[sL]
   rcases ack i a.length with h1|h1;have e1:=dropL h1;have e2:=dropL (l:=b) (i:=i) (by omega);have Wc:(a.getD i []).length<=1000000000:=hc _ (by rw[ab1,ab5 h1];exact List.getElem_mem h1);refine⟨fun _=>⟨by omega,by omega,by omega,by omega,Wc,fun h=>?_,fun h=>?_⟩,fun h=>by omega⟩;have h':¬a.getD i []=b.getD i []:=by first|exact h|exact of_decide_eq_false h
   rw[e1,e2,decide_eq_false (by simp only[List.cons.injEq];exact fun k=>h' k.1)];rfl
   . have h':a.getD i []=b.getD i []:=by first|exact h|exact of_decide_eq_true h
     rw[wrap64 (by omega) (by omega)];have e3:decide (a.drop i=b.drop i)=decide (a.drop (i+1)=b.drop (i+1)):=by
      rw[e1,e2];simp only[List.cons.injEq,h',true_and]
     rw[e3];cases m with
     | zero=>omega
     | succ m=>exact Qj a b hab ha hc m (i+1) (by omega)
   rw[ab3 (by omega),ab3 (by omega)];exact⟨fun h=>by omega,fun _=>rfl⟩
theorem Tn(a b:List (List Int))(ha:a.length<=1000000000)(hc:∀ c∈a,c.length<=1000000000):bA Tryz.prog 14 [bH a,bH b] [] (bB (decide (a=b))) []:=by
 refine bO (aj:=[([0,1,0,1,1],[0,1,5])]) XB Tryz.func14 (by kernel_rfl) (keep:=0) rfl (by kernel_rfl) 100 ?_;apply of_eq (q:=((!decide ((a.length:Int)=(b.length:Int)))=true->aD [vB false]=bB (decide (a=b))/\([]:List Ob)=[])/\((!decide ((a.length:Int)=(b.length:Int)))=false->au (dJ Tryz.prog gSl Tryz.f14 (0:Nat) [([0,1,0,1,1],[0,1,5])]) (aC (bB (decide (a=b))) []) [0,1,0,1,1] (fr [(0,bH a),(1,bH b),(5,nI (0))]) (ak.ofList []))) (by kernel_rfl)
 try simp only[sL]
 refine⟨fun h=>?_,fun h=>?_⟩;rw[decide_eq_false (by rintro rfl;exact h rfl)];rfl;exact Qj a b (by omega) ha hc a.length 0 (by omega)
def Qk:bI:=jK dL dL fun a b=>(.p (ab0 (α:=List Int) a<=1000000000/\∀ c∈(show List (List Int) from a),c.length<=1000000000),bB (decide ((show List (List Int) from a)=b)),[])
theorem Tp:aK Tryz.prog 14 Qk:=fF (by kernel_rfl) fun a b h=>Tn a b h.1 h.2
def iw(n:Int):Int×List (List Int)×Int:=jD (cB (if 9<=n%12 then n%12+2 else n%12) 14)
def gKt:bN:=[(6,Tm),(15,P7)]
theorem gKt_ok:bp Tryz.prog gKt:=av M8 (av S5 aE)
theorem Tq(n:Int):bA Tryz.prog 4 [nI n] [] (.aJ [.agg [.int .i64 (iw n).1,.rd (.sl (.int .i64)) (iw n).2.1],.c (.int .i64 (iw n).2.2)]) []:=by
 refine dh (aj:=[]) (bZ:=[]) (fz:=[some dL,none]) gKt_ok Tryz.func4 (by kernel_rfl) (keep:=0) rfl (by kernel_rfl) 100 ?_;apply of_eq (q:=let q1:=(jD (cB (IntKind.i64.wrap (n%(12:Int)+2)) (14:Int)));let q2:=(jD (cB (n%(12:Int)) (14:Int)));((1:Int)<=12/\(12:Int)<=4611686018427387904)/\(decide ((9:Int)<=n%(12:Int))=true->aD [V.agg [wI q1.fst,wL q1.snd.fst],vI q1.snd.snd]=A.aJ [V.agg [wI (iw n).fst,wL (iw n).snd.fst],vI (iw n).snd.snd]/\([]:List Ob)=[])/\(decide ((9:Int)<=n%(12:Int))=false->aD [V.agg [wI q2.fst,wL q2.snd.fst],vI q2.snd.snd]=A.aJ [V.agg [wI (iw n).fst,wL (iw n).snd.fst],vI (iw n).snd.snd]/\([]:List Ob)=[])) (by kernel_rfl)
 try simp only[sL]
 refine⟨⟨by omega,by omega⟩,fun h=>?_,fun h=>?_⟩;rw[wrap64 (by omega) (by omega),iw,if_pos h];rfl;rw[iw,if_neg (by omega)];rfl
def Ql:bI:=jJ (.int .i64) fun n=>(.t,.aJ [.agg [.int .i64 (iw n).1,.rd (.sl (.int .i64)) (iw n).2.1],.c (.int .i64 (iw n).2.2)],[])
theorem Tr:aK Tryz.prog 4 Ql:=fE (by kernel_rfl) fun n _=>Tq n
def gWt:bN:=[(16,cWs)]
theorem gWt_ok:bp Tryz.prog gWt:=av cWs_ok aE
def ke(l:List Int)(g:Int):List (List Int):=(mr g 8 (l.take 18).length (l.take 18) []).take 2
theorem Ts(l:List Int)(g:Int)(h:1<=g/\g<=16):bA Tryz.prog 5 [bw l,nI g] [] (bH (ke l g)) []:=by
 refine dh (aj:=[]) (bZ:=[]) (fz:=[some dL]) gWt_ok Tryz.func5 (by kernel_rfl) (keep:=0) rfl (by kernel_rfl) 100 ?_;apply of_eq (q:=let q2:=(mr g (8:Int) l.length l []);let q3:=(ab2 (0:Nat) (ab7 (18:Nat) l));let q1:=(mr g (8:Int) q3.length q3 []);(decide ((18:Int)<(l.length:Int))=true->((0:Int)<=0/\(0:Int)<=18/\(18:Int)<=(l.length:Int))/\(((1:Int)<=g/\g<=16)/\((0:Int)<=8/\(8:Int)<=100)/\q3.length<=1000)/\(decide ((2:Int)<(↑q1.length:Int))=true->((0:Int)<=0/\(0:Int)<=2/\(2:Int)<=(↑q1.length:Int))/\aD [V.c (wL (ab2 (0:Nat) (ab7 (2:Nat) q1)))]=bH (ke l g)/\([]:List Ob)=[])/\(decide ((2:Int)<(↑q1.length:Int))=false->aD [V.c (wL q1)]=bH (ke l g)/\([]:List Ob)=[]))/\(decide ((18:Int)<(l.length:Int))=false->(((1:Int)<=g/\g<=16)/\((0:Int)<=8/\(8:Int)<=100)/\l.length<=1000)/\(decide ((2:Int)<(↑q2.length:Int))=true->((0:Int)<=0/\(0:Int)<=2/\(2:Int)<=(↑q2.length:Int))/\aD [V.c (wL (ab2 (0:Nat) (ab7 (2:Nat) q2)))]=bH (ke l g)/\([]:List Ob)=[])/\(decide ((2:Int)<(↑q2.length:Int))=false->aD [V.c (wL q2)]=bH (ke l g)/\([]:List Ob)=[]))) (by kernel_rfl)
 try simp only[sL]
 refine⟨fun h1=>⟨⟨by omega,by omega⟩,⟨h,⟨by omega,by omega⟩,by rw[acd];omega⟩,fun h2=>⟨⟨by omega,by omega⟩,rfl⟩,fun h2=>?_⟩,fun h1=>⟨⟨h,⟨by omega,by omega⟩,by omega⟩,fun h2=>⟨⟨by omega,by omega⟩,?_⟩,fun h2=>?_⟩⟩;rw[ke,ab4 (i:=2) (by omega)];rfl;rw[ke,ab4 (i:=18) (l:=l) (by omega)];rfl;rw[ke,ab4 (i:=18) (l:=l) (by omega),ab4 (i:=2) (by omega)];rfl
def Qm:bI:=jK dI (.int .i64) fun l g=>(.p (1<=(show Int from g)/\(show Int from g)<=16),bH (ke l g),[])
theorem Tt:aK Tryz.prog 5 Qm:=fF (by kernel_rfl) fun l g h=>Ts l g h
theorem Tv(n:Int):(1<=(iw n).1/\(iw n).1<=3)/\ol (iw n).1 (iw n).2.1:=S7 _
theorem AO{g m:Int}(hg:1<=g)(hm:0<=m/\m<=20):∀(f:Nat)(l:List Int)(acc:List (List Int)),(∀ w∈acc,w.length<=20/\∀ x∈w,x≠0/\-g<=x/\x<=g)->∀ w∈mr g m f l acc,w.length<=20/\∀ x∈w,x≠0/\-g<=x/\x<=g
 | 0,_,acc,h=>h
 | f+1,[],acc,h=>h
 | f + 1, x :: l, acc, h => by
   rw[mr];refine AO hg hm f _ _ fun w hw=>?_;rcases List.mem_append.1 hw with hw|hw;exact h w hw;rw[List.mem_singleton.1 hw];obtain⟨h1,h2⟩:=S8 hg (l.take (min (cB x (m+1)) l.length).toNat);have t:=sM x (m+1) (by omega);rw[acd] at h1;exact⟨by omega,h2⟩
theorem Tw{g:Int}(hg:1<=g)(l:List Int):ol g (ke l g):=by
 refine⟨by unfold ke;rw[acd];omega,fun w hw=>?_⟩;exact AO hg (by omega) _ _ [] (fun w hw=>(by cases hw)) w (List.mem_of_mem_take hw)
theorem nu{r s:Rn}(T:br r)(S:So r s){a:Nat}(ha:a<r.af.length):s.ah.getD a 0=(a:Int)↔r.ah.getD a 0=(a:Int):=by
 have hl:=gB T;have hp:dY r.ah:=T.ah;obtain⟨p,d,n,rfl,S⟩:=S;have hpl:=S.len;exact rW S.ah hp (by show a<p.length;omega) (by omega) (S.tp a (by omega))
theorem Ub{r s:Rn}(T:br r)(S:So r s):∀ a,a<=r.af.length->rk s.ah a=rk r.ah a
 | 0,_=>rfl
 | a+1,h=>by
   rw[mJ,mJ,Ub T S a (by omega)];have:=nu T S (a:=a) (by omega);by_cases h1:r.ah.getD a 0=(a:Int);rw[if_pos h1,if_pos (this.2 h1)];rw[if_neg h1,if_neg fun h2=>h1 (this.1 h2)]
theorem NE(r:Rn){b:Nat}(hb:b<r.af.length)(hl:r.ah.getD b 0=(b:Int)):iy (kS r.ah r.af.length 0 []) b=rk r.ah b :=
 BD r.ah r.af.length 0 [] (fun b hb=>by omega) (fun s h=>by cases h) rfl b (by omega) hl
theorem tabF_so{r s:Rn}(T:br r)(H:bh.Rest r r.af.length)(S:So r s):dX s=dX r:=by
 have e1:dX r=iA r.ah (iy (kS r.ah r.af.length 0 [])) 0 r.af:=tg _ _ _ _;have e2:dX s=iA s.ah (iy (kS s.ah s.af.length 0 [])) 0 s.af:=tg _ _ _ _;have er:=S.af;rw[e1,e2,er];refine vL r.af 0 (fun a _ ha=>nu T S (by omega)) fun a _ ha hl x hx=>?_;have hl':=(nu T S (by omega)).1 hl;rw[acn] at hx;obtain⟨x0,x1,x2⟩:=DM T H (by omega) hl' x hx;have a1:=NE r x1 x2;have a2:=NE s (by rw[er];exact x1) ((nu T S x1).2 x2);rw[ace x0] at a1 a2;rw[er] at a2;rw[a1,a2,Ub T S _ (by omega)]
theorem tabC_so{r s:Rn}(T:br r)(H:bh.Rest r r.af.length)(S:So r s):jy s=dX r:=by
 have e1:dX r=iA r.ah (iy (kS r.ah r.af.length 0 [])) 0 r.af:=tg _ _ _ _;have er:=S.af;unfold jy;rw[e1,er];refine vL r.af 0 (fun a _ ha=>nu T S (by omega)) fun a _ ha hl x hx=>?_;have hl':=(nu T S (by omega)).1 hl;rw[acn] at hx;obtain⟨x0,x1,x2⟩:=DM T H (by omega) hl' x hx;have a1:=NE r x1 x2;have a2:=(Qq s).2 x.toNat (by rw[er];exact x1) ((nu T S x1).2 x2);rw[ace x0] at a1;rw[a1,a2,Ub T S _ (by omega)]
theorem abE{r s:Rn}(T:br r)(H:bh.Rest r r.af.length)(S:So r s):yK s:=by
 intro a ha hl x hx;rw[S.af] at ha hx ⊢;have hl':=(nu T S ha).1 hl;obtain⟨x0,x1,_⟩:=DM T H ha hl' x hx;exact⟨x0,x1⟩
theorem Jl:∀(l:List Int)(x:Mp×List Int)(out:List Int),(kN l x out).2.length=out.length+l.length
 | [],_,_=>rfl
 | s::r,x,out=>by
   rw[kN,Jl r,ab9,ach,ach,acj];omega
theorem Fx{t:List (List Int)}{M:Nat}(ht:∀ l∈t,l.length<=M):∀(f k:Nat)(x:Mp×List Int)(out u:List (List Int)),(∀ l∈out,l.length<=M)->Al t f k x out=some u->∀ l∈u,l.length<=M
 | 0,_,_,_,_,_,e=>by cases e
 | f + 1, k, x, out, u, ho, e => by
   rw[Al] at e;split at e;refine Fx ht f _ _ _ _ (fun l hl=>?_) e;rcases List.mem_append.1 hl with hl|hl;exact ho l hl;rw[List.mem_singleton.1 hl,Jl,acj,aco];rcases ack (x.2.getD k 0).toNat t.length with h|h;exact ht _ (dZ h);rw[ab1,List.getElem?_eq_none h];exact acp _;cases e;exact ho
theorem X7{g:Int}{t u:List (List Int)}(H:uP g t u):u.length<=1000000000/\∀ l∈u,l.length<=1000000000:=by
 obtain⟨h1,h2,h3,h4⟩:=H;have hg:=h1.g1;have hn:=h1.n;exact⟨by omega,fun l hl=>Nat.le_trans (Fx (M:=32) (fun l hl=>by have:=h1.w l hl;omega) _ _ _ _ _ (fun l hl=>by cases hl) h3 l hl) (by omega)⟩
def pJ(r:Rn):Int:=if r.ay=1 then 0 else 12
abbrev su(F:Rn):A:=.aJ [.c (.rd (.sl (.int .i64)) (ku F)),.agg [.int .i64 (oo F),.int .i64 (ot F),.int .i64 0],.c (.int .i64 (pJ F))]
def cEnum:bI:=Ai fun g r s n=>(.p (Begins g n r s/\n<=1000),su (dB (cX g n r s)),[])
theorem hang0(g aq:Int)(ax sub:List (List Int)):jP (cX g aq ax sub):=fun a ha=>by
 have ha:a<1:=ha;have:a=0:=by omega
 subst this;exact .refl 0
theorem X8{g aq:Int}{ax sub:List (List Int)}(B:Begins g aq ax sub)(h1:(dB (cX g aq ax sub)).ay=1):br (dB (cX g aq ax sub))/\bh.Rest (dB (cX g aq ax sub)) (dB (cX g aq ax sub)).af.length/\jP (dB (cX g aq ax sub))/\0<(dB (cX g aq ax sub)).af.length/\(dB (cX g aq ax sub)).af.length<=aq:=by
 have G:=B.good;have R:=wH G 2000;have P:=Xq G (Xz g aq ax sub) rfl 2000;have hr:=P.rest;have h1':(run (cX g aq ax sub) 2000).1.ay=1:=h1;rw[if_pos h1'] at hr;have hgr:=R.grown;have h0:(cX g aq ax sub).af.length=1:=rfl;have hl:(cX g aq ax sub).aq=aq:=rfl;have IU:=R.aq;exact⟨R.fine,hr,Na G (Xz g aq ax sub) rfl (hang0 g aq ax sub) 2000,by show 0<(run (cX g aq ax sub) 2000).1.af.length;omega,by show ((run (cX g aq ax sub) 2000).1.af.length:Int)<=aq;omega⟩
theorem Qe.ps{r:Rn}(H:Qe r)(hs:r.ay≠1):Ps r:=by
 have h:=H.rest;rw[if_neg hs] at h;refine⟨h,fun h0=>?_,fun h2=>?_⟩;rcases H.wN hs with ⟨_,h,_⟩|⟨h,_⟩|⟨h,_⟩;exact h;omega;omega;rcases H.wN hs with ⟨h,_⟩|⟨h,_⟩|⟨_,h⟩;omega;omega;exact⟨(H.co hs).2.2,h⟩
structure wT(g aq:Int)(ax sub:List (List Int))(i:Nat)(r:Rn):Prop where
 bk:Bk r
 way:bh.Way (dB (cX g aq ax sub)) r
 g:r.g=g
 ax:r.ax=ax
 sub:r.sub=sub
 aq:r.aq=aq
 far:r.ay=0->i<r.af.length
 hang:jP r
theorem abF{g aq:Int}{ax sub:List (List Int)}(B:Begins g aq ax sub)(hl:1<=aq/\aq<=1000)(hg:1<=g/\g<=3)(hr:ol g ax)(hs:ol g sub):Bk (cX g aq ax sub):=by
 have G:=B.good;have m0:=rn0_mo g aq ax sub;have l0:(cX g aq ax sub).af.length=1:=rfl;have pp:(0<=(cX g aq ax sub).ph/\(cX g aq ax sub).ph<=3)/\(0<=(cX g aq ax sub).co/\(cX g aq ax sub).co<=(cX g aq ax sub).af.length)/\(0<=(cX g aq ax sub).ix/\(cX g aq ax sub).ix<=1000):=⟨⟨ab6 _,by show (0:Int)<=3;omega⟩,⟨ab6 _,by show (0:Int)<=(1:Nat);omega⟩,⟨ab6 _,by show (0:Int)<=1000;omega⟩⟩;have ps:0<=(cX g aq ax sub).ay/\(cX g aq ax sub).ay<=2:=⟨ab6 _,by show (0:Int)<=2;omega⟩;have pl:0<=(cX g aq ax sub).aq/\(cX g aq ax sub).aq<=1000000:=⟨by show 0<=aq;omega,by show aq<=_;omega⟩;refine⟨⟨G.fine,m0,⟨M5 g aq ax sub,(fun h=>by cases h),fun _=>.inl ⟨rfl,rfl,ab6 _,.inl (by show (0:Int)<1;omega)⟩,fun _=>⟨ab6 _,by show (0:Int)<(1:Nat);omega,rfl⟩⟩,B,by omega,by show ((1:Nat):Int)<=aq;omega,ps⟩,?_,?_⟩;exact Xx G.fine m0 (by omega) (by omega) hg hr hs pl ps pp;exact sv_of G.fine m0 (by omega) (by omega) hg hr hs pl ps pp
theorem wT.first{g aq:Int}{ax sub:List (List Int)}(B:Begins g aq ax sub)(hl:1<=aq/\aq<=1000)(hg:1<=g/\g<=3)(hr:ol g ax)(hs:ol g sub):wT g aq ax sub 0 (cX g aq ax sub) :=
 ⟨abF B hl hg hr hs,bh.Way.start B.good rfl (by show aq<=1000;omega),rfl,rfl,rfl,rfl,fun _=>by show 0<1;omega,hang0 g aq ax sub⟩
theorem wT.step{g aq:Int}{ax sub:List (List Int)}{i:Nat}{r:Rn}(I:wT g aq ax sub i r)(hl:1<=aq/\aq<=1000)(hg:1<=g/\g<=3)(hr:ol g ax)(hs:ol g sub)(h0:r.ay=0){N:Int}(hN:1<=N):cT r/\(jd r N).2.2=0/\wT g aq ax sub (i+1) (jd r N).1:=by
 have G:=(I.way.go h0).1;have K:=I.bk.rest;have X:=aaZ G K.mo h0 hN;have P:Ps r:=K.sp.ps (by omega);have hf:=I.far h0;have e:=step_eq h0 hN;have hsp:Sp (jd r N).1:=by rw[e];exact Xq G P h0 N.toNat
 have hw:bh.Way (dB (cX g aq ax sub)) (jd r N).1:=by rw[e];exact I.way.step h0 N.toNat
 have hh:jP (jd r N).1:=by rw[e];exact Na G P h0 I.hang N.toNat
 have x1:=X.len;have x2:=X.qt;have x3:=X.aq;have il:=I.aq;have ig:=I.g;obtain⟨e1,e2,e3,e4⟩:=X.same;rw[I.g] at e1;rw[I.ax] at e2;rw[I.sub] at e3;rw[il] at e4;have xp:0<(jd r N).1.af.length:=by omega
 have xg:=X.go;refine⟨G,X.err,⟨⟨⟨X.fine,X.mo,Qe.of hsp,?_,xp,by omega,X.ay⟩,?_,?_⟩,hw,e1,e2,e3,e4,fun h=>?_,hh⟩⟩;have B:=K.B;rw[I.g,I.ax,I.sub,il] at B;rw[e1,e2,e3,e4];exact B;exact Xx X.fine X.mo xp (by omega) (by rw[e1];exact hg) (by rw[e1,e2];exact hr) (by rw[e1,e3];exact hs) (by rw[e4];omega) X.ay X.pos;exact sv_of X.fine X.mo xp (by omega) (by rw[e1];exact hg) (by rw[e1,e2];exact hr) (by rw[e1,e3];exact hs) (by rw[e4];omega) X.ay X.pos;have:=(xg h).1;omega
theorem X9{r:Rn}(T:br r):So r (forget r):=⟨r.ah,[],0,rfl,⟨rfl,T.ah,fun _ _=>rfl,fun x hx=>by cases hx⟩⟩
theorem wT.load{g aq:Int}{ax sub:List (List Int)}{i:Nat}{r:Rn}(I:wT g aq ax sub i r):wT g aq ax sub i (forget r):=by
 have K:=I.bk;refine⟨⟨CI K.rest,?_,I6 K.sv⟩,I.way.alike (X9 K.rest.fine),I.g,I.ax,I.sub,I.aq,I.far,I.hang.same rfl rfl rfl⟩;obtain⟨t1,t2,t3,t4,t5,t6,t7,t8,t9,t10,t11⟩:=K.txt;exact⟨t1,t2,t3,t4,t5,t6,t7,t8,t9,t10,t11⟩
theorem wT.done{g aq:Int}{ax sub:List (List Int)}{i:Nat}{r:Rn}(I:wT g aq ax sub i r)(h:r.ay≠0):r.ay=(dB (cX g aq ax sub)).ay/\r.af=(dB (cX g aq ax sub)).af/\r.aF=(dB (cX g aq ax sub)).aF/\(r.ay=1->rC r/\ku r=ku (dB (cX g aq ax sub))/\0<(ku r).length):=by
 have K:=I.bk.rest;have S:=I.way.no h;have B:=K.B;rw[I.g,I.ax,I.sub,I.aq] at B;have e:=S.pI;refine⟨e.1,S.af,e.2.2.2.2.2.2.1,fun h1=>?_⟩;have hs1:(dB (cX g aq ax sub)).ay=1:=by rw[<-e.1];exact h1
 obtain⟨f1,f2,f3,f4,f5⟩:=X8 B hs1;have hbl:=B.aq;have et:=tabF_so f1 f2 S;have hr:=K.sp.rest;rw[if_pos h1] at hr;have ht:=Ty K.fine hr I.hang K.n1 (by have:=K.nl;have:=I.aq;omega);refine⟨ht,?_,?_⟩;unfold ku;rw[if_pos h1,if_pos hs1,et];have hlen:=ht.std.2.2.2;have hpos:0<(dX r).length:=by
  have e1:dX r=iA r.ah (iy (kS r.ah r.af.length 0 [])) 0 r.af:=tg _ _ _ _;have:=AR r.ah (iy (kS r.ah r.af.length 0 [])) r.af 0;rw[<-e1,aco] at this;have e0:rk r.ah 0=0:=rfl;have hal:rk r.ah r.af.length=al r.ah:=by rw[<-gB K.fine];rfl
  have hap:=Ad (ah:=r.ah) K.fine.ah (by have:=gB K.fine;have:=K.n1;omega);omega
 unfold ku;rw[if_pos h1];omega
abbrev abG:A:=.p (.c (.func 53 [(0,0)]))
theorem Ya(x g:Int):bA Tryz.prog 53 [nI x,.p (.c (.ptr 0 0))] [j6 g] (bB (dG g x)) [j6 g]:=by
 refine bO (aj:=[]) aE Tryz.func53 (by kernel_rfl) (keep:=1) rfl (by kernel_rfl) 100 ?_;apply of_eq (q:=let q1:=(bif decide (x=0) then true else decide (x<IntKind.i64.wrap ((0:Int)-g)))=false;let q2:=decide (x=0)=false;(q2->q2)/\(q2->q2)/\(q2->q2)/\(q2->q2)/\(q1->q1)/\(q1->q1)/\(q1->q1)/\aD [vB (bif bif decide (x=0) then true else decide (x<IntKind.i64.wrap ((0:Int)-g)) then true else decide (g<x))]=bB (dG g x)/\[Ob.mk 3 [fI g]]=[j6 g]) (by kernel_rfl)
 try simp only[sL]
 rfl
def Fy:Ob->Option Int
 | ⟨t,[.c (.int .i64 g)]⟩=>bif ab8 t 3 then some g else none
 | _=>none
theorem DQ{o:Ob}{g:Int}(e:Fy o=some g):o=j6 g:=by
 unfold Fy at e;split at e;obtain⟨hb,e1⟩:=aA.aH e;clear e;cases abZ hb;cases e1;rfl;cases e
def NG:bI:={ refs:=[false,true],f:=fun args ar=>match args,ar with
 | [.p (.c (.int .i64 x)),.p (.c (.ptr 0 0))],[o]=>match Fy o with
   | some g=>some (.t,bB (dG g x),[j6 g])
   | none=>none
 | _,_=>none }
theorem Yb:aK Tryz.prog 53 NG:=by
 refine⟨by kernel_rfl,fun args ar c r aY e hc=>?_⟩;simp only[NG] at e;split at e;split at e;rename_i h;cases e;rw[DQ h];exact Ya _ _;cases e;cases e
def abH:bN:=[(53,NG)]
theorem Qz:bp Tryz.prog abH:=av Yb aE
def sIxF:Site:=dJ Tryz.prog abH Tryz.f79 1 [([0,1,0,1],[0,1,7,8])]
theorem NH(w:List Int)(g:Int)(hl:w.length<=1000000)(hw:∀ x∈w,dG g x=false):∀(k i:Nat),k=w.length-i->i<=w.length->
 au sIxF (aC (nI (-1)) [j6 g]) [0,1,0,1] (fr [(0,bw w),(1,abG),(7,nI w.length),(8,nI i)]) (.ofList [j6 g])
 | k,i,hk,hi=>by
   refine aL Qz (by kernel_rfl) 100 ?_;apply of_eq (q:=(decide ((i:Int)<(w.length:Int))=true->((0:Int)<=(i:Int)/\(i:Int)<(w.length:Int))/\i<w.length/\(dG g (w.getD i (0:Int))=true->aD [vI (i:Int)]=nI (-1:Int)/\[Ob.mk 3 [fI g]]=[j6 g])/\(dG g (w.getD i (0:Int))=false->au sIxF (aC (nI (-1:Int)) [j6 g]) [0,1,0,1] (fr [(0,bw w),(1,aP (W.func 53 [(0,(0:Nat))])),(7,nI (w.length:Int)),(8,nI (IntKind.i64.wrap ((i:Int)+1)))]) (ak.ofList [Ob.mk 3 [fI g]])))/\(decide ((i:Int)<(w.length:Int))=false->aD [vI (-1)]=nI (-1:Int)/\[Ob.mk 3 [fI g]]=[j6 g])) (by kernel_rfl)
   try simp only[sL]
   rw[wrap64 (n:=(i:Int)+1) (by omega) (by omega)];refine⟨fun h=>⟨by omega,by omega,fun g=>?_,fun g=>?_⟩,fun h=>rfl⟩;rw[hw _ (fB (by omega))] at g;cases g;cases k with
   | zero=>omega
   | succ k=>exact NH w _ hl hw k (i+1) (by omega) (by omega)
def abI:bI:={ refs:=[false,true],f:=fun args ar=>match args,ar with
 | [x,y],[o]=>match fP dI x,Fy o with
   | some w,some g=>bif Ak 53 y then some (.p (ab0 (α:=Int) w<=1000000/\∀ x∈(w:List Int),dG g x=false),nI (-1),[j6 g]) else none
   | _,_=>none
 | _,_=>none }
theorem cIxF_ok:aK Tryz.prog 79 abI:=by
 refine⟨by kernel_rfl,fun args ar c r aY e hc=>?_⟩;simp only[abI] at e;split at e;split at e;rename_i w g hw ht;obtain⟨hf,e⟩:=aA.aH e;cases e;rw[sZ hf,DQ ht];have:bA Tryz.prog 79 [bw w,abG] [j6 g] (nI (-1)) [j6 g]:=by
  refine bO (aj:=[([0,1,0,1],[0,1,7,8])]) Qz Tryz.func79 (by kernel_rfl) (keep:=1) rfl (by kernel_rfl) 100 ?_;apply of_eq (q:=au (dJ Tryz.prog abH Tryz.f79 (1:Nat) [([0,1,0,1],[0,1,7,8])]) (aC (nI (-1:Int)) [j6 g]) [0,1,0,1] (fr [(0,bw w),(1,aP (W.func 53 [(0,(0:Nat))])),(7,nI (↑(ab0 w):Int)),(8,nI (0))]) (ak.ofList [Ob.mk 3 [fI g]])) (by kernel_rfl)
  try simp only[sL,Int.reduceEq,Int.reduceNe,Nat.reduceAdd]
  exact NH w g hc.1 hc.2 w.length 0 (by omega) (by omega)
 exact this.args fun η Z vs h=>by
  cases vs with
  | nil=>exact h.elim
  | cons v vs=>exact⟨cg hw h.1,h.2⟩
 cases e;cases e
def gCoF:bN:=[(79,abI)]
theorem gCoF_ok:bp Tryz.prog gCoF:=av cIxF_ok aE
def abJ:bI:={ refs:=[false,true],f:=fun args ar=>match args,ar with
 | [x,y],[o]=>match fP dI x,Fy o with
   | some w,some g=>bif Ak 53 y then some (.p (ab0 (α:=Int) w<=1000000/\∀ x∈(w:List Int),dG g x=false),bB false,[j6 g]) else none
   | _,_=>none
 | _,_=>none }
theorem cCoF_ok:aK Tryz.prog 50 abJ:=by
 refine⟨by kernel_rfl,fun args ar c r aY e hc=>?_⟩;simp only[abJ] at e;split at e;split at e;rename_i w g hw ht;obtain⟨hf,e⟩:=aA.aH e;cases e;rw[sZ hf,DQ ht];have:bA Tryz.prog 50 [bw w,abG] [j6 g] (bB false) [j6 g]:=by
  refine bO (aj:=[]) gCoF_ok Tryz.func50 (by kernel_rfl) (keep:=1) rfl (by kernel_rfl) 100 ?_;apply of_eq (q:=(ab0 w<=1000000/\∀(x:Int),x∈w->dG g x=false)/\aD [vB (decide ((0:Int)<=(-1:Int)))]=bB false/\[Ob.mk 3 [fI g]]=[j6 g]) (by kernel_rfl)
  try simp only[and_true]
  exact⟨⟨hc.1,hc.2⟩,rfl⟩
 exact this.args fun η Z vs h=>by
  cases vs with
  | nil=>exact h.elim
  | cons v vs=>exact⟨cg hw h.1,h.2⟩
 cases e;cases e
def gFn:bN:=[(50,abJ)]
theorem gFn_ok:bp Tryz.prog gFn:=av cCoF_ok aE
theorem abK(g:Int)(w:List Int)(h:w.length<=1000000/\∀ x∈w,dG g x=false):bA Tryz.prog 20 [nI g,bw w] [] (bB true) []:=by
 refine bO (aj:=[]) gFn_ok Tryz.func20 (by kernel_rfl) (keep:=0) rfl (by kernel_rfl) 100 ?_;apply of_eq (q:=(w.length<=1000000/\∀(x:Int),x∈w->dG g x=false)/\aD [vB !false]=bB true/\([]:List Ob)=[]) (by kernel_rfl)
 try simp only[and_true]
 exact⟨h,rfl⟩
def cFine:bI:=jK (.int .i64) dI fun g w=>(.p (ab0 (α:=Int) w<=1000000/\∀ x∈(w:List Int),dG g x=false),bB true,[])
theorem abL:aK Tryz.prog 20 cFine:=fF (by kernel_rfl) fun g w h=>abK g w h
abbrev wU(g:Int)(l:List (List Int)):Prop:=∀ w∈l,w.length<=1000000/\∀ x∈w,dG g x=false
def gCe:bN:=[(20,cFine)]
theorem gCe_ok:bp Tryz.prog gCe:=av abL aE
theorem Yc(w:List Int)(g:Int)(r:List (List Int))(h:w.length<=1000000/\∀ x∈w,dG g x=false):bA Tryz.prog 19 [bw w,.p (.c (.ptr 0 0))] [fA g r] (bB false) [fA g r]:=by
 refine bO (aj:=[]) gCe_ok Tryz.func19 (by kernel_rfl) (keep:=1) rfl (by kernel_rfl) 100 ?_;apply of_eq (q:=(w.length<=1000000/\∀(x:Int),x∈w->dG g x=false)/\aD [vB !true]=bB false/\[Ob.mk 25 [fI g,fL r]]=[fA g r]) (by kernel_rfl)
 try simp only[and_true]
 exact⟨h,rfl⟩
def NI:Ob->Option (Int×List (List Int))
 | ⟨t,[.c (.int .i64 g),.c (.rd (.sl (.int .i64)) r)]⟩=>bif ab8 t 25 then some (g,r) else none
 | _=>none
theorem GJ{o:Ob}{g:Int}{r:List (List Int)}(e:NI o=some (g,r)):o=fA g r:=by
 unfold NI at e;split at e;obtain⟨hb,e1⟩:=aA.aH e;clear e;cases abZ hb;cases e1;rfl;cases e
def NJ:bI:={ refs:=[false,true],f:=fun args ar=>match args,ar with
 | [y,.p (.c (.ptr 0 0))],[o]=>match fP dI y,NI o with
   | some w,some (g,r)=>some (.p (ab0 (α:=Int) w<=1000000/\∀ x∈(w:List Int),dG g x=false),bB false,[fA g r])
   | _,_=>none
 | _,_=>none }
theorem Yd:aK Tryz.prog 19 NJ:=by
 refine⟨by kernel_rfl,fun args ar c r aY e hc=>?_⟩;simp only[NJ] at e;split at e;split at e;rename_i w g r hw h;cases e;rw[GJ h];exact(Yc w g r hc).args fun η Z vs h=>by
  cases vs with
  | nil=>exact h.elim
  | cons v vs=>exact⟨cg hw h.1,h.2⟩
 cases e;cases e
abbrev abM:A:=.p (.c (.func 19 [(0,0)]))
def abN:bN:=[(19,NJ)]
theorem QA:bp Tryz.prog abN:=av Yd aE
def sIxE:Site:=dJ Tryz.prog abN Tryz.f52 1 [([0,1,0,1],[0,1,7,8])]
theorem NK(l:List (List Int))(g:Int)(r:List (List Int))(hl:l.length<=1000000)(hw:wU g l):∀(k i:Nat),k=l.length-i->i<=l.length->
 au sIxE (aC (nI (-1)) [fA g r]) [0,1,0,1] (fr [(0,bH l),(1,abM),(7,nI l.length),(8,nI i)]) (.ofList [fA g r])
 | k,i,hk,hi=>by
   refine aL QA (by kernel_rfl) 100 ?_;apply of_eq (q:=(decide ((i:Int)<(l.length:Int))=true->((0:Int)<=(i:Int)/\(i:Int)<(l.length:Int))/\i<l.length/\((l.getD i []).length<=1000000/\∀(x:Int),x∈l.getD i []->dG g x=false)/\(false=true->aD [vI (i:Int)]=nI (-1:Int)/\[Ob.mk 25 [fI g,fL r]]=[fA g r])/\(false=false->au sIxE (aC (nI (-1:Int)) [fA g r]) [0,1,0,1] (fr [(0,bH l),(1,aP (W.func 19 [(0,(0:Nat))])),(7,nI (l.length:Int)),(8,nI (IntKind.i64.wrap ((i:Int)+1)))]) (ak.ofList [Ob.mk 25 [fI g,fL r]])))/\(decide ((i:Int)<(l.length:Int))=false->aD [vI (-1)]=nI (-1:Int)/\[Ob.mk 25 [fI g,fL r]]=[fA g r])) (by kernel_rfl)
   try simp only[sL]
   rw[wrap64 (n:=(i:Int)+1) (by omega) (by omega)];refine⟨fun h=>⟨by omega,by omega,hw _ (dZ (by omega)),(fun h=>by cases h),fun _=>?_⟩,fun h=>rfl⟩;cases k with
   | zero=>omega
   | succ k=>exact NK l g r hl hw k (i+1) (by omega) (by omega)
def abO:bI:={ refs:=[false,true],f:=fun args ar=>match args,ar with
 | [x,y],[o]=>match fP dL x,NI o with
   | some l,some (g,r)=>bif Ak 19 y then some (.p (ab0 (α:=List Int) l<=1000000/\wU g l),nI (-1),[fA g r]) else none
   | _,_=>none
 | _,_=>none }
theorem cIxE_ok:aK Tryz.prog 52 abO:=by
 refine⟨by kernel_rfl,fun args ar c r aY e hc=>?_⟩;simp only[abO] at e;split at e;split at e;rename_i l g r hw ht;obtain⟨hf,e⟩:=aA.aH e;cases e;rw[sZ hf,GJ ht];have:bA Tryz.prog 52 [bH l,abM] [fA g r] (nI (-1)) [fA g r]:=by
  refine bO (aj:=[([0,1,0,1],[0,1,7,8])]) QA Tryz.func52 (by kernel_rfl) (keep:=1) rfl (by kernel_rfl) 100 ?_;apply of_eq (q:=au (dJ Tryz.prog abN Tryz.f52 (1:Nat) [([0,1,0,1],[0,1,7,8])]) (aC (nI (-1:Int)) [fA g r]) [0,1,0,1] (fr [(0,bH l),(1,aP (W.func 19 [(0,(0:Nat))])),(7,nI (↑(ab0 l):Int)),(8,nI (0))]) (ak.ofList [Ob.mk 25 [fI g,fL r]])) (by kernel_rfl)
  try simp only[sL,Int.reduceEq,Int.reduceNe,Nat.reduceAdd]
  exact NK l g r hc.1 hc.2 l.length 0 (by omega) (by omega)
 exact this.args fun η Z vs h=>by
  cases vs with
  | nil=>exact h.elim
  | cons v vs=>exact⟨cg hw h.1,h.2⟩
 cases e;cases e
def gCoE:bN:=[(52,abO)]
theorem gCoE_ok:bp Tryz.prog gCoE:=av cIxE_ok aE
def abP:bI:={ refs:=[false,true],f:=fun args ar=>match args,ar with
 | [x,y],[o]=>match fP dL x,NI o with
   | some l,some (g,r)=>bif Ak 19 y then some (.p (ab0 (α:=List Int) l<=1000000/\wU g l),bB false,[fA g r]) else none
   | _,_=>none
 | _,_=>none }
theorem cCoE_ok:aK Tryz.prog 18 abP:=by
 refine⟨by kernel_rfl,fun args ar c r aY e hc=>?_⟩;simp only[abP] at e;split at e;split at e;rename_i l g r hw ht;obtain⟨hf,e⟩:=aA.aH e;cases e;rw[sZ hf,GJ ht];have:bA Tryz.prog 18 [bH l,abM] [fA g r] (bB false) [fA g r]:=by
  refine bO (aj:=[]) gCoE_ok Tryz.func18 (by kernel_rfl) (keep:=1) rfl (by kernel_rfl) 100 ?_;apply of_eq (q:=(ab0 l<=1000000/\wU g l)/\aD [vB (decide ((0:Int)<=(-1:Int)))]=bB false/\[Ob.mk 25 [fI g,fL r]]=[fA g r]) (by kernel_rfl)
  try simp only[and_true]
  exact⟨⟨hc.1,hc.2⟩,rfl⟩
 exact this.args fun η Z vs h=>by
  cases vs with
  | nil=>exact h.elim
  | cons v vs=>exact⟨cg hw h.1,h.2⟩
 cases e;cases e
def sEt:Site:=bD Tryz.prog [] Tryz.f21 3 [] [] []
def Ye:Code:=match qF sEt.root with|some (_,_,r)=>r|none=>.skip
abbrev cellsE:List Ob:=[⟨31,[.c .nil]⟩,⟨33,[.c (.int .i64 0),.c (.int .i64 0),.c (.int .i64 0)]⟩,⟨34,[.c (.int .i64 0)]⟩]
abbrev eV:List Ob:=[⟨31,[.c .nil]⟩,⟨33,[.c (.int .i64 0),.c (.int .i64 0),.c (.int .i64 0)]⟩,⟨34,[.c (.int .i64 12)]⟩]
def Uc(u:Value)(ar:List Ob):Option (Cd×List Ob):=match u,ar with
 | .iface t (.agg l),[⟨t0,[.c .nil]⟩,⟨t1,[.c (.int .i64 0),.c (.int .i64 0),.c (.int .i64 0)]⟩,⟨t2,[.c (.int .i64 0)]⟩] =>
   bif ab8 t 59&&(ab8 l.size 0&&(ab8 t0 31&&(ab8 t1 33&&ab8 t2 34))) then some (.t,eV) else none
 | _,_=>none
theorem NM:KX Tryz.prog 21 3 Uc:=by
 refine⟨by kernel_rfl,fun base η Z w vs R0 hK hl hv=>?_,fun u ar c aY e hc hl=>?_⟩
 . match vs,hl with
   | [v1,v2,v3],_ =>
     refine CallsDIn.mono (C9 (s:={ sEt with keep:=0 }) (n:=100) (rest:=Ye) (d1:=6) (d2:=3) aE rfl Tryz.func21 (by kernel_rfl) (by kernel_rfl) (by kernel_rfl) (by kernel_rfl) (by kernel_rfl) (args:=[.p (.c (.val v1)),.p (.c (.val v2)),.p (.c (.val v3))]) (by kernel_rfl) (m:=.returning) (m':=.returning) (x:=.dD) (v:=.nilIface) (fun η Z=>by first|rfl|trivial|exact⟨rfl,rfl⟩) (by intro h;cases h) (fun c0 cs=>⟨rfl,rfl⟩) (Qv:=fun _ _=>True) ?_ R0 ⟨⟨(by intro h;cases h),rfl,hv v1 (by simp)⟩,⟨(by intro h;cases h),rfl,hv v2 (by simp)⟩,⟨(by intro h;cases h),rfl,hv v3 (by simp)⟩,trivial⟩ hK) ?_
     skip
     apply of_eq (q:=(false=true->False)/\(false=false->((!true)=true->False)/\((!true)=false->True))) (by kernel_rfl)
     try simp only[sL]
     trivial;rintro e md w' ⟨h1,h2,aG,Z',r,aY,mv,_⟩;exact⟨h1,h2,Az mv⟩
 . have hu:u=fk/\ar=cellsE/\aY=eV:=by
    unfold Uc at e;split at e;rename_i t l t0 t1 t2;obtain⟨hb,e1⟩:=aA.aH e;clear e;simp only[Bool.and_eq_true] at hb;obtain⟨h1,h2,h3,h4,h5⟩:=hb;cases abZ h1;cases abZ h3;cases abZ h4;cases abZ h5;cases e1;have hl0:=Array.eq_empty_of_size_eq_zero (abZ h2);subst hl0;exact⟨rfl,rfl,rfl⟩;cases e
   obtain⟨rfl,rfl,rfl⟩:=hu;intro base η Z w vs R hvs hK;refine CallsDIn.mono (C9 (s:=sEt) (n:=100) (rest:=Ye) (d1:=6) (d2:=3) aE rfl Tryz.func21 (by kernel_rfl) (by kernel_rfl) (by kernel_rfl) (by kernel_rfl) (by kernel_rfl) (args:=[.p (.c (.ptr 0 0)),.p (.c (.ptr 1 0)),.p (.c (.ptr 2 0))]) (by kernel_rfl) (m:=.panicking [{ v:=fk,recovered:=false }]) (m':=.panicking [{ v:=fk,recovered:=true }]) (x:=.val fk) (v:=fk) (fun η Z=>by first|rfl|trivial|exact⟨rfl,rfl⟩) (by intro h;cases h) (fun c0 cs=>by first|exact⟨rfl,rfl⟩|done) (Qv:=fun _ o=>o=eV) ?_ R hvs hK) ?_
   skip
   apply of_eq (q:=(true=true->[Ob.mk 31 [Fd.c W.nil],Ob.mk 33 [fI (0),fI (0),fI (0)],Ob.mk 34 [fI (12)]]=eV)/\(true=false->(true=true->False)/\(true=false->[Ob.mk 31 [Fd.c W.nil],Ob.mk 33 [fI (0),fI (0),fI (0)],Ob.mk 34 [fI (0)]]=eV))) (by kernel_rfl)
   try simp only[sL]
   intro h;cases h;rintro e md w' ⟨h1,h2,aG,Z',r,aY,mv,ho⟩;subst ho;exact⟨h1,h2,aG,Z',mv⟩
def Ud(g aq:Int)(ax sub:List (List Int))(y:Rn):bI:={ refs:=[true,false,false],keep:=some 1,f:=fun args ar=>match args,ar with
 | [.p (.c (.ptr 0 0)),a,b],[⟨t,[.c (.int .i64 w),.c (.int .i64 l),.c .nil,.c .nil,.c .nil,.c (.int .i64 0),.c (.int .i64 0)]⟩]=>match fP dL a,fP dL b with
   | some ra,some sb=>bif ab8 t 63 then some (.p ((w=2*g/\l=aq/\ra=ax/\sb=sub)/\decide (y.ay=2)=false),.aJ [],aX y) else none
   | _,_=>none
 | _,_=>none }
def Ue(g aq:Int)(ax sub:List (List Int))(y:Rn):iT:={ refs:=[true,false,false],f:=fun args ar=>match args,ar with
 | [.p (.c (.ptr 0 0)),a,b],[⟨t,[.c (.int .i64 w),.c (.int .i64 l),.c .nil,.c .nil,.c .nil,.c (.int .i64 0),.c (.int .i64 0)]⟩]=>match fP dL a,fP dL b with
   | some ra,some sb=>bif ab8 t 63 then some (.p (w=2*g/\l=aq/\ra=ax/\sb=sub),some (decide (y.ay=2)),fk) else none
   | _,_=>none
 | _,_=>none }
structure Ends(g aq:Int)(ax sub:List (List Int))(y:Rn):Prop where
 good:cT (cX g aq ax sub)
 lm:aq<=1000
 ends:∃ F q',vK (bS true) F (cX g aq ax sub) 2000=some (y,q')
theorem abQ{g aq:Int}{ax sub:List (List Int)}{y:Rn}(E:Ends g aq ax sub y):aK Tryz.prog 22 (Ud g aq ax sub y):=by
 obtain⟨F,q',h⟩:=E.ends;refine⟨by kernel_rfl,fun args ar c r aY e hc=>?_⟩;simp only[Ud] at e;split at e;split at e
 . rename_i ra sb ha hb';obtain⟨hb,e1⟩:=aA.aH e;clear e;cases abZ hb;cases e1;obtain⟨⟨rfl,rfl,rfl,rfl⟩,hd⟩:=hc;have:=(NC g _ _ _ E.good E.lm h).1 hd;intro base η Z W vs R hvs hK
   match vs,hvs with
   | [u,v,t],⟨a1,a2,a3,_⟩=>exact this base η Z W _ R ⟨a1,cg ha a2,cg hb' a3,trivial⟩ hK
 cases e;cases e
theorem abR{g aq:Int}{ax sub:List (List Int)}{y:Rn}(E:Ends g aq ax sub y):gQ Tryz.prog 22 (Ue g aq ax sub y):=by
 obtain⟨F,q',h⟩:=E.ends;refine⟨by kernel_rfl,fun args ar c b u e hc hb2=>?_⟩;simp only[Ue] at e;split at e;split at e
 . rename_i ra sb ha hb';obtain⟨hb,e1⟩:=aA.aH e;clear e;cases abZ hb;cases e1;obtain⟨rfl,rfl,rfl,rfl⟩:=hc;have:=(NC g _ _ _ E.good E.lm h).2 (by
    cases hd:decide (y.ay=2) with
    | true=>rfl
    | false=>rw[hd] at hb2;exact absurd rfl hb2)
   intro base η Z W vs R hvs hK
   match vs,hvs with
   | [u,v,t],⟨a1,a2,a3,_⟩=>exact this base η Z W _ R ⟨a1,cg ha a2,cg hb' a3,trivial⟩ hK
 cases e;cases e
def diEn{g aq:Int}{ax sub:List (List Int)}{y:Rn}(E:Ends g aq ax sub y):List { x:FuncId×iT // gQ Tryz.prog x.1 x.2 }:=[⟨(22,Ue g aq ax sub y),abR E⟩]
def gEn(g aq:Int)(ax sub:List (List Int))(y:Rn):bN:=[(17,K3),(18,abP),(22,Ud g aq ax sub y),(24,Qy),(23,Sw)]
theorem NN{g aq:Int}{ax sub:List (List Int)}{y:Rn}(E:Ends g aq ax sub y):bp Tryz.prog (gEn g aq ax sub y):=av H8 (av cCoE_ok (av (abQ E) (av Ua (av PK aE))))
abbrev pEn:List Nat:=[0,1,0,1,1,1]
def Yf{g aq:Int}{ax sub:List (List Int)}{y:Rn}(E:Ends g aq ax sub y):Site:={ jW Tryz.prog (gEn g aq ax sub y) (diEn E) Tryz.f7 0 [(pEn,[1,2,6,7,8,3,11,24,25,26]),([0,1,1,1,1,1],[1,2,3,6,7,8])] [] [some dL,none,none] false fk with tail:=some ⟨21,3,Uc,NM⟩ }
theorem QB{g aq : Int}{ax sub : List (List Int)}{y : Rn}(E : Ends g aq ax sub y)(B : Begins g aq ax sub)(hS : So (dB (cX g aq ax sub)) y) : ∀(n i : Nat), n = sub.length - i → i ≤ sub.length →
 au (Yf E) (aC (su (dB (cX g aq ax sub))) []) pEn (fr [(1,bH sub),(2,nI aq),(6,.p (.c (.ptr 0 0))),(7,.p (.c (.ptr 1 0))),(8,.p (.c (.ptr 2 0))),(3,.p (.c (.ptr 3 0))),(11,nI (sub.take i).flatten.length),(24,bH sub),(25,nI sub.length),(26,nI i)]) (.ofList (cellsE++[fA g ax]))
 | n, i, hn, hi => by
   refine aL (NN E) (by kernel_rfl) 400 ?_;apply of_eq (q:=let q4:=(↑(ab7 i sub).flatten.length:Int);let q5:=aD [V.c (wL (ab7 (0:Nat) (ab2 (0:Nat) []))),V.agg [wI (0),wI (0),wI (0)],vI (2)]=su (dB (cX g aq ax sub))/\([]:List Ob)=[];let q6:=(ak.ofList [Ob.mk 31 [Fd.c W.nil],Ob.mk 33 [fI (0),fI (0),fI (0)],Ob.mk 34 [fI (0)],Ob.mk 25 [fI g,fL ax]]);let q7:=(aA.T.leaf.node (some (bB false)) aA.T.leaf);let q8:=(sub.length:Int);let q9:=decide ((4000:Int)<q4);let aU:=decide (aq<1);let q2:=decide ((100:Int)<q8);let q3:=(bif false then true else aU)=false;let q1:=(bif q2 then true else q9)=false;(decide ((i:Int)<q8)=true->((0:Int)<=(i:Int)/\(i:Int)<q8)/\i<sub.length/\au (Yf E) (aC (su (dB (cX g aq ax sub))) []) [0,1,0,1,1,1] (fr [(1,bH sub),(2,nI aq),(6,aR 0 0),(7,aR 1 0),(8,aR 2 0),(3,aR 3 0),(11,nI (IntKind.i64.wrap (q4+(↑(sub.getD i []).length:Int)))),(24,bH sub),(25,nI q8),(26,nI (IntKind.i64.wrap ((i:Int)+1)))]) q6)/\(decide ((i:Int)<q8)=false->(q2=false->q2=false)/\(q2=false->q2=false)/\(q1->q1/\q1/\(sub.length<=1000000/\wU g sub)/\(false=false->false=false)/\(false=false->false=false)/\(q3->q3)/\(q3->q3)/\((bif bif false then true else aU then true else decide ((20000:Int)<aq))=true->(0:Nat)<=0/\q5)/\((bif bif false then true else aU then true else decide ((20000:Int)<aq))=false->Eu (Yf E) (aC (su (dB (cX g aq ax sub))) []) [0,1,1,1,1,1] (((((aA.T.leaf.node none q7).node (some (aR 1 0)) ((aA.T.leaf.node (some (A.cond (q2=false) (vI q4))) aA.T.leaf).node none aA.T.leaf)).node (some (aR 3 0)) (((aA.T.leaf.node (some (bH sub)) aA.T.leaf).node none (aA.T.leaf.node (some (bB (bif false then true else aU))) aA.T.leaf)).node (some (nI q4)) ((aA.T.leaf.node (some (A.cond (q1) (V.c (wL sub)))) aA.T.leaf).node (some (A.dec false)) aA.T.leaf))).node (some (bH sub)) (((aA.T.leaf.node none (aA.T.leaf.node (some (A.cond (false=false) (vB (aU)))) aA.T.leaf)).node none ((aA.T.leaf.node (some (bB (bif q2 then true else q9))) aA.T.leaf).node (some (nI q8)) aA.T.leaf)).node none (((aA.T.leaf.node (some (bB (q2))) aA.T.leaf).node none (aA.T.leaf.node (some (A.cond (q3) (vB (decide ((20000:Int)<aq))))) aA.T.leaf)).node none (q7.node none aA.T.leaf)))).node none ((((aA.T.leaf.node none (aA.T.leaf.node (some (A.cond (false=false) (vI aq))) aA.T.leaf)).node (some (aR 2 0)) ((aA.T.leaf.node (some (A.cond (q2=false) (vB (q9)))) aA.T.leaf).node (some (bH sub)) (aA.T.leaf.node (some (aP (W.func 21 [(0,(0:Nat)),(1,(0:Nat)),(2,(0:Nat))]))) aA.T.leaf))).node none (((aA.T.leaf.node (some (nI q8)) aA.T.leaf).node none (aA.T.leaf.node (some (A.cond (q3) (vI aq))) aA.T.leaf)).node none ((aA.T.leaf.node (some (A.cond (q1) (V.c (W.func 19 [(3,(0:Nat))])))) aA.T.leaf).node none aA.T.leaf))).node (some (nI aq)) (((aA.T.leaf.node none (aA.T.leaf.node (some (bB (bif false then true else aU))) aA.T.leaf)).node none ((aA.T.leaf.node (some (A.dec false)) aA.T.leaf).node (some (nI (i:Int))) aA.T.leaf)).node (some (aR 0 0)) (((aA.T.leaf.node (some (bB (q2))) aA.T.leaf).node none (aA.T.leaf.node (some (A.dec false)) aA.T.leaf)).node none (q7.node none aA.T.leaf))))) q6))/\((bif q2 then true else q9)=!false->(0:Nat)<=0/\q5))) (by kernel_rfl)
   try simp only[sL]
   obtain⟨s1,s2⟩:=B.subs;have hl:=B.aq;refine⟨fun h=>⟨⟨by omega,by omega⟩,by omega,?_⟩,fun h=>?_⟩
   . have ht:(sub.take (i+1)).flatten.length=(sub.take i).flatten.length+(sub.getD i []).length:=by
      rw[List.take_succ_eq_append_getElem (by omega),acf,ab9,ab1,ab5 (by omega)];simp
     have htl:(sub.take (i+1)).flatten.length<=sub.flatten.length:=(by
      have:=congrArg (fun l=>(List.flatten l).length) (List.take_append_drop (i+1) sub);simp only[acf,ab9] at this;omega)
     rw[wrap64 (by omega) (by omega),wrap64 (by omega) (by omega)];cases n with
     | zero=>omega
     | succ n =>
       have:=QB E B hS n (i+1) (by omega) (by omega);rw[ht] at this;exact this
   have ei:i=sub.length:=by omega
   subst ei;rw[List.take_length];have hw:sub.length<=1000000/\wU g sub:=by
    refine⟨by omega,fun w hw=>⟨?_,fun x hx=>?_⟩⟩;have:w.length<=sub.flatten.length:=(List.sublist_flatten_of_mem hw).length_le;omega;have:=B.bad w hw;rw[List.any_eq_false] at this;have:=this x hx;simpa using this
   refine⟨fun hc=>⟨hc,hc,hw,fun h2=>?_,fun h2=>?_⟩,fun h2=>?_⟩;rcases h2 with (h2|h2)|h2;cases h2;omega;omega;refine HY (T:=⟨21,3,Uc,NM⟩) (NN E) rfl rfl rfl rfl 400 ?_;apply of_eq (q:=let q1:=(Rn.mk ((2:Int)*y.g/2) [] [] y.aq y.aF y.aj (0:Int) (0:Int) (0:Int) (0:Int) y.af y.ah y.dl y.dn);let q3:=(Cd.t.and Cd.t);let q4:=(R1.pure q3 (nI (0))).v=(R1.pure q3 (nI (0))).v;let q5:=(R1.pure q3 (nI y.aF));let q2:=(R1.pure q3 (aS ((8:Nat)+((1:Nat)-1)) 0 y.af.length));(IntKind.i64.wrap ((2:Int)*g)=2*g/\aq=aq/\ax=ax/\sub=sub)/\(decide (y.ay=2)=true->(0:Nat)<=0/\aD [V.c (wL (ab7 (0:Nat) (ab2 (0:Nat) []))),V.agg [wI (0),wI (0),wI (0)],vI (12)]=su (dB (cX g aq ax sub))/\([]:List Ob)=[])/\(decide (y.ay=2)=false->((IntKind.i64.wrap ((2:Int)*g)=2*g/\aq=aq/\ax=ax/\sub=sub)/\decide (y.ay=2)=false)/\((y.af.length=y.af.length/\y.ah.length=y.ah.length/\((2:Int)*y.g).toNat=((2:Int)*y.g).toNat/\(2:Int)*((2:Int)*y.g/2)=2*y.g)/\br q1/\yK q1)/\uP g (jy q1) ((jL (jy q1)).getD [])/\(R1.pure q3 (nI g)).v=(R1.pure q3 (nI g)).v/\(R1.pure q3 (nI g)).v=(R1.pure q3 (nI g)).v/\q2.v=q2.v/\q2.v=q2.v/\q5.v=q5.v/\q5.v=q5.v/\q4/\q4/\q4/\aD [V.c (wL ((jL (jy q1)).getD [])),V.agg [wI (y.af.length:Int),wI y.aF,wI (0)],vI (0)]=su (dB (cX g aq ax sub))/\([]:List Ob)=[])) (by kernel_rfl)
   try simp only[sL]
   have hG:=E.good;have hf:=Nj hG E.lm;have hR:=wH hG 2000;have he:=hS.pI.1;have hgF:(dB (cX g aq ax sub)).g=g:=hR.same.1;have hgy:y.g=g:=hS.g.trans hgF;have ko:1<=g:=hG.fine.g1;have kT:g<=16:=hG.fine.g2;have e2:2*y.g/2=y.g:=by omega
   rw[wrap64 (n:=2*g) (by omega) (by omega),e2];refine⟨rfl,fun h=>?_,fun h=>⟨⟨rfl,h⟩,?_⟩⟩;have hs:¬(dB (cX g aq ax sub)).ay=1:=by omega
   simp only[su,ku,oo,ot,pJ,if_neg hs];rfl;have hs:(dB (cX g aq ax sub)).ay=1:=by omega
   obtain⟨f1,f2,f3,f4,f5⟩:=X8 B hs;have hy:=hS.fine f1;have ht:=tabC_so f1 f2 hS;have hstd:=Nf f1 f2 f3 f4 (by omega);rw[hgF] at hstd;have ht:jy (bare y)=dX (dB (cX g aq ax sub)):=ht;have hft:yK y:=abE f1 f2 hS;refine⟨⟨rfl,AY hy,hft⟩,?_,?_⟩;show uP g (jy (bare y)) ((jL (jy (bare y))).getD []);rw[ht];exact hstd;show aD [V.c (W.rd (D.int IntKind.i64).sl ((jL (jy (bare y))).getD [])),V.agg [W.int IntKind.i64 y.af.length,W.int IntKind.i64 y.aF,W.int IntKind.i64 0],V.c (W.int IntKind.i64 0)]=_;rw[ht,hS.af,hS.pI.2.2.2.2.2.2.1];simp only[su,ku,oo,ot,pJ,if_pos hs];rfl;rw[decide_eq_false (by omega),decide_eq_false (by omega)] at h2;cases h2
theorem abS{g aq:Int}{ax sub:List (List Int)}(B:Begins g aq ax sub)(hl:aq<=1000):bA Tryz.prog 7 [H7 g ax,bH sub,nI aq] [] (su (dB (cX g aq ax sub))) []:=by
 obtain⟨f,y,q,h1,hS⟩:=XK (flC true) B.good;have E:Ends g aq ax sub y:=⟨B.good,hl,f,q,h1⟩;refine tN (s:=Yf E) (NN E) rfl Tryz.func7 (by kernel_rfl) rfl (by kernel_rfl) 400 ?_ (fun u h=>by cases h.1);apply of_eq (q:=Sh ax/\((!decide ((gK g ax).fst=0))=true->(0:Nat)<=0/\aD [V.c (wL (ab7 (0:Nat) (ab2 (0:Nat) []))),V.agg [wI (0),wI (0),wI (0)],vI (gK g ax).fst]=su (dB (cX g aq ax sub))/\([]:List Ob)=[])/\((!decide ((gK g ax).fst=0))=false->au (Yf E) (fun r o=>r=su (dB (cX g aq ax sub))/\o=[]) [0,1,0,1,1,1] (fr [(1,bH sub),(2,nI aq),(6,aR 0 0),(7,aR 1 0),(8,aR 2 0),(3,aR 3 0),(11,nI (0)),(24,bH sub),(25,nI (sub.length:Int)),(26,nI (0))]) (ak.ofList [Ob.mk 31 [Fd.c W.nil],Ob.mk 33 [fI (0),fI (0),fI (0)],Ob.mk 34 [fI (0)],Ob.mk 25 [fI g,fL ax]]))) (by kernel_rfl)
 try simp only[sL]
 exact⟨B.sh,fun h=>absurd B.gK h,fun _=>QB E B hS _ 0 rfl (acp _)⟩
theorem abT:aK Tryz.prog 7 cEnum:=Aj (by kernel_rfl) fun _ _ _ _ h=>abS h.1 h.2
def gTp:bN:=[(4,Ql),(5,Qm),(6,Tm),(7,cEnum),(8,cNew),(9,cStat),(10,Sl),(12,cSave),(11,M7),(13,cTabK),(14,Qk)]
theorem Yg:bp Tryz.prog gTp:=av Tr (av Tt (av M8 (av abT (av cNew_ok (av Z7 (av Z5 (av aat (av XA (av aa0 (av Tp aE))))))))))
abbrev pTp:List Nat:=[0,1,0,1,1,1,1,1,1,1]
abbrev NP:List (List Nat×List Nat):=[(pTp,[3,12,14,17,15,13])]
def Yh:Site:=dJ Tryz.prog gTp Tryz.f3 0 NP
abbrev stF(F:Rn):Ob:=⟨33,[.c (.int .i64 (oo F)),.c (.int .i64 (ot F)),.c (.int .i64 0)]⟩
theorem Yi(F:Rn):pJ F=0∨pJ F=12:=by unfold pJ;split<;>simp
theorem Yj{g aq:Int}{ax sub:List (List Int)}{F r:Rn}{i:Nat}(hF:F=dB (cX g aq ax sub))(I:wT g aq ax sub i r)(h:¬r.ay=0):(pJ F=12->aD [V.c (W.bool (decide (r.ay=2)))]=bB true)/\(¬pJ F=12->(0<r.af.length/\(r.ay=1->rC r))/\(((r.ay=1/\CF r=0)/\oo r=oo F/\ot r=ot F->(ku F).length<=1000000000/\∀(c:List Int),c∈ku F->c.length<=1000000000)/\aD [V.c (W.bool (decide (r.ay=1)&&decide (CF r=0)&&(decide (oo r=oo F)&&(decide (ot r=ot F)&&(decide True&&true)))&&decide (ku F=ku r)&&decide (0<((ku F).length:Int))))]=bB true)):=by
 have hst:=I.bk.rest.st;obtain⟨d1,d2,d3,d4⟩:=I.done h;rw[<-hF] at d1 d2 d3 d4;refine⟨fun h2=>?_,fun h2=>?_⟩;have:r.ay=2:=by
  unfold pJ at h2;split at h2;omega;omega
 rw[decide_eq_true this];rfl;have h1:r.ay=1:=by
  unfold pJ at h2;split at h2;omega;omega
 have KY:F.ay=1:=by omega
 obtain⟨t1,t2,t3⟩:=d4 h1;have hu:ku r=(jL (dX r)).getD []:=by unfold ku;rw[if_pos h1]
 have hs:=X7 t1.std;rw[<-hu,t2] at hs;have e1:CF r=0:=by unfold CF;rw[if_pos h1]
 have e2:oo r=oo F:=by unfold oo;rw[if_pos h1,if_pos KY,d2]
 have e3:ot r=ot F:=by unfold ot;rw[if_pos h1,if_pos KY,d3]
 refine⟨⟨I.bk.rest.n1,fun _=>t1⟩,fun _=>hs,?_⟩;rw[t2] at t3;rw[decide_eq_true h1,decide_eq_true e1,decide_eq_true e2,decide_eq_true e3,decide_eq_true t2.symm,decide_eq_true (show 0<((ku F).length:Int) by omega)];simp;rfl
theorem GK{g aq:Int}{ax sub:List (List Int)}(steps:List Int)(hl:1<=aq/\aq<=200)(hg:1<=g/\g<=3)(hr:ol g ax)(hs:ol g sub)(F:Rn)(hF:F=dB (cX g aq ax sub)):∀(n i:Nat)(r:Rn),n=250-i->i<=250->wT g aq ax sub i r->
 au Yh (aC (bB true) []) pTp (fr [(3,bw steps),(12,bH (ku F)),(14,nI (pJ F)),(17,nI i),(15,.p (.c (.ptr 0 0))),(13,.p (.c (.ptr 1 0)))]) (.ofList [bL r 2 3 4,stF F,aO r,aB r.ah,aB r.dl])
 | n,i,r,hn,hi,I=>by
   refine aL Yg (by kernel_rfl) 300 ?_;apply of_eq (q:=let q0:=IntKind.i64.wrap;let q6:=r.ah.length=r.ah.length/\((2:Int)*r.g).toNat=((2:Int)*r.g).toNat;let bC:=(jd r (30:Int));let cA:=r.af.length=r.af.length;let eW:=Ob.mk 33 [fI (oo F),fI (ot F),fI (0)];let dP:=(M6 (bt (eK bC.fst)));let kV:=[0,1,0,1,1,1,1,1,1,1];let lM:=([]:List Ob)=[];let kr:=aD [vB false]=bB true;let jB:=(0:Nat)<r.af.length;let gL:=(i:Int);let nP:=(0:Int);let q1:=decide ((if(0:Nat)<r.af.length then r.ay else nP)=1);let q7:=(bif q1 then decide (CF r=0) else false)=true;let q8:=(fr [(3,bw steps),(12,bH (ku F)),(14,nI (pJ F)),(17,nI (q0 (gL+1))),(15,aR 0 0),(13,aR 1 0)]);let bF:=decide (gL<(steps.length:Int));let cK:=decide ((steps.getD i nP).tmod (2:Int)=0);let cU:=aD [vB (decide ((if(0:Nat)<r.af.length then r.ay else nP)=2))]=bB true/\lM;let eC:=decide (nP=0);let d9:=((1:Int)+steps.getD i nP%(30:Int));let jA:=decide ((if(0:Nat)<r.af.length then r.ay else nP)=0);let q2:=(jd r (q0 d9));let q3:=(bif bif bif q1 then decide (CF r=0) else false then decide (oo r=oo F)&&(decide (ot r=ot F)&&(eC&&true)) else false then decide (ku F=ku r) else false)=true;let q4:=(bif bif q1 then decide (CF r=0) else false then decide (oo r=oo F)&&(decide (ot r=ot F)&&(eC&&true)) else false)=true;let q5:=bF=true;let q9:=(M6 (bt (eK q2.fst)));let aU:=(q4->q4)/\(q3->q3)/\(q3->q3)/\(q3->q3)/\aD [vB (bif bif bif bif q1 then decide (CF r=0) else false then decide (oo r=oo F)&&(decide (ot r=ot F)&&(eC&&true)) else false then decide (ku F=ku r) else false then decide (nP<(↑(ku F).length:Int)) else false)]=bB true/\lM;(decide (gL<250)=true->decide (gL<250)=true/\((cA/\q6)/\True)/\(jA=true->(q5->q5)/\(q5->q5)/\((bif bF then decide (gL<40) else false)=true->(nP<=gL/\gL<(steps.length:Int))/\i<steps.length/\((1:Int)<=30/\(30:Int)<=4611686018427387904)/\((cA/\q6)/\jB/\q0 d9<=1000000/\((1:Int)<=q0 d9->r.ay=0->cT r))/\((!decide (q2.snd.snd=0))=true->kr/\lM)/\((!decide (q2.snd.snd=0))=false->(q5->q5)/\(q5->q5)/\(q5->nP<=gL/\gL<(steps.length:Int))/\(q5->q5)/\(q5->i<steps.length)/\(q5->q5)/\(q5->(2:Int)≠nP)/\(q5->q5)/\(q5->q5)/\((bif bF then cK else false)=true->((q2.fst.af.length=q2.fst.af.length/\q2.fst.ah.length=q2.fst.ah.length/\((2:Int)*q2.fst.g).toNat=((2:Int)*q2.fst.g).toNat)/\Sv q2.fst)/\(∃ X,Bk X/\bt (eK q2.fst)=bt (eK X))/\((!eC)=true->kr/\lM)/\((!eC)=false->au Yh (aC (bB true) []) kV q8 (ak.ofList [Ob.mk 73 [fI q9.g,fL q9.ax,fL q9.sub,fI q9.aq,fI q9.aF,fI q9.aj,fI q9.ay,fI q9.ph,fI q9.co,fI q9.ix,fS 2 0 q9.af.length,fS 3 0 q9.ah.length,fS 4 0 q9.dn],eW,aO q9,aB (q9.ah),Ob.mk 3 [Fd.a 0 (D.int .i64) q9.dl]])))/\((bif bF then cK else false)=false->au Yh (aC (bB true) []) kV q8 (ak.ofList [Ob.mk 73 [fI q2.fst.g,fL q2.fst.ax,fL q2.fst.sub,fI q2.fst.aq,fI q2.fst.aF,fI q2.fst.aj,fI q2.fst.ay,fI q2.fst.ph,fI q2.fst.co,fI q2.fst.ix,fS 2 0 q2.fst.af.length,fS 3 0 q2.fst.ah.length,fS 4 0 q2.fst.dn],eW,aO (q2.fst),aB (q2.fst.ah),aB (q2.fst.dl)]))))/\((bif bF then decide (gL<40) else false)=false->((cA/\q6)/\jB/\(30:Int)<=1000000/\((1:Int)<=30->r.ay=0->cT r))/\((!decide (bC.snd.snd=0))=true->kr/\lM)/\((!decide (bC.snd.snd=0))=false->(q5->q5)/\(q5->q5)/\(q5->nP<=gL/\gL<(steps.length:Int))/\(q5->q5)/\(q5->i<steps.length)/\(q5->q5)/\(q5->(2:Int)≠nP)/\(q5->q5)/\(q5->q5)/\((bif bF then cK else false)=true->((bC.fst.af.length=bC.fst.af.length/\bC.fst.ah.length=bC.fst.ah.length/\((2:Int)*bC.fst.g).toNat=((2:Int)*bC.fst.g).toNat)/\Sv bC.fst)/\(∃ X,Bk X/\bt (eK bC.fst)=bt (eK X))/\((!eC)=true->kr/\lM)/\((!eC)=false->au Yh (aC (bB true) []) kV q8 (ak.ofList [bL dP 2 3 4,eW,aO dP,aB (dP.ah),aB (dP.dl)])))/\((bif bF then cK else false)=false->au Yh (aC (bB true) []) kV q8 (ak.ofList [bL (bC.fst) 2 3 4,eW,aO (bC.fst),aB (bC.fst.ah),aB (bC.fst.dl)])))))/\(jA=false->(decide (pJ F=12)=true->((cA/\q6)/\True)/\cU)/\(decide (pJ F=12)=false->((cA/\q6)/\jB/\(r.ay=1->rC r))/\((cA/\q6)/\True)/\(q1=true->q1=true)/\(q1=true->q1=true)/\(q7->q7)/\(q7->q7)/\(q7->q7)/\(q4->q4)/\(q4->q4)/\(q4->(ku F).length<=1000000000/\∀(c:List Int),c∈ku F->c.length<=1000000000)/\aU)))/\(decide (gL<250)=!true->(decide (pJ F=12)=true->((cA/\q6)/\True)/\cU)/\(decide (pJ F=12)=false->((cA/\q6)/\jB/\(r.ay=1->rC r))/\((cA/\q6)/\True)/\(q1=true->q1=true)/\(q1=true->q1=true)/\(q7->q7)/\(q7->q7)/\(q7->q7)/\(q4->q4)/\(q4->q4)/\(q4->(ku F).length<=1000000000/\∀(c:List Int),c∈ku F->c.length<=1000000000)/\aU))) (by kernel_rfl)
   try simp only[sL,Int.reduceEq]
   have rp:=I.bk.rest.n1;have wW:(if 0<r.af.length then r.ay else 0)=r.ay:=if_pos rp;have hn1:=I.bk.rest.nl;have IU:=I.aq;have hfar:=I.far;rw[wW,wrap64 (n:=(i:Int)+1) (by omega) (by omega),wrap64 (n:=1+steps.getD i 0%30) (by omega) (by omega)];refine⟨fun h=>⟨h,fun h0=>⟨fun hc=>⟨⟨by omega,hc.1⟩,by omega,⟨by omega,by omega⟩,?_⟩,fun hc=>?_⟩,fun h0=>Yj hF I h0⟩,fun h=>Yj hF I ?_⟩
   . have hN:1<=1+steps.getD i 0%30/\1+steps.getD i 0%30<=1000000:=⟨by omega,by omega⟩;generalize 1+steps.getD i 0%30=N at *;obtain⟨G,he,I'⟩:=I.step ⟨hl.1,by omega⟩ hg hr hs h0 hN.1;cases n with
     | zero=>omega
     | succ n =>
       have nx:=fun r' I'=>GK steps hl hg hr hs F hF n (i+1) r' (by omega) (by omega) I';refine⟨⟨rp,hN.2,fun _ _=>G⟩,fun h=>absurd he h,fun _=>⟨fun h=>⟨by omega,h⟩,fun h=>by omega,fun _=>trivial,fun _=>⟨I'.bk.sv,⟨_,I'.bk,rfl⟩,fun h=>absurd trivial h,fun _=>?_⟩,fun _=>nx _ I'⟩⟩;rw[Gy I'.bk];exact nx _ I'.load
   . have hN:1<=(30:Int)/\(30:Int)<=1000000:=⟨by omega,by omega⟩;generalize (30:Int)=N at *;obtain⟨G,he,I'⟩:=I.step ⟨hl.1,by omega⟩ hg hr hs h0 hN.1;cases n with
     | zero=>omega
     | succ n =>
       have nx:=fun r' I'=>GK steps hl hg hr hs F hF n (i+1) r' (by omega) (by omega) I';refine⟨⟨rp,hN.2,fun _ _=>G⟩,fun h=>absurd he h,fun _=>⟨fun h=>⟨by omega,h⟩,fun h=>by omega,fun _=>trivial,fun _=>⟨I'.bk.sv,⟨_,I'.bk,rfl⟩,fun h=>absurd trivial h,fun _=>?_⟩,fun _=>nx _ I'⟩⟩;rw[Gy I'.bk];exact nx _ I'.load
   have h:decide ((i:Int)<250)=false:=h;have:=of_decide_eq_false h;omega
theorem abU(n limit:Int)(numbers steps:List Int):bA Tryz.prog 3 [nI n,nI limit,bw numbers,bw steps] [] (bB true) []:=by
 refine bO (aj:=NP) Yg Tryz.func3 (by kernel_rfl) (keep:=0) rfl (by kernel_rfl) 300 ?_;apply of_eq (q:=let q2:=(!decide ((0:Int)=0))=false;let q4:=(IntKind.i64.wrap ((1:Int)+limit%(200:Int)));let q5:=(iw n);let q1:=(cX q5.fst q4 q5.snd.fst (ke numbers q5.fst));let q3:=decide (pJ (dB q1)=0);((1:Int)<=q5.fst/\q5.fst<=16)/\((1:Int)<=200/\(200:Int)<=4611686018427387904)/\(Begins q5.fst q4 q5.snd.fst (ke numbers q5.fst)/\IntKind.i64.wrap ((1:Int)+limit%(200:Int))<=1000)/\Begins q5.fst q4 q5.snd.fst (ke numbers q5.fst)/\(q2->q2)/\(q2->q2)/\(q2/\(!q3)=true->q2/\(!q3)=true)/\(q2->q2)/\(q2->(!q3)=true->q2/\(!q3)=true)/\(q2->q2)/\((bif !decide ((0:Int)=0) then true else bif !q3 then !decide (pJ (dB q1)=12) else false)=true->aD [vB false]=bB true/\([]:List Ob)=[])/\((bif !decide ((0:Int)=0) then true else bif !q3 then !decide (pJ (dB q1)=12) else false)=false->au (dJ Tryz.prog gTp Tryz.f3 (0:Nat) NP) (aC (bB true) []) [0,1,0,1,1,1,1,1,1,1] (fr [(3,bw steps),(12,bH (ku (dB q1))),(14,nI (pJ (dB q1))),(17,nI (0)),(15,aR 0 0),(13,aR 1 0)]) (ak.ofList [Ob.mk 73 [fI q1.g,fL q1.ax,fL q1.sub,fI q1.aq,fI q1.aF,fI q1.aj,fI q1.ay,fI q1.ph,fI q1.co,fI q1.ix,fS 2 0 1,fS 3 0 1,fS 4 0 0],Ob.mk 33 [fI (oo (dB q1)),fI (ot (dB q1)),fI (0)],Ob.mk 22 [Fd.c (W.th ((2:Int)*q1.g).toNat [List.replicate ((2:Int)*q5.fst).toNat (-1:Int)])],aB (q1.ah),aB (q1.dl)]))) (by kernel_rfl)
 try simp only[sL]
 obtain⟨hg,hr⟩:=Tv n;have hs:=Tw hg.1 numbers;generalize iw n=kt at *;generalize ke numbers kt.1=ww at *;have hm:1<=1+limit%200/\1+limit%200<=200:=⟨by omega,by omega⟩;rw[wrap64 (n:=1+limit%200) (by omega) (by omega)];generalize 1+limit%200=aq at *;have B:=S9 aq ⟨by omega,by omega⟩ hg hr hs;have hc:=Yi (dB (cX kt.1 aq kt.2.1 ww));refine⟨⟨by omega,by omega⟩,⟨by omega,by omega⟩,⟨B,by omega⟩,B,fun h=>?_,fun _=>GK steps hm hg hr hs _ rfl 250 0 _ rfl (by omega) (wT.first B ⟨by omega,by omega⟩ hg hr hs)⟩;rcases h with h|h;exact absurd trivial h;omega
theorem top_all:Bs (fun args=>bA Tryz.prog 3 args [] (dat .bool true) []) [.int .i64,.int .i64,.sl (.int .i64),.sl (.int .i64)] [] :=
 fun n _ m _ l _ k _=>abU n m l k
end Go.Proofs.YtlbmkeimafgemaaGreatDoor
namespace Go.Proofs.YtlbmkeimafgemaaGreatDoor
open Go.ChangeShapes Go.WideShapes Go.ChangeAt Go.RowKit Go.aA
set_option maxRecDepth 1000000
theorem own:ownKnob Tryz.prog.godebug=none:=by kernel_rfl
def NQ:DataW Unit->List Value
 | .lit (.int k n)=>[.int k n]
 | _=>[]
def cells1:DataW Unit->List Value
 | .agg l=>l.flatMap NQ
 | d=>NQ d
def cellsD:DataW Unit->List Value
 | .agg l=>l.flatMap cells1
 | d=>NQ d
def textD:DataW Unit->ByteArray
 | .iface _ (.ptr (.agg [.lit (.string l)]))=>⟨l.toArray⟩
 | _=>⟨#[]⟩
def isErr:DataW Unit->Bool
 | .iface _ _=>true
 | _=>false
def low:Nat:=(World.holding Tryz.prog default ⟨#[],#[],[]⟩).heap.size
def NR(w:World)(P:Program)(n:Nat):List (String×DataW Unit)->World
 | []=>w
 | (name,d)::l=>match P.globalNamed name with
   | some g=>bif isErr d
    then NR { w with heap:=w.heap.modify g fun | .cells _ t frozen=>.cells #[.iface 206 (.pointer (some ⟨low+n,0,none⟩))] t frozen|o=>o } P (n+1) l
    else NR { w with heap:=w.heap.modify g fun | .cells _ t frozen=>.cells (cellsD d).toArray t frozen|o=>o } P n l
   | none=>w
def errs(l:List (String×DataW Unit)):List Obj:=(l.filter fun x=>isErr x.2).map fun x=>.cells #[.string (textD x.2)] 208
def uZ(os:Os)(l:List (String×DataW Unit)):World:=NR (World.holding Tryz.prog os ⟨(errs l).toArray,#[],[]⟩) Tryz.prog 0 l
theorem Yk(os:Os)(args:Array Value):laidMet Tryz.prog Rows.topResumeRow.laid ((uZ os Rows.topResumeRow.laid).forCall (fun _ _=>0) ⟨#[],args,[]⟩).memory :=
 laidMet_of_run' 8 (by kernel_rfl) (by kernel_rfl)
theorem yL{P:Program}{x:String×DataW Unit}{r:List (String×DataW Unit)}{W:World}(h:laidMet P (x::r) W):laidMet P r W:=by
 obtain⟨ps,hv,hnd,hall⟩:=h;obtain⟨n,d⟩:=x;obtain⟨g,t,cs,fuel,p,q,_,_,_,_,h5,rfl⟩:=hv;exact⟨q,h5,(List.nodup_append.1 hnd).2.1,fun b off hm=>hall b off (by simp[hm])⟩
theorem DR{P:Program}{W:World}{name:String}{k:IntKind}{zs:List Int}(h:Lib.TabIs P W name k zs){g:Nat}(hg:P.globalNamed name=some g):aT.lX W g=some (zs.map (Value.int k)).toArray:=by
 unfold Lib.TabIs World.var? at h;rw[hg] at h;simp only[Option.bind_some] at h;unfold aT.lX;split at h;rename_i c t fz e;rw[e];simp only[Option.some.injEq] at h ⊢;exact h;cases h
theorem knows{W:World}(h:laidMet Tryz.prog Rows.topResumeRow.laid W):aT.iL Tryz.prog (aT.lX W):=by
 have t32:Lib.TabIs Tryz.prog W "math/bits.deBruijn32tab" .u8 aT.tab32:=Lib.tabIs_of_head (g:=6) (t:=209) (e:=5) (n:=32) (by kernel_rfl) (by kernel_rfl) Tryz.underlying209 Tryz.underlying5 (by kernel_rfl) (by kernel_rfl) h;have t64:Lib.TabIs Tryz.prog W "math/bits.deBruijn64tab" .u8 aT.tab64:=Lib.tabIs_of_head (g:=7) (t:=210) (e:=5) (n:=64) (by kernel_rfl) (by kernel_rfl) Tryz.underlying210 Tryz.underlying5 (by kernel_rfl) (by kernel_rfl) (yL h);have t10:Lib.TabIs Tryz.prog W "internal/strconv.uint64pow10" .u64 aT.Rc:=Lib.tabIs_of_head (g:=1) (t:=184) (e:=131) (n:=20) (by kernel_rfl) (by kernel_rfl) Tryz.underlying184 Tryz.underlying131 (by kernel_rfl) (by kernel_rfl) (yL (yL h));intro x hx g hg;simp only[aT.Rd,List.mem_cons,List.not_mem_nil,or_false] at hx;rcases hx with rfl|rfl|rfl;exact DR t32 hg;exact DR t64 hg;exact DR t10 hg
end Go.Proofs.YtlbmkeimafgemaaGreatDoor
namespace Go.Proofs.YtlbmkeimafgemaaGreatDoor
open Go.ChangeShapes Go.WideShapes Go.ChangeAt Go.RowKit Go.ChangeMaps
set_option maxRecDepth 1000000
namespace topResume
theorem abV(os:Os)(args:Array Value):laidMet Tryz.prog Rows.topResumeRow.laid ((uZ os Rows.topResumeRow.laid).forCall (fun _ _=>0) ⟨#[],args,[]⟩).memory :=
 Yk os args
theorem contract(H:Type)(enc:TypeId×Value->H)(W:World)(base:Nat)(args:Array Value)(ds gs:List (DataW H))(before:List MemPlace)
 (hval:∀(j:Nat) t v,Tryz.f3.params[j]? = some t->args[j]? = some v->Value.okWide Tryz.prog W .any base t v)
 (hW:DataW.Whole enc Tryz.prog Tryz.f3.params.toList Rows.topResumeSpec.vars false W args.toList ds gs before) (hK:aT.iL Tryz.prog (aT.lX W)) :
 Calls Tryz.prog 3 args W fun e W'=>∃ v,e=.returned v/\Rows.topResumeSpec.post enc Tryz.prog Tryz.f3 false true false false W args v W' :=
 aT.K2 (kinds:=[.int .i64,.int .i64,.sl (.int .i64),.sl (.int .i64)]) (by kernel_rfl) (by kernel_rfl) top_all (by kernel_rfl) Tryz.underlying4 rfl (fun ds h=>by
  match ds,h with
  | [_,_,_,_],_=>exact⟨rfl,rfl,rfl⟩) hval hW hK
theorem reads(os:Os){H:Type}(enc:TypeId×Value->H):∃ places,DataW.whole enc Tryz.prog ((uZ os Rows.topResumeRow.laid).forCall (fun _ _=>0) ⟨#[],#[.int .i64 0,.int .i64 0,.slice none 0 0,.slice none 0 0],[]⟩).memory Tryz.f3.params.toList Rows.topResumeSpec.vars false (#[.int .i64 0,.int .i64 0,.slice none 0 0,.slice none 0 0]:Array Value).toList 8=some ([.lit (.int .i64 0),.lit (.int .i64 0),.nil,.nil],[],places) :=
 ⟨[],by kernel_rfl⟩
theorem lifted(os:Os)(started:os.Started)(H:Type)(enc:TypeId×Value->H)(F:Stop.Interp) :
 ReturnsInHanded {} Tryz.checked os 3 .any ((OpenSpec.ofChange Rows.topResumeSpec).preRow enc Tryz.prog Tryz.f3 Rows.topResumeRow.domain false Rows.topResumeRow.laid) (((OpenSpec.ofChange Rows.topResumeSpec).at F).post enc Tryz.prog Tryz.f3 false true false false):=by
 obtain⟨places,hx⟩:=reads os enc
 refine returnsInHanded_of_row (C:=Tryz.checked) (s:=OpenSpec.ofChange Rows.topResumeSpec) own started (by kernel_rfl) Tryz.func3
  (witness_row_at (enc:=enc) (C:=Tryz.checked) false (uZ os Rows.topResumeRow.laid) #[.int .i64 0,.int .i64 0,.slice none 0 0,.slice none 0 0] rfl (by kernel_rfl) (by kernel_rfl) (by kernel_rfl)
   (OpenSpec.preRow_of_cond 8 hx (by kernel_rfl) (fun k hk=>by cases hk) (by kernel_rfl) (abV os _))) ?_
 intro W base args ds gs before hval hW _ _ _ hL _ _;exact contract H enc W base args ds gs before hval hW (knows hL)
theorem said:Rows.TopResumeSaid :=
 OpenClaim.holds_of_cond 3 Tryz.f3 rfl rfl rfl rfl rfl rfl rfl ⟨rfl,rfl,rfl,rfl,rfl⟩ rfl rfl rfl rfl rfl (by kernel_rfl) Tryz.func3 (by kernel_rfl)
  (of_decide_eq_true (by kernel_rfl)) (by unfold Func.isWrapper;first|(rw[if_pos (by decide +kernel)];kernel_rfl)|(rw[if_neg (by decide +kernel)];exact⟨rfl,rfl⟩))
  (fun os started H enc _ F=>by rw[OpenClaim.pre_eq_preRow];exact lifted os started H enc F)
theorem plain (f:FuncId) (fn:Func) (hf:Tryz.pinned.checked.prog.funcNamed "cayley/cayleytop.TopResume" = some f) (hfn:Tryz.pinned.checked.prog.funcs[f]? = some fn) :
 true=Tryz.pinned.checked.prog.looks []/\∀(j:Nat) t,fn.params[j]? = some t->Tryz.pinned.checked.prog.wantsStandIn t=false:=by
 obtain rfl:f=3:=Option.some.inj ((show Tryz.prog.funcNamed "cayley/cayleytop.TopResume" = some 3 by kernel_rfl).symm.trans hf) |>.symm;obtain rfl:fn=Tryz.f3:=(Option.some.inj (Tryz.func3.symm.trans hfn)).symm;refine⟨by kernel_rfl,fun j t ht=>?_⟩;rw[Tryz.params3] at ht;cases j with
 | zero=>simp at ht;subst ht;kernel_rfl
 | succ j =>
   cases j with
   | zero=>simp at ht;subst ht;kernel_rfl
   | succ j =>
     cases j with
     | zero=>simp at ht;subst ht;kernel_rfl
     | succ j =>
       cases j with
       | zero=>simp at ht;subst ht;kernel_rfl
       | succ j =>
         simp at ht
end topResume
theorem topResume_holds:Rows.TopResumeCardSaid :=
 Claim7.holds_tied_plain_at .later [] _ _ _ _ topResume.said (fun _ h=>by cases h) (by kernel_rfl) (fun _ h=>by cases h) topResume_row_tie rfl ⟨rfl,rfl⟩ (by kernel_rfl) rfl topResume.plain (by kernel_rfl)
end Go.Proofs.YtlbmkeimafgemaaGreatDoor
