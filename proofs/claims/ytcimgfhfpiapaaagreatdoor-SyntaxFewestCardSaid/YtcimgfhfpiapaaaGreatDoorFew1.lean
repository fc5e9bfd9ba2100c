/- What the program's parser reads, by the rules of the grammar. -/
import Derived.Test.YtcimgfhfpiapaaaGreatDoorBlank1
namespace Go.Proofs.YtcimgfhfpiapaaaGreatDoor
open Go.aU Go.RowKit
set_option maxRecDepth 100000
structure Gr(l:List Tok)(P:Int->Int->Ex->Int->Prop)(PL:Int->List Ex->Int->Prop):Prop where
 up:∀ lv i e j,1<=lv->lv<=9->P (lv+1) i e j->P lv i e j
 bin:∀ lv i x j y k,(lv=1∨lv=2∨lv=5∨lv=6)->P lv i x j->cL l j lv=true->P (lv+1) (j+1) y k->P lv i (gT (ay l j).text x y) k
 cmp:∀ i x j y k,P 5 i x j->cL l j 4=true->P 5 (j+1) y k->P 4 i (gT (ay l j).text x y) k
 pow:∀ i x j y k,P 9 i x j->cL l j 8=true->P 7 (j+1) y k->P 8 i (gT (ay l j).text x y) k
 Ze:∀ i x j,aG l i iS=true->P 3 (i+1) x j->P 3 i (lq iS x) j
 Zf:∀ i x j,aG l i fP=true->P 7 (i+1) x j->P 7 i (lq fP x) j
 ix:∀ i x j y k,P 9 i x j->aG l j gM=true->P 1 (j+1) y k->aG l k gK=true->P 9 i (tF x y) (k+1)
 iJ:∀ i x j,aG l i dP=true->P 1 (i+1) x j->aG l j dU=true->P 10 i x (j+1)
 QM:∀ i,aG l i gM=true->aG l (i+1) gK=true->P 10 i (.mk 5 0 eS []) (i+1+1)
 LF:∀ i L j e k,aG l i gM=true->PL (i+1) L j->P 1 j e k->aG l k gK=true->P 10 i (.mk 5 0 eS (L++[e])) (k+1)
 QN:∀ i,gq l i=true->aG l (i+1) dP=true->aG l (i+1+1) dU=true->P 10 i (.mk 6 0 (ay l i).text []) (i+1+1+1)
 LG:∀ i L j e k,gq l i=true->aG l (i+1) dP=true->PL (i+1+1) L j->P 1 j e k->aG l k dU=true->P 10 i (.mk 6 0 (ay l i).text (L++[e])) (k+1)
 Zg:∀ i,aG l i qB=true->P 10 i (.mk 3 1 eS []) (i+1)
 Zh:∀ i,aG l i rV=true->P 10 i (.mk 3 0 eS []) (i+1)
 num:∀ i:Int,i<l.length->(ay l i).kind=3->P 10 i (.mk 1 (ay l i).n eS []) (i+1)
 txt:∀ i:Int,i<l.length->(ay l i).kind=4->P 10 i (.mk 2 0 (ay l i).text []) (i+1)
 AX:∀ i,gq l i=true->P 10 i (.mk 4 0 (ay l i).text []) (i+1)
 nil:∀ i,PL i [] i
 com:∀ i L j e k,PL i L j->P 1 j e k->aG l k kR=true->PL i (L++[e]) (k+1)
section
variable {s:ByteArray} {l:List Tok} {P:Int->Int->Ex->Int->Prop} {PL:Int->List Ex->Int->Prop} (G:Gr l P PL)
def yB(P:Int->Int->Ex->Int->Prop)(ex:jm):Prop:=∀ lv i,1<=lv->lv<=10->(ex lv i).die=false->P lv i (ex lv i).v (ex lv i).i
include G
theorem Zi{ex:jm}(h:yB P ex){lv:Int}(hl:lv=1∨lv=2∨lv=5∨lv=6)(i0:Int):∀(k:Nat)(x:Ex)(i:Int),P lv i0 x i->(kS s l ex lv k x i).die=false->P lv i0 (kS s l ex lv k x i).v (kS s l ex lv k x i).i
 | 0,x,i,_,hd=>by cases hd
 | k + 1, x, i, hx, hd => by
   unfold kS at hd ⊢;cases ho:cL l i lv with
   | false=>exact hx
   | true =>
     rw[ho] at hd;simp only[cond_true] at hd ⊢;cases hy:(ex (lv+1) (i+1)).die with
     | true=>rw[hy] at hd;simp only[cond_true] at hd;rw[hy] at hd;cases hd
     | false =>
       rw[hy] at hd;simp only[cond_false] at hd ⊢;have h4:decide (lv=4)=false:=decide_eq_false (by omega);rw[h4] at hd ⊢;exact Zi h hl i0 k _ _ (G.bin lv i0 x i _ _ hl hx ho (h _ _ (by omega) (by omega) hy)) hd
theorem lp4_gr{ex:jm}(h:yB P ex)(i0:Int)(k:Nat)(x:Ex)(i:Int)(hx:P 5 i0 x i)(hd:(kS s l ex 4 k x i).die=false):P 4 i0 (kS s l ex 4 k x i).v (kS s l ex 4 k x i).i:=by
 cases k with
 | zero=>cases hd
 | succ k =>
   unfold kS at hd ⊢;cases ho:cL l i 4 with
   | false=>exact G.up 4 _ _ _ (by omega) (by omega) hx
   | true =>
     rw[ho] at hd;simp only[cond_true] at hd ⊢;cases hy:(ex (4+1) (i+1)).die with
     | true=>rw[hy] at hd;simp only[cond_true] at hd;rw[hy] at hd;cases hd
     | false=>exact G.cmp i0 x i _ _ hx ho (h 5 _ (by omega) (by omega) hy)
theorem Zj{ex:jm}(h:yB P ex)(i0:Int):∀(k:Nat)(x:Ex)(i:Int),P 9 i0 x i->(oe s l ex k x i).die=false->P 9 i0 (oe s l ex k x i).v (oe s l ex k x i).i
 | 0,x,i,_,hd=>by cases hd
 | k + 1, x, i, hx, hd => by
   unfold oe at hd ⊢;cases ho:aG l i gM with
   | false=>exact hx
   | true =>
     rw[ho] at hd;simp only[cond_true] at hd ⊢;cases hy:(ex 1 (i+1)).die with
     | true=>rw[hy] at hd;simp only[cond_true] at hd;rw[hy] at hd;cases hd
     | false =>
       rw[hy] at hd;simp only[cond_false] at hd ⊢;cases h4:aG l (ex 1 (i+1)).i gK with
       | false=>rw[h4] at hd;cases hd
       | true =>
         rw[h4] at hd;exact Zj h i0 k _ _ (G.ix i0 x i _ _ hx ho (h _ _ (by omega) (by omega) hy) h4) hd
theorem Zk{ex:jm}(h:yB P ex)(t:ByteArray)(i0:Int):∀(k:Nat)(acc:List Ex)(i:Int),PL i0 acc i->(mK s l ex t k acc i).die=false->∃ L j e q,PL i0 L j/\P 1 j e q/\aG l q t=true/\(mK s l ex t k acc i).v=L++[e]/\(mK s l ex t k acc i).i=q+1
 | 0,acc,i,_,hd=>by cases hd
 | k + 1, acc, i, hx, hd => by
   unfold mK at hd ⊢;cases hy:(ex 1 i).die with
   | true=>rw[hy] at hd;cases hd
   | false =>
     rw[hy] at hd;simp only[cond_false] at hd ⊢;have hp:=h 1 i (by omega) (by omega) hy;cases h4:aG l (ex 1 i).i t with
     | true=>exact⟨_,_,_,_,hx,hp,h4,rfl,rfl⟩
     | false =>
       rw[h4] at hd;simp only[cond_false] at hd ⊢;cases h5:aG l (ex 1 i).i kR with
       | false=>rw[h5] at hd;cases hd
       | true =>
         rw[h5] at hd;exact Zk h t i0 k _ _ (G.com _ _ _ _ _ hx hp h5) hd
theorem Ot{ex:jm}(h:yB P ex)(t:ByteArray)(i:Int)(hd:(dG s l ex t i).die=false):(aG l i t=true/\(dG s l ex t i).v=[]/\(dG s l ex t i).i=i+1)∨∃ L j e q,PL i L j/\P 1 j e q/\aG l q t=true/\(dG s l ex t i).v=L++[e]/\(dG s l ex t i).i=q+1:=by
 unfold dG at hd ⊢;cases h4:aG l i t with
 | true=>exact .inl ⟨rfl,rfl,rfl⟩
 | false=>rw[h4] at hd;exact .inr (Zk G h t i _ _ _ (G.nil i) hd)
theorem abl{ex:jm}(h:yB P ex)(i:Int)(hd:(fY s l ex i).die=false):P 10 i (fY s l ex i).v (fY s l ex i).i:=by
 unfold fY at hd ⊢;cases h1:aG l i dP with
 | true =>
   rw[h1] at hd;simp only[cond_true] at hd ⊢;cases hx:(ex 1 (i+1)).die with
   | true=>rw[hx] at hd;simp only[cond_true] at hd;rw[hx] at hd;cases hd
   | false =>
     rw[hx] at hd;simp only[cond_false] at hd ⊢;cases h4:aG l (ex 1 (i+1)).i dU with
     | false=>rw[h4] at hd;cases hd
     | true=>exact G.iJ _ _ _ h1 (h _ _ (by omega) (by omega) hx) h4
 | false =>
 rw[h1] at hd;simp only[cond_false] at hd ⊢;cases h2:aG l i gM with
 | true =>
   rw[h2] at hd;simp only[cond_true] at hd ⊢;rcases Ot G h _ _ hd with ⟨a,b,c⟩|⟨L,j,e,q,a,b,c,d,f⟩;rw[b,c];exact G.QM i h2 a;rw[d,f];exact G.LF i L j e q h2 a b c
 | false =>
 rw[h2] at hd;simp only[cond_false] at hd ⊢;cases h3:aG l i qB with
 | true=>exact G.Zg i h3
 | false =>
 cases h4:aG l i rV with
 | true=>exact G.Zh i h4
 | false =>
 rw[h3,h4] at hd;simp only[cond_false] at hd ⊢;by_cases hi:(l.length:Int)<=i;rw[decide_eq_true hi] at hd;cases hd;rw[decide_eq_false hi] at hd ⊢;simp only[cond_false] at hd ⊢;have hi:i<l.length:=by omega
 by_cases h5:(ay l i).kind=3;rw[decide_eq_true h5];exact G.num i hi h5;by_cases h6:(ay l i).kind=4;rw[decide_eq_false h5,decide_eq_true h6];exact G.txt i hi h6;rw[decide_eq_false h5,decide_eq_false h6] at hd ⊢;simp only[cond_false] at hd ⊢;cases h7:gq l i with
 | false=>rw[h7] at hd;cases hd
 | true =>
 rw[h7] at hd;simp only[cond_true] at hd ⊢;cases h8:aG l (i+1) dP with
 | false=>exact G.AX i h7
 | true =>
   rw[h8] at hd;simp only[cond_true] at hd ⊢;rcases Ot G h _ _ hd with ⟨a,b,c⟩|⟨L,j,e,q,a,b,c,d,f⟩;rw[b,c];exact G.QN i h7 h8 a;rw[d,f];exact G.LG i L j e q h7 h8 a b c
theorem ex_gr{ex:jm}(h:yB P ex):yB P (su s l ex):=by
 intro lv i hl1 hl2 hd;unfold su at hd ⊢;by_cases c3:lv=3
 . subst c3;rw[decide_eq_true rfl] at hd ⊢;simp only[cond_true] at hd ⊢;unfold mL at hd ⊢;cases h1:aG l i iS with
   | false=>rw[h1] at hd;exact G.up 3 _ _ _ (by omega) (by omega) (h _ _ (by omega) (by omega) hd)
   | true =>
     rw[h1] at hd;simp only[cond_true] at hd ⊢;cases hx:(ex 3 (i+1)).die with
     | true=>rw[hx] at hd;simp only[cond_true] at hd;rw[hx] at hd;cases hd
     | false=>exact G.Ze _ _ _ h1 (h _ _ (by omega) (by omega) hx)
 by_cases c7:lv=7
 . subst c7;rw[decide_eq_false c3,decide_eq_true rfl] at hd ⊢;simp only[cond_true,cond_false] at hd ⊢;unfold mL at hd ⊢;cases h1:aG l i fP with
   | false=>rw[h1] at hd;exact G.up 7 _ _ _ (by omega) (by omega) (h _ _ (by omega) (by omega) hd)
   | true =>
     rw[h1] at hd;simp only[cond_true] at hd ⊢;cases hx:(ex 7 (i+1)).die with
     | true=>rw[hx] at hd;simp only[cond_true] at hd;rw[hx] at hd;cases hd
     | false=>exact G.Zf _ _ _ h1 (h _ _ (by omega) (by omega) hx)
 by_cases c8:lv=8
 . subst c8;rw[decide_eq_false c3,decide_eq_false c7,decide_eq_true rfl] at hd ⊢;simp only[cond_true,cond_false] at hd ⊢;unfold vk at hd ⊢;cases hx:(ex 9 i).die with
   | true=>rw[hx] at hd;simp only[cond_true] at hd;rw[hx] at hd;cases hd
   | false =>
   rw[hx] at hd;simp only[cond_false] at hd ⊢;have hp:=h 9 i (by omega) (by omega) hx;cases ho:cL l (ex 9 i).i 8 with
   | false=>exact G.up 8 _ _ _ (by omega) (by omega) hp
   | true =>
   rw[ho] at hd;simp only[cond_true] at hd ⊢;cases hy:(ex 7 ((ex 9 i).i+1)).die with
   | true=>rw[hy] at hd;simp only[cond_true] at hd;rw[hy] at hd;cases hd
   | false=>exact G.pow _ _ _ _ _ hp ho (h _ _ (by omega) (by omega) hy)
 by_cases c9:lv=9
 . subst c9;rw[decide_eq_false c3,decide_eq_false c7,decide_eq_false c8,decide_eq_true rfl] at hd ⊢;simp only[cond_true,cond_false] at hd ⊢;cases hx:(ex 10 i).die with
   | true=>rw[hx] at hd;simp only[cond_true] at hd;rw[hx] at hd;cases hd
   | false =>
   rw[hx] at hd;exact Zj G h i _ _ _ (G.up 9 _ _ _ (by omega) (by omega) (h _ _ (by omega) (by omega) hx)) hd
 by_cases c10:lv=10;subst c10;rw[decide_eq_false c3,decide_eq_false c7,decide_eq_false c8,decide_eq_false c9,decide_eq_true rfl] at hd ⊢;exact abl G h i hd;rw[decide_eq_false c3,decide_eq_false c7,decide_eq_false c8,decide_eq_false c9,decide_eq_false c10] at hd ⊢;simp only[cond_false] at hd ⊢;cases hx:(ex (lv+1) i).die with
 | true=>rw[hx] at hd;simp only[cond_true] at hd;rw[hx] at hd;cases hd
 | false =>
 rw[hx] at hd;simp only[cond_false] at hd ⊢;have hp:=h (lv+1) i (by omega) (by omega) hx;by_cases c4:lv=4;subst c4;exact lp4_gr G h i _ _ _ hp hd;exact Zi G h (by omega) i _ _ _ (G.up lv _ _ _ (by omega) (by omega) hp) hd
theorem Iy:∀ n,yB P (bP s l n)
 | 0=>fun _ _ _ _ hd=>by cases hd
 | n+1=>ex_gr G (Iy n)
end
def dY(t:ByteArray):Tok:=⟨5,t,0,0⟩
def wN(t:ByteArray):Tok:=⟨2,t,0,0⟩
def yS(t:ByteArray):Tok:=bif fu (aT t 0) then wN t else dY t
def qF(p:Int×List Tok)(pl:Int):List Tok:=bif decide (p.1<pl) then dY dP::(p.2++[dY dU]) else p.2
def mY:List (List Tok)->List Tok
 | []=>[]
 | [x]=>x
 | x::y::l=>x++(dY kR::mY (y::l))
def Ou(ps:List (Int×List Tok))(i:Nat):Int×List Tok:=ps.getD i (0,[])
def pW(lv:Int):Int:=bif decide (lv=8) then 9 else bif decide (lv=4) then 5 else lv
def yU(lv:Int):Int:=bif decide (lv=8) then 7 else lv+1
def tkK(k n:Int)(t:ByteArray)(ps:List (Int×List Tok)):List Tok :=
 bif decide (k=1) then [⟨3,eS,n,0⟩] else
 bif decide (k=2) then [⟨4,t,0,0⟩] else
 bif decide (k=3) then [wN (rY (decide (n=1)))] else
 bif decide (k=5) then dY gM::(mY (ps.map (qF · 1))++[dY gK]) else
 bif decide (k=6) then ⟨1,t,0,0⟩::dY dP::(mY (ps.map (qF · 1))++[dY dU]) else
 bif decide (k=7) then qF (Ou ps 0) 9++(dY gM::(qF (Ou ps 1) 1++[dY gK])) else
 bif decide (k=8) then(bif decide (cZ k t=3) then wN iS::qF (Ou ps 0) (cZ k t) else dY fP::qF (Ou ps 0) (cZ k t)) else
 bif decide (k=9) then qF (Ou ps 0) (pW (cZ k t))++(yS t::qF (Ou ps 1) (yU (cZ k t))) else [⟨1,t,0,0⟩]
mutual
def Ex.tp:Ex->Int×List Tok
 | .mk k n t l=>(cZ k t,tkK k n t (Ex.ET l))
def Ex.ET:List Ex->List (Int×List Tok)
 | []=>[]
 | e::m=>e.tp::Ex.ET m
end
def Ex.gZ(e:Ex):List Tok:=e.tp.2
def Ex.lv(e:Ex):Int:=cZ e.k e.t
def Ex.tk(e:Ex)(pl:Int):List Tok:=qF (e.lv,e.gZ) pl
theorem Ex.tp_eq(e:Ex):e.tp=(e.lv,e.gZ):=by cases e;rw[Ex.gZ,Ex.tp];rfl
theorem Ex.ol(k n:Int)(t:ByteArray)(l:List Ex):(Ex.mk k n t l).gZ=tkK k n t (Ex.ET l):=by rw[Ex.gZ,Ex.tp]
theorem Ex.abm:Ex.ET []=[]:=by rw[Ex.ET]
theorem Ex.oH(e:Ex)(l:List Ex):Ex.ET (e::l)=(e.lv,e.gZ)::Ex.ET l:=by rw[Ex.ET,Ex.tp_eq]
theorem Ex.Ov(l:List Ex)(pl:Int):(Ex.ET l).map (qF · pl)=l.map fun e=>e.tk pl:=by
 induction l with
 | nil=>rw[Ex.abm];rfl
 | cons e l ih=>rw[Ex.oH,List.map_cons,List.map_cons,ih];rfl
theorem BJ(n:Int):(Ex.mk 1 n eS []).gZ=[⟨3,eS,n,0⟩]:=by rw[Ex.ol];rfl
theorem BK(t:ByteArray):(Ex.mk 2 0 t []).gZ=[⟨4,t,0,0⟩]:=by rw[Ex.ol];rfl
theorem wO(n:Int):(Ex.mk 3 n eS []).gZ=[wN (rY (decide (n=1)))]:=by rw[Ex.ol];rfl
theorem BL(t:ByteArray):(Ex.mk 4 0 t []).gZ=[⟨1,t,0,0⟩]:=by rw[Ex.ol];rfl
theorem wP(L:List Ex):(Ex.mk 5 0 eS L).gZ=dY gM::(mY (L.map fun e=>e.tk 1)++[dY gK]):=by rw[Ex.ol,<-Ex.Ov];rfl
theorem wQ(t:ByteArray)(L:List Ex):(Ex.mk 6 0 t L).gZ=⟨1,t,0,0⟩::dY dP::(mY (L.map fun e=>e.tk 1)++[dY dU]):=by rw[Ex.ol,<-Ex.Ov];rfl
theorem EU(x y:Ex):(tF x y).gZ=x.tk 9++(dY gM::(y.tk 1++[dY gK])):=by rw[tF,Ex.ol,Ex.oH,Ex.oH];rfl
theorem BM(x:Ex):(lq iS x).gZ=wN iS::x.tk 3:=by rw[lq,Ex.ol,Ex.oH];rfl
theorem BN(x:Ex):(lq fP x).gZ=dY fP::x.tk 7:=by
 rw[lq,Ex.ol,Ex.oH];have:cZ 8 fP=7:=by decide
 show (bif decide (cZ 8 fP=3) then _ else dY fP::qF (x.lv,x.gZ) (cZ 8 fP))=_;rw[this];rfl
theorem BO(t:ByteArray)(x y:Ex):(gT t x y).gZ=x.tk (pW (dM t))++(yS t::y.tk (yU (dM t))):=by rw[gT,Ex.ol,Ex.oH,Ex.oH];rfl
theorem rH(t:ByteArray)(x y:Ex):(gT t x y).lv=dM t:=rfl
theorem rI(x:Ex):(lq iS x).lv=3:=by show cZ 8 iS=3;decide
theorem rJ(x:Ex):(lq fP x).lv=7:=by show cZ 8 fP=7;decide
theorem Iz(x y:Ex):(tF x y).lv=9:=rfl
theorem kQ{e:Ex}{pl:Int}(h:pl<=e.lv):e.tk pl=e.gZ:=by unfold Ex.tk qF;rw[decide_eq_false (by show ¬e.lv<pl;omega)];rfl
theorem uL{e:Ex}{pl:Int}(h:e.lv<pl):e.tk pl=dY dP::(e.gZ++[dY dU]):=by unfold Ex.tk qF;rw[decide_eq_true (by exact h)];rfl
theorem Ow(n:Int):(Ex.mk 1 n eS []).jc=AK n:=by rw[Ex.kO];rfl
theorem Ox(t:ByteArray):(Ex.mk 2 0 t []).jc=kM++t++kM:=by rw[Ex.kO];rfl
theorem FY(n:Int):(Ex.mk 3 n eS []).jc=rY (decide (n=1)):=by rw[Ex.kO];rfl
theorem Oy(t:ByteArray):(Ex.mk 4 0 t []).jc=t:=by rw[Ex.kO];rfl
theorem FZ(L:List Ex):(Ex.mk 5 0 eS L).jc=gM++cr (L.map fun e=>e.wr 1) iC++gK:=by rw[Ex.kO,<-Ex.wK];rfl
theorem F4(t:ByteArray)(L:List Ex):(Ex.mk 6 0 t L).jc=t++dP++cr (L.map fun e=>e.wr 1) iC++dU:=by rw[Ex.kO,<-Ex.wK];rfl
theorem Uy(x y:Ex):(tF x y).jc=x.wr 9++gM++y.wr 1++gK:=by rw[tF,Ex.kO,Ex.j5,Ex.j5];rfl
theorem Oz(x:Ex):(lq iS x).jc=Dv++x.wr 3:=by rw[lq,Ex.kO,Ex.j5];rfl
theorem OA(x:Ex):(lq fP x).jc=fP++x.wr 7:=by
 rw[lq,Ex.kO,Ex.j5];have:cZ 8 fP=7:=by decide
 show (bif decide (cZ 8 fP=3) then _ else fP++iJ (cZ x.k x.t,x.jc) (cZ 8 fP))=_;rw[this];rfl
theorem OB{t:ByteArray}(h:dM t=8)(x y:Ex):(gT t x y).jc=x.wr 9++rZ++y.wr 7:=by
 rw[gT,Ex.kO,Ex.j5,Ex.j5];show CM (dM t) t (cZ x.k x.t,x.jc) (cZ y.k y.t,y.jc)=_;unfold CM;rw[decide_eq_true h];rfl
theorem OC{t:ByteArray}(h:dM t≠8)(x y:Ex):(gT t x y).jc=x.wr (pW (dM t))++rD++t++rD++y.wr (yU (dM t)):=by
 rw[gT,Ex.kO,Ex.j5,Ex.j5];show CM (dM t) t (cZ x.k x.t,x.jc) (cZ y.k y.t,y.jc)=_;unfold CM pW yU;rw[decide_eq_false h];by_cases h4:dM t=4;rw[decide_eq_true h4,h4];rfl;rw[decide_eq_false h4];rfl
theorem nH{e:Ex}{pl:Int}(h:pl<=e.lv):e.wr pl=e.jc:=by unfold Ex.wr iJ;rw[decide_eq_false (by show ¬e.lv<pl;omega)];rfl
theorem EV{e:Ex}{pl:Int}(h:e.lv<pl):e.wr pl=dP++e.jc++dU:=by unfold Ex.wr iJ;rw[decide_eq_true (by exact h)];rfl
theorem pX(t:ByteArray):dM t=0∨dM t=1∨dM t=2∨dM t=4∨dM t=5∨dM t=6∨dM t=8:=by
 have key:∀ l:List (ByteArray×Int),(∀ p∈l,p.2=1∨p.2=2∨p.2=4∨p.2=5∨p.2=6∨p.2=8)->dz .str (.int .i64) l t=0∨(dz .str (.int .i64) l t:Int)=1∨(dz .str (.int .i64) l t:Int)=2∨(dz .str (.int .i64) l t:Int)=4∨(dz .str (.int .i64) l t:Int)=5∨(dz .str (.int .i64) l t:Int)=6∨(dz .str (.int .i64) l t:Int)=8:=by
  intro l
  induction l with
  | nil=>intro _;exact .inl rfl
  | cons p l ih =>
    intro h;obtain⟨a,b⟩:=p;have h1:=h (a,b) (List.mem_cons_self ..);have h2:=ih fun q hq=>h q (List.mem_cons_of_mem _ hq);unfold dz mH at h2 ⊢;unfold mH;cases hb:D.kD .str t a with
    | true=>exact .inr h1
    | false=>exact h2
 exact key tE (by decide)
theorem LH{t:ByteArray}(h:0<dM t):t∈tE.map Prod.fst:=by
 have key : ∀ l : List (ByteArray × Int), (dz .str (.int .i64) l t : Int) ≠ 0 → t ∈ l.map Prod.fst := by
  intro l
  induction l with
  | nil=>intro h;exact absurd rfl h
  | cons p l ih =>
    intro h;obtain⟨a,b⟩:=p;unfold dz mH at h;cases hb:D.kD .str t a with
    | true =>
      have e:t=a:=(D.Gp rfl).1 hb;rw[e];exact List.mem_cons_self ..
    | false =>
      rw[hb] at h;exact List.mem_cons_of_mem _ (ih h)
 exact key tE (by show dM t≠0;omega)
theorem sN{M:Ex->Prop}(num:∀ n,0<=n->n<=1000000000000000->M (.mk 1 n eS []))
 (txt:∀ t,t.size<=200->aN cD t 0=t.size->M (.mk 2 0 t [])) (boo:∀ n,(n=0∨n=1)->M (.mk 3 n eS [])) (AX:∀ t,cH t=true->M (.mk 4 0 t []))
 (LF:∀ L,(∀ e∈L,e.fin=true/\M e)->M (.mk 5 0 eS L)) (LG:∀ t L,cH t=true->(∀ e∈L,e.fin=true/\M e)->M (.mk 6 0 t L))
 (ix:∀ x y,x.fin=true->y.fin=true->M x->M y->M (tF x y)) (nt:∀ x,x.fin=true->M x->M (lq iS x)) (neg:∀ x,x.fin=true->M x->M (lq fP x))
 (bin:∀ t x y,0<dM t->x.fin=true->y.fin=true->M x->M y->M (gT t x y)):∀(n:Nat)(e:Ex),e.ct<=n->e.fin=true->M e
 | 0,e,hs,_=>by have:=Ex.eT e;omega
 | n + 1, .mk k m t l, hs, h => by
   have H:=sN num txt boo AX LF LG ix nt neg bin n;rw[Ex.fin,Bool.and_eq_true] at h;have hs:Ex.aM l<=n:=by rw[oh] at hs;omega
   have hm:∀ e∈l,e.fin=true/\M e:=fun e he=>⟨wM h.1 he,H e (by have:=Ex.iY he;omega) (wM h.1 he)⟩;have nil:l.length=0->l=[]:=List.eq_nil_of_length_eq_zero;rcases jL h.2 with g|g|g|g|g|g|g|g|g;obtain⟨rfl,a,b,c,rfl⟩:=g;rw[nil c];exact num _ a b;obtain⟨rfl,a,b,c,rfl⟩:=g;rw[nil c];exact txt _ a b;obtain⟨rfl,a,c,rfl⟩:=g;rw[nil c];exact boo _ a;obtain⟨rfl,a,c,rfl⟩:=g;rw[nil c];exact AX _ a;obtain⟨rfl,rfl,rfl⟩:=g;exact LF _ hm;obtain⟨rfl,a,rfl⟩:=g;exact LG _ _ a hm
   . obtain⟨rfl,c,rfl,rfl⟩:=g
     match l,c,hm with
     | [x,y],_,hm=>exact ix x y (hm x (by simp)).1 (hm y (by simp)).1 (hm x (by simp)).2 (hm y (by simp)).2
   . obtain⟨rfl,a,c,rfl⟩:=g
     match l,c,hm with
     | [x],_,hm =>
       rcases a with rfl|rfl;exact neg x (hm x (by simp)).1 (hm x (by simp)).2;exact nt x (hm x (by simp)).1 (hm x (by simp)).2
   obtain⟨rfl,a,c,rfl⟩:=g
   match l,c,hm with
   | [x,y],_,hm=>exact bin t x y a (hm x (by simp)).1 (hm y (by simp)).1 (hm x (by simp)).2 (hm y (by simp)).2
structure QO(t:Tok):Prop where
 num:t.kind=3->0<=t.n/\t.n<=1000000000000000
 txt:t.kind=4->t.text.size<=200/\aN cD t.text 0=t.text.size
 AX:t.kind=1->cH t.text=true
theorem qG{l:List Tok}{i:Int}(h:(ay l i).kind≠0):ay l i∈l:=by
 unfold ay at h ⊢;rw[List.getD_eq_getElem?_getD] at h ⊢;cases hg:l[i.toNat]? with
 | none=>rw[hg] at h;exact absurd rfl h
 | some t=>exact List.mem_of_getElem? hg
theorem sO{l:List Tok}{i:Int}(h:gq l i=true):(ay l i).kind=1:=by
 unfold gq at h;simp only[Bool.and_eq_true,decide_eq_true_eq] at h;exact h.2
theorem qO{l:List Tok}{i lv:Int}(h:cL l i lv=true):dM (ay l i).text=lv/\aG l i (ay l i).text=true:=by
 unfold cL at h;simp only[Bool.and_eq_true,decide_eq_true_eq] at h;exact⟨h.2.2,h.2.1⟩
theorem BP{l:List Tok}{i:Int}{x:ByteArray}(h:aG l i x=true):(ay l i).text=x/\((ay l i).kind=5∨(ay l i).kind=2):=by
 unfold aG at h;simp only[Bool.and_eq_true,Bool.or_eq_true,decide_eq_true_eq] at h;exact h.2
theorem gW{k n:Int}{t:ByteArray}{L:List Ex}(h1:Ex.iy L=true)(h2:rX k n t L.length=true):(Ex.mk k n t L).fin=true:=by rw[Ex.fin,h1,h2];rfl
theorem qH{e:Ex}(h:e.fin=true):Ex.iy [e]=true:=by rw[Ex.kL,h,Ex.gY];rfl
theorem DB{x y:Ex}(h:x.fin=true)(h':y.fin=true):Ex.iy [x,y]=true:=by rw[Ex.kL,h,qH h'];rfl
theorem uM{e:Ex}:∀{L:List Ex},Ex.iy L=true->e.fin=true->Ex.iy (L++[e])=true
 | [],_,h=>qH h
 | x::L,hL,h=>by
   rw[Ex.kL,Bool.and_eq_true] at hL;rw[List.cons_append,Ex.kL,hL.1,uM hL.2 h];rfl
theorem BQ{t:ByteArray}{x y:Ex}(h:0<dM t)(hx:x.fin=true)(hy:y.fin=true):(gT t x y).fin=true :=
 gW (DB hx hy) (by show (decide (0<dM t)&&_&&_)=true;rw[decide_eq_true h];rfl)
theorem gr_fin{l:List Tok}(H:∀ t∈l,QO t):Gr l (fun _ _ e _=>e.fin=true) (fun _ L _=>Ex.iy L=true) where
 up:=fun _ _ _ _ _ _ h=>h
 bin:=fun lv i x j y k hl hx ho hy=>BQ (by rw[(qO ho).1];omega) hx hy
 cmp:=fun i x j y k hx ho hy=>BQ (by rw[(qO ho).1];omega) hx hy
 pow:=fun i x j y k hx ho hy=>BQ (by rw[(qO ho).1];omega) hx hy
 Ze:=fun i x j _ hx=>gW (qH hx) rfl
 Zf:=fun i x j _ hx=>gW (qH hx) rfl
 ix:=fun i x j y k hx _ hy _=>gW (DB hx hy) rfl
 iJ:=fun i x j _ hx _=>hx
 QM:=fun i _ _=>gW Ex.gY rfl
 LF:=fun i L j e k _ hL he _=>gW (uM hL he) rfl
 QN:=fun i h _ _=>gW Ex.gY (by show (cH _&&_)=true;rw[(H _ (qG (by rw[sO h];decide))).AX (sO h)];rfl)
 LG:=fun i L j e k h _ hL he _=>gW (uM hL he) (by show (cH _&&_)=true;rw[(H _ (qG (by rw[sO h];decide))).AX (sO h)];rfl)
 Zg:=fun i _=>gW Ex.gY rfl
 Zh:=fun i _=>gW Ex.gY rfl
 num:=fun i _ h=>gW Ex.gY (by
  have:=(H _ (qG (by rw[h];decide))).num h;show (decide _&&decide _&&_&&_)=true;rw[decide_eq_true this.1,decide_eq_true this.2];rfl)
 txt:=fun i _ h=>gW Ex.gY (by
  have:=(H _ (qG (by rw[h];decide))).txt h;show (decide _&&decide _&&_&&_)=true;rw[decide_eq_true (p:=((ay l i).text.size:Int)<=200) (by omega),decide_eq_true (p:=(aN cD (ay l i).text 0:Int)=(ay l i).text.size) (by omega)];rfl)
 AX:=fun i h=>gW Ex.gY (by show (cH _&&_&&_)=true;rw[(H _ (qG (by rw[sO h];decide))).AX (sO h)];rfl)
 nil:=fun i=>Ex.gY
 com:=fun i L j e k hL he _=>uM hL he
def sw(w:Tok->Nat)(l:List Tok):Nat->Nat
 | 0=>0
 | n+1=>sw w l n+w (ay l (n:Int))
def wS(w:Tok->Nat)(l:List Tok)(i:Int):Int:=(sw w l i.toNat:Int)
theorem eC(w:Tok->Nat)(l:List Tok){i:Int}(h:0<=i):wS w l (i+1)=wS w l i+w (ay l i):=by
 obtain⟨n,rfl⟩:∃ n:Nat,i=n:=⟨i.toNat,by omega⟩;unfold wS;rw[show ((n:Int)+1).toNat=n+1 by omega,Int.toNat_natCast,sw];omega
def wT(t:Tok):Bool:=decide (t.text=dP)&&(decide (t.kind=5)||decide (t.kind=2))
def w1(t:Tok):Nat:=bif wT t then 1 else 0
def pc(ts:List Tok):Nat:=(ts.map w1).sum
theorem EW:pc []=0:=rfl
theorem fF(t:Tok)(ts:List Tok):pc (t::ts)=w1 t+pc ts:=by unfold pc;rw[List.map_cons,List.sum_cons]
theorem lD(a b:List Tok):pc (a++b)=pc a+pc b:=by unfold pc;rw[List.map_append,List.sum_append]
theorem Zl:∀ l:List (List Tok),pc (mY l)=(l.map pc).sum
 | []=>rfl
 | [x]=>by rw[mY];simp
 | x::y::l=>by
   have:=Zl (y::l);rw[mY,lD,fF,this,List.map_cons,List.map_cons,List.sum_cons,List.sum_cons,List.map_cons,List.sum_cons];have:w1 (dY kR)=0:=by decide
   omega
theorem abn(e:Ex){a b:Int}(h:a<=b):pc (e.tk a)<=pc (e.tk b):=by
 by_cases ha:e.lv<a;rw[uL ha,uL (show e.lv<b by omega)];exact Nat.le_refl _;rw[kQ (by omega:a<=e.lv)];by_cases hb:e.lv<b;rw[uL hb,fF,lD];omega;rw[kQ (by omega:b<=e.lv)];exact Nat.le_refl _
theorem XM(e:Ex){a:Int}:pc (e.tk a)<=pc e.gZ+1:=by
 by_cases ha:e.lv<a;rw[uL ha,fF,lD,fF,EW];have:w1 (dY dP)=1:=by decide
 have:w1 (dY dU)=0:=by decide
 omega;rw[kQ (by omega:a<=e.lv)];omega
theorem Uz{e:Ex}(h:e.fin=true):1<=e.lv:=by
 refine sN (M:=fun e=>1<=e.lv) ?_ ?_ ?_ ?_ ?_ ?_ ?_ ?_ ?_ ?_ e.ct e (Nat.le_refl _) h;intro n _ _;show (1:Int)<=10;omega;intro n _ _;show (1:Int)<=10;omega;intro n _;show (1:Int)<=10;omega;intro n _;show (1:Int)<=10;omega;intro n _;show (1:Int)<=10;omega;intro n L _ _;show (1:Int)<=10;omega;intro x y _ _ _ _;show (1:Int)<=9;omega;intro x _ _;rw[rI];omega;intro x _ _;rw[rJ];omega;intro t x y ht _ _ _ _;rw[rH];omega
theorem w1_op{l:List Tok}{i lv:Int}(h:cL l i lv=true):w1 (yS (ay l i).text)<=w1 (ay l i):=by
 have hk:=(BP (qO h).2).2;have e:wT (yS (ay l i).text)=decide ((ay l i).text=dP):=by
  unfold yS;cases fu (aT (ay l i).text 0) with
  | true=>exact Bool.and_true _
  | false=>exact Bool.and_true _
 have e2:wT (ay l i)=decide ((ay l i).text=dP):=by
  unfold wT;rcases hk with hk|hk<;>rw[hk]<;>simp
 unfold w1;rw[e,e2];exact Nat.le_refl _
theorem QS{l:List Tok}{i:Int}(h:aG l i dP=true):w1 (ay l i)=1:=by
 obtain⟨a,b⟩:=BP h;unfold w1 wT;rw[decide_eq_true a];rcases b with b|b<;>rw[b]<;>rfl
section
variable (l:List Tok)
def UA(lv i:Int)(e:Ex)(j:Int):Prop:=0<=i->i<j/\((pc (e.tk lv):Nat):Int)<=wS w1 l j-wS w1 l i
def PcL(i:Int)(L:List Ex)(j:Int):Prop:=0<=i->i<=j/\(((L.map fun e=>pc (e.tk 1)).sum:Nat):Int)<=wS w1 l j-wS w1 l i
variable {l}
theorem OD(L:List Ex)(e:Ex):pc (mY ((L++[e]).map fun e=>e.tk 1))=(L.map fun e=>pc (e.tk 1)).sum+pc (e.tk 1):=by
 rw[Zl,List.map_map,List.map_append,List.sum_append];have:(List.map (pc ∘ fun e:Ex=>e.tk 1) L)=L.map fun e=>pc (e.tk 1):=rfl;rw[this];simp
theorem wU{e:Ex}{i:Int}(he:e.lv=10)(h0:pc e.gZ=0):UA l 10 i e (i+1):=by
 intro hi;rw[kQ (by omega:10<=e.lv),h0,eC _ _ hi];omega
theorem LI{lv i:Int}{x:Ex}{j:Int}{y:Ex}{k:Int}(hx:UA l (pW lv) i x j)(ho:cL l j lv=true)(hy:UA l (yU lv) (j+1) y k):UA l lv i (gT (ay l j).text x y) k:=by
 intro hi;obtain⟨a1,a2⟩:=hx hi;obtain⟨b1,b2⟩:=hy (by omega);have hl:=(qO ho).1;have hw:=w1_op ho;rw[kQ (by rw[rH,hl];exact Int.le_refl _),BO,hl,lD,fF];have:=eC w1 l (i:=j) (by omega);exact⟨by omega,by omega⟩
theorem gr_pc:Gr l (UA l) (PcL l) where
 up:=fun lv i e j _ _ h hi=>⟨(h hi).1,Int.le_trans (Int.ofNat_le.2 (abn e (by omega))) (h hi).2⟩
 bin:=fun lv i x j y k hl hx ho hy=>LI (lv:=lv) (by
  have:pW lv=lv:=by rcases hl with rfl|rfl|rfl|rfl<;>rfl
  rw[this];exact hx) ho (by
  have:yU lv=lv+1:=by rcases hl with rfl|rfl|rfl|rfl<;>rfl
  rw[this];exact hy)
 cmp:=fun i x j y k hx ho hy=>LI (lv:=4) hx ho hy
 pow:=fun i x j y k hx ho hy=>LI (lv:=8) hx ho hy
 Ze:=fun i x j h hx hi=>by
  obtain⟨a1,a2⟩:=hx (by omega);rw[kQ (by rw[rI];exact Int.le_refl _),BM,fF];have:=eC w1 l hi;have:w1 (wN iS)=0:=by decide
  exact⟨by omega,by omega⟩
 Zf:=fun i x j h hx hi=>by
  obtain⟨a1,a2⟩:=hx (by omega);rw[kQ (by rw[rJ];exact Int.le_refl _),BN,fF];have:=eC w1 l hi;have:w1 (dY fP)=0:=by decide
  exact⟨by omega,by omega⟩
 ix:=fun i x j y k hx h hy h' hi=>by
  obtain⟨a1,a2⟩:=hx hi;obtain⟨b1,b2⟩:=hy (by omega);rw[kQ (by rw[Iz];exact Int.le_refl _),EU,lD,fF,lD,fF,EW];have:=eC w1 l (i:=j) (by omega);have:=eC w1 l (i:=k) (by omega);have:w1 (dY gM)=0:=by decide
  have:w1 (dY gK)=0:=by decide
  exact⟨by omega,by omega⟩
 iJ:=fun i x j h hx h' hi=>by
  obtain⟨a1,a2⟩:=hx (by omega);have:=eC w1 l hi;have:=eC w1 l (i:=j) (by omega);have:=QS h;have h1:pc x.gZ<=pc (x.tk 1):=by
   by_cases hx:x.lv<1;rw[uL hx,fF,lD];omega;rw[kQ (by omega:1<=x.lv)];exact Nat.le_refl _
  have h2:=XM x (a:=10);exact⟨by omega,by omega⟩
 QM:=fun i h h' hi=>by
  rw[kQ (show (10:Int)<=10 by omega),wP];have:=eC w1 l hi;have:=eC w1 l (i:=i+1) (by omega);have:pc (dY gM::(mY (([]:List Ex).map fun e=>e.tk 1)++[dY gK]))=0:=by decide
  exact⟨by omega,by omega⟩
 LF:=fun i L j e k h hL he h' hi=>by
  obtain⟨a1,a2⟩:=hL (by omega);obtain⟨b1,b2⟩:=he (by omega);rw[kQ (show (10:Int)<=10 by omega),wP,fF,lD,fF,EW,OD];have:=eC w1 l hi;have:=eC w1 l (i:=k) (by omega);have:w1 (dY gM)=0:=by decide
  have:w1 (dY gK)=0:=by decide
  exact⟨by omega,by omega⟩
 QN:=fun i h h1 h' hi=>by
  rw[kQ (show (10:Int)<=10 by omega),wQ];have:=eC w1 l hi;have:=eC w1 l (i:=i+1) (by omega);have:=eC w1 l (i:=i+1+1) (by omega);have:=QS h1;have:pc (⟨1,(ay l i).text,0,0⟩::dY dP::(mY (([]:List Ex).map fun e=>e.tk 1)++[dY dU]))=1:=by
   rw[fF];have:w1 ⟨1,(ay l i).text,0,0⟩=0:=by unfold w1 wT;rw[show (decide ((1:Int)=5)||decide ((1:Int)=2))=false by decide,Bool.and_false];rfl
   rw[this];decide
  exact⟨by omega,by omega⟩
 LG:=fun i L j e k h h1 hL he h' hi=>by
  obtain⟨a1,a2⟩:=hL (by omega);obtain⟨b1,b2⟩:=he (by omega);rw[kQ (show (10:Int)<=10 by omega),wQ,fF,fF,lD,fF,EW,OD];have:=eC w1 l hi;have:=eC w1 l (i:=i+1) (by omega);have:=eC w1 l (i:=k) (by omega);have:=QS h1;have:w1 (dY dP)=1:=by decide
  have:w1 (dY dU)=0:=by decide
  have:w1 ⟨1,(ay l i).text,0,0⟩=0:=by unfold w1 wT;rw[show (decide ((1:Int)=5)||decide ((1:Int)=2))=false by decide,Bool.and_false];rfl
  exact⟨by omega,by omega⟩
 Zg:=fun i _=>wU rfl (by rw[wO];decide)
 Zh:=fun i _=>wU rfl (by rw[wO];decide)
 num:=fun i _ _=>wU rfl (by rw[BJ,fF];unfold w1 wT;rw[show (decide ((3:Int)=5)||decide ((3:Int)=2))=false by decide,Bool.and_false];rfl)
 txt:=fun i _ _=>wU rfl (by rw[BK,fF];unfold w1 wT;rw[show (decide ((4:Int)=5)||decide ((4:Int)=2))=false by decide,Bool.and_false];rfl)
 AX:=fun i _=>wU rfl (by rw[BL,fF];unfold w1 wT;rw[show (decide ((1:Int)=5)||decide ((1:Int)=2))=false by decide,Bool.and_false];rfl)
 nil:=fun i hi=>⟨Int.le_refl _,by simp⟩
 com:=fun i L j e k hL he h hi=>by
  obtain⟨a1,a2⟩:=hL hi;obtain⟨b1,b2⟩:=he (by omega);have:=eC w1 l (i:=k) (by omega);rw[List.map_append,List.sum_append];have:(List.map (fun e:Ex=>pc (e.tk 1)) [e]).sum=pc (e.tk 1):=by simp
  exact⟨by omega,by omega⟩
end
def w2(t:Tok):Nat:=t.text.size+25
theorem abo(e:Ex){a b:Int}(h:a<=b):(e.wr a).size<=(e.wr b).size:=by
 by_cases ha:e.lv<a;rw[EV ha,EV (show e.lv<b by omega)];exact Nat.le_refl _;rw[nH (by omega:a<=e.lv)];by_cases hb:e.lv<b;rw[EV hb,aD,aD];omega;rw[nH (by omega:b<=e.lv)];exact Nat.le_refl _
theorem XO(e:Ex)(a:Int):(e.wr a).size<=e.jc.size+2:=jy (cZ e.k e.t,e.jc) a
theorem abp(e:Ex)(a:Int):e.jc.size<=(e.wr a).size:=by
 by_cases ha:e.lv<a;rw[EV ha,aD,aD];omega;rw[nH (by omega:a<=e.lv)];exact Nat.le_refl _
section
variable (l:List Tok)
def UB(lv i:Int)(e:Ex)(j:Int):Prop:=0<=i->i<j/\(((e.wr lv).size:Nat):Int)<=wS w2 l j-wS w2 l i
def SzL(i:Int)(L:List Ex)(j:Int):Prop:=0<=i->i<=j/\(((L.map fun e=>(e.wr 1).size+2).sum:Nat):Int)<=wS w2 l j-wS w2 l i
variable {l}
theorem OE(L:List Ex)(e:Ex):(cr ((L++[e]).map fun e=>e.wr 1) iC).size<=(L.map fun e=>(e.wr 1).size+2).sum+((e.wr 1).size+2):=by
 refine Nat.le_trans (rF _ _) ?_;rw[List.map_map,List.map_append,List.sum_append];have:(List.map ((fun x:ByteArray=>x.size+iC.size) ∘ fun e:Ex=>e.wr 1) L)=L.map fun e=>(e.wr 1).size+2:=rfl;rw[this];have:(List.map ((fun x:ByteArray=>x.size+iC.size) ∘ fun e:Ex=>e.wr 1) [e]).sum=(e.wr 1).size+2:=by simp;rfl
 omega
theorem mN(t:Tok):25<=w2 t:=by unfold w2;omega
theorem wV{e:Ex}{i:Int}(he:e.lv=10)(h0:e.jc.size<=w2 (ay l i)):UB l 10 i e (i+1):=by
 intro hi;rw[nH (by omega:10<=e.lv),eC _ _ hi];omega
theorem LJ{lv i:Int}{x:Ex}{j:Int}{y:Ex}{k:Int}(hx:UB l (pW lv) i x j)(ho:cL l j lv=true)(hy:UB l (yU lv) (j+1) y k):UB l lv i (gT (ay l j).text x y) k:=by
 intro hi;obtain⟨a1,a2⟩:=hx hi;obtain⟨b1,b2⟩:=hy (by omega);have hl:=(qO ho).1;have:=eC w2 l (i:=j) (by omega);have hw:w2 (ay l j)=(ay l j).text.size+25:=rfl;rw[nH (by rw[rH,hl];exact Int.le_refl _)];by_cases h8:lv=8;subst h8;rw[OB hl,aD,aD];have e1:pW 8=9:=rfl;have e2:yU 8=7:=rfl;rw[e1] at a2;rw[e2] at b2;have:rZ.size=1:=rfl;exact⟨by omega,by omega⟩;rw[OC (by rw[hl];exact h8),hl,aD,aD,aD,aD];have:rD.size=1:=rfl;exact⟨by omega,by omega⟩
theorem gr_sz(H:∀ t∈l,QO t):Gr l (UB l) (SzL l) where
 up:=fun lv i e j _ _ h hi=>⟨(h hi).1,Int.le_trans (Int.ofNat_le.2 (abo e (by omega))) (h hi).2⟩
 bin:=fun lv i x j y k hl hx ho hy=>LJ (lv:=lv) (by
  have:pW lv=lv:=by rcases hl with rfl|rfl|rfl|rfl<;>rfl
  rw[this];exact hx) ho (by
  have:yU lv=lv+1:=by rcases hl with rfl|rfl|rfl|rfl<;>rfl
  rw[this];exact hy)
 cmp:=fun i x j y k hx ho hy=>LJ (lv:=4) hx ho hy
 pow:=fun i x j y k hx ho hy=>LJ (lv:=8) hx ho hy
 Ze:=fun i x j h hx hi=>by
  obtain⟨a1,a2⟩:=hx (by omega);rw[nH (by rw[rI];exact Int.le_refl _),Oz,aD];have:=eC w2 l hi;have:=mN (ay l i);have:Dv.size=4:=rfl;exact⟨by omega,by omega⟩
 Zf:=fun i x j h hx hi=>by
  obtain⟨a1,a2⟩:=hx (by omega);rw[nH (by rw[rJ];exact Int.le_refl _),OA,aD];have:=eC w2 l hi;have:=mN (ay l i);have:fP.size=1:=rfl;exact⟨by omega,by omega⟩
 ix:=fun i x j y k hx h hy h' hi=>by
  obtain⟨a1,a2⟩:=hx hi;obtain⟨b1,b2⟩:=hy (by omega);rw[nH (by rw[Iz];exact Int.le_refl _),Uy,aD,aD,aD];have:=eC w2 l (i:=j) (by omega);have:=eC w2 l (i:=k) (by omega);have:=mN (ay l j);have:=mN (ay l k);have:gM.size=1:=rfl;have:gK.size=1:=rfl;exact⟨by omega,by omega⟩
 iJ:=fun i x j h hx h' hi=>by
  obtain⟨a1,a2⟩:=hx (by omega);have:=eC w2 l hi;have:=eC w2 l (i:=j) (by omega);have:=mN (ay l i);have h1:=abp x 1;have h2:=XO x 10;exact⟨by omega,by omega⟩
 QM:=fun i h h' hi=>by
  rw[nH (show (10:Int)<=10 by omega),FZ];have:=eC w2 l hi;have:=eC w2 l (i:=i+1) (by omega);have:=mN (ay l i);have:(gM++cr (([]:List Ex).map fun e=>e.wr 1) iC++gK).size=2:=rfl;exact⟨by omega,by omega⟩
 LF:=fun i L j e k h hL he h' hi=>by
  obtain⟨a1,a2⟩:=hL (by omega);obtain⟨b1,b2⟩:=he (by omega);rw[nH (show (10:Int)<=10 by omega),FZ,aD,aD];have:=OE L e;have:=eC w2 l hi;have:=eC w2 l (i:=k) (by omega);have:=mN (ay l i);have:=mN (ay l k);have:gM.size=1:=rfl;have:gK.size=1:=rfl;exact⟨by omega,by omega⟩
 QN:=fun i h h1 h' hi=>by
  rw[nH (show (10:Int)<=10 by omega),F4,aD,aD,aD];have:=eC w2 l hi;have:=eC w2 l (i:=i+1) (by omega);have:=eC w2 l (i:=i+1+1) (by omega);have hw:w2 (ay l i)=(ay l i).text.size+25:=rfl;have:(cr (([]:List Ex).map fun e=>e.wr 1) iC).size=0:=rfl;have:dP.size=1:=rfl;have:dU.size=1:=rfl;exact⟨by omega,by omega⟩
 LG:=fun i L j e k h h1 hL he h' hi=>by
  obtain⟨a1,a2⟩:=hL (by omega);obtain⟨b1,b2⟩:=he (by omega);rw[nH (show (10:Int)<=10 by omega),F4,aD,aD,aD];have:=OE L e;have:=eC w2 l hi;have:=eC w2 l (i:=i+1) (by omega);have:=eC w2 l (i:=k) (by omega);have hw:w2 (ay l i)=(ay l i).text.size+25:=rfl;have:=mN (ay l (i+1));have:=mN (ay l k);have:dP.size=1:=rfl;have:dU.size=1:=rfl;exact⟨by omega,by omega⟩
 Zg:=fun i _=>wV rfl (by have:=mN (ay l i);rw[FY];exact Nat.le_trans (by decide:_<=25) this)
 Zh:=fun i _=>wV rfl (by have:=mN (ay l i);rw[FY];exact Nat.le_trans (by decide:_<=25) this)
 num:=fun i _ h=>wV rfl (by
  have:=mN (ay l i);have hn:=(H _ (qG (by rw[h];decide))).num h;have:=Li (ay l i).n ⟨by omega,by omega⟩;rw[Ow];omega)
 txt:=fun i _ _=>wV rfl (by
  rw[Ox,aD,aD];have:kM.size=1:=rfl;unfold w2;omega)
 AX:=fun i _=>wV rfl (by rw[Oy];unfold w2;omega)
 nil:=fun i hi=>⟨Int.le_refl _,by simp⟩
 com:=fun i L j e k hL he h hi=>by
  obtain⟨a1,a2⟩:=hL hi;obtain⟨b1,b2⟩:=he (by omega);have:=eC w2 l (i:=k) (by omega);have:=mN (ay l k);rw[List.map_append,List.sum_append];have:(List.map (fun e:Ex=>(e.wr 1).size+2) [e]).sum=(e.wr 1).size+2:=by simp
  exact⟨by omega,by omega⟩
end
section
variable (s:ByteArray) (l:List Tok)
structure Rd(lv i:Int)(e:Ex)(j:Int):Prop where
 z:0<=i
 lt:i<j
 le:j<=l.length
 go:∀ n:Nat,11*(j-i)+11-lv<=n->bP s l n lv i=eW e j
structure Lp(lv i:Int)(e:Ex)(j:Int):Prop where
 z:0<=i
 lt:i<j
 le:j<=l.length
 go:∀ n:Nat,11*(j-i)+10-lv<=n->∃ k:Nat,l.length+1<=k+(j-i)/\bP s l (n+1) lv i=kS s l (bP s l n) lv k e j
structure Ix(i:Int)(e:Ex)(j:Int):Prop where
 z:0<=i
 lt:i<j
 le:j<=l.length
 go:∀ n:Nat,11*(j-i)+1<=n->∃ k:Nat,l.length+1<=k+(j-i)/\bP s l (n+1) 9 i=oe s l (bP s l n) k e j
variable {s l}
theorem OG(n:Nat)(lv i:Int):bP s l (n+1) lv i=su s l (bP s l n) lv i:=rfl
theorem UC(ex:jm){lv:Int}(i:Int)(h:lv=1∨lv=2∨lv=4∨lv=5∨lv=6):su s l ex lv i=bif (ex (lv+1) i).die then ex (lv+1) i else kS s l ex lv (l.length+1) (ex (lv+1) i).v (ex (lv+1) i).i:=by
 unfold su;rw[decide_eq_false (by omega),decide_eq_false (by omega),decide_eq_false (by omega),decide_eq_false (by omega),decide_eq_false (by omega)];rfl
theorem fuel{N:Int}{n:Nat}(h:N<=n)(h1:1<=N):∃ m,n=m+1:=⟨n-1,by omega⟩
theorem Zm{lv i:Int}{e:Ex}{j:Int}(hl:lv=1∨lv=2∨lv=4∨lv=5∨lv=6)(h:Rd s l (lv+1) i e j):Lp s l lv i e j:=by
 refine⟨h.z,h.lt,h.le,fun n hn=>⟨l.length+1,by have:=h.lt;omega,?_⟩⟩;rw[OG,UC _ _ hl,h.go n (by omega)];rfl
theorem Zn{lv i:Int}{e:Ex}{j:Int}(hl:lv<=10)(h:Lp s l lv i e j)(ho:cL l j lv=false):Rd s l lv i e j:=by
 have h1:=h.lt;have h2:=h.le;have h0:=h.z;refine⟨h.z,h.lt,h.le,fun n hn=>?_⟩;obtain⟨m,rfl⟩:=fuel hn (by omega);obtain⟨k,hk,e1⟩:=h.go m (by omega);rw[e1];cases k with
 | zero=>omega
 | succ k=>unfold kS;rw[ho];rfl
theorem abq{lv i:Int}{x:Ex}{j:Int}{y:Ex}{k:Int}(hl:lv=1∨lv=2∨lv=5∨lv=6)(h:Lp s l lv i x j)(ho:cL l j lv=true)(hy:Rd s l (lv+1) (j+1) y k):Lp s l lv i (gT (ay l j).text x y) k:=by
 have h1:=h.lt;have h2:=hy.lt;have h3:=hy.le;have h0:=h.z;refine⟨h.z,by omega,h3,fun n hn=>?_⟩;obtain⟨q,hq,e1⟩:=h.go n (by omega);cases q with
 | zero=>omega
 | succ q =>
   refine⟨q,by omega,?_⟩;rw[e1,kS,ho,hy.go n (by omega)];rw[show decide (lv=4)=false from decide_eq_false (by omega)];rfl
theorem rd_cmp{i:Int}{x:Ex}{j:Int}{y:Ex}{k:Int}(h:Rd s l 5 i x j)(ho:cL l j 4=true)(hy:Rd s l 5 (j+1) y k):Rd s l 4 i (gT (ay l j).text x y) k:=by
 have h1:=h.lt;have h2:=hy.lt;have h3:=hy.le;refine⟨h.z,by omega,h3,fun n hn=>?_⟩;obtain⟨m,rfl⟩:=fuel hn (by omega);rw[OG,UC _ _ (by omega),show (4:Int)+1=5 from rfl,h.go m (by omega)];show kS s l _ 4 (l.length+1) x j=_;rw[kS,ho,show (4:Int)+1=5 from rfl,hy.go m (by omega)];rfl
theorem rd_pow{i:Int}{x:Ex}{j:Int}{y:Ex}{k:Int}(h:Rd s l 9 i x j)(ho:cL l j 8=true)(hy:Rd s l 7 (j+1) y k):Rd s l 8 i (gT (ay l j).text x y) k:=by
 have h1:=h.lt;have h2:=hy.lt;have h3:=hy.le;refine⟨h.z,by omega,h3,fun n hn=>?_⟩;obtain⟨m,rfl⟩:=fuel hn (by omega);show vk l (bP s l m) i=_;rw[vk,h.go m (by omega)];show (bif cL l j 8 then(bif (bP s l m 7 (j+1)).die then bP s l m 7 (j+1) else eW (gT (ay l j).text x (bP s l m 7 (j+1)).v) (bP s l m 7 (j+1)).i) else eW x j)=_;rw[ho,hy.go m (by omega)];rfl
theorem rd_up8{i:Int}{x:Ex}{j:Int}(h:Rd s l 9 i x j)(ho:cL l j 8=false):Rd s l 8 i x j:=by
 have h1:=h.lt;refine⟨h.z,h.lt,h.le,fun n hn=>?_⟩;obtain⟨m,rfl⟩:=fuel hn (by omega);show vk l (bP s l m) i=_;rw[vk,h.go m (by omega)];show (bif cL l j 8 then _ else _)=_;rw[ho];rfl
theorem rd_not{i:Int}{x:Ex}{j:Int}(hi:0<=i)(ho:aG l i iS=true)(h:Rd s l 3 (i+1) x j):Rd s l 3 i (lq iS x) j:=by
 have h1:=h.lt;refine⟨hi,by omega,h.le,fun n hn=>?_⟩;obtain⟨m,rfl⟩:=fuel hn (by omega);show mL l (bP s l m) iS 3 i=_;rw[mL,ho,h.go m (by omega)];rfl
theorem rd_neg{i:Int}{x:Ex}{j:Int}(hi:0<=i)(ho:aG l i fP=true)(h:Rd s l 7 (i+1) x j):Rd s l 7 i (lq fP x) j:=by
 have h1:=h.lt;refine⟨hi,by omega,h.le,fun n hn=>?_⟩;obtain⟨m,rfl⟩:=fuel hn (by omega);show mL l (bP s l m) fP 7 i=_;rw[mL,ho,h.go m (by omega)];rfl
theorem rd_up3{i:Int}{x:Ex}{j:Int}(h:Rd s l 4 i x j)(ho:aG l i iS=false):Rd s l 3 i x j:=by
 have h1:=h.lt;refine⟨h.z,h.lt,h.le,fun n hn=>?_⟩;obtain⟨m,rfl⟩:=fuel hn (by omega);show mL l (bP s l m) iS 3 i=_;rw[mL,ho];exact h.go m (by omega)
theorem rd_up7{i:Int}{x:Ex}{j:Int}(h:Rd s l 8 i x j)(ho:aG l i fP=false):Rd s l 7 i x j:=by
 have h1:=h.lt;refine⟨h.z,h.lt,h.le,fun n hn=>?_⟩;obtain⟨m,rfl⟩:=fuel hn (by omega);show mL l (bP s l m) fP 7 i=_;rw[mL,ho];exact h.go m (by omega)
theorem Zo{i:Int}{x:Ex}{j:Int}(h:Rd s l 10 i x j):Ix s l i x j:=by
 have h1:=h.lt;refine⟨h.z,h.lt,h.le,fun n hn=>⟨l.length+1,by omega,?_⟩⟩;show (bif (bP s l n 10 i).die then _ else _)=_;rw[h.go n (by omega)];rfl
theorem Zp{i:Int}{x:Ex}{j:Int}(h:Ix s l i x j)(ho:aG l j gM=false):Rd s l 9 i x j:=by
 have h1:=h.lt;have h2:=h.le;have h0:=h.z;refine⟨h.z,h.lt,h.le,fun n hn=>?_⟩;obtain⟨m,rfl⟩:=fuel hn (by omega);obtain⟨k,hk,e1⟩:=h.go m (by omega);rw[e1];cases k with
 | zero=>omega
 | succ k=>unfold oe;rw[ho];rfl
theorem abr{i:Int}{x:Ex}{j:Int}{y:Ex}{k:Int}(h:Ix s l i x j)(ho:aG l j gM=true)(hy:Rd s l 1 (j+1) y k)(hr:aG l k gK=true):Ix s l i (tF x y) (k+1):=by
 have h1:=h.lt;have h2:=hy.lt;have h3:=cP hr;have h0:=h.z;refine⟨h.z,by omega,by omega,fun n hn=>?_⟩;obtain⟨q,hq,e1⟩:=h.go n (by omega);cases q with
 | zero=>omega
 | succ q =>
   refine⟨q,by omega,?_⟩;rw[e1,oe,ho,hy.go n (by omega)];show (bif aG l k gK then _ else _)=_;rw[hr];rfl
theorem mD{i:Int}{x:Ex}{j:Int}(h0:0<=i)(h1:i<j)(h2:j<=l.length)(h:∀ n:Nat,11*(j-i)<=n->fY s l (bP s l n) i=eW x j):Rd s l 10 i x j:=by
 refine⟨h0,h1,h2,fun n hn=>?_⟩;obtain⟨m,rfl⟩:=fuel hn (by omega);exact h m (by omega)
theorem rd_par{i:Int}{x:Ex}{j:Int}(hi:0<=i)(ho:aG l i dP=true)(h:Rd s l 1 (i+1) x j)(hr:aG l j dU=true):Rd s l 10 i x (j+1):=by
 have h1:=h.lt;have h2:=cP hr;refine mD hi (by omega) (by omega) fun n hn=>?_;rw[fY,ho,h.go n (by omega)];show (bif aG l j dU then _ else _)=_;rw[hr];rfl
theorem l6{i:Int}{x y:ByteArray}(h:aG l i x=true)(hn:x≠y):aG l i y=false:=by
 cases hy:aG l i y with
 | false=>rfl
 | true=>exact absurd ((BP h).1.symm.trans (BP hy).1) hn
theorem l7{i:Int}{k:Int}(y:ByteArray)(h:(ay l i).kind=k)(h5:k≠5)(h2:k≠2):aG l i y=false:=by
 cases hy:aG l i y with
 | false=>rfl
 | true =>
   have:=(BP hy).2;rw[h] at this;rcases this with g|g;exact absurd g h5;exact absurd g h2
theorem rd_tru{i:Int}(hi:0<=i)(h:aG l i qB=true):Rd s l 10 i (.mk 3 1 eS []) (i+1):=by
 have h2:=cP h;refine mD hi (by omega) (by omega) fun n hn=>?_;rw[fY,l6 h (y:=dP) (by decide),l6 h (y:=gM) (by decide),h];rfl
theorem rd_fal{i:Int}(hi:0<=i)(h:aG l i rV=true):Rd s l 10 i (.mk 3 0 eS []) (i+1):=by
 have h2:=cP h;refine mD hi (by omega) (by omega) fun n hn=>?_;rw[fY,l6 h (y:=dP) (by decide),l6 h (y:=gM) (by decide),l6 h (y:=qB) (by decide),h];rfl
theorem rd_num{i:Int}(hi:0<=i)(h2:i<l.length)(h:(ay l i).kind=3):Rd s l 10 i (.mk 1 (ay l i).n eS []) (i+1):=by
 refine mD hi (by omega) (by omega) fun n hn=>?_;rw[fY,l7 dP h (by decide) (by decide),l7 gM h (by decide) (by decide),l7 qB h (by decide) (by decide),l7 rV h (by decide) (by decide),decide_eq_false (by omega:¬(l.length:Int)<=i),decide_eq_true h];rfl
theorem rd_txt{i:Int}(hi:0<=i)(h2:i<l.length)(h:(ay l i).kind=4):Rd s l 10 i (.mk 2 0 (ay l i).text []) (i+1):=by
 refine mD hi (by omega) (by omega) fun n hn=>?_;rw[fY,l7 dP h (by decide) (by decide),l7 gM h (by decide) (by decide),l7 qB h (by decide) (by decide),l7 rV h (by decide) (by decide),decide_eq_false (by omega:¬(l.length:Int)<=i),decide_eq_false (by omega:¬(ay l i).kind=3),decide_eq_true h];rfl
theorem F5{ex:jm}{i:Int}(h2:i<l.length)(h:(ay l i).kind=1):fY s l ex i=bif aG l (i+1) dP then ⟨(dG s l ex dU (i+1+1)).die,(dG s l ex dU (i+1+1)).e,(dG s l ex dU (i+1+1)).a,.mk 6 0 (ay l i).text (dG s l ex dU (i+1+1)).v,(dG s l ex dU (i+1+1)).i⟩ else eW (.mk 4 0 (ay l i).text []) (i+1):=by
 rw[fY,l7 dP h (by decide) (by decide),l7 gM h (by decide) (by decide),l7 qB h (by decide) (by decide),l7 rV h (by decide) (by decide),decide_eq_false (by omega:¬(l.length:Int)<=i),decide_eq_false (by omega:¬(ay l i).kind=3),decide_eq_false (by omega:¬(ay l i).kind=4)];have:gq l i=true:=by unfold gq;rw[decide_eq_true h2,decide_eq_true h];rfl
 rw[this];rfl
theorem rd_nam{i:Int}(hi:0<=i)(h2:i<l.length)(h:(ay l i).kind=1)(hn:aG l (i+1) dP=false):Rd s l 10 i (.mk 4 0 (ay l i).text []) (i+1):=by
 refine mD hi (by omega) (by omega) fun n hn'=>?_;rw[F5 h2 h,hn];rfl
inductive Ls(s:ByteArray)(l:List Tok)(t:ByteArray):List Ex->Int->Int->Prop where
 | one {e:Ex} {i q:Int}:Rd s l 1 i e q->aG l q t=true->Ls s l t [e] i (q+1)
 | cons {e:Ex} {i q:Int} {L:List Ex} {j:Int}:Rd s l 1 i e q->aG l q t=false->aG l q kR=true->Ls s l t L (q+1) j->Ls s l t (e::L) i j
theorem QT{t:ByteArray}{L:List Ex}{i j:Int}(h:Ls s l t L i j):0<=i/\i+L.length<j/\j<=l.length/\∀(n k:Nat)(acc:List Ex),11*(j-i)<=n->L.length<=k->mK s l (bP s l n) t k acc i=eW (acc++L) j:=by
 induction h with
 | @one e i q h1 h2 =>
   have a:=h1.lt;have b:=cP h2;refine⟨h1.z,by show i+1<q+1;omega,by omega,fun n k acc hn hk=>?_⟩;cases k with
   | zero=>simp at hk
   | succ k =>
     rw[mK,h1.go n (by omega)];show (bif aG l q t then _ else _)=_;rw[h2];rfl
 | @cons e i q L j h1 h2 h3 _ ih =>
   have a:=h1.lt;obtain⟨b0,b1,b2,b3⟩:=ih;refine⟨h1.z,by rw[List.length_cons];omega,b2,fun n k acc hn hk=>?_⟩;rw[List.length_cons] at hk;cases k with
   | zero=>omega
   | succ k =>
     rw[mK,h1.go n (by omega)];show (bif aG l q t then _ else _)=_;rw[h2];show (bif aG l q kR then mK s l (bP s l n) t k (acc++[e]) (q+1) else _)=_;rw[h3,b3 n k _ (by omega) (by omega),List.append_assoc];rfl
theorem OH{t:ByteArray}{L:List Ex}{i j:Int}(h:Ls s l t L i j)(ht:aG l i t=false)(n:Nat)(hn:11*(j-i)<=n):dG s l (bP s l n) t i=eW L j:=by
 obtain⟨b0,b1,b2,b3⟩:=QT h;rw[dG,ht];exact b3 n _ [] hn (by omega)
theorem abt{i:Int}(hi:0<=i)(h:aG l i gM=true)(h1:aG l (i+1) gK=true):Rd s l 10 i (.mk 5 0 eS []) (i+1+1):=by
 have h2:=cP h1;refine mD hi (by omega) (by omega) fun n hn=>?_;rw[fY,l6 h (y:=dP) (by decide),h,dG,h1];rfl
theorem rd_lst{i:Int}{L:List Ex}{j:Int}(hi:0<=i)(h:aG l i gM=true)(h1:aG l (i+1) gK=false)(hL:Ls s l gK L (i+1) j):Rd s l 10 i (.mk 5 0 eS L) j:=by
 obtain⟨b0,b1,b2,_⟩:=QT hL;refine mD hi (by omega) b2 fun n hn=>?_;rw[fY,l6 h (y:=dP) (by decide),h,OH hL h1 n (by omega)];rfl
theorem abu{i:Int}(hi:0<=i)(h:(ay l i).kind=1)(h1:aG l (i+1) dP=true)(h2:aG l (i+1+1) dU=true):Rd s l 10 i (.mk 6 0 (ay l i).text []) (i+1+1+1):=by
 have h3:=cP h2;refine mD hi (by omega) (by omega) fun n hn=>?_;rw[F5 (by omega) h,h1,dG,h2];rfl
theorem rd_cal{i:Int}{L:List Ex}{j:Int}(hi:0<=i)(h:(ay l i).kind=1)(h1:aG l (i+1) dP=true)(h2:aG l (i+1+1) dU=false)(hL:Ls s l dU L (i+1+1) j):Rd s l 10 i (.mk 6 0 (ay l i).text L) j:=by
 obtain⟨b0,b1,b2,_⟩:=QT hL;refine mD hi (by omega) b2 fun n hn=>?_;rw[F5 (by omega) h,h1,OH hL h2 n (by omega)];rfl
end
end Go.Proofs.YtcimgfhfpiapaaaGreatDoor
