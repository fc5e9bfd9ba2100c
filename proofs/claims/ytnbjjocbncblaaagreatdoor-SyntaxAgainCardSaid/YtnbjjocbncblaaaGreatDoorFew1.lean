/- What the program's parser reads, by the rules of the grammar. -/
import Derived.Test.YtnbjjocbncblaaaGreatDoorBlank1
namespace Go.Proofs.YtnbjjocbncblaaaGreatDoor
open Go.aN Go.RowKit
set_option maxRecDepth 100000
structure Gr(l:List Tok)(P:Int->Int->Ex->Int->Prop)(PL:Int->List Ex->Int->Prop):Prop where
 up:∀ lv i e j,1<=lv->lv<=9->P (lv+1) i e j->P lv i e j
 bin:∀ lv i x j y k,(lv=1∨lv=2∨lv=5∨lv=6)->P lv i x j->cY l j lv=true->P (lv+1) (j+1) y k->P lv i (iX (aM l j).text x y) k
 cmp:∀ i x j y k,P 5 i x j->cY l j 4=true->P 5 (j+1) y k->P 4 i (iX (aM l j).text x y) k
 pow:∀ i x j y k,P 9 i x j->cY l j 8=true->P 7 (j+1) y k->P 8 i (iX (aM l j).text x y) k
 un3:∀ i x j,aA l i jK=true->P 3 (i+1) x j->P 3 i (mG jK x) j
 un7:∀ i x j,aA l i gJ=true->P 7 (i+1) x j->P 7 i (mG gJ x) j
 ix:∀ i x j y k,P 9 i x j->aA l j jh=true->P 1 (j+1) y k->aA l k ji=true->P 9 i (vg x y) (k+1)
 jB:∀ i x j,aA l i eH=true->P 1 (i+1) x j->aA l j dx=true->P 10 i x (j+1)
 lst0:∀ i,aA l i jh=true->aA l (i+1) ji=true->P 10 i (.mk 5 0 eS []) (i+1+1)
 Wh:∀ i L j e k,aA l i jh=true->PL (i+1) L j->P 1 j e k->aA l k ji=true->P 10 i (.mk 5 0 eS (L++[e])) (k+1)
 cal0:∀ i,eY l i=true->aA l (i+1) eH=true->aA l (i+1+1) dx=true->P 10 i (.mk 6 0 (aM l i).text []) (i+1+1+1)
 Wi:∀ i L j e k,eY l i=true->aA l (i+1) eH=true->PL (i+1+1) L j->P 1 j e k->aA l k dx=true->P 10 i (.mk 6 0 (aM l i).text (L++[e])) (k+1)
 tru:∀ i,aA l i su=true->P 10 i (.mk 3 1 eS []) (i+1)
 fal:∀ i,aA l i tO=true->P 10 i (.mk 3 0 eS []) (i+1)
 num:∀ i:Int,i<l.length->(aM l i).kind=3->P 10 i (.mk 1 (aM l i).n eS []) (i+1)
 txt:∀ i:Int,i<l.length->(aM l i).kind=4->P 10 i (.mk 2 0 (aM l i).text []) (i+1)
 DZ:∀ i,eY l i=true->P 10 i (.mk 4 0 (aM l i).text []) (i+1)
 nil:∀ i,PL i [] i
 com:∀ i L j e k,PL i L j->P 1 j e k->aA l k jL=true->PL i (L++[e]) (k+1)
section
variable {s:ByteArray} {l:List Tok} {P:Int->Int->Ex->Int->Prop} {PL:Int->List Ex->Int->Prop} (G:Gr l P PL)
def zT(P:Int->Int->Ex->Int->Prop)(ex:jY):Prop:=∀ lv i,1<=lv->lv<=10->(ex lv i).die=false->P lv i (ex lv i).v (ex lv i).i
include G
theorem lp_gr{ex:jY}(h:zT P ex){lv:Int}(hl:lv=1∨lv=2∨lv=5∨lv=6)(i0:Int):∀(k:Nat)(x:Ex)(i:Int),P lv i0 x i->(mq s l ex lv k x i).die=false->P lv i0 (mq s l ex lv k x i).v (mq s l ex lv k x i).i
 | 0,x,i,_,hd=>by cases hd
 | k + 1, x, i, hx, hd => by
   unfold mq at hd ⊢;cases ho:cY l i lv with
   | false=>exact hx
   | true =>
     rw[ho] at hd;simp only[cond_true] at hd ⊢;cases hy:(ex (lv+1) (i+1)).die with
     | true=>rw[hy] at hd;simp only[cond_true] at hd;rw[hy] at hd;cases hd
     | false =>
       rw[hy] at hd;simp only[cond_false] at hd ⊢;have h4:decide (lv=4)=false:=decide_eq_false (by omega);rw[h4] at hd ⊢;exact lp_gr h hl i0 k _ _ (G.bin lv i0 x i _ _ hl hx ho (h _ _ (by omega) (by omega) hy)) hd
theorem lp4_gr{ex:jY}(h:zT P ex)(i0:Int)(k:Nat)(x:Ex)(i:Int)(hx:P 5 i0 x i)(hd:(mq s l ex 4 k x i).die=false):P 4 i0 (mq s l ex 4 k x i).v (mq s l ex 4 k x i).i:=by
 cases k with
 | zero=>cases hd
 | succ k =>
   unfold mq at hd ⊢;cases ho:cY l i 4 with
   | false=>exact G.up 4 _ _ _ (by omega) (by omega) hx
   | true =>
     rw[ho] at hd;simp only[cond_true] at hd ⊢;cases hy:(ex (4+1) (i+1)).die with
     | true=>rw[hy] at hd;simp only[cond_true] at hd;rw[hy] at hd;cases hd
     | false=>exact G.cmp i0 x i _ _ hx ho (h 5 _ (by omega) (by omega) hy)
theorem ix_gr{ex:jY}(h:zT P ex)(i0:Int):∀(k:Nat)(x:Ex)(i:Int),P 9 i0 x i->(pW s l ex k x i).die=false->P 9 i0 (pW s l ex k x i).v (pW s l ex k x i).i
 | 0,x,i,_,hd=>by cases hd
 | k + 1, x, i, hx, hd => by
   unfold pW at hd ⊢;cases ho:aA l i jh with
   | false=>exact hx
   | true =>
     rw[ho] at hd;simp only[cond_true] at hd ⊢;cases hy:(ex 1 (i+1)).die with
     | true=>rw[hy] at hd;simp only[cond_true] at hd;rw[hy] at hd;cases hd
     | false =>
       rw[hy] at hd;simp only[cond_false] at hd ⊢;cases h4:aA l (ex 1 (i+1)).i ji with
       | false=>rw[h4] at hd;cases hd
       | true =>
         rw[h4] at hd;exact ix_gr h i0 k _ _ (G.ix i0 x i _ _ hx ho (h _ _ (by omega) (by omega) hy) h4) hd
theorem ls_gr{ex:jY}(h:zT P ex)(t:ByteArray)(i0:Int):∀(k:Nat)(acc:List Ex)(i:Int),PL i0 acc i->(oe s l ex t k acc i).die=false->∃ L j e q,PL i0 L j/\P 1 j e q/\aA l q t=true/\(oe s l ex t k acc i).v=L++[e]/\(oe s l ex t k acc i).i=q+1
 | 0,acc,i,_,hd=>by cases hd
 | k + 1, acc, i, hx, hd => by
   unfold oe at hd ⊢;cases hy:(ex 1 i).die with
   | true=>rw[hy] at hd;cases hd
   | false =>
     rw[hy] at hd;simp only[cond_false] at hd ⊢;have hp:=h 1 i (by omega) (by omega) hy;cases h4:aA l (ex 1 i).i t with
     | true=>exact⟨_,_,_,_,hx,hp,h4,rfl,rfl⟩
     | false =>
       rw[h4] at hd;simp only[cond_false] at hd ⊢;cases h5:aA l (ex 1 i).i jL with
       | false=>rw[h5] at hd;cases hd
       | true =>
         rw[h5] at hd;exact ls_gr h t i0 k _ _ (G.com _ _ _ _ _ hx hp h5) hd
theorem P9{ex:jY}(h:zT P ex)(t:ByteArray)(i:Int)(hd:(dM s l ex t i).die=false):(aA l i t=true/\(dM s l ex t i).v=[]/\(dM s l ex t i).i=i+1)∨∃ L j e q,PL i L j/\P 1 j e q/\aA l q t=true/\(dM s l ex t i).v=L++[e]/\(dM s l ex t i).i=q+1:=by
 unfold dM at hd ⊢;cases h4:aA l i t with
 | true=>exact .inl ⟨rfl,rfl,rfl⟩
 | false=>rw[h4] at hd;exact .inr (ls_gr G h t i _ _ _ (G.nil i) hd)
theorem atom_gr{ex:jY}(h:zT P ex)(i:Int)(hd:(gB s l ex i).die=false):P 10 i (gB s l ex i).v (gB s l ex i).i:=by
 unfold gB at hd ⊢;cases h1:aA l i eH with
 | true =>
   rw[h1] at hd;simp only[cond_true] at hd ⊢;cases hx:(ex 1 (i+1)).die with
   | true=>rw[hx] at hd;simp only[cond_true] at hd;rw[hx] at hd;cases hd
   | false =>
     rw[hx] at hd;simp only[cond_false] at hd ⊢;cases h4:aA l (ex 1 (i+1)).i dx with
     | false=>rw[h4] at hd;cases hd
     | true=>exact G.jB _ _ _ h1 (h _ _ (by omega) (by omega) hx) h4
 | false =>
 rw[h1] at hd;simp only[cond_false] at hd ⊢;cases h2:aA l i jh with
 | true =>
   rw[h2] at hd;simp only[cond_true] at hd ⊢;rcases P9 G h _ _ hd with ⟨a,b,c⟩|⟨L,j,e,q,a,b,c,d,f⟩;rw[b,c];exact G.lst0 i h2 a;rw[d,f];exact G.Wh i L j e q h2 a b c
 | false =>
 rw[h2] at hd;simp only[cond_false] at hd ⊢;cases h3:aA l i su with
 | true=>exact G.tru i h3
 | false =>
 cases h4:aA l i tO with
 | true=>exact G.fal i h4
 | false =>
 rw[h3,h4] at hd;simp only[cond_false] at hd ⊢;by_cases hi:(l.length:Int)<=i;rw[decide_eq_true hi] at hd;cases hd;rw[decide_eq_false hi] at hd ⊢;simp only[cond_false] at hd ⊢;have hi:i<l.length:=by omega
 by_cases h5:(aM l i).kind=3;rw[decide_eq_true h5];exact G.num i hi h5;by_cases h6:(aM l i).kind=4;rw[decide_eq_false h5,decide_eq_true h6];exact G.txt i hi h6;rw[decide_eq_false h5,decide_eq_false h6] at hd ⊢;simp only[cond_false] at hd ⊢;cases h7:eY l i with
 | false=>rw[h7] at hd;cases hd
 | true =>
 rw[h7] at hd;simp only[cond_true] at hd ⊢;cases h8:aA l (i+1) eH with
 | false=>exact G.DZ i h7
 | true =>
   rw[h8] at hd;simp only[cond_true] at hd ⊢;rcases P9 G h _ _ hd with ⟨a,b,c⟩|⟨L,j,e,q,a,b,c,d,f⟩;rw[b,c];exact G.cal0 i h7 h8 a;rw[d,f];exact G.Wi i L j e q h7 h8 a b c
theorem ex_gr{ex:jY}(h:zT P ex):zT P (tZ s l ex):=by
 intro lv i hl1 hl2 hd;unfold tZ at hd ⊢;by_cases c3:lv=3
 . subst c3;rw[decide_eq_true rfl] at hd ⊢;simp only[cond_true] at hd ⊢;unfold og at hd ⊢;cases h1:aA l i jK with
   | false=>rw[h1] at hd;exact G.up 3 _ _ _ (by omega) (by omega) (h _ _ (by omega) (by omega) hd)
   | true =>
     rw[h1] at hd;simp only[cond_true] at hd ⊢;cases hx:(ex 3 (i+1)).die with
     | true=>rw[hx] at hd;simp only[cond_true] at hd;rw[hx] at hd;cases hd
     | false=>exact G.un3 _ _ _ h1 (h _ _ (by omega) (by omega) hx)
 by_cases c7:lv=7
 . subst c7;rw[decide_eq_false c3,decide_eq_true rfl] at hd ⊢;simp only[cond_true,cond_false] at hd ⊢;unfold og at hd ⊢;cases h1:aA l i gJ with
   | false=>rw[h1] at hd;exact G.up 7 _ _ _ (by omega) (by omega) (h _ _ (by omega) (by omega) hd)
   | true =>
     rw[h1] at hd;simp only[cond_true] at hd ⊢;cases hx:(ex 7 (i+1)).die with
     | true=>rw[hx] at hd;simp only[cond_true] at hd;rw[hx] at hd;cases hd
     | false=>exact G.un7 _ _ _ h1 (h _ _ (by omega) (by omega) hx)
 by_cases c8:lv=8
 . subst c8;rw[decide_eq_false c3,decide_eq_false c7,decide_eq_true rfl] at hd ⊢;simp only[cond_true,cond_false] at hd ⊢;unfold wY at hd ⊢;cases hx:(ex 9 i).die with
   | true=>rw[hx] at hd;simp only[cond_true] at hd;rw[hx] at hd;cases hd
   | false =>
   rw[hx] at hd;simp only[cond_false] at hd ⊢;have hp:=h 9 i (by omega) (by omega) hx;cases ho:cY l (ex 9 i).i 8 with
   | false=>exact G.up 8 _ _ _ (by omega) (by omega) hp
   | true =>
   rw[ho] at hd;simp only[cond_true] at hd ⊢;cases hy:(ex 7 ((ex 9 i).i+1)).die with
   | true=>rw[hy] at hd;simp only[cond_true] at hd;rw[hy] at hd;cases hd
   | false=>exact G.pow _ _ _ _ _ hp ho (h _ _ (by omega) (by omega) hy)
 by_cases c9:lv=9
 . subst c9;rw[decide_eq_false c3,decide_eq_false c7,decide_eq_false c8,decide_eq_true rfl] at hd ⊢;simp only[cond_true,cond_false] at hd ⊢;cases hx:(ex 10 i).die with
   | true=>rw[hx] at hd;simp only[cond_true] at hd;rw[hx] at hd;cases hd
   | false =>
   rw[hx] at hd;exact ix_gr G h i _ _ _ (G.up 9 _ _ _ (by omega) (by omega) (h _ _ (by omega) (by omega) hx)) hd
 by_cases c10:lv=10;subst c10;rw[decide_eq_false c3,decide_eq_false c7,decide_eq_false c8,decide_eq_false c9,decide_eq_true rfl] at hd ⊢;exact atom_gr G h i hd;rw[decide_eq_false c3,decide_eq_false c7,decide_eq_false c8,decide_eq_false c9,decide_eq_false c10] at hd ⊢;simp only[cond_false] at hd ⊢;cases hx:(ex (lv+1) i).die with
 | true=>rw[hx] at hd;simp only[cond_true] at hd;rw[hx] at hd;cases hd
 | false =>
 rw[hx] at hd;simp only[cond_false] at hd ⊢;have hp:=h (lv+1) i (by omega) (by omega) hx;by_cases c4:lv=4;subst c4;exact lp4_gr G h i _ _ _ hp hd;exact lp_gr G h (by omega) i _ _ _ (G.up lv _ _ _ (by omega) (by omega) hp) hd
theorem px_gr:∀ n,zT P (bQ s l n)
 | 0=>fun _ _ _ _ hd=>by cases hd
 | n+1=>ex_gr G (px_gr n)
end
def bS(t:ByteArray):Tok:=⟨5,t,0,0⟩
def ia(t:ByteArray):Tok:=⟨2,t,0,0⟩
def F4(t:ByteArray):Tok:=bif gu (aY t 0) then ia t else bS t
def sB(p:Int×List Tok)(pl:Int):List Tok:=bif decide (p.1<pl) then bS eH::(p.2++[bS dx]) else p.2
def iU:List (List Tok)->List Tok
 | []=>[]
 | [x]=>x
 | x::y::l=>x++(bS jL::iU (y::l))
def Qa(ps:List (Int×List Tok))(i:Nat):Int×List Tok:=ps.getD i (0,[])
def wD(lv:Int):Int:=bif decide (lv=8) then 9 else bif decide (lv=4) then 5 else lv
def Nf(lv:Int):Int:=bif decide (lv=8) then 7 else lv+1
def tkK(k n:Int)(t:ByteArray)(ps:List (Int×List Tok)):List Tok :=
 bif decide (k=1) then [⟨3,eS,n,0⟩] else
 bif decide (k=2) then [⟨4,t,0,0⟩] else
 bif decide (k=3) then [ia (tR (decide (n=1)))] else
 bif decide (k=5) then bS jh::(iU (ps.map (sB · 1))++[bS ji]) else
 bif decide (k=6) then ⟨1,t,0,0⟩::bS eH::(iU (ps.map (sB · 1))++[bS dx]) else
 bif decide (k=7) then sB (Qa ps 0) 9++(bS jh::(sB (Qa ps 1) 1++[bS ji])) else
 bif decide (k=8) then(bif decide (dz k t=3) then ia jK::sB (Qa ps 0) (dz k t) else bS gJ::sB (Qa ps 0) (dz k t)) else
 bif decide (k=9) then sB (Qa ps 0) (wD (dz k t))++(F4 t::sB (Qa ps 1) (Nf (dz k t))) else [⟨1,t,0,0⟩]
mutual
def Ex.tp:Ex->Int×List Tok
 | .mk k n t l=>(dz k t,tkK k n t (Ex.F5 l))
def Ex.F5:List Ex->List (Int×List Tok)
 | []=>[]
 | e::m=>e.tp::Ex.F5 m
end
def Ex.jj(e:Ex):List Tok:=e.tp.2
def Ex.lv(e:Ex):Int:=dz e.k e.t
def Ex.tk(e:Ex)(pl:Int):List Tok:=sB (e.lv,e.jj) pl
theorem Ex.tp_eq(e:Ex):e.tp=(e.lv,e.jj):=by cases e;rw[Ex.jj,Ex.tp];rfl
theorem Ex.pZ(k n:Int)(t:ByteArray)(l:List Ex):(Ex.mk k n t l).jj=tkK k n t (Ex.F5 l):=by rw[Ex.jj,Ex.tp]
theorem Ex.tps_nil:Ex.F5 []=[]:=by rw[Ex.F5]
theorem Ex.qo(e:Ex)(l:List Ex):Ex.F5 (e::l)=(e.lv,e.jj)::Ex.F5 l:=by rw[Ex.F5,Ex.tp_eq]
theorem Ex.Qb(l:List Ex)(pl:Int):(Ex.F5 l).map (sB · pl)=l.map fun e=>e.tk pl:=by
 induction l with
 | nil=>rw[Ex.tps_nil];rfl
 | cons e l ih=>rw[Ex.qo,List.map_cons,List.map_cons,ih];rfl
theorem Hy(n:Int):(Ex.mk 1 n eS []).jj=[⟨3,eS,n,0⟩]:=by rw[Ex.pZ];rfl
theorem Hz(t:ByteArray):(Ex.mk 2 0 t []).jj=[⟨4,t,0,0⟩]:=by rw[Ex.pZ];rfl
theorem HE(n:Int):(Ex.mk 3 n eS []).jj=[ia (tR (decide (n=1)))]:=by rw[Ex.pZ];rfl
theorem HF(t:ByteArray):(Ex.mk 4 0 t []).jj=[⟨1,t,0,0⟩]:=by rw[Ex.pZ];rfl
theorem HL(L:List Ex):(Ex.mk 5 0 eS L).jj=bS jh::(iU (L.map fun e=>e.tk 1)++[bS ji]):=by rw[Ex.pZ,<-Ex.Qb];rfl
theorem HV(t:ByteArray)(L:List Ex):(Ex.mk 6 0 t L).jj=⟨1,t,0,0⟩::bS eH::(iU (L.map fun e=>e.tk 1)++[bS dx]):=by rw[Ex.pZ,<-Ex.Qb];rfl
theorem Ng(x y:Ex):(vg x y).jj=x.tk 9++(bS jh::(y.tk 1++[bS ji])):=by rw[vg,Ex.pZ,Ex.qo,Ex.qo];rfl
theorem HY(x:Ex):(mG jK x).jj=ia jK::x.tk 3:=by rw[mG,Ex.pZ,Ex.qo];rfl
theorem HZ(x:Ex):(mG gJ x).jj=bS gJ::x.tk 7:=by
 rw[mG,Ex.pZ,Ex.qo];have:dz 8 gJ=7:=by decide
 show (bif decide (dz 8 gJ=3) then _ else bS gJ::sB (x.lv,x.jj) (dz 8 gJ))=_;rw[this];rfl
theorem H6(t:ByteArray)(x y:Ex):(iX t x y).jj=x.tk (wD (dU t))++(F4 t::y.tk (Nf (dU t))):=by rw[iX,Ex.pZ,Ex.qo,Ex.qo];rfl
theorem yu(t:ByteArray)(x y:Ex):(iX t x y).lv=dU t:=rfl
theorem yx(x:Ex):(mG jK x).lv=3:=by show dz 8 jK=3;decide
theorem yA(x:Ex):(mG gJ x).lv=7:=by show dz 8 gJ=7;decide
theorem lv_ix(x y:Ex):(vg x y).lv=9:=rfl
theorem Kc{e:Ex}{pl:Int}(h:pl<=e.lv):e.tk pl=e.jj:=by unfold Ex.tk sB;rw[decide_eq_false (by show ¬e.lv<pl;omega)];rfl
theorem SA{e:Ex}{pl:Int}(h:e.lv<pl):e.tk pl=bS eH::(e.jj++[bS dx]):=by unfold Ex.tk sB;rw[decide_eq_true (by exact h)];rfl
theorem wr0_num(n:Int):(Ex.mk 1 n eS []).kM=Cb n:=by rw[Ex.l9];rfl
theorem wr0_txt(t:ByteArray):(Ex.mk 2 0 t []).kM=mw++t++mw:=by rw[Ex.l9];rfl
theorem wr0_boo(n:Int):(Ex.mk 3 n eS []).kM=tR (decide (n=1)):=by rw[Ex.l9];rfl
theorem wr0_nam(t:ByteArray):(Ex.mk 4 0 t []).kM=t:=by rw[Ex.l9];rfl
theorem wr0_lst(L:List Ex):(Ex.mk 5 0 eS L).kM=jh++cn (L.map fun e=>e.wr 1) jo++ji:=by rw[Ex.l9,<-Ex.yq];rfl
theorem wr0_cal(t:ByteArray)(L:List Ex):(Ex.mk 6 0 t L).kM=t++eH++cn (L.map fun e=>e.wr 1) jo++dx:=by rw[Ex.l9,<-Ex.yq];rfl
theorem wr0_ix(x y:Ex):(vg x y).kM=x.wr 9++jh++y.wr 1++ji:=by rw[vg,Ex.l9,Ex.kZ,Ex.kZ];rfl
theorem wr0_not(x:Ex):(mG jK x).kM=Hw++x.wr 3:=by rw[mG,Ex.l9,Ex.kZ];rfl
theorem wr0_neg(x:Ex):(mG gJ x).kM=gJ++x.wr 7:=by
 rw[mG,Ex.l9,Ex.kZ];have:dz 8 gJ=7:=by decide
 show (bif decide (dz 8 gJ=3) then _ else gJ++jB (dz x.k x.t,x.kM) (dz 8 gJ))=_;rw[this];rfl
theorem wr0_pow{t:ByteArray}(h:dU t=8)(x y:Ex):(iX t x y).kM=x.wr 9++vz++y.wr 7:=by
 rw[iX,Ex.l9,Ex.kZ,Ex.kZ];show DT (dU t) t (dz x.k x.t,x.kM) (dz y.k y.t,y.kM)=_;unfold DT;rw[decide_eq_true h];rfl
theorem wr0_bin{t:ByteArray}(h:dU t≠8)(x y:Ex):(iX t x y).kM=x.wr (wD (dU t))++mL++t++mL++y.wr (Nf (dU t)):=by
 rw[iX,Ex.l9,Ex.kZ,Ex.kZ];show DT (dU t) t (dz x.k x.t,x.kM) (dz y.k y.t,y.kM)=_;unfold DT wD Nf;rw[decide_eq_false h];by_cases h4:dU t=4;rw[decide_eq_true h4,h4];rfl;rw[decide_eq_false h4];rfl
theorem wx_ge{e:Ex}{pl:Int}(h:pl<=e.lv):e.wr pl=e.kM:=by unfold Ex.wr jB;rw[decide_eq_false (by show ¬e.lv<pl;omega)];rfl
theorem wx_lt{e:Ex}{pl:Int}(h:e.lv<pl):e.wr pl=eH++e.kM++dx:=by unfold Ex.wr jB;rw[decide_eq_true (by exact h)];rfl
theorem rL(t:ByteArray):dU t=0∨dU t=1∨dU t=2∨dU t=4∨dU t=5∨dU t=6∨dU t=8:=by
 have key:∀ l:List (ByteArray×Int),(∀ p∈l,p.2=1∨p.2=2∨p.2=4∨p.2=5∨p.2=6∨p.2=8)->dH .str (.int .i64) l t=0∨(dH .str (.int .i64) l t:Int)=1∨(dH .str (.int .i64) l t:Int)=2∨(dH .str (.int .i64) l t:Int)=4∨(dH .str (.int .i64) l t:Int)=5∨(dH .str (.int .i64) l t:Int)=6∨(dH .str (.int .i64) l t:Int)=8:=by
  intro l
  induction l with
  | nil=>intro _;exact .inl rfl
  | cons p l ih =>
    intro h;obtain⟨a,b⟩:=p;have h1:=h (a,b) (List.mem_cons_self ..);have h2:=ih fun q hq=>h q (List.mem_cons_of_mem _ hq);unfold dH nX at h2 ⊢;unfold nX;cases hb:D.lU .str t a with
    | true=>exact .inr h1
    | false=>exact h2
 exact key vf (by decide)
theorem Nh{t:ByteArray}(h:0<dU t):t∈vf.map Prod.fst:=by
 have key : ∀ l : List (ByteArray × Int), (dH .str (.int .i64) l t : Int) ≠ 0 → t ∈ l.map Prod.fst := by
  intro l
  induction l with
  | nil=>intro h;exact absurd rfl h
  | cons p l ih =>
    intro h;obtain⟨a,b⟩:=p;unfold dH nX at h;cases hb:D.lU .str t a with
    | true =>
      have e:t=a:=(D.Iy rfl).1 hb;rw[e];exact List.mem_cons_self ..
    | false =>
      rw[hb] at h;exact List.mem_cons_of_mem _ (ih h)
 exact key vf (by show dU t≠0;omega)
theorem uz{M:Ex->Prop}(num:∀ n,0<=n->n<=1000000000000000->M (.mk 1 n eS []))
 (txt:∀ t,t.size<=200->aO cJ t 0=t.size->M (.mk 2 0 t [])) (boo:∀ n,(n=0∨n=1)->M (.mk 3 n eS [])) (DZ:∀ t,bR t=true->M (.mk 4 0 t []))
 (Wh:∀ L,(∀ e∈L,e.fin=true/\M e)->M (.mk 5 0 eS L)) (Wi:∀ t L,bR t=true->(∀ e∈L,e.fin=true/\M e)->M (.mk 6 0 t L))
 (ix:∀ x y,x.fin=true->y.fin=true->M x->M y->M (vg x y)) (nt:∀ x,x.fin=true->M x->M (mG jK x)) (neg:∀ x,x.fin=true->M x->M (mG gJ x))
 (bin:∀ t x y,0<dU t->x.fin=true->y.fin=true->M x->M y->M (iX t x y)):∀(n:Nat)(e:Ex),e.cr<=n->e.fin=true->M e
 | 0,e,hs,_=>by have:=Ex.fE e;omega
 | n + 1, .mk k m t l, hs, h => by
   have H:=uz num txt boo DZ Wh Wi ix nt neg bin n;rw[Ex.fin,Bool.and_eq_true] at h;have hs:Ex.aH l<=n:=by rw[rE] at hs;omega
   have hm:∀ e∈l,e.fin=true/\M e:=fun e he=>⟨yt h.1 he,H e (by have:=Ex.jN he;omega) (yt h.1 he)⟩;have nil:l.length=0->l=[]:=List.eq_nil_of_length_eq_zero;rcases kJ h.2 with g|g|g|g|g|g|g|g|g;obtain⟨rfl,a,b,c,rfl⟩:=g;rw[nil c];exact num _ a b;obtain⟨rfl,a,b,c,rfl⟩:=g;rw[nil c];exact txt _ a b;obtain⟨rfl,a,c,rfl⟩:=g;rw[nil c];exact boo _ a;obtain⟨rfl,a,c,rfl⟩:=g;rw[nil c];exact DZ _ a;obtain⟨rfl,rfl,rfl⟩:=g;exact Wh _ hm;obtain⟨rfl,a,rfl⟩:=g;exact Wi _ _ a hm
   . obtain⟨rfl,c,rfl,rfl⟩:=g
     match l,c,hm with
     | [x,y],_,hm=>exact ix x y (hm x (by simp)).1 (hm y (by simp)).1 (hm x (by simp)).2 (hm y (by simp)).2
   . obtain⟨rfl,a,c,rfl⟩:=g
     match l,c,hm with
     | [x],_,hm =>
       rcases a with rfl|rfl;exact neg x (hm x (by simp)).1 (hm x (by simp)).2;exact nt x (hm x (by simp)).1 (hm x (by simp)).2
   obtain⟨rfl,a,c,rfl⟩:=g
   match l,c,hm with
   | [x,y],_,hm=>exact bin t x y a (hm x (by simp)).1 (hm y (by simp)).1 (hm x (by simp)).2 (hm y (by simp)).2
structure SB(t:Tok):Prop where
 num:t.kind=3->0<=t.n/\t.n<=1000000000000000
 txt:t.kind=4->t.text.size<=200/\aO cJ t.text 0=t.text.size
 DZ:t.kind=1->bR t.text=true
theorem sC{l:List Tok}{i:Int}(h:(aM l i).kind≠0):aM l i∈l:=by
 unfold aM at h ⊢;rw[List.getD_eq_getElem?_getD] at h ⊢;cases hg:l[i.toNat]? with
 | none=>rw[hg] at h;exact absurd rfl h
 | some t=>exact List.mem_of_getElem? hg
theorem qK{l:List Tok}{i:Int}(h:eY l i=true):(aM l i).kind=1:=by
 unfold eY at h;simp only[Bool.and_eq_true,decide_eq_true_eq] at h;exact h.2
theorem zU{l:List Tok}{i lv:Int}(h:cY l i lv=true):dU (aM l i).text=lv/\aA l i (aM l i).text=true:=by
 unfold cY at h;simp only[Bool.and_eq_true,decide_eq_true_eq] at h;exact⟨h.2.2,h.2.1⟩
theorem Ke{l:List Tok}{i:Int}{x:ByteArray}(h:aA l i x=true):(aM l i).text=x/\((aM l i).kind=5∨(aM l i).kind=2):=by
 unfold aA at h;simp only[Bool.and_eq_true,Bool.or_eq_true,decide_eq_true_eq] at h;exact h.2
theorem iK{k n:Int}{t:ByteArray}{L:List Ex}(h1:Ex.iT L=true)(h2:tQ k n t L.length=true):(Ex.mk k n t L).fin=true:=by rw[Ex.fin,h1,h2];rfl
theorem sD{e:Ex}(h:e.fin=true):Ex.iT [e]=true:=by rw[Ex.l7,h,Ex.iL];rfl
theorem EB{x y:Ex}(h:x.fin=true)(h':y.fin=true):Ex.iT [x,y]=true:=by rw[Ex.l7,h,sD h'];rfl
theorem wE{e:Ex}:∀{L:List Ex},Ex.iT L=true->e.fin=true->Ex.iT (L++[e])=true
 | [],_,h=>sD h
 | x::L,hL,h=>by
   rw[Ex.l7,Bool.and_eq_true] at hL;rw[List.cons_append,Ex.l7,hL.1,wE hL.2 h];rfl
theorem C9{t:ByteArray}{x y:Ex}(h:0<dU t)(hx:x.fin=true)(hy:y.fin=true):(iX t x y).fin=true :=
 iK (EB hx hy) (by show (decide (0<dU t)&&_&&_)=true;rw[decide_eq_true h];rfl)
theorem gr_fin{l:List Tok}(H:∀ t∈l,SB t):Gr l (fun _ _ e _=>e.fin=true) (fun _ L _=>Ex.iT L=true) where
 up:=fun _ _ _ _ _ _ h=>h
 bin:=fun lv i x j y k hl hx ho hy=>C9 (by rw[(zU ho).1];omega) hx hy
 cmp:=fun i x j y k hx ho hy=>C9 (by rw[(zU ho).1];omega) hx hy
 pow:=fun i x j y k hx ho hy=>C9 (by rw[(zU ho).1];omega) hx hy
 un3:=fun i x j _ hx=>iK (sD hx) rfl
 un7:=fun i x j _ hx=>iK (sD hx) rfl
 ix:=fun i x j y k hx _ hy _=>iK (EB hx hy) rfl
 jB:=fun i x j _ hx _=>hx
 lst0:=fun i _ _=>iK Ex.iL rfl
 Wh:=fun i L j e k _ hL he _=>iK (wE hL he) rfl
 cal0:=fun i h _ _=>iK Ex.iL (by show (bR _&&_)=true;rw[(H _ (sC (by rw[qK h];decide))).DZ (qK h)];rfl)
 Wi:=fun i L j e k h _ hL he _=>iK (wE hL he) (by show (bR _&&_)=true;rw[(H _ (sC (by rw[qK h];decide))).DZ (qK h)];rfl)
 tru:=fun i _=>iK Ex.iL rfl
 fal:=fun i _=>iK Ex.iL rfl
 num:=fun i _ h=>iK Ex.iL (by
  have:=(H _ (sC (by rw[h];decide))).num h;show (decide _&&decide _&&_&&_)=true;rw[decide_eq_true this.1,decide_eq_true this.2];rfl)
 txt:=fun i _ h=>iK Ex.iL (by
  have:=(H _ (sC (by rw[h];decide))).txt h;show (decide _&&decide _&&_&&_)=true;rw[decide_eq_true (p:=((aM l i).text.size:Int)<=200) (by omega),decide_eq_true (p:=(aO cJ (aM l i).text 0:Int)=(aM l i).text.size) (by omega)];rfl)
 DZ:=fun i h=>iK Ex.iL (by show (bR _&&_&&_)=true;rw[(H _ (sC (by rw[qK h];decide))).DZ (qK h)];rfl)
 nil:=fun i=>Ex.iL
 com:=fun i L j e k hL he _=>wE hL he
def lpB(t:Tok):Bool:=decide (t.text=eH)&&(decide (t.kind=5)||decide (t.kind=2))
def w1(t:Tok):Nat:=bif lpB t then 1 else 0
theorem Wj{e:Ex}(h:e.fin=true):1<=e.lv:=by
 refine uz (M:=fun e=>1<=e.lv) ?_ ?_ ?_ ?_ ?_ ?_ ?_ ?_ ?_ ?_ e.cr e (Nat.le_refl _) h;intro n _ _;show (1:Int)<=10;omega;intro n _ _;show (1:Int)<=10;omega;intro n _;show (1:Int)<=10;omega;intro n _;show (1:Int)<=10;omega;intro n _;show (1:Int)<=10;omega;intro n L _ _;show (1:Int)<=10;omega;intro x y _ _ _ _;show (1:Int)<=9;omega;intro x _ _;rw[yx];omega;intro x _ _;rw[yA];omega;intro t x y ht _ _ _ _;rw[yu];omega
section
variable (l:List Tok)
variable {l}
end
def w2(t:Tok):Nat:=t.text.size+25
section
variable (l:List Tok)
variable {l}
end
section
variable (s:ByteArray) (l:List Tok)
structure Rd(lv i:Int)(e:Ex)(j:Int):Prop where
 z:0<=i
 lt:i<j
 le:j<=l.length
 go:∀ n:Nat,11*(j-i)+11-lv<=n->bQ s l n lv i=cA e j
structure Lp(lv i:Int)(e:Ex)(j:Int):Prop where
 z:0<=i
 lt:i<j
 le:j<=l.length
 go:∀ n:Nat,11*(j-i)+10-lv<=n->∃ k:Nat,l.length+1<=k+(j-i)/\bQ s l (n+1) lv i=mq s l (bQ s l n) lv k e j
structure Ix(i:Int)(e:Ex)(j:Int):Prop where
 z:0<=i
 lt:i<j
 le:j<=l.length
 go:∀ n:Nat,11*(j-i)+1<=n->∃ k:Nat,l.length+1<=k+(j-i)/\bQ s l (n+1) 9 i=pW s l (bQ s l n) k e j
variable {s l}
theorem Qc(n:Nat)(lv i:Int):bQ s l (n+1) lv i=tZ s l (bQ s l n) lv i:=rfl
theorem Wk(ex:jY){lv:Int}(i:Int)(h:lv=1∨lv=2∨lv=4∨lv=5∨lv=6):tZ s l ex lv i=bif (ex (lv+1) i).die then ex (lv+1) i else mq s l ex lv (l.length+1) (ex (lv+1) i).v (ex (lv+1) i).i:=by
 unfold tZ;rw[decide_eq_false (by omega),decide_eq_false (by omega),decide_eq_false (by omega),decide_eq_false (by omega),decide_eq_false (by omega)];rfl
theorem fuel{N:Int}{n:Nat}(h:N<=n)(h1:1<=N):∃ m,n=m+1:=⟨n-1,by omega⟩
theorem rd_lp{lv i:Int}{e:Ex}{j:Int}(hl:lv=1∨lv=2∨lv=4∨lv=5∨lv=6)(h:Rd s l (lv+1) i e j):Lp s l lv i e j:=by
 refine⟨h.z,h.lt,h.le,fun n hn=>⟨l.length+1,by have:=h.lt;omega,?_⟩⟩;rw[Qc,Wk _ _ hl,h.go n (by omega)];rfl
theorem lp_rd{lv i:Int}{e:Ex}{j:Int}(hl:lv<=10)(h:Lp s l lv i e j)(ho:cY l j lv=false):Rd s l lv i e j:=by
 have h1:=h.lt;have h2:=h.le;have h0:=h.z;refine⟨h.z,h.lt,h.le,fun n hn=>?_⟩;obtain⟨m,rfl⟩:=fuel hn (by omega);obtain⟨k,hk,e1⟩:=h.go m (by omega);rw[e1];cases k with
 | zero=>omega
 | succ k=>unfold mq;rw[ho];rfl
theorem lp_step{lv i:Int}{x:Ex}{j:Int}{y:Ex}{k:Int}(hl:lv=1∨lv=2∨lv=5∨lv=6)(h:Lp s l lv i x j)(ho:cY l j lv=true)(hy:Rd s l (lv+1) (j+1) y k):Lp s l lv i (iX (aM l j).text x y) k:=by
 have h1:=h.lt;have h2:=hy.lt;have h3:=hy.le;have h0:=h.z;refine⟨h.z,by omega,h3,fun n hn=>?_⟩;obtain⟨q,hq,e1⟩:=h.go n (by omega);cases q with
 | zero=>omega
 | succ q =>
   refine⟨q,by omega,?_⟩;rw[e1,mq,ho,hy.go n (by omega)];rw[show decide (lv=4)=false from decide_eq_false (by omega)];rfl
theorem rd_cmp{i:Int}{x:Ex}{j:Int}{y:Ex}{k:Int}(h:Rd s l 5 i x j)(ho:cY l j 4=true)(hy:Rd s l 5 (j+1) y k):Rd s l 4 i (iX (aM l j).text x y) k:=by
 have h1:=h.lt;have h2:=hy.lt;have h3:=hy.le;refine⟨h.z,by omega,h3,fun n hn=>?_⟩;obtain⟨m,rfl⟩:=fuel hn (by omega);rw[Qc,Wk _ _ (by omega),show (4:Int)+1=5 from rfl,h.go m (by omega)];show mq s l _ 4 (l.length+1) x j=_;rw[mq,ho,show (4:Int)+1=5 from rfl,hy.go m (by omega)];rfl
theorem rd_pow{i:Int}{x:Ex}{j:Int}{y:Ex}{k:Int}(h:Rd s l 9 i x j)(ho:cY l j 8=true)(hy:Rd s l 7 (j+1) y k):Rd s l 8 i (iX (aM l j).text x y) k:=by
 have h1:=h.lt;have h2:=hy.lt;have h3:=hy.le;refine⟨h.z,by omega,h3,fun n hn=>?_⟩;obtain⟨m,rfl⟩:=fuel hn (by omega);show wY l (bQ s l m) i=_;rw[wY,h.go m (by omega)];show (bif cY l j 8 then(bif (bQ s l m 7 (j+1)).die then bQ s l m 7 (j+1) else cA (iX (aM l j).text x (bQ s l m 7 (j+1)).v) (bQ s l m 7 (j+1)).i) else cA x j)=_;rw[ho,hy.go m (by omega)];rfl
theorem rd_up8{i:Int}{x:Ex}{j:Int}(h:Rd s l 9 i x j)(ho:cY l j 8=false):Rd s l 8 i x j:=by
 have h1:=h.lt;refine⟨h.z,h.lt,h.le,fun n hn=>?_⟩;obtain⟨m,rfl⟩:=fuel hn (by omega);show wY l (bQ s l m) i=_;rw[wY,h.go m (by omega)];show (bif cY l j 8 then _ else _)=_;rw[ho];rfl
theorem rd_not{i:Int}{x:Ex}{j:Int}(hi:0<=i)(ho:aA l i jK=true)(h:Rd s l 3 (i+1) x j):Rd s l 3 i (mG jK x) j:=by
 have h1:=h.lt;refine⟨hi,by omega,h.le,fun n hn=>?_⟩;obtain⟨m,rfl⟩:=fuel hn (by omega);show og l (bQ s l m) jK 3 i=_;rw[og,ho,h.go m (by omega)];rfl
theorem rd_neg{i:Int}{x:Ex}{j:Int}(hi:0<=i)(ho:aA l i gJ=true)(h:Rd s l 7 (i+1) x j):Rd s l 7 i (mG gJ x) j:=by
 have h1:=h.lt;refine⟨hi,by omega,h.le,fun n hn=>?_⟩;obtain⟨m,rfl⟩:=fuel hn (by omega);show og l (bQ s l m) gJ 7 i=_;rw[og,ho,h.go m (by omega)];rfl
theorem rd_up3{i:Int}{x:Ex}{j:Int}(h:Rd s l 4 i x j)(ho:aA l i jK=false):Rd s l 3 i x j:=by
 have h1:=h.lt;refine⟨h.z,h.lt,h.le,fun n hn=>?_⟩;obtain⟨m,rfl⟩:=fuel hn (by omega);show og l (bQ s l m) jK 3 i=_;rw[og,ho];exact h.go m (by omega)
theorem rd_up7{i:Int}{x:Ex}{j:Int}(h:Rd s l 8 i x j)(ho:aA l i gJ=false):Rd s l 7 i x j:=by
 have h1:=h.lt;refine⟨h.z,h.lt,h.le,fun n hn=>?_⟩;obtain⟨m,rfl⟩:=fuel hn (by omega);show og l (bQ s l m) gJ 7 i=_;rw[og,ho];exact h.go m (by omega)
theorem rd_ix{i:Int}{x:Ex}{j:Int}(h:Rd s l 10 i x j):Ix s l i x j:=by
 have h1:=h.lt;refine⟨h.z,h.lt,h.le,fun n hn=>⟨l.length+1,by omega,?_⟩⟩;show (bif (bQ s l n 10 i).die then _ else _)=_;rw[h.go n (by omega)];rfl
theorem ix_rd{i:Int}{x:Ex}{j:Int}(h:Ix s l i x j)(ho:aA l j jh=false):Rd s l 9 i x j:=by
 have h1:=h.lt;have h2:=h.le;have h0:=h.z;refine⟨h.z,h.lt,h.le,fun n hn=>?_⟩;obtain⟨m,rfl⟩:=fuel hn (by omega);obtain⟨k,hk,e1⟩:=h.go m (by omega);rw[e1];cases k with
 | zero=>omega
 | succ k=>unfold pW;rw[ho];rfl
theorem ix_step{i:Int}{x:Ex}{j:Int}{y:Ex}{k:Int}(h:Ix s l i x j)(ho:aA l j jh=true)(hy:Rd s l 1 (j+1) y k)(hr:aA l k ji=true):Ix s l i (vg x y) (k+1):=by
 have h1:=h.lt;have h2:=hy.lt;have h3:=cU hr;have h0:=h.z;refine⟨h.z,by omega,by omega,fun n hn=>?_⟩;obtain⟨q,hq,e1⟩:=h.go n (by omega);cases q with
 | zero=>omega
 | succ q =>
   refine⟨q,by omega,?_⟩;rw[e1,pW,ho,hy.go n (by omega)];show (bif aA l k ji then _ else _)=_;rw[hr];rfl
theorem nV{i:Int}{x:Ex}{j:Int}(h0:0<=i)(h1:i<j)(h2:j<=l.length)(h:∀ n:Nat,11*(j-i)<=n->gB s l (bQ s l n) i=cA x j):Rd s l 10 i x j:=by
 refine⟨h0,h1,h2,fun n hn=>?_⟩;obtain⟨m,rfl⟩:=fuel hn (by omega);exact h m (by omega)
theorem rd_par{i:Int}{x:Ex}{j:Int}(hi:0<=i)(ho:aA l i eH=true)(h:Rd s l 1 (i+1) x j)(hr:aA l j dx=true):Rd s l 10 i x (j+1):=by
 have h1:=h.lt;have h2:=cU hr;refine nV hi (by omega) (by omega) fun n hn=>?_;rw[gB,ho,h.go n (by omega)];show (bif aA l j dx then _ else _)=_;rw[hr];rfl
theorem ic{i:Int}{x y:ByteArray}(h:aA l i x=true)(hn:x≠y):aA l i y=false:=by
 cases hy:aA l i y with
 | false=>rfl
 | true=>exact absurd ((Ke h).1.symm.trans (Ke hy).1) hn
theorem mO{i:Int}{k:Int}(y:ByteArray)(h:(aM l i).kind=k)(h5:k≠5)(h2:k≠2):aA l i y=false:=by
 cases hy:aA l i y with
 | false=>rfl
 | true =>
   have:=(Ke hy).2;rw[h] at this;rcases this with g|g;exact absurd g h5;exact absurd g h2
theorem rd_tru{i:Int}(hi:0<=i)(h:aA l i su=true):Rd s l 10 i (.mk 3 1 eS []) (i+1):=by
 have h2:=cU h;refine nV hi (by omega) (by omega) fun n hn=>?_;rw[gB,ic h (y:=eH) (by decide),ic h (y:=jh) (by decide),h];rfl
theorem rd_fal{i:Int}(hi:0<=i)(h:aA l i tO=true):Rd s l 10 i (.mk 3 0 eS []) (i+1):=by
 have h2:=cU h;refine nV hi (by omega) (by omega) fun n hn=>?_;rw[gB,ic h (y:=eH) (by decide),ic h (y:=jh) (by decide),ic h (y:=su) (by decide),h];rfl
theorem rd_num{i:Int}(hi:0<=i)(h2:i<l.length)(h:(aM l i).kind=3):Rd s l 10 i (.mk 1 (aM l i).n eS []) (i+1):=by
 refine nV hi (by omega) (by omega) fun n hn=>?_;rw[gB,mO eH h (by decide) (by decide),mO jh h (by decide) (by decide),mO su h (by decide) (by decide),mO tO h (by decide) (by decide),decide_eq_false (by omega:¬(l.length:Int)<=i),decide_eq_true h];rfl
theorem rd_txt{i:Int}(hi:0<=i)(h2:i<l.length)(h:(aM l i).kind=4):Rd s l 10 i (.mk 2 0 (aM l i).text []) (i+1):=by
 refine nV hi (by omega) (by omega) fun n hn=>?_;rw[gB,mO eH h (by decide) (by decide),mO jh h (by decide) (by decide),mO su h (by decide) (by decide),mO tO h (by decide) (by decide),decide_eq_false (by omega:¬(l.length:Int)<=i),decide_eq_false (by omega:¬(aM l i).kind=3),decide_eq_true h];rfl
theorem H7{ex:jY}{i:Int}(h2:i<l.length)(h:(aM l i).kind=1):gB s l ex i=bif aA l (i+1) eH then ⟨(dM s l ex dx (i+1+1)).die,(dM s l ex dx (i+1+1)).e,(dM s l ex dx (i+1+1)).a,.mk 6 0 (aM l i).text (dM s l ex dx (i+1+1)).v,(dM s l ex dx (i+1+1)).i⟩ else cA (.mk 4 0 (aM l i).text []) (i+1):=by
 rw[gB,mO eH h (by decide) (by decide),mO jh h (by decide) (by decide),mO su h (by decide) (by decide),mO tO h (by decide) (by decide),decide_eq_false (by omega:¬(l.length:Int)<=i),decide_eq_false (by omega:¬(aM l i).kind=3),decide_eq_false (by omega:¬(aM l i).kind=4)];have:eY l i=true:=by unfold eY;rw[decide_eq_true h2,decide_eq_true h];rfl
 rw[this];rfl
theorem rd_nam{i:Int}(hi:0<=i)(h2:i<l.length)(h:(aM l i).kind=1)(hn:aA l (i+1) eH=false):Rd s l 10 i (.mk 4 0 (aM l i).text []) (i+1):=by
 refine nV hi (by omega) (by omega) fun n hn'=>?_;rw[H7 h2 h,hn];rfl
inductive Ls(s:ByteArray)(l:List Tok)(t:ByteArray):List Ex->Int->Int->Prop where
 | one {e:Ex} {i q:Int}:Rd s l 1 i e q->aA l q t=true->Ls s l t [e] i (q+1)
 | cons {e:Ex} {i q:Int} {L:List Ex} {j:Int}:Rd s l 1 i e q->aA l q t=false->aA l q jL=true->Ls s l t L (q+1) j->Ls s l t (e::L) i j
theorem SC{t:ByteArray}{L:List Ex}{i j:Int}(h:Ls s l t L i j):0<=i/\i+L.length<j/\j<=l.length/\∀(n k:Nat)(acc:List Ex),11*(j-i)<=n->L.length<=k->oe s l (bQ s l n) t k acc i=cA (acc++L) j:=by
 induction h with
 | @one e i q h1 h2 =>
   have a:=h1.lt;have b:=cU h2;refine⟨h1.z,by show i+1<q+1;omega,by omega,fun n k acc hn hk=>?_⟩;cases k with
   | zero=>simp at hk
   | succ k =>
     rw[oe,h1.go n (by omega)];show (bif aA l q t then _ else _)=_;rw[h2];rfl
 | @cons e i q L j h1 h2 h3 _ ih =>
   have a:=h1.lt;obtain⟨b0,b1,b2,b3⟩:=ih;refine⟨h1.z,by rw[List.length_cons];omega,b2,fun n k acc hn hk=>?_⟩;rw[List.length_cons] at hk;cases k with
   | zero=>omega
   | succ k =>
     rw[oe,h1.go n (by omega)];show (bif aA l q t then _ else _)=_;rw[h2];show (bif aA l q jL then oe s l (bQ s l n) t k (acc++[e]) (q+1) else _)=_;rw[h3,b3 n k _ (by omega) (by omega),List.append_assoc];rfl
theorem Qd{t:ByteArray}{L:List Ex}{i j:Int}(h:Ls s l t L i j)(ht:aA l i t=false)(n:Nat)(hn:11*(j-i)<=n):dM s l (bQ s l n) t i=cA L j:=by
 obtain⟨b0,b1,b2,b3⟩:=SC h;rw[dM,ht];exact b3 n _ [] hn (by omega)
theorem rd_lst0{i:Int}(hi:0<=i)(h:aA l i jh=true)(h1:aA l (i+1) ji=true):Rd s l 10 i (.mk 5 0 eS []) (i+1+1):=by
 have h2:=cU h1;refine nV hi (by omega) (by omega) fun n hn=>?_;rw[gB,ic h (y:=eH) (by decide),h,dM,h1];rfl
theorem rd_lst{i:Int}{L:List Ex}{j:Int}(hi:0<=i)(h:aA l i jh=true)(h1:aA l (i+1) ji=false)(hL:Ls s l ji L (i+1) j):Rd s l 10 i (.mk 5 0 eS L) j:=by
 obtain⟨b0,b1,b2,_⟩:=SC hL;refine nV hi (by omega) b2 fun n hn=>?_;rw[gB,ic h (y:=eH) (by decide),h,Qd hL h1 n (by omega)];rfl
theorem rd_cal0{i:Int}(hi:0<=i)(h:(aM l i).kind=1)(h1:aA l (i+1) eH=true)(h2:aA l (i+1+1) dx=true):Rd s l 10 i (.mk 6 0 (aM l i).text []) (i+1+1+1):=by
 have h3:=cU h2;refine nV hi (by omega) (by omega) fun n hn=>?_;rw[H7 (by omega) h,h1,dM,h2];rfl
theorem rd_cal{i:Int}{L:List Ex}{j:Int}(hi:0<=i)(h:(aM l i).kind=1)(h1:aA l (i+1) eH=true)(h2:aA l (i+1+1) dx=false)(hL:Ls s l dx L (i+1+1) j):Rd s l 10 i (.mk 6 0 (aM l i).text L) j:=by
 obtain⟨b0,b1,b2,_⟩:=SC hL;refine nV hi (by omega) b2 fun n hn=>?_;rw[H7 (by omega) h,h1,Qd hL h2 n (by omega)];rfl
end
end Go.Proofs.YtnbjjocbncblaaaGreatDoor
