/- Presentations: words, generators: checks; by both. -/
import Derived.Test.YtejehoihhphpiaaDoorProg
import Derived.Test.YtejehoihhphpiaaDoorLoom4
namespace Go.Proofs.YtejehoihhphpiaaDoor
open Go.Loom
set_option maxRecDepth 100000
abbrev nI (n:Int):A:=.p (.c (.int .i64 n))
abbrev uI (n:Int):A:=.p (.c (.int .u64 n))
abbrev bB (b:Bool):A:=.p (.c (.bool b))
abbrev slI (k n:Nat):A:=.p (.c (.sl k 0 n 1))
abbrev obI (l:List Int):Ob:=⟨3,[.a 0 (.int .i64) l]⟩
abbrev lsI (l:List Int):A:=.p (.c (.rd (.int .i64) l))
abbrev llI (l:List (List Int)):A:=.p (.c (.rd (.sl (.int .i64)) l))
abbrev dI:D:=.sl (.int .i64)
abbrev dL:D:=.sl (.sl (.int .i64))
abbrev prV (g:Int) (r:List (List Int)):V:=.agg [.int .i64 g,.rd (.sl (.int .i64)) r]
abbrev prA (g:Int) (r:List (List Int)):A:=.p (prV g r)
theorem wrap64 {n:Int} (h1:-9223372036854775808<=n) (h2:n<=9223372036854775807):IntKind.i64.wrap n=n:=IntWalk.i64_in n ⟨h1,h2⟩
theorem getD_lt {l:List Int} {i:Nat} (h:i<l.length):l.drop i=l.getD i 0::l.drop (i+1):=by
 rw [List.drop_eq_getElem_cons h,List.getD_eq_getElem?_getD,List.getElem?_eq_getElem h];rfl
theorem getL_lt {l:List (List Int)} {i:Nat} (h:i<l.length):l.drop i=l.getD i []::l.drop (i+1):=by
 rw [List.drop_eq_getElem_cons h,List.getD_eq_getElem?_getD,List.getElem?_eq_getElem h];rfl
theorem take_snoc {l:List Int} {i:Nat} (h:i<l.length):l.take (i+1)=l.take i++[l.getD i 0]:=by
 rw [List.take_add_one,List.getD_eq_getElem?_getD,List.getElem?_eq_getElem h];rfl
theorem takeL_snoc {xs:List (List Int)} {i:Nat} (h:i<xs.length):xs.take (i+1)=xs.take i++[xs.getD i []]:=by
 rw [List.take_add_one,List.getD_eq_getElem?_getD,List.getElem?_eq_getElem h];rfl
/-! ### Letters of generators: the program -/
abbrev obP (g:Int) (r:List (List Int)):Ob:=⟨26,[.c (.int .i64 g),.c (.rd (.sl (.int .i64)) r)]⟩
abbrev fnC:A:=.p (.c (.func 52 [(0,0)]))
def badL (g x:Int):Bool:=decide (x=0)||decide (x<IntKind.i64.wrap (0-g))||decide (g<x)
theorem clos_sem (x g:Int) (r:List (List Int)):FnSem Tryd.prog 52 [nI x,.p (.c (.ptr 0 0))] [obP g r] (bB (badL g x)) [obP g r]:=by
 refine fnSem_at (live:=[]) gamOk_nil Tryd.func52 (by kernel_rfl) (keep:=1) rfl (by kernel_rfl) 100 ?_
 apply of_eq (q:=let q1:=decide (x<IntKind.i64.wrap ((0:Int)-g));let q2:=decide (x=(0:Int));(q2=false->q2=false)/\(q2=false->q2=false)/\(q2=false->q2=false)/\(q2=false->q2=false)/\(q2=false->q2=false)/\((bif q2 then true else q1)=false->(bif q2 then true else q1)=false)/\((bif q2 then true else q1)=false->(bif q2 then true else q1)=false)/\((bif q2 then true else q1)=false->(bif q2 then true else q1)=false)/\((bif q2 then true else q1)=false->(bif q2 then true else q1)=false)/\packV [V.c (W.bool (bif bif q2 then true else q1 then true else decide (g<x)))]=bB (badL g x)/\[Ob.mk 26 [Fd.c (W.int .i64 g),Fd.c (W.rd (D.int .i64).sl r)]]=[obP g r]) (by kernel_rfl)
 try simp only [imp_self,true_and,and_true,Bool.cond_true_left,Bool.or_eq_false_iff,decide_eq_false_iff_not,Int.not_lt]
 rfl
def cClos:Con:={ refs:=[false,true],f:=fun args objs=>match args,objs with | [.p (.c (.int .i64 x)),.p (.c (.ptr 0 0))],[⟨t,[.c (.int .i64 g),.c (.rd (.sl (.int .i64)) r)]⟩]=>(bif Nat.beq t 26 then some (.t,bB (badL g x),[obP g r]) else none) | _,_=>none }
theorem cClos_ok:ConOk Tryd.prog 52 cClos:=by
 refine ⟨by kernel_rfl,fun args objs c r objs' e hc=>?_⟩
 simp only [cClos] at e
 split at e
 . rename_i x t g r
   obtain ⟨ht,e⟩:=Mill.bif_some e
   have ht:=Nat.eq_of_beq_eq_true ht
   subst ht
   cases e
   exact clos_sem x g r
 . cases e
noncomputable def gIx:Gam:=[(52,cClos)]
theorem gIx_ok:GamOk Tryd.prog gIx:=gamOk_cons cClos_ok gamOk_nil
noncomputable def sIx:Site:=mkSite Tryd.prog gIx Tryd.f53 1 [([0,1,0,1],[0,1,7,8])]
def ixL (g:Int):List Int->Nat->Int
 | [],_=>-1
 | x::w,i=>if badL g x then i else ixL g w (i+1)
theorem ixL_any (g:Int):∀ (w:List Int) (i:Nat),decide (0<=ixL g w i)=w.any (badL g)
 | [],i=>rfl
 | x::w,i=>by
   rw [ixL,List.any_cons]
   cases h:badL g x with
   | true=>simp
   | false=>simpa using ixL_any g w (i+1)
theorem ix_loop (w:List Int) (g:Int) (r:List (List Int)) (hl:w.length<=1000000):∀ (k i:Nat),k=w.length-i->i<=w.length->
 AtLoop sIx (Says1 (nI (ixL g (w.drop i) i)) [obP g r]) [0,1,0,1] (fr [(0,lsI w),(1,fnC),(7,nI w.length),(8,nI i)]) (.ofList [obP g r])
 | k,i,hk,hi=>by
   refine atLoop_at gIx_ok (by kernel_rfl) 100 ?_
   apply of_eq (q:=let q1:=(W.rd (D.int .i64).sl r);(decide ((i:Int)<(w.length:Int))=true->((0:Int)<=(i:Int)/\(i:Int)<(w.length:Int))/\i<w.length/\(badL g (w.getD i (0:Int))=true->packV [V.c (W.int .i64 (i:Int))]=nI (ixL g (List.drop i w) i)/\[Ob.mk 26 [Fd.c (W.int .i64 g),Fd.c q1]]=[obP g r])/\(badL g (w.getD i (0:Int))=false->AtLoop sIx (Says1 (nI (ixL g (List.drop i w) i)) [obP g r]) [0,1,0,1] (fr [(0,lsI w),(1,A.p (V.c (W.func 52 [(0,(0:Nat))]))),(7,nI (w.length:Int)),(8,nI (IntKind.i64.wrap ((i:Int)+(1:Int))))]) (Sto.ofList [Ob.mk 26 [Fd.c (W.int .i64 g),Fd.c q1]])))/\(decide ((i:Int)<(w.length:Int))=false->packV [V.c (W.int .i64 (-1))]=nI (ixL g (List.drop i w) i)/\[Ob.mk 26 [Fd.c (W.int .i64 g),Fd.c q1]]=[obP g r])) (by kernel_rfl)
   try simp only [and_true,decide_eq_true_eq,decide_eq_false_iff_not,Int.not_lt]
   rw [wrap64 (n:=(i:Int)+1) (by omega) (by omega)]
   refine ⟨fun h=>⟨by omega,by omega,fun g=>?_,fun g=>?_⟩,fun h=>?_⟩
   . rw [getD_lt (by omega),ixL,if_pos g];rfl
   . rw [getD_lt (by omega),ixL,g,if_neg (by simp)]
     cases k with
     | zero=>omega
     | succ k=>exact ix_loop w _ r hl k (i+1) (by omega) (by omega)
   . rw [List.drop_eq_nil_of_le (by omega)];rfl
theorem ix_sem (w:List Int) (g:Int) (r:List (List Int)) (hl:w.length<=1000000):FnSem Tryd.prog 53 [lsI w,fnC] [obP g r] (nI (ixL g w 0)) [obP g r]:=by
 refine fnSem_at (live:=[([0,1,0,1],[0,1,7,8])]) gIx_ok Tryd.func53 (by kernel_rfl) (keep:=1) rfl (by kernel_rfl) 100 ?_
 apply of_eq (q:=AtLoop (mkSite Tryd.prog gIx Tryd.f53 (1:Nat) [([0,1,0,1],[0,1,7,8])]) (Says1 (nI (ixL g w (0:Nat))) [obP g r]) [0,1,0,1] (fr [(0,lsI w),(1,A.p (V.c (W.func 52 [(0,(0:Nat))]))),(7,nI (w.length:Int)),(8,nI (0))]) (Sto.ofList [Ob.mk 26 [Fd.c (W.int .i64 g),Fd.c (W.rd (D.int .i64).sl r)]])) (by kernel_rfl)
 exact ix_loop w g r hl w.length 0 (by omega) (by omega)
def cIx:Con:={ refs:=[false,true],f:=fun args objs=>match args,objs with | [x,.p (.c (.func f [(0,0)]))],[⟨t,[.c (.int .i64 g),.c (.rd (.sl (.int .i64)) r)]⟩]=>(bif Nat.beq f 52&&Nat.beq t 26 then (match asD dI x with | some w=>some (.p (List.length (α:=Int) w<=1000000),nI (ixL g w 0),[obP g r]) | none=>none) else none) | _,_=>none }
theorem cIx_ok:ConOk Tryd.prog 53 cIx:=by
 refine ⟨by kernel_rfl,fun args objs c r objs' e hc=>?_⟩
 simp only [cIx] at e
 split at e
 . rename_i x f t g r
   obtain ⟨ht,e⟩:=Mill.bif_some e
   simp only [Bool.and_eq_true] at ht
   have h1:=Nat.eq_of_beq_eq_true ht.1
   have h2:=Nat.eq_of_beq_eq_true ht.2
   subst h1 h2
   split at e
   . rename_i w hw
     cases e
     exact (ix_sem w g r hc).args fun η Z vs h=>by
      cases vs with
      | nil=>exact h.elim
      | cons v vs=>exact ⟨asD_rel hw h.1,h.2⟩
   . cases e
 . cases e
noncomputable def gCo2:Gam:=[(53,cIx)]
theorem gCo2_ok:GamOk Tryd.prog gCo2:=gamOk_cons cIx_ok gamOk_nil
theorem co_sem (w:List Int) (g:Int) (r:List (List Int)) (hl:w.length<=1000000):FnSem Tryd.prog 37 [lsI w,fnC] [obP g r] (bB (w.any (badL g))) [obP g r]:=by
 refine fnSem_at (live:=[]) gCo2_ok Tryd.func37 (by kernel_rfl) (keep:=1) rfl (by kernel_rfl) 100 ?_
 apply of_eq (q:=w.length<=(1000000:Nat)/\packV [V.c (W.bool (decide ((0:Int)<=ixL g w (0:Nat))))]=bB (w.any (badL g))/\[Ob.mk 26 [Fd.c (W.int .i64 g),Fd.c (W.rd (D.int .i64).sl r)]]=[obP g r]) (by kernel_rfl)
 try simp only [and_true]
 refine ⟨hl,?_⟩
 rw [ixL_any];rfl
def cCo:Con:={ refs:=[false,true],f:=fun args objs=>match args,objs with | [x,.p (.c (.func f [(0,0)]))],[⟨t,[.c (.int .i64 g),.c (.rd (.sl (.int .i64)) r)]⟩]=>(bif Nat.beq f 52&&Nat.beq t 26 then (match asD dI x with | some w=>some (.p (List.length (α:=Int) w<=1000000),bB (List.any w (badL g)),[obP g r]) | none=>none) else none) | _,_=>none }
theorem cCo_ok:ConOk Tryd.prog 37 cCo:=by
 refine ⟨by kernel_rfl,fun args objs c r objs' e hc=>?_⟩
 simp only [cCo] at e
 split at e
 . rename_i x f t g r
   obtain ⟨ht,e⟩:=Mill.bif_some e
   simp only [Bool.and_eq_true] at ht
   have h1:=Nat.eq_of_beq_eq_true ht.1
   have h2:=Nat.eq_of_beq_eq_true ht.2
   subst h1 h2
   split at e
   . rename_i w hw
     cases e
     exact (co_sem w g r hc).args fun η Z vs h=>by
      cases vs with
      | nil=>exact h.elim
      | cons v vs=>exact ⟨asD_rel hw h.1,h.2⟩
   . cases e
 . cases e
/-! ### Checks -/
def chkGo (g:Int):List (List Int)->Int->Int->Int×Int
 | [],_,_=>(0,-1)
 | w::r,left,i=>if left<w.length then (4,i) else if w.any (badL g) then (2,i) else chkGo g r (left-w.length) (i+1)
def chk (g:Int) (r:List (List Int)):Int×Int:=if g<1∨16<g then (2,-1) else if 100<r.length then (4,-1) else chkGo g r 4000 0
def Sh (r:List (List Int)):Prop:=∀ w∈r,w.length<=1000000
theorem Sh.get {r:List (List Int)} (h:Sh r) (i:Nat):(r.getD i []).length<=1000000:=by
 rw [List.getD_eq_getElem?_getD]
 cases e:r[i]? with
 | none=>simp
 | some u=>exact h u (List.mem_of_getElem? e)
noncomputable def gCk:Gam:=[(37,cCo)]
theorem gCk_ok:GamOk Tryd.prog gCk:=gamOk_cons cCo_ok gamOk_nil
noncomputable def sCk:Site:=mkSite Tryd.prog gCk Tryd.f36 0 [([0,1,0,1,1,1],[1,4,22,23,24])]
theorem check_loop (g:Int) (r:List (List Int)) (hr:Sh r) (hl:r.length<=100):∀ (k i:Nat) (left:Int),k=r.length-i->i<=r.length->0<=left->left<=4000->
 AtLoop sCk (Says1 (.tup [.c (.int .i64 (chkGo g (r.drop i) left i).1),.c (.int .i64 (chkGo g (r.drop i) left i).2)]) []) [0,1,0,1,1,1] (fr [(1,.p (.c (.ptr 0 0))),(4,nI left),(22,llI r),(23,nI r.length),(24,nI i)]) (.ofList [obP g r])
 | k, i, left, hk, hi, h0, h1 => by
   refine atLoop_at gCk_ok (by kernel_rfl) 100 ?_
   apply of_eq (q:=let q1:=(chkGo g (List.drop i r) left (i:Int));let q2:=decide (IntKind.i64.wrap (left-(↑(r.getD i []).length:Int))<(0:Int));let q3:=(W.int .i64 q1.fst);let q4:=(W.int .i64 q1.snd);(decide ((i:Int)<(r.length:Int))=true->((0:Int)<=(i:Int)/\(i:Int)<(r.length:Int))/\i<r.length/\(q2=true->packV [V.c (W.int .i64 (4)),V.c (W.int .i64 (i:Int))]=A.tup [V.c q3,V.c q4]/\([]:List Ob)=[])/\(q2=false->(r.getD i []).length<=(1000000:Nat)/\((r.getD i []).any (badL g)=true->packV [V.c (W.int .i64 (2)),V.c (W.int .i64 (i:Int))]=A.tup [V.c q3,V.c q4]/\([]:List Ob)=[])/\((r.getD i []).any (badL g)=false->AtLoop sCk (Says1 (A.tup [V.c q3,V.c q4]) []) [0,1,0,1,1,1] (fr [(1,A.p (V.c (W.ptr 0 0))),(4,nI (IntKind.i64.wrap (left-(↑(r.getD i []).length:Int)))),(22,llI r),(23,nI (r.length:Int)),(24,nI (IntKind.i64.wrap ((i:Int)+(1:Int))))]) (Sto.ofList [Ob.mk 26 [Fd.c (W.int .i64 g),Fd.c (W.rd (D.int .i64).sl r)]]))))/\(decide ((i:Int)<(r.length:Int))=false->packV [V.c (W.int .i64 (0)),V.c (W.int .i64 (-1))]=A.tup [V.c q3,V.c q4]/\([]:List Ob)=[])) (by kernel_rfl)
   try simp only [and_true,decide_eq_true_eq,decide_eq_false_iff_not,Int.not_lt]
   have hg:=hr.get i
   rw [wrap64 (n:=left-((r.getD i []).length:Int)) (by omega) (by omega),wrap64 (n:=(i:Int)+1) (by omega) (by omega)]
   refine ⟨fun h=>?_,fun h=>?_⟩
   . have e:chkGo g (r.drop i) left i=if left<(r.getD i []).length then (4,(i:Int)) else if (r.getD i []).any (badL g) then (2,(i:Int)) else chkGo g (r.drop (i+1)) (left-(r.getD i []).length) (i+1):=by
      rw [getL_lt (by omega),chkGo]
     rw [e]
     refine ⟨by omega,by omega,fun h2=>?_,fun h2=>⟨hg,fun h3=>?_,fun h3=>?_⟩⟩
     . rw [if_pos (by omega)];rfl
     . rw [if_neg (by omega),if_pos h3];rfl
     . rw [if_neg (by omega),if_neg (by rw [h3];simp)]
       cases k with
       | zero=>omega
       | succ k=>exact check_loop g r hr hl k (i+1) _ (by omega) (by omega) (by omega) (by omega)
   . rw [List.drop_eq_nil_of_le (by omega)];rfl
theorem check_sem (g:Int) (r:List (List Int)) (hr:Sh r):FnSem Tryd.prog 36 [prA g r] [] (.tup [.c (.int .i64 (chk g r).1),.c (.int .i64 (chk g r).2)]) []:=by
 refine fnSem_at (live:=[([0,1,0,1,1,1],[1,4,22,23,24])]) gCk_ok Tryd.func36 (by kernel_rfl) (keep:=0) rfl (by kernel_rfl) 100 ?_
 apply of_eq (q:=let q1:=decide (g<(1:Int));let q2:=(W.int .i64 (chk g r).fst);let q3:=(W.int .i64 (chk g r).snd);(q1=false->q1=false)/\(q1=false->q1=false)/\(q1=false->q1=false)/\((bif q1 then true else decide ((16:Int)<g))=true->packV [V.c (W.int .i64 (2)),V.c (W.int .i64 (-1))]=A.tup [V.c q2,V.c q3]/\([]:List Ob)=[])/\((bif q1 then true else decide ((16:Int)<g))=false->(decide ((100:Int)<(r.length:Int))=true->packV [V.c (W.int .i64 (4)),V.c (W.int .i64 (-1))]=A.tup [V.c q2,V.c q3]/\([]:List Ob)=[])/\(decide ((100:Int)<(r.length:Int))=false->AtLoop (mkSite Tryd.prog gCk Tryd.f36 (0:Nat) [([0,1,0,1,1,1],[1,4,22,23,24])]) (Says1 (A.tup [V.c q2,V.c q3]) []) [0,1,0,1,1,1] (fr [(1,A.p (V.c (W.ptr 0 0))),(4,nI (4000)),(22,llI r),(23,nI (r.length:Int)),(24,nI (0))]) (Sto.ofList [Ob.mk 26 [Fd.c (W.int .i64 g),Fd.c (W.rd (D.int .i64).sl r)]])))) (by kernel_rfl)
 try simp only [imp_self,true_and,and_true,Bool.cond_true_left,Bool.or_eq_true,Bool.or_eq_false_iff,decide_eq_true_eq,decide_eq_false_iff_not,Int.not_lt]
 refine ⟨fun h=>?_,fun h=>⟨fun h2=>?_,fun h2=>?_⟩⟩
 . rw [chk,if_pos h];rfl
 . rw [chk,if_neg (by omega),if_pos (by omega)];rfl
 . rw [chk,if_neg (by omega),if_neg (by omega)]
   exact check_loop g r hr (by omega) r.length 0 4000 (by omega) (by omega) (by omega) (by omega)
def asP:A->Option (Int×List (List Int))
 | .p (.agg [.int .i64 g,.rd d r])=>(match D.of dL (.rd d r) with | some r=>some (g,r) | none=>none)
 | _=>none
theorem asP_rel {η:Eta} {Z:Zeta} {x:A} {g:Int} {r:List (List Int)} (e:asP x=some (g,r)) {v:Value} (h:ARel η Z x v):ARel η Z (prA g r) v:=by
 unfold asP at e
 split at e
 . rename_i g' d r'
   split at e
   . rename_i r2 hr2
     cases e
     obtain ⟨vs,rfl,hd,hl⟩:=h
     refine ⟨vs,rfl,by simp,?_⟩
     match vs,hl with
     | [a,b],⟨h1,h2,_⟩ =>
       refine ⟨h1,?_,trivial⟩
       have:=D.of_rel hr2 (WRel.frel (D.of_clean hr2) h2)
       exact (D.w_wrel dL).2 this
   . cases e
 . cases e
def conP (f:Int->List (List Int)->Cd×A×List Ob):Con:={ refs:=[],f:=fun args objs=>match args,objs with | [x],[]=>(match asP x with | some (g,r)=>some (f g r) | none=>none) | _,_=>none }
theorem conP_ok {P:Program} {f:FuncId} {c:Int->List (List Int)->Cd×A×List Ob} (he:enters P f=true) (h:∀ g r,(c g r).1->FnSem P f [prA g r] [] (c g r).2.1 (c g r).2.2):ConOk P f (conP c):=by
 refine ⟨he,fun args objs cd r objs' e hc=>?_⟩
 simp only [conP] at e
 split at e
 . rename_i x
   split at e
   . rename_i g r' hx
     have e:=Option.some.inj e
     have:=h g r' (by rw [e];exact hc)
     rw [e] at this
     exact this.args fun η Z vs hv=>by
      cases vs with
      | nil=>exact hv.elim
      | cons v vs=>exact ⟨asP_rel hx hv.1,hv.2⟩
   . cases e
 . cases e
def cCheck:Con:=conP fun g r=>(.p (Sh r),.tup [.c (.int .i64 (chk g r).1),.c (.int .i64 (chk g r).2)],[])
theorem cCheck_ok:ConOk Tryd.prog 36 cCheck:=conP_ok (by kernel_rfl) fun g r h=>check_sem g r h
end Go.Proofs.YtejehoihhphpiaaDoor

namespace Go.Proofs.YtejehoihhphpiaaDoor
open Go.Loom
set_option maxRecDepth 100000
abbrev pt (k:Nat):A:=.p (.c (.ptr k 0))
abbrev obLL (l:List (List Int)):Ob:=⟨41,[.a 0 (.sl (.int .i64)) l]⟩
/-! ### Equality -/
/-! ### A word so many times -/
def pw (w:List Int):Nat->List Int
 | 0=>[]
 | n+1=>w++pw w n
theorem pw_add (w:List Int) (m n:Nat):pw w (m+n)=pw w m++pw w n:=by
 induction m with
 | zero=>simp [pw]
 | succ m ih=>rw [Nat.succ_add,pw,pw,ih,List.append_assoc]
theorem pw_length (w:List Int) (n:Nat):(pw w n).length=n*w.length:=by
 induction n with
 | zero=>simp [pw]
 | succ n ih=>rw [pw,List.length_append,ih,Nat.succ_mul];omega
end Go.Proofs.YtejehoihhphpiaaDoor
