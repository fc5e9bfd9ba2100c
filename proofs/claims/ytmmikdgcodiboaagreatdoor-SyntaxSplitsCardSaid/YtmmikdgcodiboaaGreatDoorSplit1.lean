/- Tokens: what the program and the reference ask of bytes. -/
import Derived.Test.YtmmikdgcodiboaaGreatDoorProg
import Derived.Test.YtmmikdgcodiboaaGreatDoorLoom4
import Derived.Test.YtmmikdgcodiboaaGreatDoorShelf1
import Derived.Lib.AtoiAllCases
namespace Go.Proofs.YtmmikdgcodiboaaGreatDoor
open Go.Loom
set_option maxRecDepth 100000
abbrev nI (n:Int):A:=.p (.c (.int .i64 n))
abbrev u8A (n:Int):A:=.p (.c (.int .u8 n))
abbrev bB (b:Bool):A:=.p (.c (.bool b))
abbrev sS (s:ByteArray):A:=.p (.c (.str s))
abbrev lsS (l:List ByteArray):A:=.p (.c (.rd .str l))
abbrev fnA (f:Nat):A:=.p (.c (.func f []))
theorem wrap64 {n:Int} (h1:-9223372036854775808<=n) (h2:n<=9223372036854775807):IntKind.i64.wrap n=n:=IntWalk.i64_in n ⟨h1,h2⟩
def letC (c:Int):Bool:=decide (97<=c)&&decide (c<=122)||decide (65<=c)&&decide (c<=90)
def digC (c:Int):Bool:=decide (48<=c)&&decide (c<=57)
def wrdC (c:Int):Bool:=letC c||digC c||decide (c=95)
def insC (c:Int):Bool:=decide (32<=c)&&decide (c<=126)&&!decide (c=34)
def notN (c:Int):Bool:=!decide (c=10)
theorem letter_sem (c:Int):FnSem Tryz.prog 56 [u8A c] [] (bB (letC c)) []:=by
 refine fnSem_at (live:=[]) gamOk_nil Tryz.func56 (by kernel_rfl) (keep:=0) rfl (by kernel_rfl) 100 ?_
 apply of_eq (q:=let q2:=decide ((97:Int)<=c);let q3:=decide ((65:Int)<=c);let q1:=(bif q2 then decide (c<=122) else false)=false;(q2=true->q2=true)/\(q2=true->q2=true)/\(q1->q1)/\(q1->q1)/\(q1/\q3=true->q1/\q3=true)/\(q1->q1)/\(q1->q3=true->q1/\q3=true)/\(q1->q1)/\packV [vB (bif bif q2 then decide (c<=122) else false then true else bif q3 then decide (c<=90) else false)]=bB (letC c)/\([]:List Ob)=[]) (by kernel_rfl)
 try simp only [sL]
 first | rfl | exact ⟨by omega,rfl⟩ | exact ?a
def c_letter:Con:=con1 (.int .u8) fun c=>(.t,bB (letC c),[])
theorem c_letter_ok:ConOk Tryz.prog 56 c_letter:=con1_ok (by kernel_rfl) fun c _=>letter_sem c
theorem digit_sem (c:Int):FnSem Tryz.prog 58 [u8A c] [] (bB (digC c)) []:=by
 refine fnSem_at (live:=[]) gamOk_nil Tryz.func58 (by kernel_rfl) (keep:=0) rfl (by kernel_rfl) 100 ?_
 apply of_eq (q:=let q1:=decide ((48:Int)<=c);(q1=true->q1=true)/\(q1=true->q1=true)/\packV [vB (bif q1 then decide (c<=57) else false)]=bB (digC c)/\([]:List Ob)=[]) (by kernel_rfl)
 try simp only [sL]
 first | rfl | exact ⟨by omega,rfl⟩ | exact ?a
def c_digit:Con:=con1 (.int .u8) fun c=>(.t,bB (digC c),[])
theorem c_digit_ok:ConOk Tryz.prog 58 c_digit:=con1_ok (by kernel_rfl) fun c _=>digit_sem c
theorem notN_sem (c:Int):FnSem Tryz.prog 55 [u8A c] [] (bB (notN c)) []:=by
 refine fnSem_at (live:=[]) gamOk_nil Tryz.func55 (by kernel_rfl) (keep:=0) rfl (by kernel_rfl) 100 ?_
 apply of_eq (q:=packV [V.c (W.bool !decide (c=10))]=bB (notN c)/\([]:List Ob)=[]) (by kernel_rfl)
 try simp only [sL]
 first | rfl | exact ⟨by omega,rfl⟩ | exact ?a
def c_notN:Con:=con1 (.int .u8) fun c=>(.t,bB (notN c),[])
theorem c_notN_ok:ConOk Tryz.prog 55 c_notN:=con1_ok (by kernel_rfl) fun c _=>notN_sem c
theorem ins_sem (c:Int):FnSem Tryz.prog 61 [u8A c] [] (bB (insC c)) []:=by
 refine fnSem_at (live:=[]) gamOk_nil Tryz.func61 (by kernel_rfl) (keep:=0) rfl (by kernel_rfl) 100 ?_
 apply of_eq (q:=let q2:=decide ((32:Int)<=c);let q1:=(bif q2 then decide (c<=126) else false)=true;(q2=true->q2=true)/\(q2=true->q2=true)/\(q1->q1)/\(q1->q1)/\packV [vB (bif bif q2 then decide (c<=126) else false then !decide (c=34) else false)]=bB (insC c)/\([]:List Ob)=[]) (by kernel_rfl)
 try simp only [sL]
 first | rfl | exact ⟨by omega,rfl⟩ | exact ?a
def c_ins:Con:=con1 (.int .u8) fun c=>(.t,bB (insC c),[])
theorem c_ins_ok:ConOk Tryz.prog 61 c_ins:=con1_ok (by kernel_rfl) fun c _=>ins_sem c
noncomputable def gWr:Gam:=[(56,c_letter),(58,c_digit)]
theorem gWr_ok:GamOk Tryz.prog gWr:=gamOk_cons c_letter_ok (gamOk_cons c_digit_ok gamOk_nil)
theorem wrd_sem (c:Int):FnSem Tryz.prog 57 [u8A c] [] (bB (wrdC c)) []:=by
 refine fnSem_at (live:=[]) gWr_ok Tryz.func57 (by kernel_rfl) (keep:=0) rfl (by kernel_rfl) 100 ?_
 apply of_eq (q:=let q1:=(bif letC c then true else digC c)=false;(letC c=false->letC c=false)/\(letC c=false->letC c=false)/\(q1->q1)/\(q1->q1)/\packV [vB (bif bif letC c then true else digC c then true else decide (c=95))]=bB (wrdC c)/\([]:List Ob)=[]) (by kernel_rfl)
 try simp only [sL]
 first | rfl | exact ⟨by omega,rfl⟩ | exact ?a
def c_wrd:Con:=con1 (.int .u8) fun c=>(.t,bB (wrdC c),[])
theorem c_wrd_ok:ConOk Tryz.prog 57 c_wrd:=con1_ok (by kernel_rfl) fun c _=>wrd_sem c
theorem rletter_sem (c:Int):FnSem Tryz.prog 30 [u8A c] [] (bB (letC c)) []:=by
 refine fnSem_at (live:=[]) gamOk_nil Tryz.func30 (by kernel_rfl) (keep:=0) rfl (by kernel_rfl) 100 ?_
 apply of_eq (q:=let q2:=decide ((97:Int)<=c);let q3:=decide ((65:Int)<=c);let q1:=(bif q2 then decide (c<=122) else false)=false;(q2=true->q2=true)/\(q2=true->q2=true)/\(q1->q1)/\(q1->q1)/\(q1/\q3=true->q1/\q3=true)/\(q1->q1)/\(q1->q3=true->q1/\q3=true)/\(q1->q1)/\packV [vB (bif bif q2 then decide (c<=122) else false then true else bif q3 then decide (c<=90) else false)]=bB (letC c)/\([]:List Ob)=[]) (by kernel_rfl)
 try simp only [sL]
 first | rfl | exact ⟨by omega,rfl⟩ | exact ?a
def c_rletter:Con:=con1 (.int .u8) fun c=>(.t,bB (letC c),[])
theorem c_rletter_ok:ConOk Tryz.prog 30 c_rletter:=con1_ok (by kernel_rfl) fun c _=>rletter_sem c
theorem rdigit_sem (c:Int):FnSem Tryz.prog 31 [u8A c] [] (bB (digC c)) []:=by
 refine fnSem_at (live:=[]) gamOk_nil Tryz.func31 (by kernel_rfl) (keep:=0) rfl (by kernel_rfl) 100 ?_
 apply of_eq (q:=let q1:=decide ((48:Int)<=c);(q1=true->q1=true)/\(q1=true->q1=true)/\packV [vB (bif q1 then decide (c<=57) else false)]=bB (digC c)/\([]:List Ob)=[]) (by kernel_rfl)
 try simp only [sL]
 first | rfl | exact ⟨by omega,rfl⟩ | exact ?a
def c_rdigit:Con:=con1 (.int .u8) fun c=>(.t,bB (digC c),[])
theorem c_rdigit_ok:ConOk Tryz.prog 31 c_rdigit:=con1_ok (by kernel_rfl) fun c _=>rdigit_sem c
theorem rins_sem (c:Int):FnSem Tryz.prog 33 [u8A c] [] (bB (insC c)) []:=by
 refine fnSem_at (live:=[]) gamOk_nil Tryz.func33 (by kernel_rfl) (keep:=0) rfl (by kernel_rfl) 100 ?_
 apply of_eq (q:=let q2:=decide ((32:Int)<=c);let q1:=(bif q2 then decide (c<=126) else false)=true;(q2=true->q2=true)/\(q2=true->q2=true)/\(q1->q1)/\(q1->q1)/\packV [vB (bif bif q2 then decide (c<=126) else false then !decide (c=34) else false)]=bB (insC c)/\([]:List Ob)=[]) (by kernel_rfl)
 try simp only [sL]
 first | rfl | exact ⟨by omega,rfl⟩ | exact ?a
def c_rins:Con:=con1 (.int .u8) fun c=>(.t,bB (insC c),[])
theorem c_rins_ok:ConOk Tryz.prog 33 c_rins:=con1_ok (by kernel_rfl) fun c _=>rins_sem c
def runP (p:Int->Bool) (s:ByteArray) (i:Nat):Nat:=if h:i<s.size/\p (bAt s i)=true then runP p s (i+1) else i
termination_by s.size-i
theorem runP_yes {p:Int->Bool} {s:ByteArray} {i:Nat} (h:i<s.size/\p (bAt s i)=true):runP p s i=runP p s (i+1):=by rw [runP,dif_pos h]
theorem runP_no {p:Int->Bool} {s:ByteArray} {i:Nat} (h:¬ (i<s.size/\p (bAt s i)=true)):runP p s i=i:=by rw [runP,dif_neg h]
theorem runP_ge (p:Int->Bool) (s:ByteArray):∀ (k i:Nat),k=s.size-i->i<=runP p s i/\(i<=s.size->runP p s i<=s.size)
 | k,i,hk=>by
   by_cases h:i<s.size/\p (bAt s i)=true
   . rw [runP_yes h]
     cases k with
     | zero=>omega
     | succ k =>
       have:=runP_ge p s k (i+1) (by omega)
       omega
   . rw [runP_no h];omega
noncomputable def gS_notN:Gam:=[(55,c_notN)]
theorem gS_notN_ok:GamOk Tryz.prog gS_notN:=gamOk_cons c_notN_ok gamOk_nil
noncomputable def sS_notN:Site:=mkSite Tryz.prog gS_notN Tryz.f54 0 [([0,0,1],[0,1,2])]
theorem span_loop_notN (s:ByteArray) (hs:s.size<=1000000):∀ (k i:Nat),k=s.size-i->i<=s.size->AtLoop sS_notN (Says1 (nI (runP notN s i)) []) [0,0,1] (fr [(0,sS s),(1,nI i),(2,fnA 55)]) (.ofList [])
 | k,i,hk,hi=>by
   refine atLoop_at gS_notN_ok (by kernel_rfl) 100 ?_
   apply of_eq (q:=let q2:=decide ((i:Int)<(s.size:Int));let q1:=q2=true;(q1->q1)/\(q1->q1)/\(q1->(0:Int)<=(i:Int)/\(i:Int)<(s.size:Int))/\(q1->q1)/\(q1->q1)/\(q1->q1)/\((bif q2 then notN (bAt s i) else false)=true->AtLoop sS_notN (Says1 (nI (↑(runP notN s i):Int)) []) [0,0,1] (fr [(0,aP (W.str s)),(1,nI (IntKind.i64.wrap ((i:Int)+1))),(2,aP (W.func 55 []))]) (Sto.ofList []))/\((bif q2 then notN (bAt s i) else false)=false->packV [vI (i:Int)]=nI (↑(runP notN s i):Int)/\([]:List Ob)=[])) (by kernel_rfl)
   try simp only [sL]
   refine ⟨fun h=>by omega,fun h=>?_,fun h=>?_⟩
   . have hi1:i<s.size:=by omega
     rw [wrap64 (by omega) (by omega),runP_yes ⟨hi1,h.2⟩]
     cases k with
     | zero=>omega
     | succ k=>exact span_loop_notN s hs k (i+1) (by omega) (by omega)
   . rw [runP_no (by rintro ⟨h1,h2⟩;rw [h (by omega)] at h2;cases h2)];rfl
theorem span_notN (s:ByteArray) (i:Int) (h:s.size<=1000000/\0<=i/\i<=s.size):FnSem Tryz.prog 54 [sS s,nI i,fnA 55] [] (nI (runP notN s i.toNat)) []:=by
 obtain ⟨hs,h0,h1⟩:=h
 obtain ⟨n,rfl⟩:∃ n:Nat,i=n:=⟨i.toNat,by omega⟩
 rw [Int.toNat_natCast]
 refine fnSem_at (live:=[([0,0,1],[0,1,2])]) gS_notN_ok Tryz.func54 (by kernel_rfl) (keep:=0) rfl (by kernel_rfl) 100 ?_
 apply of_eq (q:=AtLoop (mkSite Tryz.prog gS_notN Tryz.f54 (0:Nat) [([0,0,1],[0,1,2])]) (Says1 (nI (↑(runP notN s n):Int)) []) [0,0,1] (fr [(0,aP (W.str s)),(1,nI (n:Int)),(2,aP (W.func 55 []))]) (Sto.ofList [])) (by kernel_rfl)
 try simp only [sL,Int.reduceEq,Int.reduceNe,Nat.reduceAdd]
 exact span_loop_notN s hs _ n rfl (by omega)
noncomputable def gS_wrd:Gam:=[(57,c_wrd)]
theorem gS_wrd_ok:GamOk Tryz.prog gS_wrd:=gamOk_cons c_wrd_ok gamOk_nil
noncomputable def sS_wrd:Site:=mkSite Tryz.prog gS_wrd Tryz.f54 0 [([0,0,1],[0,1,2])]
theorem span_loop_wrd (s:ByteArray) (hs:s.size<=1000000):∀ (k i:Nat),k=s.size-i->i<=s.size->AtLoop sS_wrd (Says1 (nI (runP wrdC s i)) []) [0,0,1] (fr [(0,sS s),(1,nI i),(2,fnA 57)]) (.ofList [])
 | k,i,hk,hi=>by
   refine atLoop_at gS_wrd_ok (by kernel_rfl) 100 ?_
   apply of_eq (q:=let q2:=decide ((i:Int)<(s.size:Int));let q1:=q2=true;(q1->q1)/\(q1->q1)/\(q1->(0:Int)<=(i:Int)/\(i:Int)<(s.size:Int))/\(q1->q1)/\(q1->q1)/\(q1->q1)/\((bif q2 then wrdC (bAt s i) else false)=true->AtLoop sS_wrd (Says1 (nI (↑(runP wrdC s i):Int)) []) [0,0,1] (fr [(0,aP (W.str s)),(1,nI (IntKind.i64.wrap ((i:Int)+1))),(2,aP (W.func 57 []))]) (Sto.ofList []))/\((bif q2 then wrdC (bAt s i) else false)=false->packV [vI (i:Int)]=nI (↑(runP wrdC s i):Int)/\([]:List Ob)=[])) (by kernel_rfl)
   try simp only [sL]
   refine ⟨fun h=>by omega,fun h=>?_,fun h=>?_⟩
   . have hi1:i<s.size:=by omega
     rw [wrap64 (by omega) (by omega),runP_yes ⟨hi1,h.2⟩]
     cases k with
     | zero=>omega
     | succ k=>exact span_loop_wrd s hs k (i+1) (by omega) (by omega)
   . rw [runP_no (by rintro ⟨h1,h2⟩;rw [h (by omega)] at h2;cases h2)];rfl
theorem span_wrd (s:ByteArray) (i:Int) (h:s.size<=1000000/\0<=i/\i<=s.size):FnSem Tryz.prog 54 [sS s,nI i,fnA 57] [] (nI (runP wrdC s i.toNat)) []:=by
 obtain ⟨hs,h0,h1⟩:=h
 obtain ⟨n,rfl⟩:∃ n:Nat,i=n:=⟨i.toNat,by omega⟩
 rw [Int.toNat_natCast]
 refine fnSem_at (live:=[([0,0,1],[0,1,2])]) gS_wrd_ok Tryz.func54 (by kernel_rfl) (keep:=0) rfl (by kernel_rfl) 100 ?_
 apply of_eq (q:=AtLoop (mkSite Tryz.prog gS_wrd Tryz.f54 (0:Nat) [([0,0,1],[0,1,2])]) (Says1 (nI (↑(runP wrdC s n):Int)) []) [0,0,1] (fr [(0,aP (W.str s)),(1,nI (n:Int)),(2,aP (W.func 57 []))]) (Sto.ofList [])) (by kernel_rfl)
 try simp only [sL,Int.reduceEq,Int.reduceNe,Nat.reduceAdd]
 exact span_loop_wrd s hs _ n rfl (by omega)
noncomputable def gS_digit:Gam:=[(58,c_digit)]
theorem gS_digit_ok:GamOk Tryz.prog gS_digit:=gamOk_cons c_digit_ok gamOk_nil
noncomputable def sS_digit:Site:=mkSite Tryz.prog gS_digit Tryz.f54 0 [([0,0,1],[0,1,2])]
theorem span_loop_digit (s:ByteArray) (hs:s.size<=1000000):∀ (k i:Nat),k=s.size-i->i<=s.size->AtLoop sS_digit (Says1 (nI (runP digC s i)) []) [0,0,1] (fr [(0,sS s),(1,nI i),(2,fnA 58)]) (.ofList [])
 | k,i,hk,hi=>by
   refine atLoop_at gS_digit_ok (by kernel_rfl) 100 ?_
   apply of_eq (q:=let q2:=decide ((i:Int)<(s.size:Int));let q1:=q2=true;(q1->q1)/\(q1->q1)/\(q1->(0:Int)<=(i:Int)/\(i:Int)<(s.size:Int))/\(q1->q1)/\(q1->q1)/\(q1->q1)/\((bif q2 then digC (bAt s i) else false)=true->AtLoop sS_digit (Says1 (nI (↑(runP digC s i):Int)) []) [0,0,1] (fr [(0,aP (W.str s)),(1,nI (IntKind.i64.wrap ((i:Int)+1))),(2,aP (W.func 58 []))]) (Sto.ofList []))/\((bif q2 then digC (bAt s i) else false)=false->packV [vI (i:Int)]=nI (↑(runP digC s i):Int)/\([]:List Ob)=[])) (by kernel_rfl)
   try simp only [sL]
   refine ⟨fun h=>by omega,fun h=>?_,fun h=>?_⟩
   . have hi1:i<s.size:=by omega
     rw [wrap64 (by omega) (by omega),runP_yes ⟨hi1,h.2⟩]
     cases k with
     | zero=>omega
     | succ k=>exact span_loop_digit s hs k (i+1) (by omega) (by omega)
   . rw [runP_no (by rintro ⟨h1,h2⟩;rw [h (by omega)] at h2;cases h2)];rfl
theorem span_digit (s:ByteArray) (i:Int) (h:s.size<=1000000/\0<=i/\i<=s.size):FnSem Tryz.prog 54 [sS s,nI i,fnA 58] [] (nI (runP digC s i.toNat)) []:=by
 obtain ⟨hs,h0,h1⟩:=h
 obtain ⟨n,rfl⟩:∃ n:Nat,i=n:=⟨i.toNat,by omega⟩
 rw [Int.toNat_natCast]
 refine fnSem_at (live:=[([0,0,1],[0,1,2])]) gS_digit_ok Tryz.func54 (by kernel_rfl) (keep:=0) rfl (by kernel_rfl) 100 ?_
 apply of_eq (q:=AtLoop (mkSite Tryz.prog gS_digit Tryz.f54 (0:Nat) [([0,0,1],[0,1,2])]) (Says1 (nI (↑(runP digC s n):Int)) []) [0,0,1] (fr [(0,aP (W.str s)),(1,nI (n:Int)),(2,aP (W.func 58 []))]) (Sto.ofList [])) (by kernel_rfl)
 try simp only [sL,Int.reduceEq,Int.reduceNe,Nat.reduceAdd]
 exact span_loop_digit s hs _ n rfl (by omega)
noncomputable def gS_ins:Gam:=[(61,c_ins)]
theorem gS_ins_ok:GamOk Tryz.prog gS_ins:=gamOk_cons c_ins_ok gamOk_nil
noncomputable def sS_ins:Site:=mkSite Tryz.prog gS_ins Tryz.f54 0 [([0,0,1],[0,1,2])]
theorem span_loop_ins (s:ByteArray) (hs:s.size<=1000000):∀ (k i:Nat),k=s.size-i->i<=s.size->AtLoop sS_ins (Says1 (nI (runP insC s i)) []) [0,0,1] (fr [(0,sS s),(1,nI i),(2,fnA 61)]) (.ofList [])
 | k,i,hk,hi=>by
   refine atLoop_at gS_ins_ok (by kernel_rfl) 100 ?_
   apply of_eq (q:=let q2:=decide ((i:Int)<(s.size:Int));let q1:=q2=true;(q1->q1)/\(q1->q1)/\(q1->(0:Int)<=(i:Int)/\(i:Int)<(s.size:Int))/\(q1->q1)/\(q1->q1)/\(q1->q1)/\((bif q2 then insC (bAt s i) else false)=true->AtLoop sS_ins (Says1 (nI (↑(runP insC s i):Int)) []) [0,0,1] (fr [(0,aP (W.str s)),(1,nI (IntKind.i64.wrap ((i:Int)+1))),(2,aP (W.func 61 []))]) (Sto.ofList []))/\((bif q2 then insC (bAt s i) else false)=false->packV [vI (i:Int)]=nI (↑(runP insC s i):Int)/\([]:List Ob)=[])) (by kernel_rfl)
   try simp only [sL]
   refine ⟨fun h=>by omega,fun h=>?_,fun h=>?_⟩
   . have hi1:i<s.size:=by omega
     rw [wrap64 (by omega) (by omega),runP_yes ⟨hi1,h.2⟩]
     cases k with
     | zero=>omega
     | succ k=>exact span_loop_ins s hs k (i+1) (by omega) (by omega)
   . rw [runP_no (by rintro ⟨h1,h2⟩;rw [h (by omega)] at h2;cases h2)];rfl
theorem span_ins (s:ByteArray) (i:Int) (h:s.size<=1000000/\0<=i/\i<=s.size):FnSem Tryz.prog 54 [sS s,nI i,fnA 61] [] (nI (runP insC s i.toNat)) []:=by
 obtain ⟨hs,h0,h1⟩:=h
 obtain ⟨n,rfl⟩:∃ n:Nat,i=n:=⟨i.toNat,by omega⟩
 rw [Int.toNat_natCast]
 refine fnSem_at (live:=[([0,0,1],[0,1,2])]) gS_ins_ok Tryz.func54 (by kernel_rfl) (keep:=0) rfl (by kernel_rfl) 100 ?_
 apply of_eq (q:=AtLoop (mkSite Tryz.prog gS_ins Tryz.f54 (0:Nat) [([0,0,1],[0,1,2])]) (Says1 (nI (↑(runP insC s n):Int)) []) [0,0,1] (fr [(0,aP (W.str s)),(1,nI (n:Int)),(2,aP (W.func 61 []))]) (Sto.ofList [])) (by kernel_rfl)
 try simp only [sL,Int.reduceEq,Int.reduceNe,Nat.reduceAdd]
 exact span_loop_ins s hs _ n rfl (by omega)
def cSpan:Con:={ refs:=[],f:=fun args objs=>match args,objs with
 | [x,y,.p (.c (.func f []))],[]=>match asD .str x,asD (.int .i64) y with
   | some s,some i =>
     bif Nat.beq f 55 then some (.p (ByteArray.size s<=1000000/\0<=(i:Int)/\(i:Int)<=ByteArray.size s),nI (runP notN s (Int.toNat i)),[]) else
     bif Nat.beq f 57 then some (.p (ByteArray.size s<=1000000/\0<=(i:Int)/\(i:Int)<=ByteArray.size s),nI (runP wrdC s (Int.toNat i)),[]) else
     bif Nat.beq f 58 then some (.p (ByteArray.size s<=1000000/\0<=(i:Int)/\(i:Int)<=ByteArray.size s),nI (runP digC s (Int.toNat i)),[]) else
     bif Nat.beq f 61 then some (.p (ByteArray.size s<=1000000/\0<=(i:Int)/\(i:Int)<=ByteArray.size s),nI (runP insC s (Int.toNat i)),[]) else none
   | _,_=>none
 | _,_=>none }
theorem cSpan_ok:ConOk Tryz.prog 54 cSpan:=by
 refine ⟨by kernel_rfl,fun args objs c r objs' e hc=>?_⟩
 simp only [cSpan] at e
 split at e
 . rename_i x y f
   split at e
   . rename_i s i hx hy
     have key:∀ (g:Nat) (p:Int->Bool),(∀ (s:ByteArray) (i:Int),(s.size<=1000000/\0<=i/\i<=s.size)->FnSem Tryz.prog 54 [sS s,nI i,fnA g] [] (nI (runP p s i.toNat)) [])->f=g->
      some ((Cd.p (ByteArray.size s<=1000000/\0<=(i:Int)/\(i:Int)<=ByteArray.size s)),nI (runP p s (Int.toNat i)),([]:List Ob))=some (c,r,objs')->FnSem Tryz.prog 54 [x,y,fnA f] [] r objs':=by
      rintro g p hg rfl e
      cases e
      exact FnSem.args (hg s i hc) fun η Z vs hv=>match vs,hv with | [_,_,_],⟨a,b,d⟩=>⟨asD_rel hx a,asD_rel hy b,d⟩
     cases h1:Nat.beq f 55 with
     | true=>rw [h1] at e;exact key _ _ span_notN (Nat.eq_of_beq_eq_true h1) e
     | false =>
     rw [h1] at e
     cases h2:Nat.beq f 57 with
     | true=>rw [h2] at e;exact key _ _ span_wrd (Nat.eq_of_beq_eq_true h2) e
     | false =>
     rw [h2] at e
     cases h3:Nat.beq f 58 with
     | true=>rw [h3] at e;exact key _ _ span_digit (Nat.eq_of_beq_eq_true h3) e
     | false =>
     rw [h3] at e
     cases h4:Nat.beq f 61 with
     | true=>rw [h4] at e;exact key _ _ span_ins (Nat.eq_of_beq_eq_true h4) e
     | false=>rw [h4] at e;cases e
   . cases e
 . cases e
abbrev dS:D:=.sl .str
def resL:List ByteArray:=[⟨#[97,110,100]⟩,⟨#[100,101,102]⟩,⟨#[101,108,115,101]⟩,⟨#[102,97,108,115,101]⟩,⟨#[102,111,114]⟩,⟨#[105,102]⟩,⟨#[105,110]⟩,⟨#[110,111,116]⟩,⟨#[111,114]⟩,⟨#[112,114,105,110,116]⟩,⟨#[114,101,116,117,114,110]⟩,⟨#[116,114,117,101]⟩,⟨#[119,104,105,108,101]⟩]
def sigL:List ByteArray:=[⟨#[40]⟩,⟨#[41]⟩,⟨#[91]⟩,⟨#[93]⟩,⟨#[123]⟩,⟨#[125]⟩,⟨#[44]⟩,⟨#[59]⟩,⟨#[61]⟩,⟨#[61,61]⟩,⟨#[33,61]⟩,⟨#[60]⟩,⟨#[60,61]⟩,⟨#[62]⟩,⟨#[62,61]⟩,⟨#[43]⟩,⟨#[45]⟩,⟨#[42]⟩,⟨#[47]⟩,⟨#[37]⟩,⟨#[94]⟩]
theorem res_sem:FnSem Tryz.prog 10 [] [] (lsS resL) []:=by
 refine fnSemK_at (live:=[]) (fzl:=[]) (fz:=[some (.sl .str)]) gamOk_nil Tryz.func10 (by kernel_rfl) 0 (by kernel_rfl) 100 ?_
 apply of_eq (q:=let q1:=(101:UInt8);(0:Nat)+13<=13/\packV [V.c (W.rd D.str (List.take (13:Nat) (List.drop (0:Nat) [ByteArray.mk #[(97:UInt8),(110:UInt8),(100:UInt8)],ByteArray.mk #[(100:UInt8),q1,(102:UInt8)],ByteArray.mk #[q1,(108:UInt8),(115:UInt8),q1],ByteArray.mk #[(102:UInt8),(97:UInt8),(108:UInt8),(115:UInt8),q1],ByteArray.mk #[(102:UInt8),(111:UInt8),(114:UInt8)],ByteArray.mk #[(105:UInt8),(102:UInt8)],ByteArray.mk #[(105:UInt8),(110:UInt8)],ByteArray.mk #[(110:UInt8),(111:UInt8),(116:UInt8)],ByteArray.mk #[(111:UInt8),(114:UInt8)],ByteArray.mk #[(112:UInt8),(114:UInt8),(105:UInt8),(110:UInt8),(116:UInt8)],ByteArray.mk #[(114:UInt8),q1,(116:UInt8),(117:UInt8),(114:UInt8),(110:UInt8)],ByteArray.mk #[(116:UInt8),(114:UInt8),(117:UInt8),q1],ByteArray.mk #[(119:UInt8),(104:UInt8),(105:UInt8),(108:UInt8),q1]])))]=lsS resL/\([]:List Ob)=[]) (by kernel_rfl)
 try simp only [sL]
 rfl
def c_res:Con:=con0 (.t,lsS resL,[])
theorem c_res_ok:ConOk Tryz.prog 10 c_res:=con0_ok (by kernel_rfl) fun _=>res_sem
theorem sig_sem:FnSem Tryz.prog 12 [] [] (lsS sigL) []:=by
 refine fnSemK_at (live:=[]) (fzl:=[]) (fz:=[some (.sl .str)]) gamOk_nil Tryz.func12 (by kernel_rfl) 0 (by kernel_rfl) 100 ?_
 apply of_eq (q:=(0:Nat)+21<=21/\packV [V.c (W.rd D.str (List.take (21:Nat) (List.drop (0:Nat) [ByteArray.mk #[(40:UInt8)],ByteArray.mk #[(41:UInt8)],ByteArray.mk #[(91:UInt8)],ByteArray.mk #[(93:UInt8)],ByteArray.mk #[(123:UInt8)],ByteArray.mk #[(125:UInt8)],ByteArray.mk #[(44:UInt8)],ByteArray.mk #[(59:UInt8)],ByteArray.mk #[(61:UInt8)],ByteArray.mk #[(61:UInt8),(61:UInt8)],ByteArray.mk #[(33:UInt8),(61:UInt8)],ByteArray.mk #[(60:UInt8)],ByteArray.mk #[(60:UInt8),(61:UInt8)],ByteArray.mk #[(62:UInt8)],ByteArray.mk #[(62:UInt8),(61:UInt8)],ByteArray.mk #[(43:UInt8)],ByteArray.mk #[(45:UInt8)],ByteArray.mk #[(42:UInt8)],ByteArray.mk #[(47:UInt8)],ByteArray.mk #[(37:UInt8)],ByteArray.mk #[(94:UInt8)]])))]=lsS sigL/\([]:List Ob)=[]) (by kernel_rfl)
 try simp only [sL]
 rfl
def c_sig:Con:=con0 (.t,lsS sigL,[])
theorem c_sig_ok:ConOk Tryz.prog 12 c_sig:=con0_ok (by kernel_rfl) fun _=>sig_sem
theorem rres_sem:FnSem Tryz.prog 11 [] [] (lsS resL) []:=by
 refine fnSemK_at (live:=[]) (fzl:=[]) (fz:=[some (.sl .str)]) gamOk_nil Tryz.func11 (by kernel_rfl) 0 (by kernel_rfl) 100 ?_
 apply of_eq (q:=let q1:=(101:UInt8);(0:Nat)+13<=13/\packV [V.c (W.rd D.str (List.take (13:Nat) (List.drop (0:Nat) [ByteArray.mk #[(97:UInt8),(110:UInt8),(100:UInt8)],ByteArray.mk #[(100:UInt8),q1,(102:UInt8)],ByteArray.mk #[q1,(108:UInt8),(115:UInt8),q1],ByteArray.mk #[(102:UInt8),(97:UInt8),(108:UInt8),(115:UInt8),q1],ByteArray.mk #[(102:UInt8),(111:UInt8),(114:UInt8)],ByteArray.mk #[(105:UInt8),(102:UInt8)],ByteArray.mk #[(105:UInt8),(110:UInt8)],ByteArray.mk #[(110:UInt8),(111:UInt8),(116:UInt8)],ByteArray.mk #[(111:UInt8),(114:UInt8)],ByteArray.mk #[(112:UInt8),(114:UInt8),(105:UInt8),(110:UInt8),(116:UInt8)],ByteArray.mk #[(114:UInt8),q1,(116:UInt8),(117:UInt8),(114:UInt8),(110:UInt8)],ByteArray.mk #[(116:UInt8),(114:UInt8),(117:UInt8),q1],ByteArray.mk #[(119:UInt8),(104:UInt8),(105:UInt8),(108:UInt8),q1]])))]=lsS resL/\([]:List Ob)=[]) (by kernel_rfl)
 try simp only [sL]
 rfl
def c_rres:Con:=con0 (.t,lsS resL,[])
theorem c_rres_ok:ConOk Tryz.prog 11 c_rres:=con0_ok (by kernel_rfl) fun _=>rres_sem
theorem rsig_sem:FnSem Tryz.prog 13 [] [] (lsS sigL) []:=by
 refine fnSemK_at (live:=[]) (fzl:=[]) (fz:=[some (.sl .str)]) gamOk_nil Tryz.func13 (by kernel_rfl) 0 (by kernel_rfl) 100 ?_
 apply of_eq (q:=(0:Nat)+21<=21/\packV [V.c (W.rd D.str (List.take (21:Nat) (List.drop (0:Nat) [ByteArray.mk #[(40:UInt8)],ByteArray.mk #[(41:UInt8)],ByteArray.mk #[(91:UInt8)],ByteArray.mk #[(93:UInt8)],ByteArray.mk #[(123:UInt8)],ByteArray.mk #[(125:UInt8)],ByteArray.mk #[(44:UInt8)],ByteArray.mk #[(59:UInt8)],ByteArray.mk #[(61:UInt8)],ByteArray.mk #[(61:UInt8),(61:UInt8)],ByteArray.mk #[(33:UInt8),(61:UInt8)],ByteArray.mk #[(60:UInt8)],ByteArray.mk #[(60:UInt8),(61:UInt8)],ByteArray.mk #[(62:UInt8)],ByteArray.mk #[(62:UInt8),(61:UInt8)],ByteArray.mk #[(43:UInt8)],ByteArray.mk #[(45:UInt8)],ByteArray.mk #[(42:UInt8)],ByteArray.mk #[(47:UInt8)],ByteArray.mk #[(37:UInt8)],ByteArray.mk #[(94:UInt8)]])))]=lsS sigL/\([]:List Ob)=[]) (by kernel_rfl)
 try simp only [sL]
 rfl
def c_rsig:Con:=con0 (.t,lsS sigL,[])
theorem c_rsig_ok:ConOk Tryz.prog 13 c_rsig:=con0_ok (by kernel_rfl) fun _=>rsig_sem
def hasS (l:List ByteArray) (t:ByteArray):Bool:=l.any fun x=>decide (x=t)
theorem hasS_drop {l:List ByteArray} {t:ByteArray} {i:Nat} (h:i<l.length):hasS (l.drop i) t=(decide (l.getD i ⟨#[]⟩=t)||hasS (l.drop (i+1)) t):=by
 rw [List.drop_eq_getElem_cons h,List.getD_eq_getElem?_getD,List.getElem?_eq_getElem h];rfl
noncomputable def sHas:Site:=mkSite Tryz.prog [] Tryz.f32 0 [([0,1,0,1],[0,1,5])]
theorem has_loop (l:List ByteArray) (t:ByteArray) (hl:l.length<=1000000):∀ (k i:Nat),k=l.length-i->i<=l.length->AtLoop sHas (Says1 (bB (hasS (l.drop i) t)) []) [0,1,0,1] (fr [(0,lsS l),(1,sS t),(5,nI i)]) (.ofList [])
 | k,i,hk,hi=>by
   refine atLoop_at gamOk_nil (by kernel_rfl) 100 ?_
   apply of_eq (q:=(decide ((i:Int)<(l.length:Int))=true->((0:Int)<=(i:Int)/\(i:Int)<(l.length:Int))/\i<l.length/\(decide (l.getD i (ByteArray.mk #[])=t)=true->packV [vB true]=bB (hasS (List.drop i l) t)/\([]:List Ob)=[])/\(decide (l.getD i (ByteArray.mk #[])=t)=false->AtLoop sHas (Says1 (bB (hasS (List.drop i l) t)) []) [0,1,0,1] (fr [(0,aP (W.rd D.str l)),(1,aP (W.str t)),(5,nI (IntKind.i64.wrap ((i:Int)+1)))]) (Sto.ofList [])))/\(decide ((i:Int)<(l.length:Int))=false->packV [vB false]=bB (hasS (List.drop i l) t)/\([]:List Ob)=[])) (by kernel_rfl)
   try simp only [sL]
   refine ⟨fun h=>⟨by omega,by omega,fun h1=>?_,fun h1=>?_⟩,fun h=>?_⟩
   . rw [hasS_drop (by omega),h1,decide_eq_true rfl];rfl
   . rw [wrap64 (by omega) (by omega),hasS_drop (by omega),decide_eq_false h1,Bool.false_or]
     cases k with
     | zero=>omega
     | succ k=>exact has_loop l t hl k (i+1) (by omega) (by omega)
   . rw [List.drop_eq_nil_of_le (by omega)];rfl
theorem has_sem (l:List ByteArray) (t:ByteArray) (hl:l.length<=1000000):FnSem Tryz.prog 32 [lsS l,sS t] [] (bB (hasS l t)) []:=by
 refine fnSem_at (live:=[([0,1,0,1],[0,1,5])]) gamOk_nil Tryz.func32 (by kernel_rfl) (keep:=0) rfl (by kernel_rfl) 100 ?_
 apply of_eq (q:=AtLoop (mkSite Tryz.prog [] Tryz.f32 (0:Nat) [([0,1,0,1],[0,1,5])]) (Says1 (bB (hasS l t)) []) [0,1,0,1] (fr [(0,aP (W.rd D.str l)),(1,aP (W.str t)),(5,nI (0))]) (Sto.ofList [])) (by kernel_rfl)
 try simp only [sL,Int.reduceEq,Int.reduceNe,Nat.reduceAdd]
 have:=has_loop l t hl _ 0 rfl (by omega)
 rw [List.drop_zero] at this
 exact this
def c_has:Con:=con2 dS .str fun l t=>(.p (List.length (α:=ByteArray) l<=1000000),bB (hasS l t),[])
theorem c_has_ok:ConOk Tryz.prog 32 c_has:=con2_ok (by kernel_rfl) fun l t h=>has_sem l t h
def idxS:List ByteArray->ByteArray->Int->Int
 | [],_,_=>-1
 | x::l,t,i=>if x=t then i else idxS l t (i+1)
theorem idxS_has (l:List ByteArray) (t:ByteArray):∀ i:Int,0<=i->decide (0<=idxS l t i)=hasS l t:=by
 induction l with
 | nil=>intro i _;rfl
 | cons x l ih =>
   intro i h
   unfold idxS hasS
   by_cases hx:x=t
   . rw [if_pos hx,List.any_cons,decide_eq_true hx,Bool.true_or,decide_eq_true h]
   . rw [if_neg hx,List.any_cons,decide_eq_false hx,Bool.false_or]
     exact ih (i+1) (by omega)
noncomputable def sIdx:Site:=mkSite Tryz.prog [] Tryz.f92 0 [([0,1,0,1],[0,1,7,8])]
theorem idx_loop (l:List ByteArray) (t:ByteArray) (hl:l.length<=1000000):∀ (k i:Nat),k=l.length-i->i<=l.length->AtLoop sIdx (Says1 (nI (idxS (l.drop i) t i)) []) [0,1,0,1] (fr [(0,lsS l),(1,sS t),(7,nI l.length),(8,nI i)]) (.ofList [])
 | k,i,hk,hi=>by
   refine atLoop_at gamOk_nil (by kernel_rfl) 100 ?_
   apply of_eq (q:=let q1:=(idxS (List.drop i l) t (i:Int));(decide ((i:Int)<(l.length:Int))=true->((0:Int)<=(i:Int)/\(i:Int)<(l.length:Int))/\i<l.length/\(decide (t=l.getD i (ByteArray.mk #[]))=true->packV [vI (i:Int)]=nI q1/\([]:List Ob)=[])/\(decide (t=l.getD i (ByteArray.mk #[]))=false->AtLoop sIdx (Says1 (nI q1) []) [0,1,0,1] (fr [(0,aP (W.rd D.str l)),(1,aP (W.str t)),(7,nI (l.length:Int)),(8,nI (IntKind.i64.wrap ((i:Int)+1)))]) (Sto.ofList [])))/\(decide ((i:Int)<(l.length:Int))=false->packV [vI (-1)]=nI q1/\([]:List Ob)=[])) (by kernel_rfl)
   try simp only [sL]
   refine ⟨fun h=>⟨by omega,by omega,fun h1=>?_,fun h1=>?_⟩,fun h=>?_⟩
   . rw [List.drop_eq_getElem_cons (by omega),idxS,if_pos (by rw [h1,List.getD_eq_getElem?_getD,List.getElem?_eq_getElem (by omega)];rfl)];rfl
   . rw [wrap64 (by omega) (by omega),List.drop_eq_getElem_cons (by omega),idxS,if_neg (by rintro rfl;exact h1 (by rw [List.getD_eq_getElem?_getD,List.getElem?_eq_getElem (by omega)];rfl))]
     cases k with
     | zero=>omega
     | succ k=>exact idx_loop l t hl k (i+1) (by omega) (by omega)
   . rw [List.drop_eq_nil_of_le (by omega)];rfl
theorem idx_sem (l:List ByteArray) (t:ByteArray) (hl:l.length<=1000000):FnSem Tryz.prog 92 [lsS l,sS t] [] (nI (idxS l t 0)) []:=by
 refine fnSem_at (live:=[([0,1,0,1],[0,1,7,8])]) gamOk_nil Tryz.func92 (by kernel_rfl) (keep:=0) rfl (by kernel_rfl) 100 ?_
 apply of_eq (q:=AtLoop (mkSite Tryz.prog [] Tryz.f92 (0:Nat) [([0,1,0,1],[0,1,7,8])]) (Says1 (nI (idxS l t (0:Int))) []) [0,1,0,1] (fr [(0,aP (W.rd D.str l)),(1,aP (W.str t)),(7,nI (l.length:Int)),(8,nI (0))]) (Sto.ofList [])) (by kernel_rfl)
 try simp only [sL,Int.reduceEq,Int.reduceNe,Nat.reduceAdd]
 have:=idx_loop l t hl _ 0 rfl (by omega)
 rw [List.drop_zero] at this
 exact this
def c_idx:Con:=con2 dS .str fun l t=>(.p (List.length (α:=ByteArray) l<=1000000),nI (idxS l t 0),[])
theorem c_idx_ok:ConOk Tryz.prog 92 c_idx:=con2_ok (by kernel_rfl) fun l t h=>idx_sem l t h
noncomputable def gCt:Gam:=[(92,c_idx)]
theorem gCt_ok:GamOk Tryz.prog gCt:=gamOk_cons c_idx_ok gamOk_nil
theorem cont_sem (l:List ByteArray) (t:ByteArray) (hl:l.length<=1000000):FnSem Tryz.prog 59 [lsS l,sS t] [] (bB (hasS l t)) []:=by
 refine fnSem_at (live:=[]) gCt_ok Tryz.func59 (by kernel_rfl) (keep:=0) rfl (by kernel_rfl) 100 ?_
 apply of_eq (q:=l.length<=1000000/\packV [vB (decide ((0:Int)<=idxS l t (0:Int)))]=bB (hasS l t)/\([]:List Ob)=[]) (by kernel_rfl)
 try simp only [sL]
 rw [<-idxS_has l t 0 (by omega)]
 exact ⟨hl,rfl⟩
def c_cont:Con:=con2 dS .str fun l t=>(.p (List.length (α:=ByteArray) l<=1000000),bB (hasS l t),[])
theorem c_cont_ok:ConOk Tryz.prog 59 c_cont:=con2_ok (by kernel_rfl) fun l t h=>cont_sem l t h
def prefS (s t:ByteArray):Bool:=decide (t.size<=s.size)&&decide (s.extract 0 t.size=t)
theorem pref0_sem (s t:ByteArray):FnSem Tryz.prog 95 [sS s,sS t] [] (bB (prefS s t)) []:=by
 refine fnSem_at (live:=[]) gamOk_nil Tryz.func95 (by kernel_rfl) (keep:=0) rfl (by kernel_rfl) 100 ?_
 apply of_eq (q:=let q1:=decide ((t.size:Int)<=(s.size:Int))=true;(q1->q1)/\(q1->q1)/\(q1->q1)/\(q1->(0:Int)<=0/\(0:Int)<=(t.size:Int)/\(t.size:Int)<=(s.size:Int))/\(q1->q1)/\(q1->q1)/\(q1->q1)/\packV [vB (bif decide ((t.size:Int)<=(s.size:Int)) then decide (s.extract (0:Nat) t.size=t) else false)]=bB (prefS s t)/\([]:List Ob)=[]) (by kernel_rfl)
 try simp only [sL]
 refine ⟨fun h=>by omega,?_⟩
 unfold prefS
 rw [show decide ((t.size:Int)<=s.size)=decide (t.size<=s.size) from by rw [decide_eq_decide];omega]
 rfl
def c_pref0:Con:=con2 .str .str fun s t=>(.t,bB (prefS s t),[])
theorem c_pref0_ok:ConOk Tryz.prog 95 c_pref0:=con2_ok (by kernel_rfl) fun s t _=>pref0_sem s t
noncomputable def gPf:Gam:=[(95,c_pref0)]
theorem gPf_ok:GamOk Tryz.prog gPf:=gamOk_cons c_pref0_ok gamOk_nil
theorem pref_sem (s t:ByteArray):FnSem Tryz.prog 62 [sS s,sS t] [] (bB (prefS s t)) []:=by
 refine fnSem_at (live:=[]) gPf_ok Tryz.func62 (by kernel_rfl) (keep:=0) rfl (by kernel_rfl) 100 ?_
 apply of_eq (q:=packV [vB (prefS s t)]=bB (prefS s t)/\([]:List Ob)=[]) (by kernel_rfl)
 try simp only [sL]
 rfl
def c_pref:Con:=con2 .str .str fun s t=>(.t,bB (prefS s t),[])
theorem c_pref_ok:ConOk Tryz.prog 62 c_pref:=con2_ok (by kernel_rfl) fun s t _=>pref_sem s t
noncomputable def sSame:Site:=mkSite Tryz.prog [] Tryz.f9 0 [([0,1,0,1,1],[0,1,5])]
theorem same_loop (l m:List ByteArray) (hl:l.length<=1000000/\m.length=l.length):∀ (k i:Nat),k=l.length-i->i<=l.length->AtLoop sSame (Says1 (bB (decide (l.drop i=m.drop i))) []) [0,1,0,1,1] (fr [(0,lsS l),(1,lsS m),(5,nI i)]) (.ofList [])
 | k, i, hk, hi => by
   refine atLoop_at gamOk_nil (by kernel_rfl) 100 ?_
   apply of_eq (q:=let q1:=decide (List.drop i l=List.drop i m);let q2:=decide (l.getD i (ByteArray.mk #[])=m.getD i (ByteArray.mk #[]));(decide ((i:Int)<(l.length:Int))=true->((0:Int)<=(i:Int)/\(i:Int)<(l.length:Int))/\i<l.length/\((0:Int)<=(i:Int)/\(i:Int)<(m.length:Int))/\i<m.length/\((!q2)=true->packV [vB false]=bB (q1)/\([]:List Ob)=[])/\((!q2)=false->AtLoop sSame (Says1 (bB (q1)) []) [0,1,0,1,1] (fr [(0,aP (W.rd D.str l)),(1,aP (W.rd D.str m)),(5,nI (IntKind.i64.wrap ((i:Int)+1)))]) (Sto.ofList [])))/\(decide ((i:Int)<(l.length:Int))=false->packV [vB true]=bB (q1)/\([]:List Ob)=[])) (by kernel_rfl)
   try simp only [sL]
   obtain ⟨hl1,hl2⟩:=hl
   refine ⟨fun h=>⟨by omega,by omega,by omega,by omega,fun h1=>?_,fun h1=>?_⟩,fun h=>?_⟩
   . rw [decide_eq_false]
     . rfl
     . intro e
       rw [List.drop_eq_getElem_cons (l:=l) (i:=i) (by omega),List.drop_eq_getElem_cons (l:=m) (i:=i) (by omega)] at e
       apply h1
       rw [List.getD_eq_getElem?_getD,List.getElem?_eq_getElem (by omega),List.getD_eq_getElem?_getD,List.getElem?_eq_getElem (by omega)]
       exact (List.cons.inj e).1
   . rw [wrap64 (by omega) (by omega)]
     have e:decide (l.drop i=m.drop i)=decide (l.drop (i+1)=m.drop (i+1)):=by
      rw [List.drop_eq_getElem_cons (l:=l) (i:=i) (by omega),List.drop_eq_getElem_cons (l:=m) (i:=i) (by omega)]
      rw [List.getD_eq_getElem?_getD,List.getElem?_eq_getElem (by omega),List.getD_eq_getElem?_getD,List.getElem?_eq_getElem (by omega)] at h1
      have h1:l[i]=m[i]:=h1
      rw [h1]
      exact decide_eq_decide.2 ⟨fun e=>(List.cons.inj e).2,fun e=>by rw [e]⟩
     rw [e]
     cases k with
     | zero=>omega
     | succ k=>exact same_loop l m ⟨hl1,hl2⟩ k (i+1) (by omega) (by omega)
   . rw [List.drop_eq_nil_of_le (by omega),List.drop_eq_nil_of_le (by omega)];rfl
theorem same_sem (l m:List ByteArray) (hl:l.length<=1000000/\m.length<=1000000):FnSem Tryz.prog 9 [lsS l,lsS m] [] (bB (decide (l=m))) []:=by
 refine fnSem_at (live:=[([0,1,0,1,1],[0,1,5])]) gamOk_nil Tryz.func9 (by kernel_rfl) (keep:=0) rfl (by kernel_rfl) 100 ?_
 apply of_eq (q:=((!decide ((l.length:Int)=(m.length:Int)))=true->packV [vB false]=bB (decide (l=m))/\([]:List Ob)=[])/\((!decide ((l.length:Int)=(m.length:Int)))=false->AtLoop (mkSite Tryz.prog [] Tryz.f9 (0:Nat) [([0,1,0,1,1],[0,1,5])]) (Says1 (bB (decide (l=m))) []) [0,1,0,1,1] (fr [(0,aP (W.rd D.str l)),(1,aP (W.rd D.str m)),(5,nI (0))]) (Sto.ofList []))) (by kernel_rfl)
 try simp only [sL]
 refine ⟨fun h=>?_,fun h=>?_⟩
 . rw [decide_eq_false (by rintro rfl;exact h rfl)];rfl
 . have:=same_loop l m ⟨hl.1,by omega⟩ _ 0 rfl (by omega)
   rw [List.drop_zero,List.drop_zero] at this
   exact this
def c_same:Con:=con2 dS dS fun l m=>(.p (List.length (α:=ByteArray) l<=1000000/\List.length (α:=ByteArray) m<=1000000),bB (decide ((show List ByteArray from l)=m)),[])
theorem c_same_ok:ConOk Tryz.prog 9 c_same:=con2_ok (by kernel_rfl) fun l m h=>same_sem l m h
structure Tok where
 kind:Int
 text:ByteArray
 n:Int
 at_:Int
deriving DecidableEq
def Tok.pvs (t:Tok):List PV:=[.int t.kind,.str t.text,.int t.n,.int t.at_]
def flatT (l:List Tok):List PV:=l.flatMap Tok.pvs
abbrev tksA (l:List Tok):A:=.p (.c (.rs 4 (flatT l)))
theorem flatT_len (l:List Tok):(flatT l).length=l.length*4:=by
 induction l with
 | nil=>rfl
 | cons t l ih=>rw [flatT,List.flatMap_cons,List.length_append];show 4+(flatT l).length=_;rw [ih,List.length_cons];omega
theorem flatT_drop (l:List Tok):∀ i,(flatT l).drop (i*4)=flatT (l.drop i):=by
 induction l with
 | nil=>intro i;simp [flatT]
 | cons t l ih =>
   intro i
   cases i with
   | zero=>simp
   | succ i =>
     rw [show (i+1)*4=4+i*4 by omega,<-List.drop_drop]
     exact ih i
theorem flatT_get {l:List Tok} {i:Nat} (h:i<l.length) (j:Nat) (hj:j<4):(flatT l).getD (i*4+j) (.bool false)=(l[i].pvs).getD j (.bool false):=by
 have e:(flatT l).getD (i*4+j) (.bool false)=((flatT l).drop (i*4)).getD j (.bool false):=by
  rw [List.getD_eq_getElem?_getD,List.getD_eq_getElem?_getD,List.getElem?_drop]
 rw [e,flatT_drop,List.drop_eq_getElem_cons h,flatT,List.flatMap_cons,List.getD_eq_getElem?_getD,List.getElem?_append_left (by exact hj),<-List.getD_eq_getElem?_getD]
theorem fg0 {l:List Tok} {i:Nat} (h:i<l.length):(flatT l).getD (i*4) (.bool false)=.int l[i].kind:=flatT_get h 0 (by omega)
theorem fg1 {l:List Tok} {i:Nat} (h:i<l.length):(flatT l).getD (i*4+1) (.bool false)=.str l[i].text:=flatT_get h 1 (by omega)
theorem fg2 {l:List Tok} {i:Nat} (h:i<l.length):(flatT l).getD (i*4+1+1) (.bool false)=.int l[i].n:=flatT_get h 2 (by omega)
theorem fg3 {l:List Tok} {i:Nat} (h:i<l.length):(flatT l).getD (i*4+1+1+1) (.bool false)=.int l[i].at_:=flatT_get h 3 (by omega)
theorem tok_eq {a b:Tok} (h:a.kind=b.kind/\a.text=b.text/\a.n=b.n/\a.at_=b.at_):a=b:=by
 cases a;cases b;obtain ⟨rfl,rfl,rfl,rfl⟩:=h;rfl
noncomputable def sSt:Site:=mkSite Tryz.prog [] Tryz.f8 0 [([0,1,0,1,1],[0,1,5])]
theorem st_loop (a b : List Tok) (hl : a.length ≤ 1000000 ∧ b.length = a.length) : ∀ (k i : Nat), k = a.length - i → i ≤ a.length → AtLoop sSt (Says1 (bB (decide (a.drop i = b.drop i))) []) [0, 1, 0, 1, 1] (fr [(0, tksA a), (1, tksA b), (5, nI i)]) (.ofList [])
 | k, i, hk, hi => by
   refine atLoop_at gamOk_nil (by kernel_rfl) 100 ?_
   apply of_eq (q:=let q5:=decide (List.drop i a=List.drop i b);let q6:=(flatT a);let q7:=(flatT b);let q1:=decide ((q6.getD (i*4+1+1+1) (PV.bool false)).asInt=(q7.getD (i*4+1+1+1) (PV.bool false)).asInt);let q2:=decide ((q6.getD (i*4+1+1) (PV.bool false)).asInt=(q7.getD (i*4+1+1) (PV.bool false)).asInt);let q3:=decide ((q6.getD (i*4+1) (PV.bool false)).asStr=(q7.getD (i*4+1) (PV.bool false)).asStr);let q4:=decide ((q6.getD (i*4) (PV.bool false)).asInt=(q7.getD (i*4) (PV.bool false)).asInt);(decide ((i:Int)<(↑(q6.length / 4):Int))=true->((0:Int)<=(i:Int)/\i*4<q6.length)/\i*4+4<=q6.length/\(PV.int (0:Int)).like (q6.getD (i*4) (PV.bool false))=true/\(PV.str (ByteArray.mk #[])).like (q6.getD (i*4+1) (PV.bool false))=true/\(PV.int (0:Int)).like (q6.getD (i*4+1+1) (PV.bool false))=true/\(PV.int (0:Int)).like (q6.getD (i*4+1+1+1) (PV.bool false))=true/\((0:Int)<=(i:Int)/\i*4<q7.length)/\i*4+4<=q7.length/\(PV.int (0:Int)).like (q7.getD (i*4) (PV.bool false))=true/\(PV.str (ByteArray.mk #[])).like (q7.getD (i*4+1) (PV.bool false))=true/\(PV.int (0:Int)).like (q7.getD (i*4+1+1) (PV.bool false))=true/\(PV.int (0:Int)).like (q7.getD (i*4+1+1+1) (PV.bool false))=true/\((!(q4&&(q3&&(q2&&(q1&&true)))))=true->packV [vB false]=bB (q5)/\([]:List Ob)=[])/\((!(q4&&(q3&&(q2&&(q1&&true)))))=false->AtLoop sSt (Says1 (bB (q5)) []) [0,1,0,1,1] (fr [(0,aP (W.rs (4:Nat) q6)),(1,aP (W.rs (4:Nat) q7)),(5,nI (IntKind.i64.wrap ((i:Int)+1)))]) (Sto.ofList [])))/\(decide ((i:Int)<(↑(q6.length / 4):Int))=false->packV [vB true]=bB (q5)/\([]:List Ob)=[])) (by kernel_rfl)
   try simp only [sL]
   obtain ⟨hl1,hl2⟩:=hl
   simp only [flatT_len,Nat.mul_div_cancel _ (show 0<4 by omega)]
   refine ⟨fun h=>?_,fun h=>?_⟩
   . have ha:i<a.length:=by omega
     have hb:i<b.length:=by omega
     rw [fg0 ha,fg1 ha,fg2 ha,fg3 ha,fg0 hb,fg1 hb,fg2 hb,fg3 hb]
     refine ⟨by omega,by omega,rfl,rfl,rfl,rfl,by omega,by omega,rfl,rfl,rfl,rfl,fun h1=>?_,fun h1=>?_⟩
     . rw [decide_eq_false]
       . rfl
       . intro e
         rw [List.drop_eq_getElem_cons (l:=a) (i:=i) (by omega),List.drop_eq_getElem_cons (l:=b) (i:=i) (by omega)] at e
         have e1:=(List.cons.inj e).1
         have:=h1 (by rw [e1]) (by rw [e1]) (by rw [e1]) (by rw [e1])
         cases this
     . have h2:=tok_eq h1
       have e:decide (a.drop i=b.drop i)=decide (a.drop (i+1)=b.drop (i+1)):=by
        rw [List.drop_eq_getElem_cons (l:=a) (i:=i) (by omega),List.drop_eq_getElem_cons (l:=b) (i:=i) (by omega),h2]
        exact decide_eq_decide.2 ⟨fun e=>(List.cons.inj e).2,fun e=>by rw [e]⟩
       rw [wrap64 (by omega) (by omega),e]
       cases k with
       | zero=>omega
       | succ k=>exact st_loop a b ⟨hl1,hl2⟩ k (i+1) (by omega) (by omega)
   . rw [List.drop_eq_nil_of_le (by omega),List.drop_eq_nil_of_le (by omega)];rfl
theorem st_sem (a b:List Tok) (hl:a.length<=1000000/\b.length<=1000000):FnSem Tryz.prog 8 [tksA a,tksA b] [] (bB (decide (a=b))) []:=by
 refine fnSem_at (live:=[([0,1,0,1,1],[0,1,5])]) gamOk_nil Tryz.func8 (by kernel_rfl) (keep:=0) rfl (by kernel_rfl) 100 ?_
 apply of_eq (q:=let q1:=decide ((↑((flatT a).length / 4):Int)=(↑((flatT b).length / 4):Int));((!q1)=true->packV [vB false]=bB (decide (a=b))/\([]:List Ob)=[])/\((!q1)=false->AtLoop (mkSite Tryz.prog [] Tryz.f8 (0:Nat) [([0,1,0,1,1],[0,1,5])]) (Says1 (bB (decide (a=b))) []) [0,1,0,1,1] (fr [(0,aP (W.rs (4:Nat) (flatT a))),(1,aP (W.rs (4:Nat) (flatT b))),(5,nI (0))]) (Sto.ofList []))) (by kernel_rfl)
 try simp only [sL]
 simp only [flatT_len,Nat.mul_div_cancel _ (show 0<4 by omega)]
 refine ⟨fun h=>?_,fun h=>?_⟩
 . rw [decide_eq_false (by rintro rfl;exact h rfl)];rfl
 . have:=st_loop a b ⟨hl.1,by omega⟩ _ 0 rfl (by omega)
   rw [List.drop_zero,List.drop_zero] at this
   exact this
noncomputable def gTk:Gam:=[(30,c_rletter),(31,c_rdigit),(33,c_rins),(32,c_has),(11,c_rres),(13,c_rsig)]
theorem gTk_ok:GamOk Tryz.prog gTk:=gamOk_cons c_rletter_ok (gamOk_cons c_rdigit_ok (gamOk_cons c_rins_ok (gamOk_cons c_has_ok (gamOk_cons c_rres_ok (gamOk_cons c_rsig_ok gamOk_nil)))))
def tokLive:List (List Nat×List Nat):=[([0,0,0,1,0,1,1],[0,1,4,6,7,8]),([0,0,0,1,0,1,1,1],[0,1,4,6,7,8,9]),([0,1,0,1,1,1,0,1,0,1,1,1],[0,1,4,6,7,8,10]),([0,0,0,1,0,1,1,1,1],[0,1,4,6,7,8]),([0,1,0,1,1,1,1,1,1],[0,1,4,6,7,8,11])]
noncomputable def sTk:Site:=mkSite Tryz.prog gTk Tryz.f18 0 tokLive
abbrev eS:ByteArray:=⟨#[]⟩
abbrev obT (k:Int) (x:ByteArray) (n a:Int):Ob:=⟨43,[.c (.int .i64 k),.c (.str x),.c (.int .i64 n),.c (.int .i64 a)]⟩
abbrev obF (e a:Int):Ob:=⟨27,[.c (.int .i64 e),.c (.int .i64 a)]⟩
abbrev tkV (k:Int) (x:ByteArray) (n a e er ea:Int):A:=.tup [.agg [.int .i64 k,.str x,.int .i64 n,.int .i64 a],.c (.int .i64 e),.agg [.int .i64 er,.int .i64 ea]]
structure TkR where
 t:Tok
 e:Int
 er:Int
 ea:Int
abbrev TkR.v (r:TkR):A:=tkV r.t.kind r.t.text r.t.n r.t.at_ r.e r.er r.ea
def nameT (s:ByteArray) (a e:Nat):TkR :=
 if hasS resL (s.extract a e)=true then ⟨⟨2,s.extract a e,0,a⟩,e,0,0⟩ else
 if 20<(s.extract a e).size then ⟨⟨1,s.extract a e,0,a⟩,e,4,a⟩ else ⟨⟨1,s.extract a e,0,a⟩,e,0,0⟩
def numF (s:ByteArray) (e i:Nat) (n:Int):Int×Bool :=
 if h:i<e then (if 1000000000000000<n*10+(bAt s i-48) then (n*10+(bAt s i-48),true) else numF s e (i+1) (n*10+(bAt s i-48))) else (n,false)
termination_by e-i
def numT (s:ByteArray) (a e:Nat):TkR :=
 if bAt s a=48/\a+1<e then ⟨⟨3,eS,0,a⟩,e,11,a⟩ else
 if (numF s e a 0).2=true then ⟨⟨3,eS,(numF s e a 0).1,a⟩,e,2,a⟩ else ⟨⟨3,eS,(numF s e a 0).1,a⟩,e,0,0⟩
def quoT (s:ByteArray) (a e:Nat):TkR :=
 if e=s.size∨bAt s e≠34 then ⟨⟨0,eS,0,a⟩,e,11,e⟩ else
 if 200<(s.extract (a+1) e).size then ⟨⟨4,s.extract (a+1) e,0,a⟩,e,4,a⟩ else ⟨⟨4,s.extract (a+1) e,0,a⟩,(e+1:Nat),0,0⟩
def sigT (s:ByteArray) (a:Nat):Nat->TkR
 | 0=>⟨⟨5,eS,0,a⟩,(a+1:Nat),11,a⟩
 | n+1=>if a+(n+1)<=s.size/\hasS sigL (s.extract a (a+(n+1)))=true then ⟨⟨5,s.extract a (a+(n+1)),0,a⟩,(a+(n+1):Nat),0,0⟩ else sigT s a n
def tokT (s:ByteArray) (a:Nat):TkR :=
 if letC (bAt s a)=true then nameT s a (runP wrdC s (a+1)) else
 if digC (bAt s a)=true then numT s a (runP digC s (a+1)) else
 if bAt s a=34 then quoT s a (runP insC s (a+1)) else sigT s a 2
abbrev tkFr (s:ByteArray) (a e:Int):List (Nat×A):=[(0,sS s),(1,nI a),(4,.p (.c (.ptr 0 0))),(6,.p (.c (.ptr 1 0))),(7,.p (.c (.ptr 2 0))),(8,nI e)]
theorem wrap8 {n:Int} (h1:0<=n) (h2:n<=255):IntKind.u8.wrap n=n:=IntWalk.u8_in n ⟨h1,h2⟩
theorem ext_size {s:ByteArray} {a e:Nat} (h:a<=e) (he:e<=s.size):(s.extract a e).size=e-a:=by
 rw [ByteArray.size_extract];omega
theorem tk1 (s:ByteArray) (hs:s.size<=1000000) (a:Nat):∀ (k i:Nat),k=s.size-i->a<i->i<=s.size->AtLoop sTk (Says1 (nameT s a (runP wrdC s i)).v []) [0,0,0,1,0,1,1] (fr (tkFr s a i)) (.ofList [obT 0 eS 0 0,obF 0 0,obT 0 eS 0 a])
 | k,i,hk,ha,hi=>by
   refine atLoop_at gTk_ok (by kernel_rfl) 100 ?_
   apply of_eq (q:=let q4:=(s.extract a i);let q5:=(i:Int);let q6:=(bAt s i);let q7:=(nameT s a (runP wrdC s i));let q8:=(s.size:Int);let q1:=decide (q5<q8)=true;let q2:=(bif letC q6 then true else digC q6)=false;let q3:=(R1.pure (Cd.t.and Cd.t) (aP (W.str q4))).v=(R1.pure (Cd.t.and Cd.t) (aP (W.str q4))).v;(q1->q1)/\(q1->q1)/\(q1->(0:Int)<=q5/\q5<q8)/\(q1->q1)/\(q1->q1)/\(q1/\letC q6=false->q1/\letC q6=false)/\(q1/\letC q6=false->q1/\letC q6=false)/\(q1/\letC q6=false->(0:Int)<=q5/\q5<q8)/\(q1/\letC q6=false->q1/\letC q6=false)/\(q1->q1)/\(q1->letC q6=false->q1/\letC q6=false)/\(q1->q1)/\(q1/\q2->q1/\q2)/\(q1/\q2->q1/\q2)/\(q1/\q2->(0:Int)<=q5/\q5<q8)/\(q1/\q2->q1/\q2)/\(q1->q1)/\(q1->q2->q1/\q2)/\(q1->q1)/\((bif decide (q5<q8) then bif bif letC q6 then true else digC q6 then true else decide (bAt s i=95) else false)=true->AtLoop sTk (Says1 q7.v []) [0,0,0,1,0,1,1] (fr [(0,aP (W.str s)),(1,nI (a:Int)),(4,aR 0 0),(6,aR 1 0),(7,aR 2 0),(8,nI (IntKind.i64.wrap (q5+1)))]) (Sto.ofList [Ob.mk 43 [fI (0),Fd.c (W.str eS),fI (0),fI (0)],Ob.mk 27 [fI (0),fI (0)],Ob.mk 43 [fI (0),Fd.c (W.str eS),fI (0),fI (a:Int)]]))/\((bif decide (q5<q8) then bif bif letC q6 then true else digC q6 then true else decide (bAt s i=95) else false)=false->((0:Int)<=(a:Int)/\(a:Int)<=q5/\q5<=q8)/\(13:Nat)<=1000000/\q3/\q3/\(hasS resL q4=true->packV [V.agg [wI (2),W.str q4,wI (0),wI (a:Int)],vI q5,V.agg [wI (0),wI (0)]]=q7.v/\([]:List Ob)=[])/\(hasS resL q4=false->(decide ((20:Int)<(↑q4.size:Int))=true->packV [V.agg [wI (1),W.str q4,wI (0),wI (a:Int)],vI q5,V.agg [wI (4),wI (a:Int)]]=q7.v/\([]:List Ob)=[])/\(decide ((20:Int)<(↑q4.size:Int))=false->packV [V.agg [wI (1),W.str q4,wI (0),wI (a:Int)],vI q5,V.agg [wI (0),wI (0)]]=q7.v/\([]:List Ob)=[])))) (by kernel_rfl)
   try simp only [sL]
   have key:wrdC (bAt s i)=true↔(letC (bAt s i)=true∨digC (bAt s i)=true)∨bAt s i=95:=by
    unfold wrdC;simp only [Bool.or_eq_true,decide_eq_true_eq]
   refine ⟨fun h=>by omega,fun h=>by omega,fun h1 h2=>⟨h1,h2⟩,fun h=>by omega,fun h1 h2=>⟨h1,h2.1,h2.2⟩,fun h=>?_,fun h=>⟨by omega,by omega,fun h1=>?_,fun h1=>⟨fun h2=>?_,fun h2=>?_⟩⟩⟩
   . rw [wrap64 (by omega) (by omega),runP_yes ⟨by omega,key.2 h.2⟩]
     cases k with
     | zero=>omega
     | succ k=>exact tk1 s hs a k (i+1) (by omega) (by omega) (by omega)
   all_goals
    have e:runP wrdC s i=i:=runP_no (by
     rintro ⟨h3,h4⟩
     have h5:=h (by omega)
     rcases key.1 h4 with (h6 | h6) | h6
     . rw [h5.1.1] at h6;cases h6
     . rw [h5.1.2] at h6;cases h6
     . exact h5.2 h6)
    rw [e]
    unfold nameT
   . rw [if_pos h1];rfl
   . rw [if_neg (by rw [h1];simp),if_pos (by omega)];rfl
   . rw [if_neg (by rw [h1];simp),if_neg (by omega)];rfl
theorem tk3 (s:ByteArray) (hs:s.size<=1000000) (a e:Nat) (hd:∀ j,a<=j->j<e->digC (bAt s j)=true) (hc:¬ (bAt s a=48/\a+1<e)):∀ (k i:Nat) (n:Int),k=e-i->a<=i->i<=e->e<=s.size->0<=n/\n<=1000000000000000->numF s e i n=numF s e a 0->AtLoop sTk (Says1 (numT s a e).v []) [0,1,0,1,1,1,0,1,0,1,1,1] (fr (tkFr s a e++[(10,nI i)])) (.ofList [obT 0 eS 0 0,obF 0 0,obT 3 eS n a])
 | k,i,n,hk,ha,hi,he,hn,hN=>by
   refine atLoop_at gTk_ok (by kernel_rfl) 100 ?_
   apply of_eq (q:=let q0:=IntKind.i64.wrap;let q1:=(q0 (n*10)+q0 (IntKind.u8.wrap (bAt s i-48)));let q2:=(R1.pure (Cd.t.and Cd.t) (nI n));let q3:=decide ((1000000000000000:Int)<q0 q1);(decide ((i:Int)<(e:Int))=true->((0:Int)<=(i:Int)/\(i:Int)<(s.size:Int))/\q2.v=q2.v/\q2.v=q2.v/\(q3=true->packV [V.agg [wI (3),W.str eS,wI (q0 q1),wI (a:Int)],vI (e:Int),V.agg [wI (2),wI (a:Int)]]=(numT s a e).v/\([]:List Ob)=[])/\(q3=false->AtLoop sTk (Says1 (numT s a e).v []) [0,1,0,1,1,1,0,1,0,1,1,1] (fr [(0,aP (W.str s)),(1,nI (a:Int)),(4,aR 0 0),(6,aR 1 0),(7,aR 2 0),(8,nI (e:Int)),(10,nI (q0 ((i:Int)+1)))]) (Sto.ofList [Ob.mk 43 [fI (0),Fd.c (W.str eS),fI (0),fI (0)],Ob.mk 27 [fI (0),fI (0)],Ob.mk 43 [fI (3),Fd.c (W.str eS),fI (q0 q1),fI (a:Int)]])))/\(decide ((i:Int)<(e:Int))=false->packV [V.agg [wI (3),W.str eS,wI n,wI (a:Int)],vI (e:Int),V.agg [wI (0),wI (0)]]=(numT s a e).v/\([]:List Ob)=[])) (by kernel_rfl)
   try simp only [sL]
   have hdg:i<e->48<=bAt s i/\bAt s i<=57:=fun h=>by
    have:=hd i ha h
    unfold digC at this
    simpa only [Bool.and_eq_true,decide_eq_true_eq] using this
   have hw:i<e->IntKind.i64.wrap (IntKind.i64.wrap (n*10)+IntKind.i64.wrap (IntKind.u8.wrap (bAt s i-48)))=n*10+(bAt s i-48):=fun h=>by
    have:=hdg h
    rw [wrap8 (by omega) (by omega),wrap64 (n:=n*10) (by omega) (by omega),wrap64 (n:=bAt s i-48) (by omega) (by omega),wrap64 (by omega) (by omega)]
   refine ⟨fun h=>⟨by omega,fun h1=>?_,fun h1=>?_⟩,fun h=>?_⟩
   . rw [hw (by omega)] at h1 ⊢
     have e1:numF s e a 0=(n*10+(bAt s i-48),true):=by rw [<-hN,numF,dif_pos (by omega),if_pos h1]
     unfold numT
     rw [if_neg hc,e1,if_pos rfl];rfl
   . rw [hw (by omega)] at h1 ⊢
     have:=hdg (by omega)
     rw [wrap64 (by omega) (by omega)]
     cases k with
     | zero=>omega
     | succ k=>exact tk3 s hs a e hd hc k (i+1) _ (by omega) (by omega) (by omega) he (by omega) (by rw [<-hN,numF.eq_1 s e i n,dif_pos (by omega),if_neg (by omega)])
   . have e1:numF s e a 0=(n,false):=by rw [<-hN,numF,dif_neg (by omega)]
     unfold numT
     rw [if_neg hc,e1,if_neg (by simp)];rfl
theorem tk2 (s:ByteArray) (hs:s.size<=1000000) (a:Nat):∀ (k i:Nat),k=s.size-i->a<i->i<=s.size->(∀ j,a<=j->j<i->digC (bAt s j)=true)->AtLoop sTk (Says1 (numT s a (runP digC s i)).v []) [0,0,0,1,0,1,1,1] (fr (tkFr s a i++[(9,u8A (bAt s a))])) (.ofList [obT 0 eS 0 0,obF 0 0,obT 0 eS 0 a])
 | k, i, hk, ha, hi, hd => by
   refine atLoop_at gTk_ok (by kernel_rfl) 100 ?_
   apply of_eq (q:=let q1:=decide ((i:Int)<(s.size:Int));let q2:=decide (bAt s a=48)=true;let q3:=decide (IntKind.i64.wrap ((a:Int)+1)<(i:Int));(q1=true->q1=true)/\(q1=true->q1=true)/\(q1=true->(0:Int)<=(i:Int)/\(i:Int)<(s.size:Int))/\(q1=true->q1=true)/\(q1=true->q1=true)/\((bif q1 then digC (bAt s i) else false)=true->AtLoop sTk (Says1 (numT s a (runP digC s i)).v []) [0,0,0,1,0,1,1,1] (fr [(0,aP (W.str s)),(1,nI (a:Int)),(4,aR 0 0),(6,aR 1 0),(7,aR 2 0),(8,nI (IntKind.i64.wrap ((i:Int)+1))),(9,aP (W.int .u8 (bAt s a)))]) (Sto.ofList [Ob.mk 43 [fI (0),Fd.c (W.str eS),fI (0),fI (0)],Ob.mk 27 [fI (0),fI (0)],Ob.mk 43 [fI (0),Fd.c (W.str eS),fI (0),fI (a:Int)]]))/\((bif q1 then digC (bAt s i) else false)=false->(q2->q2)/\(q2->q2)/\(q2->q2)/\(q2->q2)/\((bif decide (bAt s a=48) then q3 else false)=true->packV [V.agg [wI (3),W.str eS,wI (0),wI (a:Int)],vI (i:Int),V.agg [wI (11),wI (a:Int)]]=(numT s a (runP digC s i)).v/\([]:List Ob)=[])/\((bif decide (bAt s a=48) then q3 else false)=false->AtLoop sTk (Says1 (numT s a (runP digC s i)).v []) [0,1,0,1,1,1,0,1,0,1,1,1] (fr [(0,aP (W.str s)),(1,nI (a:Int)),(4,aR 0 0),(6,aR 1 0),(7,aR 2 0),(8,nI (i:Int)),(10,nI (a:Int))]) (Sto.ofList [Ob.mk 43 [fI (0),Fd.c (W.str eS),fI (0),fI (0)],Ob.mk 27 [fI (0),fI (0)],Ob.mk 43 [fI (3),Fd.c (W.str eS),fI (0),fI (a:Int)]])))) (by kernel_rfl)
   try simp only [sL]
   refine ⟨fun h=>by omega,fun h=>?_,fun h=>⟨fun h1=>?_,fun h1=>?_⟩⟩
   . rw [wrap64 (by omega) (by omega),runP_yes ⟨by omega,h.2⟩]
     cases k with
     | zero=>omega
     | succ k=>exact tk2 s hs a k (i+1) (by omega) (by omega) (by omega) (fun j h1 h2=>by
      by_cases hj:j=i
      . subst hj;exact h.2
      . exact hd j h1 (by omega))
   all_goals
    have e:runP digC s i=i:=runP_no (by rintro ⟨h3,h4⟩;rw [h (by omega)] at h4;cases h4)
    rw [e]
    rw [wrap64 (n:=(a:Int)+1) (by omega) (by omega)] at h1
   . unfold numT
     rw [if_pos (by omega)];rfl
   . exact tk3 s hs a i hd (by omega) _ a 0 rfl (Nat.le_refl _) (by omega) hi (by omega) rfl
theorem tk4 (s:ByteArray) (hs:s.size<=1000000) (a:Nat):∀ (k i:Nat),k=s.size-i->a<i->i<=s.size->AtLoop sTk (Says1 (quoT s a (runP insC s i)).v []) [0,0,0,1,0,1,1,1,1] (fr (tkFr s a i)) (.ofList [obT 0 eS 0 0,obF 0 0,obT 0 eS 0 a])
 | k,i,hk,ha,hi=>by
   refine atLoop_at gTk_ok (by kernel_rfl) 100 ?_
   apply of_eq (q:=let q0:=IntKind.i64.wrap;let q3:=(s.extract (q0 ((a:Int)+1)).toNat i);let q4:=(i:Int);let q5:=(quoT s a (runP insC s i));let q6:=(s.size:Int);let q1:=decide (q4=q6)=false;let q2:=decide (q4<q6);(q2=true->q2=true)/\(q2=true->q2=true)/\(q2=true->(0:Int)<=q4/\q4<q6)/\(q2=true->q2=true)/\(q2=true->q2=true)/\((bif q2 then insC (bAt s i) else false)=true->AtLoop sTk (Says1 q5.v []) [0,0,0,1,0,1,1,1,1] (fr [(0,aP (W.str s)),(1,nI (a:Int)),(4,aR 0 0),(6,aR 1 0),(7,aR 2 0),(8,nI (q0 (q4+1)))]) (Sto.ofList [Ob.mk 43 [fI (0),Fd.c (W.str eS),fI (0),fI (0)],Ob.mk 27 [fI (0),fI (0)],Ob.mk 43 [fI (0),Fd.c (W.str eS),fI (0),fI (a:Int)]]))/\((bif q2 then insC (bAt s i) else false)=false->(q1->q1)/\(q1->q1)/\(q1->(0:Int)<=q4/\q4<q6)/\(q1->q1)/\(q1->q1)/\((bif decide (q4=q6) then true else !decide (bAt s i=34))=true->packV [V.agg [wI (0),W.str eS,wI (0),wI (a:Int)],vI q4,V.agg [wI (11),wI q4]]=q5.v/\([]:List Ob)=[])/\((bif decide (q4=q6) then true else !decide (bAt s i=34))=false->((0:Int)<=q0 ((a:Int)+1)/\q0 ((a:Int)+1)<=q4/\q4<=q6)/\(decide ((200:Int)<(↑q3.size:Int))=true->packV [V.agg [wI (4),W.str q3,wI (0),wI (a:Int)],vI q4,V.agg [wI (4),wI (a:Int)]]=q5.v/\([]:List Ob)=[])/\(decide ((200:Int)<(↑q3.size:Int))=false->packV [V.agg [wI (4),W.str q3,wI (0),wI (a:Int)],vI (q0 (q4+1)),V.agg [wI (0),wI (0)]]=q5.v/\([]:List Ob)=[])))) (by kernel_rfl)
   try simp only [sL]
   have e1:((a:Int)+1).toNat=a+1:=by omega
   refine ⟨fun h=>by omega,fun h=>?_,fun h=>⟨fun h1=>by omega,fun h1=>?_,fun h1=>?_⟩⟩
   . rw [wrap64 (by omega) (by omega),runP_yes ⟨by omega,h.2⟩]
     cases k with
     | zero=>omega
     | succ k=>exact tk4 s hs a k (i+1) (by omega) (by omega) (by omega)
   all_goals
    have e:runP insC s i=i:=runP_no (by rintro ⟨h3,h4⟩;rw [h (by omega)] at h4;cases h4)
    rw [e]
   . unfold quoT
     rw [if_pos (by rcases h1 with h1 | h1;exact .inl (by omega);exact .inr h1)];rfl
   . rw [wrap64 (n:=(a:Int)+1) (by omega) (by omega),wrap64 (n:=(i:Int)+1) (by omega) (by omega),e1]
     unfold quoT
     rw [if_neg (by rintro (h2 | h2);omega;exact h2 h1.2)]
     refine ⟨by omega,fun h2=>?_,fun h2=>?_⟩
     . rw [if_pos (by omega)];rfl
     . rw [if_neg (by omega)];rfl
theorem tk5 (s:ByteArray) (hs:s.size<=1000000) (a:Nat) (ha:a<s.size):∀ (n:Nat),n<=2->AtLoop sTk (Says1 (sigT s a n).v []) [0,1,0,1,1,1,1,1,1] (fr (tkFr s a (a+1:Nat)++[(11,nI n)])) (.ofList [obT 0 eS 0 0,obF 0 0,obT 5 eS 0 a])
 | n,hn=>by
   refine atLoop_at gTk_ok (by kernel_rfl) 100 ?_
   apply of_eq (q:=let q0:=IntKind.i64.wrap;let q2:=((a:Int)+(n:Int));let q4:=(s.extract a (q0 q2).toNat);let q5:=(a:Int)<=q0 q2/\q0 q2<=(s.size:Int);let q1:=decide (q0 q2<=(s.size:Int));let q3:=q1=true;(decide ((0:Int)<(n:Int))=true->(q3->q3)/\(q3->q3)/\(q3->q3)/\(q3->q3)/\(q3->q3)/\(q3->(0:Int)<=(a:Int)/\q5)/\(q3->q3)/\(q3->q3)/\(q3->(21:Nat)<=1000000)/\(q3->q3)/\((bif q1 then hasS sigL q4 else false)=true->((0:Int)<=(a:Int)/\q5)/\packV [V.agg [wI (5),W.str q4,wI (0),wI (a:Int)],vI (q0 q2),V.agg [wI (0),wI (0)]]=(sigT s a n).v/\([]:List Ob)=[])/\((bif q1 then hasS sigL q4 else false)=false->AtLoop sTk (Says1 (sigT s a n).v []) [0,1,0,1,1,1,1,1,1] (fr [(0,aP (W.str s)),(1,nI (a:Int)),(4,aR 0 0),(6,aR 1 0),(7,aR 2 0),(8,nI (↑(a+1):Int)),(11,nI (q0 ((n:Int)-1)))]) (Sto.ofList [Ob.mk 43 [fI (0),Fd.c (W.str eS),fI (0),fI (0)],Ob.mk 27 [fI (0),fI (0)],Ob.mk 43 [fI (5),Fd.c (W.str eS),fI (0),fI (a:Int)]])))/\(decide ((0:Int)<(n:Int))=false->packV [V.agg [wI (5),W.str eS,wI (0),wI (a:Int)],vI (↑(a+1):Int),V.agg [wI (11),wI (a:Int)]]=(sigT s a n).v/\([]:List Ob)=[])) (by kernel_rfl)
   try simp only [sL]
   have e1:((a:Int)+n).toNat=a+n:=by omega
   rw [wrap64 (n:=(a:Int)+n) (by omega) (by omega),e1]
   cases n with
   | zero=>exact ⟨fun h=>by omega,fun _=>rfl⟩
   | succ n =>
     have e2:((a:Int)+((n+1:Nat):Int))=((a+(n+1):Nat):Int):=by omega
     refine ⟨fun _=>⟨fun h=>by omega,fun _=>by omega,fun h=>⟨by omega,?_⟩,fun h=>?_⟩,fun h=>by omega⟩
     . rw [sigT,if_pos ⟨by omega,h.2⟩,e2];rfl
     . rw [wrap64 (by omega) (by omega),sigT,if_neg (by rintro ⟨h1,h2⟩;rw [h (by omega)] at h2;cases h2),show (((n+1:Nat):Int)-1)=(n:Int) by omega]
       exact tk5 s hs a ha n (by omega)
theorem tok_sem (s:ByteArray) (a:Nat) (h:s.size<=1000000/\a<s.size):FnSem Tryz.prog 18 [sS s,nI a] [] (tokT s a).v []:=by
 obtain ⟨hs,ha⟩:=h
 refine fnSem_at (live:=tokLive) gTk_ok Tryz.func18 (by kernel_rfl) (keep:=0) rfl (by kernel_rfl) 100 ?_
 apply of_eq (q:=let q3:=Fd.c (W.str (ByteArray.mk #[]));let q4:=(8,nI (IntKind.i64.wrap ((a:Int)+1)));let q1:=(Sto.ofList [Ob.mk 43 [fI (0),q3,fI (0),fI (0)],Ob.mk 27 [fI (0),fI (0)],Ob.mk 43 [fI (0),q3,fI (0),fI (a:Int)]]);let q2:=(fr [(0,aP (W.str s)),(1,nI (a:Int)),(4,aR 0 0),(6,aR 1 0),(7,aR 2 0),q4]);((0:Int)<=(a:Int)/\(a:Int)<(s.size:Int))/\(letC (bAt s a)=true->AtLoop (mkSite Tryz.prog gTk Tryz.f18 (0:Nat) tokLive) (Says1 (tokT s a).v []) [0,0,0,1,0,1,1] q2 q1)/\(letC (bAt s a)=false->(digC (bAt s a)=true->AtLoop (mkSite Tryz.prog gTk Tryz.f18 (0:Nat) tokLive) (Says1 (tokT s a).v []) [0,0,0,1,0,1,1,1] (fr [(0,aP (W.str s)),(1,nI (a:Int)),(4,aR 0 0),(6,aR 1 0),(7,aR 2 0),q4,(9,aP (W.int .u8 (bAt s a)))]) q1)/\(digC (bAt s a)=false->(decide (bAt s a=34)=true->AtLoop (mkSite Tryz.prog gTk Tryz.f18 (0:Nat) tokLive) (Says1 (tokT s a).v []) [0,0,0,1,0,1,1,1,1] q2 q1)/\(decide (bAt s a=34)=false->AtLoop (mkSite Tryz.prog gTk Tryz.f18 (0:Nat) tokLive) (Says1 (tokT s a).v []) [0,1,0,1,1,1,1,1,1] (fr [(0,aP (W.str s)),(1,nI (a:Int)),(4,aR 0 0),(6,aR 1 0),(7,aR 2 0),q4,(11,nI (2))]) (Sto.ofList [Ob.mk 43 [fI (0),q3,fI (0),fI (0)],Ob.mk 27 [fI (0),fI (0)],Ob.mk 43 [fI (5),q3,fI (0),fI (a:Int)]]))))) (by kernel_rfl)
 try simp only [sL]
 rw [wrap64 (n:=(a:Int)+1) (by omega) (by omega)]
 refine ⟨by omega,fun h1=>?_,fun h1=>⟨fun h2=>?_,fun h2=>⟨fun h3=>?_,fun h3=>?_⟩⟩⟩
 . have e:tokT s a=nameT s a (runP wrdC s (a+1)):=by unfold tokT;rw [if_pos h1]
   rw [e]
   exact tk1 s hs a _ (a+1) rfl (by omega) (by omega)
 . have e:tokT s a=numT s a (runP digC s (a+1)):=by unfold tokT;rw [if_neg (by rw [h1];simp),if_pos h2]
   rw [e]
   exact tk2 s hs a _ (a+1) rfl (by omega) (by omega) (fun j h3 h4=>by rw [show j=a by omega];exact h2)
 . have e:tokT s a=quoT s a (runP insC s (a+1)):=by unfold tokT;rw [if_neg (by rw [h1];simp),if_neg (by rw [h2];simp),if_pos h3]
   rw [e]
   exact tk4 s hs a _ (a+1) rfl (by omega) (by omega)
 . have e:tokT s a=sigT s a 2:=by unfold tokT;rw [if_neg (by rw [h1];simp),if_neg (by rw [h2];simp),if_neg h3]
   rw [e]
   exact tk5 s hs a ha 2 (by omega)
theorem tok_semI (s:ByteArray) (a:Int) (h:s.size<=1000000/\0<=a/\a<s.size):FnSem Tryz.prog 18 [sS s,nI a] [] (tokT s a.toNat).v []:=by
 obtain ⟨h1,h2,h3⟩:=h
 obtain ⟨n,rfl⟩:∃ n:Nat,a=(n:Int):=⟨Int.toNat a,by omega⟩
 exact tok_sem s n ⟨h1,by omega⟩
def c_tok:Con:=con2 .str (.int .i64) fun s a=>(.p (ByteArray.size s<=1000000/\0<=(a:Int)/\(a:Int)<ByteArray.size s),(tokT s (Int.toNat a)).v,[])
theorem c_tok_ok:ConOk Tryz.prog 18 c_tok:=con2_ok (by kernel_rfl) fun s a h=>tok_semI s a h
def allT (s:ByteArray):Nat->Nat->List Tok×(Int×Int)
 | 0,_=>([],0,0)
 | k+1,i=>if i<s.size then (
  if bAt s i=32∨bAt s i=10 then allT s k (i+1) else
  if bAt s i=35 then allT s k (runP notN s i) else
  if (tokT s i).er≠0 then ([],(tokT s i).er,(tokT s i).ea) else ((tokT s i).t::(allT s k (tokT s i).e.toNat).1,(allT s k (tokT s i).e.toNat).2)) else ([],0,0)
abbrev tkO (l:List Tok):Ob:=⟨43,[.a 0 .pv (flatT l)]⟩
abbrev fV (e a:Int):V:=.agg [.int .i64 e,.int .i64 a]
abbrev slT (k n:Nat):V:=.c (.sl k 0 n 4)
def spA (acc:List Tok) (q:List Tok×(Int×Int)):A:=if q.2.1=0 then .tup [slT 0 (acc++q.1).length,fV 0 0] else .tup [slT 0 0,fV q.2.1 q.2.2]
def spO (acc:List Tok) (q:List Tok×(Int×Int)):List Ob:=if q.2.1=0 then [tkO (acc++q.1)] else [tkO []]
theorem sp_end1 {s:ByteArray} {k i:Nat} {acc:List Tok} (h:allT s k i=([],0,0)):spA acc (allT s k i)=.tup [slT 0 acc.length,fV 0 0]:=by
 rw [h];unfold spA;rw [if_pos rfl,List.append_nil]
theorem sp_end2 {s:ByteArray} {k i:Nat} {acc:List Tok} (h:allT s k i=([],0,0)):spO acc (allT s k i)=[tkO acc]:=by
 rw [h];unfold spO;rw [if_pos rfl,List.append_nil]
theorem sp_cons1 {acc:List Tok} {t:Tok} {q:List Tok×(Int×Int)}:spA acc (t::q.1,q.2)=spA (acc++[t]) q:=by
 unfold spA;rw [List.append_assoc];rfl
theorem sp_cons2 {acc:List Tok} {t:Tok} {q:List Tok×(Int×Int)}:spO acc (t::q.1,q.2)=spO (acc++[t]) q:=by
 unfold spO;rw [List.append_assoc];rfl
theorem flat_snoc {acc:List Tok} {t:Tok}:flatT acc++[PV.int t.kind,PV.str t.text,PV.int t.n,PV.int t.at_]=flatT (acc++[t]):=by
 unfold flatT;rw [List.flatMap_append];simp [Tok.pvs]
theorem sigT_end {s:ByteArray} {a:Nat}:∀ {n:Nat},(sigT s a n).er=0->∃ e:Nat,(sigT s a n).e=e/\a<e/\e<=s.size
 | 0,h=>by cases h
 | n + 1, h => by
   rw [sigT] at h ⊢
   split at h
   . rename_i h1
     rw [if_pos h1]
     exact ⟨_,rfl,by omega,h1.1⟩
   . rename_i h1
     rw [if_neg h1]
     exact sigT_end h
theorem tokT_end {s:ByteArray} {a:Nat} (ha:a<s.size) (h:(tokT s a).er=0):∃ e:Nat,(tokT s a).e=e/\a<e/\e<=s.size:=by
 have g1:=runP_ge wrdC s _ (a+1) rfl
 have g2:=runP_ge digC s _ (a+1) rfl
 have g3:=runP_ge insC s _ (a+1) rfl
 unfold tokT at h ⊢
 split at h
 . rename_i h1
   rw [if_pos h1]
   refine ⟨runP wrdC s (a+1),?_,by omega,g1.2 (by omega)⟩
   unfold nameT;split
   . rfl
   . split <;> rfl
 . rename_i h1
   rw [if_neg h1]
   split at h
   . rename_i h2
     rw [if_pos h2]
     refine ⟨runP digC s (a+1),?_,by omega,g2.2 (by omega)⟩
     unfold numT;split
     . rfl
     . split <;> rfl
   . rename_i h2
     rw [if_neg h2]
     split at h
     . rename_i h3
       rw [if_pos h3]
       unfold quoT at h ⊢
       split at h
       . cases h
       . rename_i h4
         rw [if_neg h4]
         have:runP insC s (a+1)≠s.size:=fun e=>h4 (.inl e)
         have:=g3.2 (by omega)
         refine ⟨runP insC s (a+1)+1,?_,by omega,by omega⟩
         split at h
         . cases h
         . rename_i h5;rw [if_neg h5]
     . rename_i h3
       rw [if_neg h3]
       exact sigT_end h
noncomputable def gRs:Gam:=[(18,c_tok)]
theorem gRs_ok:GamOk Tryz.prog gRs:=gamOk_cons c_tok_ok gamOk_nil
def rsLive:List (List Nat×List Nat):=[([0,1,0,1,1,1],[0,3,4,5]),([0,0,0,1,0,1,0,1,0,0,1,0,1,1,1],[0,3,4,5])]
noncomputable def sRs:Site:=mkSite Tryz.prog gRs Tryz.f7 0 rsLive
abbrev rsF (s:ByteArray) (n:Nat) (i:Int):List (Nat×A):=[(0,sS s),(3,.p (.c (.ptr 0 0))),(4,.p (slT 1 n)),(5,nI i)]
theorem rs_com (s:ByteArray) (hs:s.size<=1000000) (l:List Tok) (R:A) (O:List Ob):∀ (k i:Nat),k=s.size-i->i<=s.size->AtLoop sRs (Says1 R O) [0,1,0,1,1,1] (fr (rsF s l.length (runP notN s i))) (.ofList [obF 0 0,tkO l])->
 AtLoop sRs (Says1 R O) [0,0,0,1,0,1,0,1,0,0,1,0,1,1,1] (fr (rsF s l.length i)) (.ofList [obF 0 0,tkO l])
 | k,i,hk,hi,H=>by
   refine atLoop_at gRs_ok (by kernel_rfl) 100 ?_
   apply of_eq (q:=let q1:=decide ((i:Int)<(s.size:Int));let q2:=(Sto.ofList [Ob.mk 27 [fI (0),fI (0)],Ob.mk 43 [Fd.a 0 D.pv (flatT l)]]);(q1=true->q1=true)/\(q1=true->q1=true)/\(q1=true->(0:Int)<=(i:Int)/\(i:Int)<(s.size:Int))/\(q1=true->q1=true)/\(q1=true->q1=true)/\((bif q1 then !decide (bAt s i=10) else false)=true->AtLoop sRs (Says1 R O) [0,0,0,1,0,1,0,1,0,0,1,0,1,1,1] (fr [(0,aP (W.str s)),(3,aR 0 0),(4,aP (W.sl 1 0 l.length 4)),(5,nI (IntKind.i64.wrap ((i:Int)+1)))]) q2)/\((bif q1 then !decide (bAt s i=10) else false)=false->AtLoop sRs (Says1 R O) [0,1,0,1,1,1] (fr [(0,aP (W.str s)),(3,aR 0 0),(4,aP (W.sl 1 0 l.length 4)),(5,nI (i:Int))]) q2)) (by kernel_rfl)
   try simp only [sL]
   refine ⟨fun h=>by omega,fun h=>?_,fun h=>?_⟩
   . rw [wrap64 (by omega) (by omega)]
     rw [runP_yes ⟨by omega,by unfold notN;rw [decide_eq_false h.2];rfl⟩] at H
     cases k with
     | zero=>omega
     | succ k=>exact rs_com s hs l R O k (i+1) (by omega) (by omega) H
   . rw [runP_no (by rintro ⟨h1,h2⟩;unfold notN at h2;rw [decide_eq_true (h (by omega))] at h2;cases h2)] at H
     exact H
theorem rs_loop (s:ByteArray) (hs:s.size<=1000000):∀ (k i:Nat) (acc:List Tok),s.size<=k+i->i<=s.size->acc.length<=i->AtLoop sRs (Says1 (spA acc (allT s k i)) (spO acc (allT s k i))) [0,1,0,1,1,1] (fr (rsF s acc.length i)) (.ofList [obF 0 0,tkO acc])
 | k,i,acc,hk,hi,ha=>by
   refine atLoop_at gRs_ok (by kernel_rfl) 100 ?_
   apply of_eq (q:=let q1:=decide (bAt s i=32)=false;let q2:=(allT s k i);let q3:=(Sto.ofList [Ob.mk 27 [fI (0),fI (0)],Ob.mk 43 [Fd.a 0 D.pv (flatT acc)]]);let q4:=(i:Int)<(s.size:Int);let q5:=(0:Int)<=(i:Int);(decide ((i:Int)<(s.size:Int))=true->(q5/\q4)/\(q1->q1)/\(q1->q1)/\(q1->q5/\q4)/\(q1->q1)/\(q1->q1)/\((bif decide (bAt s i=32) then true else decide (bAt s i=10))=true->AtLoop sRs (Says1 (spA acc q2) (spO acc q2)) [0,1,0,1,1,1] (fr [(0,aP (W.str s)),(3,aR 0 0),(4,aP (W.sl 1 0 acc.length 4)),(5,nI (IntKind.i64.wrap ((i:Int)+1)))]) q3)/\((bif decide (bAt s i=32) then true else decide (bAt s i=10))=false->(q5/\q4)/\(decide (bAt s i=35)=true->AtLoop sRs (Says1 (spA acc q2) (spO acc q2)) [0,0,0,1,0,1,0,1,0,0,1,0,1,1,1] (fr [(0,aP (W.str s)),(3,aR 0 0),(4,aP (W.sl 1 0 acc.length 4)),(5,nI (i:Int))]) q3)/\(decide (bAt s i=35)=false->(s.size<=1000000/\q5/\q4)/\((!decide ((tokT s i).er=0))=true->packV [V.c (W.sl 0 0 0 4),V.agg [wI (tokT s i).er,wI (tokT s i).ea]]=spA acc q2/\[Ob.mk 43 [Fd.a 0 D.pv []]]=spO acc q2)/\((!decide ((tokT s i).er=0))=false->((0:Nat)+acc.length*4<=(flatT acc).length/\(acc.length+1)*40<=140737488355328)/\AtLoop sRs (Says1 (spA acc q2) (spO acc q2)) [0,1,0,1,1,1] (fr [(0,aP (W.str s)),(3,aR 0 0),(4,aP (W.sl 1 0 (acc.length+1) 4)),(5,nI (tokT s i).e)]) (Sto.ofList [Ob.mk 27 [fI (0),fI (0)],Ob.mk 43 [Fd.a 0 D.pv (List.take (acc.length*4) (List.drop (0:Nat) (flatT acc))++[PV.int (tokT s i).t.kind,PV.str (tokT s i).t.text,PV.int (tokT s i).t.n,PV.int (tokT s i).t.at_])]])))))/\(decide ((i:Int)<(s.size:Int))=false->packV [V.c (W.sl 0 0 acc.length 4),V.agg [wI (0),wI (0)]]=spA acc q2/\[Ob.mk 43 [Fd.a 0 D.pv (flatT acc)]]=spO acc q2)) (by kernel_rfl)
   try simp only [sL]
   cases k with
   | zero=>exact ⟨fun h=>by omega,fun _=>by rw [sp_end1 rfl,sp_end2 rfl];exact ⟨rfl,rfl⟩⟩
   | succ k =>
   refine ⟨fun h=>?_,fun h=>?_⟩
   . have hlt:i<s.size:=by omega
     refine ⟨by omega,fun _=>by omega,fun h1=>?_,fun h1=>⟨by omega,fun h2=>?_,fun h2=>⟨by omega,fun h3=>?_,fun h3=>⟨⟨by rw [flatT_len];exact Nat.le_refl _,by omega⟩,?_⟩⟩⟩⟩
     . have e:allT s (k+1) i=allT s k (i+1):=by rw [allT,if_pos hlt,if_pos h1]
       rw [e,wrap64 (by omega) (by omega)]
       exact rs_loop s hs k (i+1) acc (by omega) (by omega) (by omega)
     . have e:allT s (k+1) i=allT s k (runP notN s i):=by rw [allT,if_pos hlt,if_neg (by omega),if_pos h2]
       have hy:runP notN s i=runP notN s (i+1):=runP_yes ⟨hlt,by unfold notN;rw [decide_eq_false (by omega)];rfl⟩
       have hg:=runP_ge notN s _ (i+1) rfl
       rw [e]
       exact rs_com s hs acc _ _ _ i rfl hi (rs_loop s hs k (runP notN s i) acc (by omega) (by rw [hy];exact hg.2 (by omega)) (by omega))
     . have e:allT s (k+1) i=([],(tokT s i).er,(tokT s i).ea):=by rw [allT,if_pos hlt,if_neg (by omega),if_neg h2,if_pos h3]
       rw [e]
       unfold spA spO
       rw [if_neg h3,if_neg h3]
       exact ⟨rfl,rfl⟩
     . have e:allT s (k+1) i=((tokT s i).t::(allT s k (tokT s i).e.toNat).1,(allT s k (tokT s i).e.toNat).2):=by rw [allT,if_pos hlt,if_neg (by omega),if_neg h2,if_neg (by omega)]
       obtain ⟨n,hn,h4,h5⟩:=tokT_end hlt h3
       rw [e,hn,Int.toNat_natCast,sp_cons1,sp_cons2,List.take_of_length_le (by rw [flatT_len];exact Nat.le_refl _),flat_snoc]
       have:=rs_loop s hs k n (acc++[(tokT s i).t]) (by omega) h5 (by rw [List.length_append,List.length_singleton];omega)
       rw [List.length_append,List.length_singleton] at this
       exact this
   . have e:allT s (k+1) i=([],0,0):=by rw [allT,if_neg (by omega)]
     rw [sp_end1 e,sp_end2 e]
     exact ⟨rfl,rfl⟩
def splT (s:ByteArray):List Tok×(Int×Int):=if 20000<s.size then ([],4,20000) else allT s s.size 0
theorem rs_sem (s:ByteArray) (hs:s.size<=1000000):FnSem Tryz.prog 7 [sS s] [] (spA [] (splT s)) (spO [] (splT s)):=by
 refine fnSem_at (live:=rsLive) gRs_ok Tryz.func7 (by kernel_rfl) (keep:=0) rfl (by kernel_rfl) 100 ?_
 apply of_eq (q:=(decide ((20000:Int)<(s.size:Int))=true->packV [V.c (W.sl 0 0 0 4),V.agg [wI (4),wI (20000)]]=spA [] (splT s)/\[Ob.mk 43 [Fd.a 0 D.pv []]]=spO [] (splT s))/\(decide ((20000:Int)<(s.size:Int))=false->AtLoop (mkSite Tryz.prog gRs Tryz.f7 (0:Nat) rsLive) (Says1 (spA [] (splT s)) (spO [] (splT s))) [0,1,0,1,1,1] (fr [(0,aP (W.str s)),(3,aR 0 0),(4,aP (W.sl 1 0 0 4)),(5,nI (0))]) (Sto.ofList [Ob.mk 27 [fI (0),fI (0)],Ob.mk 43 [Fd.a 0 D.pv []]]))) (by kernel_rfl)
 try simp only [sL]
 refine ⟨fun h=>?_,fun h=>?_⟩
 . have e:splT s=([],4,20000):=by unfold splT;rw [if_pos (by omega)]
   rw [e]
   exact ⟨rfl,rfl⟩
 . have e:splT s=allT s s.size 0:=by unfold splT;rw [if_neg (by omega)]
   rw [e]
   exact rs_loop s hs s.size 0 [] (by omega) (by omega) (Nat.le_refl _)
end Go.Proofs.YtmmikdgcodiboaaGreatDoor
namespace Go.Proofs.YtmmikdgcodiboaaGreatDoor
open Go.Loom Go.RowKit
set_option maxRecDepth 100000
def decV:List UInt8->Nat->Nat
 | [],n=>n
 | c::l,n=>decV l (n*10+(c.toNat-48))
def digL (l:List UInt8):Prop:=∀ c∈l,48<=c.toNat/\c.toNat<=57
theorem decV_ge:∀ (l:List UInt8) (n:Nat),n<=decV l n
 | [],n=>Nat.le_refl _
 | c::l,n=>by
   have:=decV_ge l (n*10+(c.toNat-48))
   simp only [decV];omega
theorem parse_dec:∀ (l:List UInt8) (n:Nat),digL l->n<18446744073709551616->Lib.parseUint10 n l=if decV l n<18446744073709551616 then .ok (decV l n) else .range
 | [],n,_,h=>by
   rw [show decV [] n=n from rfl,if_pos h];rfl
 | c :: l, n, hd, h => by
   have hc:=hd c (by simp)
   have hg:=decV_ge l (n*10+(c.toNat-48))
   rw [show decV (c::l) n=decV l (n*10+(c.toNat-48)) from rfl]
   simp only [Lib.parseUint10]
   rw [if_pos hc]
   split
   . rw [if_neg (by omega)]
   . split
     . rw [if_neg (by omega)]
     . exact parse_dec l _ (fun x hx=>hd x (by simp [hx])) (by omega)
theorem atoi_dec {l:List UInt8} (hd:digL l) (h0:l≠[]):Lib.atoiAll l=if decV l 0<9223372036854775808 then .ok (decV l 0:Int) else .range:=by
 cases l with
 | nil=>exact absurd rfl h0
 | cons c r =>
   have hc:=hd c (by simp)
   rw [Lib.atoiAll_plain c r (by omega) (by omega)]
   unfold Lib.parseMag
   rw [if_neg (by simp),parse_dec _ _ hd (by omega)]
   split
   . simp only [Lib.signless]
     split
     . rw [if_neg (by omega)]
     . rw [if_pos (by omega)]
   . simp only [Lib.signless]
     rw [if_neg (by omega)]
theorem sat_dec {l:List UInt8} (hd:digL l) (h0:l≠[]):Lib.atoiSat l=9223372036854775807:=by
 cases l with
 | nil=>exact absurd rfl h0
 | cons c r=>exact Lib.atoiSat_other c r (by have:=hd c (by simp);omega)
def atV (s:ByteArray):Int:=if decV s.data.toList 0<9223372036854775808 then (decV s.data.toList 0:Int) else 9223372036854775807
def atE (s:ByteArray):Bool:=decide (9223372036854775808<=decV s.data.toList 0)
theorem fnSem_belowR {P:Program} {f:FuncId} {args:List A} {r:A} (h:∀ (base:Nat) (η:Eta) (Z:Zeta) (w:World) vs,St base η Z (.ofList []) w->LRel (ARel η Z) args vs->Know P Z->Calls P f vs.toArray w fun e w'=>∃ u,e=.returned u/\ARel η Z r u/\Below w.heap.size w w'):FnSem P f args [] r []:=by
 intro base η Z w vs R hvs hK
 refine (callsIn_wide.2 (h base η Z w vs R hvs hK)).mono ?_
 rintro e w' ⟨u,rfl,hu,hB⟩
 have hstep:Step η Z (.ofList []) w η Z (.ofList []) w':=⟨hB.os,hB.tape,hB.output,hB.size,fun b hb _=>hB.block b hb,fun b h=>.inl h,Zeta.le.refl _,fun b c h=>.inl h,rfl⟩
 refine ⟨u,η,Z,rfl,⟨fun _ _ _ h=>h,⟨fun n o p h=>by rw [Sto.get_ofList] at h;simp at h,fun n o h=>by rw [Sto.get_ofList] at h;simp at h,fun n o h=>by rw [Sto.get_ofList] at h;simp at h,fun n n' o o' p p' b h=>by rw [Sto.get_ofList] at h;simp at h,fun b c hb=>?_,R.fresh,Nat.le_trans R.basele hB.size,fun n o p h=>by rw [Sto.get_ofList] at h;simp at h⟩,hstep⟩,hu⟩
 obtain ⟨ty,fz,e⟩:=R.zs b c hb
 exact ⟨ty,fz,(hB.block b (heap_lt e)).trans e⟩
theorem atoi_sem (s:ByteArray) (hd:digL s.data.toList) (hs:1<=s.size/\s.size<=1000000):FnSem Tryz.prog 60 [sS s] [] (.tup [.c (.int .i64 (atV s)),.c (.eif (atE s))]) []:=by
 refine fnSem_belowR fun base η Z w vs R hvs hK=>?_
 obtain ⟨v,rfl,hv⟩:∃ v,vs=[v]/\v=.string s:=by
  match vs,hvs with
  | [v],⟨⟨_,h⟩,_⟩=>exact ⟨v,rfl,h⟩
 subst hv
 have h0:s.data.toList≠[]:=by
  intro e
  have h1:s.size=s.data.toList.length:=by simp
  rw [e,List.length_nil] at h1;omega
 have ha:=atoi_dec hd h0
 by_cases hlt:decV s.data.toList 0<9223372036854775808
 . rw [if_pos hlt] at ha
   refine (Tryz.strconv_Atoi_ok s (by omega) _ ha w).mono ?_
   rintro e w' ⟨rfl,hw⟩
   refine ⟨_,rfl,⟨[.int .i64 (decV s.data.toList 0),.nilIface],rfl,⟨by simp,?_⟩,⟨by simp,?_⟩,trivial⟩,?_⟩
   . unfold atV;rw [if_pos hlt];rfl
   . have e:atE s=false:=decide_eq_false (by omega)
     rw [e];simp [WRel,FRel]
   . rcases hw with rfl | ⟨t,rfl⟩
     . exact Below.refl _ _
     . exact Lib.bytesWorld_below _ _ _
 . rw [if_neg hlt] at ha
   obtain ⟨c,t,u,hz,hc⟩:=hK.2 2 (by kernel_rfl)
   obtain ⟨ty,fz,hw⟩:=R.zs _ _ hz
   refine (Tryz.strconv_Atoi_range s (by omega) ha (.iface t u) w (by simp [World.cell?,hw,hc]) (.inr ⟨t,u,rfl⟩)).mono ?_
   rintro e w' ⟨N,rfl,_,_,hB⟩
   refine ⟨_,rfl,⟨[.int .i64 (Lib.atoiSat s.data.toList),_],rfl,⟨by simp,?_⟩,⟨by simp,?_⟩,trivial⟩,hB⟩
   . unfold atV;rw [if_neg hlt,sat_dec hd h0];rfl
   . have e:atE s=true:=decide_eq_true (by omega)
     rw [e];simp [WRel,FRel]
def c_atoi:Con:=con1 .str fun s=>(.p (digL (ByteArray.data s).toList/\1<=ByteArray.size s/\ByteArray.size s<=1000000),.tup [.c (.int .i64 (atV s)),.c (.eif (atE s))],[])
theorem c_atoi_ok:ConOk Tryz.prog 60 c_atoi:=con1_ok (by kernel_rfl) fun s h=>atoi_sem s h.1 h.2
end Go.Proofs.YtmmikdgcodiboaaGreatDoor
namespace Go.Proofs.YtmmikdgcodiboaaGreatDoor
open Go.Loom
set_option maxRecDepth 100000
def yT (t:Tok):List PV:=.int t.at_::t.pvs
def fauV (e a:Int):Value:=.iface 96 (.agg #[.int .i64 e,.int .i64 a])
noncomputable def gSc:Gam:=[(56,c_letter),(58,c_digit),(54,cSpan),(10,c_res),(12,c_sig),(59,c_cont),(60,c_atoi),(62,c_pref)]
theorem gSc_ok:GamOk Tryz.prog gSc:=gamOk_cons c_letter_ok (gamOk_cons c_digit_ok (gamOk_cons cSpan_ok (gamOk_cons c_res_ok (gamOk_cons c_sig_ok (gamOk_cons c_cont_ok (gamOk_cons c_atoi_ok (gamOk_cons c_pref_ok gamOk_nil)))))))
def scLive:List (List Nat×List Nat):=[([0,1],[0,1,3]),([0,1,0,1,1,1,1,1,1,1,1,1,1,0,0,1,1,1,0,1,0,0,1],[0,1,3,6,21,22,23])]
noncomputable def sSc (b:Bool) (v:Value):Site:=mkIterP Tryz.prog gSc [] Tryz.f53 scLive b v
abbrev strO (s:ByteArray):Ob:=⟨9,[.c (.str s)]⟩
abbrev scF (l:Nat) (i:Int):List (Nat×A):=[(0,.p (.c (.yield l))),(1,.p (.c (.ptr 0 0))),(3,nI i)]
abbrev scS (l:Nat) (s:ByteArray) (ys:List (List PV)):Sto:=.ofListG (some ⟨l,.sl .pv,ys,true⟩) [strO s]
def scP:List Nat:=[0,1,0,1,1,1,1,1,1,1,1,1,1,0,0,1,1,1,0,1,0,0,1]
def bestS (r:ByteArray):List ByteArray->ByteArray->ByteArray
 | [],x=>x
 | g::l,x=>bestS r l (if prefS r g=true/\x.size<g.size then g else x)
theorem sig_size:∀ g∈sigL,g.size<=2:=by decide
theorem allB {s:ByteArray} {k i:Nat} (hlt:i<s.size) (h1:¬ (bAt s i=32∨bAt s i=10)) (h2:¬ bAt s i=35) {t:Tok} {e:Nat} (ht:tokT s i=⟨t,(e:Int),0,0⟩):allT s (k+1) i=(t::(allT s k e).1,(allT s k e).2):=by
 rw [allT,if_pos hlt,if_neg h1,if_neg h2,ht,if_neg (by simp)]
 rfl
theorem allA {s:ByteArray} {k i:Nat} (hlt:i<s.size) (h1:¬ (bAt s i=32∨bAt s i=10)) (h2:¬ bAt s i=35) {t:Tok} {e er ea:Int} (ht:tokT s i=⟨t,e,er,ea⟩) (h:er≠0):allT s (k+1) i=([],er,ea):=by
 rw [allT,if_pos hlt,if_neg h1,if_neg h2,ht,if_pos h]
section
variable {s:ByteArray} {l:Nat} {b:Bool} {v:Value} {k i:Nat}
theorem sc_die {er ea:Int} (hA:allT s (k+1) i=([],er,ea)) (her:er≠0) (hb:b=decide ((allT s (k+1) i).2.1≠0)) (hv:v=fauV (allT s (k+1) i).2.1 (allT s (k+1) i).2.2):(b=true/\fauV er ea=v)/\List.map yT (allT s (k+1) i).1=[]:=by
 rw [hA] at hb hv ⊢
 exact ⟨⟨by rw [hb];exact decide_eq_true her,hv.symm⟩,rfl⟩
theorem sc_go (IH:∀ j,i<j->j<=s.size->b=decide ((allT s k j).2.1≠0)->v=fauV (allT s k j).2.1 (allT s k j).2.2->AtLoop (sSc b v) (fun _ _=>b=false) [0,1] (fr (scF l j)) (scS l s ((allT s k j).1.map yT)))
 {t:Tok} {e:Nat} (hB:allT s (k+1) i=(t::(allT s k e).1,(allT s k e).2)) (he:i<e/\e<=s.size) (hb:b=decide ((allT s (k+1) i).2.1≠0)) (hv:v=fauV (allT s (k+1) i).2.1 (allT s (k+1) i).2.2) {y:List PV} (hy:yT t=y) :
 (¬ List.map yT (allT s (k+1) i).1=[]/\(List.map yT (allT s (k+1) i).1).head? = some y)/\AtLoop (sSc b v) (fun _ _=>b=false) [0,1] (fr (scF l e)) (scS l s (List.map yT (allT s (k+1) i).1).tail):=by
 rw [hB] at hb hv ⊢
 exact ⟨⟨by simp,by simp [hy]⟩,IH e he.1 he.2 hb hv⟩
theorem sc_sign (hs:s.size<=20000) (hlt:i<s.size) (H:∀ x:ByteArray,bestS (s.extract i s.size) sigL eS=x->(x.size=0->((b=true/\fauV 11 i=v)/\List.map yT (allT s (k+1) i).1=[]))/\(0<x.size->(¬ List.map yT (allT s (k+1) i).1=[]/\(List.map yT (allT s (k+1) i).1).head? = some [PV.int i,PV.int 5,PV.str x,PV.int 0,PV.int i])/\AtLoop (sSc b v) (fun _ _=>b=false) [0,1] (fr (scF l (i+x.size:Nat))) (scS l s (List.map yT (allT s (k+1) i).1).tail)))  :
 ∀ (m j:Nat) (kd:Int) (x:ByteArray),m=21-j->j<=21->bestS (s.extract i s.size) (sigL.drop j) x=bestS (s.extract i s.size) sigL eS->(x.size=0->x=eS)->(0<x.size->kd=5)->x.size<=2->
 AtLoop (sSc b v) (fun _ _=>b=false) scP (fr (scF l i++[(6,.p (.c (.ptr 1 0))),(21,lsS sigL),(22,nI 21),(23,nI j)])) (.ofListG (some ⟨l,.sl .pv,List.map yT (allT s (k+1) i).1,true⟩) [strO s,obT kd x 0 i])
 | m, j, kd, x, hm, hj, hx, h0, h5, hsz => by
   refine atLoop_at gSc_ok (by kernel_rfl) 300 ?_
   apply of_eq (q:=let q2:=(fr [(0,aP (W.yield l)),(1,aR 0 0),(3,nI (i:Int)),(6,aR 1 0),(21,aP (W.rd D.str sigL)),(22,nI (21)),(23,nI (IntKind.i64.wrap ((j:Int)+1)))]);let q3:=(sigL.getD j (ByteArray.mk #[]));let q4:=(List.map yT (allT s (k+1) i).fst);let q5:=[0,1,0,1,1,1,1,1,1,1,1,1,1,0,0,1,1,1,0,1,0,0,1];let q1:=prefS (s.extract i s.size) q3=true;(decide ((j:Int)<21)=true->((0:Int)<=(j:Int)/\(j:Int)<(↑(21:Nat):Int))/\j<21/\((0:Int)<=(i:Int)/\(i:Int)<=(s.size:Int)/\(s.size:Int)<=(s.size:Int))/\(q1->q1)/\(q1->q1)/\(q1->q1)/\(q1->q1)/\(q1->q1)/\(q1->q1)/\((bif prefS (s.extract i s.size) q3 then decide ((x.size:Int)<(↑q3.size:Int)) else false)=true->AtLoop (sSc b v) (fun x x_1=>b=false) q5 q2 (Sto.ofListG (some (Gh.mk l D.pv.sl q4 true)) [Ob.mk 9 [Fd.c (W.str s)],Ob.mk 43 [fI (5),Fd.c (W.str q3),fI (0),fI (i:Int)]]))/\((bif prefS (s.extract i s.size) q3 then decide ((x.size:Int)<(↑q3.size:Int)) else false)=false->AtLoop (sSc b v) (fun x x_1=>b=false) q5 q2 (Sto.ofListG (some (Gh.mk l D.pv.sl q4 true)) [Ob.mk 9 [Fd.c (W.str s)],Ob.mk 43 [fI kd,Fd.c (W.str x),fI (0),fI (i:Int)]])))/\(decide ((j:Int)<21)=false->(decide (x=ByteArray.mk #[])=true->(b=true/\Value.iface (96:Nat) (Value.agg #[Value.int .i64 (11:Int),Value.int .i64 (i:Int)])=v)/\List.map yT (allT s (k+1) i).fst=[])/\(decide (x=ByteArray.mk #[])=false->(l=l/\List.map yT (allT s (k+1) i).fst≠[]/\q4.head? = some [PV.int (i:Int),PV.int kd,PV.str x,PV.int (0:Int),PV.int (i:Int)])/\AtLoop (sSc b v) (fun x x_1=>b=false) [0,1] (fr [(0,aP (W.yield l)),(1,aR 0 0),(3,nI (IntKind.i64.wrap ((i:Int)+(x.size:Int))))]) (Sto.ofListG (some (Gh.mk l D.pv.sl q4.tail true)) [Ob.mk 9 [Fd.c (W.str s)]])))) (by kernel_rfl)
   try simp only [sL]
   have hlen:sigL.length=21:=rfl
   have hg2:j<21->(sigL.getD j eS).size<=2:=fun h=>by
    rw [List.getD_eq_getElem?_getD,List.getElem?_eq_getElem (by omega)]
    exact sig_size _ (List.getElem_mem (by omega))
   have hg:j<21->bestS (s.extract i s.size) (sigL.drop j) x=bestS (s.extract i s.size) (sigL.drop (j+1)) (if prefS (s.extract i s.size) (sigL.getD j eS)=true/\x.size<(sigL.getD j eS).size then sigL.getD j eS else x):=fun h=>by
    rw [List.drop_eq_getElem_cons (by omega),List.getD_eq_getElem?_getD,List.getElem?_eq_getElem (by omega)]
    rfl
   refine ⟨fun h=>⟨by omega,by omega,by omega,fun h1=>?_,fun h1=>?_⟩,fun h=>?_⟩
   . rw [wrap64 (by omega) (by omega)]
     have hgj:=hg (by omega)
     rw [if_pos ⟨h1.1,Int.ofNat_lt.1 h1.2⟩] at hgj
     cases m with
     | zero=>omega
     | succ m=>exact sc_sign hs hlt H m (j+1) 5 _ (by omega) (by omega) (hgj▸hx) (fun e=>absurd (Int.ofNat_lt.1 h1.2) (by have e:(sigL.getD j eS).size=0:=e;show ¬ x.size<(sigL.getD j eS).size;omega)) (fun _=>rfl) (hg2 (by omega))
   . rw [wrap64 (by omega) (by omega)]
     have hgj:=hg (by omega)
     rw [if_neg (by rintro ⟨h2,h3⟩;exact absurd h3 (Nat.not_lt.2 (Int.ofNat_le.1 (h1 h2))))] at hgj
     cases m with
     | zero=>omega
     | succ m=>exact sc_sign hs hlt H m (j+1) kd x (by omega) (by omega) (hgj▸hx) h0 h5 hsz
   . have hxx:bestS (s.extract i s.size) sigL eS=x:=by rw [<-hx,List.drop_eq_nil_of_le (by omega)];rfl
     refine ⟨fun h1=>(H x hxx).1 (by rw [h1];rfl),fun h1=>?_⟩
     have hpos:0<x.size:=by
      rcases Nat.eq_zero_or_pos x.size with h2 | h2
      . exact absurd (h0 h2) h1
      . exact h2
     rw [h5 hpos,wrap64 (by omega) (by omega),show ((i:Int)+x.size)=((i+x.size:Nat):Int) from by omega]
     exact (H x hxx).2 hpos
end
theorem best_spec (R:ByteArray):∀ (l:List ByteArray) (x:ByteArray),(bestS R l x=x∨(bestS R l x∈l/\prefS R (bestS R l x)=true))/\x.size<=(bestS R l x).size/\∀ g∈l,prefS R g=true->g.size<=(bestS R l x).size
 | [],x=>⟨.inl rfl,Nat.le_refl _,by simp⟩
 | g :: l, x => by
   have ih:=best_spec R l (if prefS R g=true/\x.size<g.size then g else x)
   simp only [bestS]
   split at ih
   . rename_i h
     rw [if_pos h]
     refine ⟨.inr ?_,by omega,fun y hy hp=>?_⟩
     . rcases ih.1 with h1 | h1
       . rw [h1];exact ⟨by simp,h.1⟩
       . exact ⟨by simp [h1.1],h1.2⟩
     . rcases List.mem_cons.1 hy with rfl | hy
       . exact ih.2.1
       . exact ih.2.2 y hy hp
   . rename_i h
     rw [if_neg h]
     refine ⟨?_,ih.2.1,fun y hy hp=>?_⟩
     . rcases ih.1 with h1 | h1
       . exact .inl h1
       . exact .inr ⟨by simp [h1.1],h1.2⟩
     . rcases List.mem_cons.1 hy with rfl | hy
       . have:¬ x.size<y.size:=fun h2=>h ⟨hp,h2⟩
         have:=ih.2.1;omega
       . exact ih.2.2 y hy hp
theorem hasS_iff {l:List ByteArray} {t:ByteArray}:hasS l t=true↔t∈l:=by
 unfold hasS
 rw [List.any_eq_true]
 exact ⟨fun ⟨x,h1,h2⟩=>by have:=of_decide_eq_true h2;subst this;exact h1,fun h=>⟨t,h,decide_eq_true rfl⟩⟩
theorem pref_iff {s:ByteArray} {i:Nat} (hi:i<=s.size) {g:ByteArray}:prefS (s.extract i s.size) g=true↔i+g.size<=s.size/\s.extract i (i+g.size)=g:=by
 unfold prefS
 rw [Bool.and_eq_true,decide_eq_true_eq,decide_eq_true_eq,ext_size hi (Nat.le_refl _)]
 constructor
 . rintro ⟨h1,h2⟩
   have h1':i+g.size<=s.size:=by omega
   refine ⟨h1',?_⟩
   rw [ByteArray.extract_extract] at h2
   rw [show min (i+g.size) s.size=i+g.size by omega,Nat.add_zero] at h2
   exact h2
 . rintro ⟨h1,h2⟩
   refine ⟨by omega,?_⟩
   rw [ByteArray.extract_extract,show min (i+g.size) s.size=i+g.size by omega,Nat.add_zero]
   exact h2
theorem sig_best {s:ByteArray} {i:Nat} (hi:i<s.size):sigT s i 2=if (bestS (s.extract i s.size) sigL eS).size=0 then ⟨⟨5,eS,0,i⟩,(i+1:Nat),11,i⟩ else ⟨⟨5,bestS (s.extract i s.size) sigL eS,0,i⟩,(i+(bestS (s.extract i s.size) sigL eS).size:Nat),0,0⟩:=by
 obtain ⟨h1,h2,h3⟩:=best_spec (s.extract i s.size) sigL eS
 generalize bestS (s.extract i s.size) sigL eS=r at h1 h2 h3
 have hr:r.size≠0->r∈sigL/\i+r.size<=s.size/\s.extract i (i+r.size)=r/\r.size<=2:=fun h=>by
  rcases h1 with h1 | h1
  . rw [h1] at h;exact absurd rfl h
  . exact ⟨h1.1,((pref_iff (by omega)).1 h1.2).1,((pref_iff (by omega)).1 h1.2).2,sig_size _ h1.1⟩
 have key:∀ n,0<n->(i+n<=s.size/\hasS sigL (s.extract i (i+n))=true)->n<=r.size:=fun n hn h=>by
  have hsz:=ext_size (s:=s) (a:=i) (e:=i+n) (by omega) h.1
  have:=h3 _ (hasS_iff.1 h.2) ((pref_iff (by omega)).2 (by rw [hsz,show i+n-i=n by omega];exact ⟨h.1,rfl⟩))
  omega
 rw [sigT]
 split
 . rename_i h
   have h4:=key 2 (by omega) h
   obtain ⟨a1,a2,a3,a4⟩:=hr (by omega)
   have:r.size=2:=by omega
   rw [if_neg (by omega),<-a3,this]
   rw [ext_size (by omega) (by omega),show i+2-i=2 by omega]
 . rename_i h
   rw [sigT]
   split
   . rename_i h'
     have h4:=key 1 (by omega) h'
     obtain ⟨a1,a2,a3,a4⟩:=hr (by omega)
     have:r.size≠2:=fun e=>h (by rw [show (1+1:Nat)=r.size by omega];exact ⟨a2,hasS_iff.2 (by rw [a3];exact a1)⟩)
     have:r.size=1:=by omega
     rw [if_neg (by omega),<-a3,this]
     rw [ext_size (by omega) (by omega),show i+1-i=1 by omega]
   . rename_i h'
     rw [sigT,if_pos]
     rcases Nat.eq_zero_or_pos r.size with h4 | h4
     . exact h4
     . obtain ⟨a1,a2,a3,a4⟩:=hr (by omega)
       have:r.size=1∨r.size=2:=by omega
       rcases this with e | e
       . exact absurd (by rw [show (0+1:Nat)=r.size by omega];exact ⟨a2,hasS_iff.2 (by rw [a3];exact a1)⟩) h'
       . exact absurd (by rw [show (1+1:Nat)=r.size by omega];exact ⟨a2,hasS_iff.2 (by rw [a3];exact a1)⟩) h
theorem ext_list (s:ByteArray) (i e:Nat):(s.extract i e).data.toList=(s.data.toList.drop i).take (e-i):=by
 rw [ByteArray.data_extract,Array.toList_extract]
theorem ext_cons {s:ByteArray} {i e:Nat} (h:i<e) (he:e<=s.size):∃ c,(s.extract i e).data.toList=c::(s.extract (i+1) e).data.toList/\bAt s i=(c.toNat:Int):=by
 have hl : i < s.data.toList.length := by have : s.size = s.data.toList.length := by simp
                                          omega
 refine ⟨s.data.toList[i],?_,?_⟩
 . rw [ext_list,ext_list,List.drop_eq_getElem_cons hl,show e-i=(e-(i+1))+1 by omega,List.take_succ_cons]
 . unfold bAt
   rw [List.getD_eq_getElem?_getD,List.getElem?_eq_getElem hl];rfl
theorem dig_bounds {c:Int} (h:digC c=true):48<=c/\c<=57:=by
 unfold digC at h
 simpa only [Bool.and_eq_true,decide_eq_true_eq] using h
theorem num_dec {s:ByteArray} {e:Nat} (he:e<=s.size):∀ (k i n:Nat),k=e-i->i<=e->(∀ j,i<=j->j<e->digC (bAt s j)=true)->n<=1000000000000000->
 digL (s.extract i e).data.toList/\(1000000000000000<decV (s.extract i e).data.toList n->(numF s e i n).2=true)/\(decV (s.extract i e).data.toList n<=1000000000000000->numF s e i n=((decV (s.extract i e).data.toList n:Int),false))
 | k, i, n, hk, hi, hd, hn => by
   by_cases h:i<e
   . obtain ⟨c,h1,h2⟩:=ext_cons h he
     have hc:=dig_bounds (hd i (Nat.le_refl _) h)
     have hg:=decV_ge (s.extract (i+1) e).data.toList (n*10+(c.toNat-48))
     have hcast:((n:Int)*10+(bAt s i-48))=((n*10+(c.toNat-48):Nat):Int):=by omega
     rw [h1,numF,dif_pos h,hcast]
     cases k with
     | zero=>omega
     | succ k =>
       by_cases hb:n*10+(c.toNat-48)<=1000000000000000
       . obtain ⟨i1,i2,i3⟩:=num_dec he k (i+1) (n*10+(c.toNat-48)) (by omega) (by omega) (fun j h3 h4=>hd j (by omega) h4) hb
         refine ⟨fun x hx=>?_,fun h3=>?_,fun h3=>?_⟩
         . rcases List.mem_cons.1 hx with rfl | hx
           . omega
           . exact i1 x hx
         . rw [if_neg (by omega)];exact i2 h3
         . rw [if_neg (by omega)];exact i3 h3
       . have hdl:digL (s.extract (i+1) e).data.toList:=(num_dec he k (i+1) 0 (by omega) (by omega) (fun j h3 h4=>hd j (by omega) h4) (by omega)).1
         refine ⟨fun x hx=>?_,fun _=>?_,fun h3=>?_⟩
         . rcases List.mem_cons.1 hx with rfl | hx
           . omega
           . exact hdl x hx
         . rw [if_pos (by omega)]
         . have h3:decV (s.extract (i+1) e).data.toList (n*10+(c.toNat-48))<=1000000000000000:=h3
           omega
   . have e0:(s.extract i e).data.toList=[]:=by rw [ext_list,show e-i=0 by omega,List.take_zero]
     rw [e0,numF,dif_neg h]
     exact ⟨(by intro x hx;cases hx),fun h3=>by have h3:1000000000000000<n:=h3;omega,fun _=>rfl⟩
end Go.Proofs.YtmmikdgcodiboaaGreatDoor
