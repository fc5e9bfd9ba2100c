/- The world of the witness; what a row's listed tables say. -/
import Derived.Test.YtnbjjocbncblaaaGreatDoorCards
import Derived.Test.YtnbjjocbncblaaaGreatDoorTie
import Derived.WalkKit
import Derived.ProofKit
import Derived.OpenShut
import Derived.Deep.DeepHandedRow
import Derived.Lib.LaidTab
import Derived.Test.YtnbjjocbncblaaaGreatDoorMill2
import Derived.Test.YtnbjjocbncblaaaGreatDoorLoom4
import Derived.Test.YtnbjjocbncblaaaGreatDoorAgn4
namespace Go.Proofs.YtnbjjocbncblaaaGreatDoor
open Go.ChangeShapes Go.WideShapes Go.ChangeAt Go.RowKit Go.ah
set_option maxRecDepth 1000000
theorem own:ownKnob Tryz.prog.godebug=none:=by kernel_rfl
def ND:DataW Unit->List Value
 | .lit (.int k n)=>[.int k n]
 | _=>[]
def cells1:DataW Unit->List Value
 | .agg l=>l.flatMap ND
 | d=>ND d
def cellsD:DataW Unit->List Value
 | .agg l=>l.flatMap cells1
 | d=>ND d
def textD:DataW Unit->ByteArray
 | .iface _ (.ptr (.agg [.lit (.string l)]))=>⟨l.toArray⟩
 | _=>⟨#[]⟩
def isErr:DataW Unit->Bool
 | .iface _ _=>true
 | _=>false
noncomputable def low:Nat:=(World.holding Tryz.prog default ⟨#[],#[],[]⟩).heap.size
noncomputable def NE(w:World)(P:Program)(n:Nat):List (String×DataW Unit)->World
 | []=>w
 | (name,d)::l=>match P.globalNamed name with
   | some g=>bif isErr d
    then NE { w with heap:=w.heap.modify g fun | .cells _ t frozen=>.cells #[.iface 182 (.pointer (some ⟨low+n,0,none⟩))] t frozen|o=>o } P (n+1) l
    else NE { w with heap:=w.heap.modify g fun | .cells _ t frozen=>.cells (cellsD d).toArray t frozen|o=>o } P n l
   | none=>w
def errs(l:List (String×DataW Unit)):List Obj:=(l.filter fun x=>isErr x.2).map fun x=>.cells #[.string (textD x.2)] 184
noncomputable def wH(os:Os)(l:List (String×DataW Unit)):World:=NE (World.holding Tryz.prog os ⟨(errs l).toArray,#[],[]⟩) Tryz.prog 0 l
theorem WM(os:Os)(args:Array Value):laidMet Tryz.prog Rows.syntaxAgainRow.laid ((wH os Rows.syntaxAgainRow.laid).forCall (fun _ _=>0) ⟨#[],args,[]⟩).memory :=
 laidMet_of_run' 8 (by kernel_rfl) (by kernel_rfl)
theorem o8{P:Program}{x:String×DataW Unit}{r:List (String×DataW Unit)}{W:World}(h:laidMet P (x::r) W):laidMet P r W:=by
 obtain⟨ps,hv,hnd,hall⟩:=h;obtain⟨n,d⟩:=x;obtain⟨g,t,cs,fuel,p,q,_,_,_,_,h5,rfl⟩:=hv;exact⟨q,h5,(List.nodup_append.1 hnd).2.1,fun b off hm=>hall b off (by simp[hm])⟩
theorem EG{P:Program}{W:World}{name:String}{k:IntKind}{zs:List Int}(h:Lib.TabIs P W name k zs){g:Nat}(hg:P.globalNamed name=some g):aN.lK W g=some (zs.map (Value.int k)).toArray:=by
 unfold Lib.TabIs World.var? at h;rw[hg] at h;simp only[Option.bind_some] at h;unfold aN.lK;split at h;rename_i c t fz e;rw[e];simp only[Option.some.injEq] at h ⊢;exact h;cases h
theorem Zz{P:Program}{W:World}{name ty:String}{d:DataW Unit}{aL:List (String×DataW Unit)}{g:Nat}{t:TypeId}{ms:Array (String×TypeId)}
 (hg:P.globalNamed name=some g) (hty:(P.globals[g]?).map (·.type)=some t) (ht:P.underlying t=some (.interface ms))
 (h:laidMet P ((name,.iface ty d)::aL) W):∃ c u v,aN.lK W g=some c/\c[0]? = some (.iface u v):=by
 obtain⟨ps,⟨g',t',cs,fuel,p,q,hg',ht',hvar,hd,_,_⟩,_⟩:=h;obtain rfl:=Option.some.inj (hg.symm.trans hg');obtain rfl:=Option.some.inj (hty.symm.trans ht');have hz:aN.lK W g=some cs:=by
  unfold World.var? at hvar;rw[hg] at hvar;simp only[Option.bind_some] at hvar;unfold aN.lK;split at hvar;rename_i c t fz e;rw[e];simp only[Option.some.injEq] at hvar ⊢;exact hvar;cases hvar
 cases fuel with
 | zero=>simp[DataW.trod] at hd
 | succ fuel =>
   simp only[DataW.trod,ht] at hd;split at hd
   all_goals first|(exfalso;simp_all;done)|skip
   all_goals rename_i u v e1 e2
   all_goals exact⟨cs,u,v,hz,by rw[<-Array.getElem?_toList,e2];rfl⟩
theorem knows{W:World}(h:laidMet Tryz.prog Rows.syntaxAgainRow.laid W):aN.gj Tryz.prog (aN.lK W):=by
 have t32:Lib.TabIs Tryz.prog W "math/bits.deBruijn32tab" .u8 aN.ZW:=Lib.tabIs_of_head (g:=4) (t:=185) (e:=5) (n:=32) (by kernel_rfl) (by kernel_rfl) Tryz.underlying185 Tryz.underlying5 (by kernel_rfl) (by kernel_rfl) h;have t64:Lib.TabIs Tryz.prog W "math/bits.deBruijn64tab" .u8 aN.ZV:=Lib.tabIs_of_head (g:=5) (t:=186) (e:=5) (n:=64) (by kernel_rfl) (by kernel_rfl) Tryz.underlying186 Tryz.underlying5 (by kernel_rfl) (by kernel_rfl) (o8 h);have t10:Lib.TabIs Tryz.prog W "internal/strconv.uint64pow10" .u64 aN.Q6:=Lib.tabIs_of_head (g:=1) (t:=171) (e:=150) (n:=20) (by kernel_rfl) (by kernel_rfl) Tryz.underlying171 Tryz.underlying150 (by kernel_rfl) (by kernel_rfl) (o8 (o8 h));refine⟨fun x hx g hg=>?_,fun g hg=>?_⟩;simp only[aN.Q7,List.mem_cons,List.not_mem_nil,or_false] at hx;rcases hx with rfl|rfl|rfl;exact EG t32 hg;exact EG t64 hg;exact EG t10 hg;have vU:Tryz.prog.globalNamed "strconv.ErrRange" = some 3:=by kernel_rfl
 obtain rfl:=Option.some.inj (vU.symm.trans hg);obtain⟨c,u,v,h1,h2⟩:=Zz (g:=3) (t:=77) vU (by kernel_rfl) Tryz.underlying77 (o8 (o8 (o8 h)));exact⟨c,u,v,h1,h2⟩
end Go.Proofs.YtnbjjocbncblaaaGreatDoor
namespace Go.Proofs.YtnbjjocbncblaaaGreatDoor
open Go.ChangeShapes Go.WideShapes Go.ChangeAt Go.RowKit Go.ChangeMaps
set_option maxRecDepth 1000000
namespace syntaxAgain
theorem ZA(os:Os)(args:Array Value):laidMet Tryz.prog Rows.syntaxAgainRow.laid ((wH os Rows.syntaxAgainRow.laid).forCall (fun _ _=>0) ⟨#[],args,[]⟩).memory :=
 WM os args
theorem contract(H:Type)(enc:TypeId×Value->H)(W:World)(base:Nat)(args:Array Value)(ds gs:List (DataW H))(before:List MemPlace)
 (hval:∀(j:Nat) t v,Tryz.f3.params[j]? = some t->args[j]? = some v->Value.okWide Tryz.prog W .any base t v)
 (hW:DataW.Whole enc Tryz.prog Tryz.f3.params.toList Rows.syntaxAgainSpec.vars false W args.toList ds gs before) (hK:aN.gj Tryz.prog (aN.lK W)) :
 Calls Tryz.prog 3 args W fun e W'=>∃ v,e=.returned v/\Rows.syntaxAgainSpec.post enc Tryz.prog Tryz.f3 false true false false W args v W' :=
 aN.LS (kinds:=[.str]) (by kernel_rfl) (by kernel_rfl) S6 (by kernel_rfl) Tryz.underlying4 rfl (fun ds h=>by
  match ds,h with
  | [_],_=>exact⟨rfl,rfl,rfl⟩) hval hW hK
theorem reads(os:Os){H:Type}(enc:TypeId×Value->H):∃ places,DataW.whole enc Tryz.prog ((wH os Rows.syntaxAgainRow.laid).forCall (fun _ _=>0) ⟨#[],#[.string ⟨#[]⟩],[]⟩).memory Tryz.f3.params.toList Rows.syntaxAgainSpec.vars false (#[.string ⟨#[]⟩]:Array Value).toList 8=some ([.lit (.string [])],[],places) :=
 ⟨[],by kernel_rfl⟩
theorem lifted(os:Os)(started:os.Started)(H:Type)(enc:TypeId×Value->H)(F:Stop.Interp) :
 ReturnsInHanded {} Tryz.checked os 3 .any ((OpenSpec.ofChange Rows.syntaxAgainSpec).preRow enc Tryz.prog Tryz.f3 Rows.syntaxAgainRow.domain false Rows.syntaxAgainRow.laid) (((OpenSpec.ofChange Rows.syntaxAgainSpec).at F).post enc Tryz.prog Tryz.f3 false true false false):=by
 obtain⟨places,hx⟩:=reads os enc
 refine returnsInHanded_of_row (C:=Tryz.checked) (s:=OpenSpec.ofChange Rows.syntaxAgainSpec) own started (by kernel_rfl) Tryz.func3
  (witness_row_at (enc:=enc) (C:=Tryz.checked) false (wH os Rows.syntaxAgainRow.laid) #[.string ⟨#[]⟩] rfl (by kernel_rfl) (by kernel_rfl) (by kernel_rfl)
   (OpenSpec.preRow_of_cond 8 hx (by kernel_rfl) (fun k hk=>by cases hk) (by kernel_rfl) (ZA os _))) ?_
 intro W base args ds gs before hval hW _ _ _ hL _ _;exact contract H enc W base args ds gs before hval hW (knows hL)
theorem said:Rows.SyntaxAgainSaid :=
 OpenClaim.holds_of_cond 3 Tryz.f3 rfl rfl rfl rfl rfl rfl rfl ⟨rfl,rfl,rfl,rfl,rfl⟩ rfl rfl rfl rfl rfl (by kernel_rfl) Tryz.func3 (by kernel_rfl)
  (of_decide_eq_true (by kernel_rfl)) (by unfold Func.isWrapper;first|(rw[if_pos (by decide +kernel)];kernel_rfl)|(rw[if_neg (by decide +kernel)];exact⟨rfl,rfl⟩))
  (fun os started H enc _ F=>by rw[OpenClaim.pre_eq_preRow];exact lifted os started H enc F)
theorem plain (f:FuncId) (fn:Func) (hf:Tryz.pinned.checked.prog.funcNamed "cayley/cayleylaw37.SyntaxAgain" = some f) (hfn:Tryz.pinned.checked.prog.funcs[f]? = some fn) :
 true=Tryz.pinned.checked.prog.looks []/\∀(j:Nat) t,fn.params[j]? = some t->Tryz.pinned.checked.prog.wantsStandIn t=false:=by
 obtain rfl:f=3:=Option.some.inj ((show Tryz.prog.funcNamed "cayley/cayleylaw37.SyntaxAgain" = some 3 by kernel_rfl).symm.trans hf) |>.symm;obtain rfl:fn=Tryz.f3:=(Option.some.inj (Tryz.func3.symm.trans hfn)).symm;refine⟨by kernel_rfl,fun j t ht=>?_⟩;rw[Tryz.params3] at ht;cases j with
 | zero=>simp at ht;subst ht;kernel_rfl
 | succ j =>
   simp at ht
end syntaxAgain
theorem syntaxAgain_holds:Rows.SyntaxAgainCardSaid :=
 Claim7.holds_tied_plain_at .later [] _ _ _ _ syntaxAgain.said (fun _ h=>by cases h) (by kernel_rfl) (fun _ h=>by cases h) syntaxAgain_row_tie rfl ⟨rfl,rfl⟩ (by kernel_rfl) rfl syntaxAgain.plain (by kernel_rfl)
end Go.Proofs.YtnbjjocbncblaaaGreatDoor
