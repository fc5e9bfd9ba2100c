/- The world of the witness; what a row's listed tables say. -/
import Derived.Test.YtelpmhfdbdihfaaGreatDoorCards
import Derived.Test.YtelpmhfdbdihfaaGreatDoorTie
import Derived.WalkKit
import Derived.ProofKit
import Derived.OpenShut
import Derived.Deep.DeepHandedRow
import Derived.Lib.LaidTab
import Derived.Test.YtelpmhfdbdihfaaGreatDoorMill2
import Derived.Test.YtelpmhfdbdihfaaGreatDoorLoom4
import Derived.Test.YtelpmhfdbdihfaaGreatDoorBlank2
namespace Go.Proofs.YtelpmhfdbdihfaaGreatDoor
open Go.ChangeShapes Go.WideShapes Go.ChangeAt Go.RowKit Go.ah
set_option maxRecDepth 1000000
theorem own:ownKnob Tryz.prog.godebug=none:=by kernel_rfl
def J5:DataW Unit->List Value
 | .lit (.int k n)=>[.int k n]
 | _=>[]
def cells1:DataW Unit->List Value
 | .agg l=>l.flatMap J5
 | d=>J5 d
def cellsD:DataW Unit->List Value
 | .agg l=>l.flatMap cells1
 | d=>J5 d
def textD:DataW Unit->ByteArray
 | .iface _ (.ptr (.agg [.lit (.string l)]))=>⟨l.toArray⟩
 | _=>⟨#[]⟩
def Xd:DataW Unit->Bool
 | .iface _ _=>true
 | _=>false
noncomputable def low:Nat:=(World.holding Tryz.prog default ⟨#[],#[],[]⟩).heap.size
noncomputable def J6 (w:World) (P:Program) (n:Nat):List (String×DataW Unit)->World
 | []=>w
 | (name,d)::l=>match P.globalNamed name with
   | some g=>bif Xd d
    then J6 { w with heap:=w.heap.modify g fun | .cells _ t frozen=>.cells #[.iface 158 (.pointer (some ⟨low+n,0,none⟩))] t frozen | o=>o } P (n+1) l
    else J6 { w with heap:=w.heap.modify g fun | .cells _ t frozen=>.cells (cellsD d).toArray t frozen | o=>o } P n l
   | none=>w
def errs (l:List (String×DataW Unit)):List Obj:=(l.filter fun x=>Xd x.2).map fun x=>.cells #[.string (textD x.2)] 160
noncomputable def tg (os:Os) (l:List (String×DataW Unit)):World:=J6 (World.holding Tryz.prog os ⟨(errs l).toArray,#[],[]⟩) Tryz.prog 0 l
theorem SG (os:Os) (args:Array Value):laidMet Tryz.prog Rows.syntaxBlanksRow.laid ((tg os Rows.syntaxBlanksRow.laid).forCall (fun _ _=>0) ⟨#[],args,[]⟩).memory :=
 laidMet_of_run' 8 (by kernel_rfl) (by kernel_rfl)
theorem mG {P:Program} {x:String×DataW Unit} {r:List (String×DataW Unit)} {W:World} (h:laidMet P (x::r) W):laidMet P r W:=by
 obtain ⟨ps,hv,hnd,hall⟩:=h
 obtain ⟨n,d⟩:=x
 obtain ⟨g,t,cs,fuel,p,q,_,_,_,_,h5,rfl⟩:=hv
 exact ⟨q,h5,(List.nodup_append.1 hnd).2.1,fun b off hm=>hall b off (by simp [hm])⟩
theorem B0 {P:Program} {W:World} {name:String} {k:IntKind} {zs:List Int} (h:Lib.TabIs P W name k zs) {g:Nat} (hg:P.globalNamed name=some g):aT.jU W g=some (zs.map (Value.int k)).toArray:=by
 unfold Lib.TabIs World.var? at h
 rw [hg] at h
 simp only [Option.bind_some] at h
 unfold aT.jU
 split at h
 . rename_i c t fz e
   rw [e]
   simp only [Option.some.injEq] at h ⊢
   exact h
 . cases h
theorem VI {P:Program} {W:World} {name ty:String} {d:DataW Unit} {aK:List (String×DataW Unit)} {g:Nat} {t:TypeId} {ms:Array (String×TypeId)}
 (hg:P.globalNamed name=some g) (hty:(P.globals[g]?).map (·.type)=some t) (ht:P.underlying t=some (.interface ms))
 (h:laidMet P ((name,.iface ty d)::aK) W):∃ c u v,aT.jU W g=some c/\c[0]? = some (.iface u v):=by
 obtain ⟨ps,⟨g',t',cs,fuel,p,q,hg',ht',hvar,hd,_,_⟩,_⟩:=h
 obtain rfl:=Option.some.inj (hg.symm.trans hg')
 obtain rfl:=Option.some.inj (hty.symm.trans ht')
 have hz:aT.jU W g=some cs:=by
  unfold World.var? at hvar
  rw [hg] at hvar
  simp only [Option.bind_some] at hvar
  unfold aT.jU
  split at hvar
  . rename_i c t fz e
    rw [e]
    simp only [Option.some.injEq] at hvar ⊢
    exact hvar
  . cases hvar
 cases fuel with
 | zero=>simp [DataW.trod] at hd
 | succ fuel =>
   simp only [DataW.trod,ht] at hd
   split at hd
   all_goals first | (exfalso;simp_all;done) | skip
   all_goals rename_i u v e1 e2
   all_goals exact ⟨cs,u,v,hz,by rw [<-Array.getElem?_toList,e2];rfl⟩
theorem knows {W:World} (h:laidMet Tryz.prog Rows.syntaxBlanksRow.laid W):aT.fJ Tryz.prog (aT.jU W):=by
 have t32:Lib.TabIs Tryz.prog W "math/bits.deBruijn32tab" .u8 aT.V6:=Lib.tabIs_of_head (g:=4) (t:=187) (e:=5) (n:=32) (by kernel_rfl) (by kernel_rfl) Tryz.underlying187 Tryz.underlying5 (by kernel_rfl) (by kernel_rfl) h
 have t64:Lib.TabIs Tryz.prog W "math/bits.deBruijn64tab" .u8 aT.V5:=Lib.tabIs_of_head (g:=5) (t:=188) (e:=5) (n:=64) (by kernel_rfl) (by kernel_rfl) Tryz.underlying188 Tryz.underlying5 (by kernel_rfl) (by kernel_rfl) (mG h)
 have t10:Lib.TabIs Tryz.prog W "internal/strconv.uint64pow10" .u64 aT.M8:=Lib.tabIs_of_head (g:=3) (t:=182) (e:=144) (n:=20) (by kernel_rfl) (by kernel_rfl) Tryz.underlying182 Tryz.underlying144 (by kernel_rfl) (by kernel_rfl) (mG (mG h))
 refine ⟨fun x hx g hg=>?_,fun g hg=>?_⟩
 . simp only [aT.M9,List.mem_cons,List.not_mem_nil,or_false] at hx
   rcases hx with rfl | rfl | rfl
   . exact B0 t32 hg
   . exact B0 t64 hg
   . exact B0 t10 hg
 . have sG:Tryz.prog.globalNamed "strconv.ErrRange" = some 2:=by kernel_rfl
   obtain rfl:=Option.some.inj (sG.symm.trans hg)
   obtain ⟨c,u,v,h1,h2⟩:=VI (g:=2) (t:=85) sG (by kernel_rfl) Tryz.underlying85 (mG (mG (mG h)))
   exact ⟨c,u,v,h1,h2⟩
end Go.Proofs.YtelpmhfdbdihfaaGreatDoor
namespace Go.Proofs.YtelpmhfdbdihfaaGreatDoor
open Go.ChangeShapes Go.WideShapes Go.ChangeAt Go.RowKit Go.ChangeMaps
set_option maxRecDepth 1000000
namespace syntaxBlanks
theorem VJ (os:Os) (args:Array Value):laidMet Tryz.prog Rows.syntaxBlanksRow.laid ((tg os Rows.syntaxBlanksRow.laid).forCall (fun _ _=>0) ⟨#[],args,[]⟩).memory :=
 SG os args
theorem contract (H:Type) (enc:TypeId×Value->H) (W:World) (base:Nat) (args:Array Value) (ds gs:List (DataW H)) (before:List MemPlace)
 (hval:∀ (j:Nat) t v,Tryz.f3.params[j]? = some t->args[j]? = some v->Value.okWide Tryz.prog W .any base t v)
 (hW:DataW.Whole enc Tryz.prog Tryz.f3.params.toList Rows.syntaxBlanksSpec.vars false W args.toList ds gs before) (hK:aT.fJ Tryz.prog (aT.jU W)) :
 Calls Tryz.prog 3 args W fun e W'=>∃ v,e=.returned v/\Rows.syntaxBlanksSpec.post enc Tryz.prog Tryz.f3 false true false false W args v W' :=
 aT.Ie (kinds:=[.str,.int .i64]) (by kernel_rfl) (by kernel_rfl) OH (by kernel_rfl) Tryz.underlying4 rfl (fun ds h=>by
  match ds,h with
  | [_,_],_=>exact ⟨rfl,rfl,rfl⟩) hval hW hK
theorem reads (os:Os) {H:Type} (enc:TypeId×Value->H):∃ places,DataW.whole enc Tryz.prog ((tg os Rows.syntaxBlanksRow.laid).forCall (fun _ _=>0) ⟨#[],#[.string ⟨#[]⟩,.int .i64 0],[]⟩).memory Tryz.f3.params.toList Rows.syntaxBlanksSpec.vars false (#[.string ⟨#[]⟩,.int .i64 0]:Array Value).toList 8=some ([.lit (.string []),.lit (.int .i64 0)],[],places) :=
 ⟨[],by kernel_rfl⟩
theorem lifted (os:Os) (started:os.Started) (H:Type) (enc:TypeId×Value->H) (F:Stop.Interp) :
 ReturnsInHanded {} Tryz.checked os 3 .any ((OpenSpec.ofChange Rows.syntaxBlanksSpec).preRow enc Tryz.prog Tryz.f3 Rows.syntaxBlanksRow.domain false Rows.syntaxBlanksRow.laid) (((OpenSpec.ofChange Rows.syntaxBlanksSpec).at F).post enc Tryz.prog Tryz.f3 false true false false):=by
 obtain ⟨places,hx⟩:=reads os enc
 refine returnsInHanded_of_row (C:=Tryz.checked) (s:=OpenSpec.ofChange Rows.syntaxBlanksSpec) own started (by kernel_rfl) Tryz.func3
  (witness_row_at (enc:=enc) (C:=Tryz.checked) false (tg os Rows.syntaxBlanksRow.laid) #[.string ⟨#[]⟩,.int .i64 0] rfl (by kernel_rfl) (by kernel_rfl) (by kernel_rfl)
   (OpenSpec.preRow_of_cond 8 hx (by kernel_rfl) (fun k hk=>by cases hk) (by kernel_rfl) (VJ os _))) ?_
 intro W base args ds gs before hval hW _ _ _ hL _ _
 exact contract H enc W base args ds gs before hval hW (knows hL)
theorem said:Rows.SyntaxBlanksSaid :=
 OpenClaim.holds_of_cond 3 Tryz.f3 rfl rfl rfl rfl rfl rfl rfl ⟨rfl,rfl,rfl,rfl,rfl⟩ rfl rfl rfl rfl rfl (by kernel_rfl) Tryz.func3 (by kernel_rfl)
  (of_decide_eq_true (by kernel_rfl)) (by unfold Func.isWrapper;first | (rw [if_pos (by decide +kernel)];kernel_rfl) | (rw [if_neg (by decide +kernel)];exact ⟨rfl,rfl⟩))
  (fun os started H enc _ F=>by rw [OpenClaim.pre_eq_preRow];exact lifted os started H enc F)
theorem plain (f:FuncId) (fn:Func) (hf:Tryz.pinned.checked.prog.funcNamed "cayley/cayleylaw37.SyntaxBlanks" = some f) (hfn:Tryz.pinned.checked.prog.funcs[f]? = some fn) :
 true=Tryz.pinned.checked.prog.looks []/\∀ (j:Nat) t,fn.params[j]? = some t->Tryz.pinned.checked.prog.wantsStandIn t=false:=by
 obtain rfl:f=3:=Option.some.inj ((show Tryz.prog.funcNamed "cayley/cayleylaw37.SyntaxBlanks" = some 3 by kernel_rfl).symm.trans hf) |>.symm
 obtain rfl:fn=Tryz.f3:=(Option.some.inj (Tryz.func3.symm.trans hfn)).symm
 refine ⟨by kernel_rfl,fun j t ht=>?_⟩
 rw [Tryz.params3] at ht
 cases j with
 | zero=>simp at ht;subst ht;kernel_rfl
 | succ j =>
   cases j with
   | zero=>simp at ht;subst ht;kernel_rfl
   | succ j =>
     simp at ht
end syntaxBlanks
theorem syntaxBlanks_holds:Rows.SyntaxBlanksCardSaid :=
 Claim7.holds_tied_plain_at .later [] _ _ _ _ syntaxBlanks.said (fun _ h=>by cases h) (by kernel_rfl) (fun _ h=>by cases h) syntaxBlanks_row_tie rfl ⟨rfl,rfl⟩ (by kernel_rfl) rfl syntaxBlanks.plain (by kernel_rfl)
end Go.Proofs.YtelpmhfdbdihfaaGreatDoor
