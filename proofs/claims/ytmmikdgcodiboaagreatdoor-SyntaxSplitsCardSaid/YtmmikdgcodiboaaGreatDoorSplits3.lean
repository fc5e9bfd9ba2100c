/- The world of the witness; what a row's listed tables say. -/
import Derived.Test.YtmmikdgcodiboaaGreatDoorCards
import Derived.Test.YtmmikdgcodiboaaGreatDoorTie
import Derived.WalkKit
import Derived.ProofKit
import Derived.OpenShut
import Derived.Deep.DeepHandedRow
import Derived.Lib.LaidTab
import Derived.Test.YtmmikdgcodiboaaGreatDoorMill2
import Derived.Test.YtmmikdgcodiboaaGreatDoorLoom4
import Derived.Test.YtmmikdgcodiboaaGreatDoorAwake2
namespace Go.Proofs.YtmmikdgcodiboaaGreatDoor
open Go.ChangeShapes Go.WideShapes Go.ChangeAt Go.RowKit Go.Mill
set_option maxRecDepth 1000000
theorem own:ownKnob Tryz.prog.godebug=none:=by kernel_rfl
def cells0:DataW Unit->List Value
 | .lit (.int k n)=>[.int k n]
 | _=>[]
def cells1:DataW Unit->List Value
 | .agg l=>l.flatMap cells0
 | d=>cells0 d
def cellsD:DataW Unit->List Value
 | .agg l=>l.flatMap cells1
 | d=>cells0 d
def textD:DataW Unit->ByteArray
 | .iface _ (.ptr (.agg [.lit (.string l)]))=>⟨l.toArray⟩
 | _=>⟨#[]⟩
def isErr:DataW Unit->Bool
 | .iface _ _=>true
 | _=>false
noncomputable def low:Nat:=(World.holding Tryz.prog default ⟨#[],#[],[]⟩).heap.size
noncomputable def layAll (w:World) (P:Program) (n:Nat):List (String×DataW Unit)->World
 | []=>w
 | (name,d)::l=>match P.globalNamed name with
   | some g=>bif isErr d
    then layAll { w with heap:=w.heap.modify g fun | .cells _ t frozen=>.cells #[.iface 170 (.pointer (some ⟨low+n,0,none⟩))] t frozen | o=>o } P (n+1) l
    else layAll { w with heap:=w.heap.modify g fun | .cells _ t frozen=>.cells (cellsD d).toArray t frozen | o=>o } P n l
   | none=>w
def errs (l:List (String×DataW Unit)):List Obj:=(l.filter fun x=>isErr x.2).map fun x=>.cells #[.string (textD x.2)] 172
noncomputable def laidWorld (os:Os) (l:List (String×DataW Unit)):World:=layAll (World.holding Tryz.prog os ⟨(errs l).toArray,#[],[]⟩) Tryz.prog 0 l
theorem laid_met5 (os:Os) (args:Array Value):laidMet Tryz.prog Rows.syntaxSplitsRow.laid ((laidWorld os Rows.syntaxSplitsRow.laid).forCall (fun _ _=>0) ⟨#[],args,[]⟩).memory :=
 laidMet_of_run' 8 (by kernel_rfl) (by kernel_rfl)
theorem laidMet_tl {P:Program} {x:String×DataW Unit} {r:List (String×DataW Unit)} {W:World} (h:laidMet P (x::r) W):laidMet P r W:=by
 obtain ⟨ps,hv,hnd,hall⟩:=h
 obtain ⟨n,d⟩:=x
 obtain ⟨g,t,cs,fuel,p,q,_,_,_,_,h5,rfl⟩:=hv
 exact ⟨q,h5,(List.nodup_append.1 hnd).2.1,fun b off hm=>hall b off (by simp [hm])⟩
theorem know_one {P:Program} {W:World} {name:String} {k:IntKind} {zs:List Int} (h:Lib.TabIs P W name k zs) {g:Nat} (hg:P.globalNamed name=some g):Loom.allZ W g=some (zs.map (Value.int k)).toArray:=by
 unfold Lib.TabIs World.var? at h
 rw [hg] at h
 simp only [Option.bind_some] at h
 unfold Loom.allZ
 split at h
 . rename_i c t fz e
   rw [e]
   simp only [Option.some.injEq] at h ⊢
   exact h
 . cases h
theorem iface_of {P:Program} {W:World} {name ty:String} {d:DataW Unit} {rest:List (String×DataW Unit)} {g:Nat} {t:TypeId} {ms:Array (String×TypeId)}
 (hg:P.globalNamed name=some g) (hty:(P.globals[g]?).map (·.type)=some t) (ht:P.underlying t=some (.interface ms))
 (h:laidMet P ((name,.iface ty d)::rest) W):∃ c u v,Loom.allZ W g=some c/\c[0]? = some (.iface u v):=by
 obtain ⟨ps,⟨g',t',cs,fuel,p,q,hg',ht',hvar,hd,_,_⟩,_⟩:=h
 obtain rfl:=Option.some.inj (hg.symm.trans hg')
 obtain rfl:=Option.some.inj (hty.symm.trans ht')
 have hz:Loom.allZ W g=some cs:=by
  unfold World.var? at hvar
  rw [hg] at hvar
  simp only [Option.bind_some] at hvar
  unfold Loom.allZ
  split at hvar
  . rename_i c t fz e
    rw [e]
    simp only [Option.some.injEq] at hvar ⊢
    exact hvar
  . cases hvar
 cases fuel with
 | zero=>simp [DataW.trod] at hd
 | succ fuel =>
   simp only [DataW.trod,ht] at hd
   split at hd
   all_goals first | (exfalso;simp_all;done) | skip
   all_goals rename_i u v e1 e2
   all_goals exact ⟨cs,u,v,hz,by rw [<-Array.getElem?_toList,e2];rfl⟩
theorem knows {W:World} (h:laidMet Tryz.prog Rows.syntaxSplitsRow.laid W):Loom.Know Tryz.prog (Loom.allZ W):=by
 have t32:Lib.TabIs Tryz.prog W "math/bits.deBruijn32tab" .u8 Loom.tab32:=Lib.tabIs_of_head (g:=4) (t:=185) (e:=5) (n:=32) (by kernel_rfl) (by kernel_rfl) Tryz.underlying185 Tryz.underlying5 (by kernel_rfl) (by kernel_rfl) h
 have t64:Lib.TabIs Tryz.prog W "math/bits.deBruijn64tab" .u8 Loom.tab64:=Lib.tabIs_of_head (g:=5) (t:=186) (e:=5) (n:=64) (by kernel_rfl) (by kernel_rfl) Tryz.underlying186 Tryz.underlying5 (by kernel_rfl) (by kernel_rfl) (laidMet_tl h)
 have t10:Lib.TabIs Tryz.prog W "internal/strconv.uint64pow10" .u64 Loom.tab10:=Lib.tabIs_of_head (g:=3) (t:=180) (e:=146) (n:=20) (by kernel_rfl) (by kernel_rfl) Tryz.underlying180 Tryz.underlying146 (by kernel_rfl) (by kernel_rfl) (laidMet_tl (laidMet_tl h))
 refine ⟨fun x hx g hg=>?_,fun g hg=>?_⟩
 . simp only [Loom.tabsK,List.mem_cons,List.not_mem_nil,or_false] at hx
   rcases hx with rfl | rfl | rfl
   . exact know_one t32 hg
   . exact know_one t64 hg
   . exact know_one t10 hg
 . have hg2:Tryz.prog.globalNamed "strconv.ErrRange" = some 2:=by kernel_rfl
   obtain rfl:=Option.some.inj (hg2.symm.trans hg)
   obtain ⟨c,u,v,h1,h2⟩:=iface_of (g:=2) (t:=87) hg2 (by kernel_rfl) Tryz.underlying87 (laidMet_tl (laidMet_tl (laidMet_tl h)))
   exact ⟨c,u,v,h1,h2⟩
end Go.Proofs.YtmmikdgcodiboaaGreatDoor
namespace Go.Proofs.YtmmikdgcodiboaaGreatDoor
open Go.ChangeShapes Go.WideShapes Go.ChangeAt Go.RowKit Go.ChangeMaps
set_option maxRecDepth 1000000
namespace syntaxSplits
theorem laid_met (os:Os) (args:Array Value):laidMet Tryz.prog Rows.syntaxSplitsRow.laid ((laidWorld os Rows.syntaxSplitsRow.laid).forCall (fun _ _=>0) ⟨#[],args,[]⟩).memory :=
 laid_met5 os args
theorem contract (H:Type) (enc:TypeId×Value->H) (W:World) (base:Nat) (args:Array Value) (ds gs:List (DataW H)) (before:List MemPlace)
 (hval:∀ (j:Nat) t v,Tryz.f3.params[j]? = some t->args[j]? = some v->Value.okWide Tryz.prog W .any base t v)
 (hW:DataW.Whole enc Tryz.prog Tryz.f3.params.toList Rows.syntaxSplitsSpec.vars false W args.toList ds gs before) (hK:Loom.Know Tryz.prog (Loom.allZ W)) :
 Calls Tryz.prog 3 args W fun e W'=>∃ v,e=.returned v/\Rows.syntaxSplitsSpec.post enc Tryz.prog Tryz.f3 false true false false W args v W' :=
 Loom.law_contract (kinds:=[.str]) (by kernel_rfl) (by kernel_rfl) splits_all (by kernel_rfl) Tryz.underlying4 rfl (fun ds h=>by
  match ds,h with
  | [_],_=>exact ⟨rfl,rfl,rfl⟩) hval hW hK
theorem reads (os:Os) {H:Type} (enc:TypeId×Value->H):∃ places,DataW.whole enc Tryz.prog ((laidWorld os Rows.syntaxSplitsRow.laid).forCall (fun _ _=>0) ⟨#[],#[.string ⟨#[]⟩],[]⟩).memory Tryz.f3.params.toList Rows.syntaxSplitsSpec.vars false (#[.string ⟨#[]⟩]:Array Value).toList 8=some ([.lit (.string [])],[],places) :=
 ⟨[],by kernel_rfl⟩
theorem lifted (os:Os) (started:os.Started) (H:Type) (enc:TypeId×Value->H) (F:Stop.Interp) :
 ReturnsInHanded {} Tryz.checked os 3 .any ((OpenSpec.ofChange Rows.syntaxSplitsSpec).preRow enc Tryz.prog Tryz.f3 Rows.syntaxSplitsRow.domain false Rows.syntaxSplitsRow.laid) (((OpenSpec.ofChange Rows.syntaxSplitsSpec).at F).post enc Tryz.prog Tryz.f3 false true false false):=by
 obtain ⟨places,hx⟩:=reads os enc
 refine returnsInHanded_of_row (C:=Tryz.checked) (s:=OpenSpec.ofChange Rows.syntaxSplitsSpec) own started (by kernel_rfl) Tryz.func3
  (witness_row_at (enc:=enc) (C:=Tryz.checked) false (laidWorld os Rows.syntaxSplitsRow.laid) #[.string ⟨#[]⟩] rfl (by kernel_rfl) (by kernel_rfl) (by kernel_rfl)
   (OpenSpec.preRow_of_cond 8 hx (by kernel_rfl) (fun k hk=>by cases hk) (by kernel_rfl) (laid_met os _))) ?_
 intro W base args ds gs before hval hW _ _ _ hL _ _
 exact contract H enc W base args ds gs before hval hW (knows hL)
theorem said:Rows.SyntaxSplitsSaid :=
 OpenClaim.holds_of_cond 3 Tryz.f3 rfl rfl rfl rfl rfl rfl rfl ⟨rfl,rfl,rfl,rfl,rfl⟩ rfl rfl rfl rfl rfl (by kernel_rfl) Tryz.func3 (by kernel_rfl)
  (of_decide_eq_true (by kernel_rfl)) (by unfold Func.isWrapper;first | (rw [if_pos (by decide +kernel)];kernel_rfl) | (rw [if_neg (by decide +kernel)];exact ⟨rfl,rfl⟩))
  (fun os started H enc _ F=>by rw [OpenClaim.pre_eq_preRow];exact lifted os started H enc F)
theorem plain (f:FuncId) (fn:Func) (hf:Tryz.pinned.checked.prog.funcNamed "cayley/cayleylaw37.SyntaxSplits" = some f) (hfn:Tryz.pinned.checked.prog.funcs[f]? = some fn) :
 true=Tryz.pinned.checked.prog.looks []/\∀ (j:Nat) t,fn.params[j]? = some t->Tryz.pinned.checked.prog.wantsStandIn t=false:=by
 obtain rfl:f=3:=Option.some.inj ((show Tryz.prog.funcNamed "cayley/cayleylaw37.SyntaxSplits" = some 3 by kernel_rfl).symm.trans hf) |>.symm
 obtain rfl:fn=Tryz.f3:=(Option.some.inj (Tryz.func3.symm.trans hfn)).symm
 refine ⟨by kernel_rfl,fun j t ht=>?_⟩
 rw [Tryz.params3] at ht
 cases j with
 | zero=>simp at ht;subst ht;kernel_rfl
 | succ j =>
   simp at ht
end syntaxSplits
theorem syntaxSplits_holds:Rows.SyntaxSplitsCardSaid :=
 Claim7.holds_tied_plain_at .later [] _ _ _ _ syntaxSplits.said (fun _ h=>by cases h) (by kernel_rfl) (fun _ h=>by cases h) syntaxSplits_row_tie rfl ⟨rfl,rfl⟩ (by kernel_rfl) rfl syntaxSplits.plain (by kernel_rfl)
end Go.Proofs.YtmmikdgcodiboaaGreatDoor
