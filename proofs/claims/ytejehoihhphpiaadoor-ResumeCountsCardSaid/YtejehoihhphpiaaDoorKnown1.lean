/- The chapter's examples hold: by the verified evaluator, over the tables of the library. -/
import Derived.Test.YtejehoihhphpiaaDoorSave1
import Derived.Test.YtejehoihhphpiaaDoorMillX
namespace Go.Proofs.YtejehoihhphpiaaDoor
open Go.RowKit Go.Mill
set_option maxRecDepth 1000000
theorem names:namesOk Tryd.prog=true:=by kernel_rfl
theorem sameN:∀ f,f∈[58]->∀ x w,(callFunc f #[x]).run Tryd.prog w=.ok (.value x) w:=by
 intro f hf x w
 simp only [List.mem_singleton] at hf
 subst hf
 exact same_of Tryd.func58 (by kernel_rfl) (by kernel_rfl) (by kernel_rfl) (by kernel_rfl) x w
noncomputable def E0:Env:={ P:=Tryd.prog,same:=[58],memo:=[] }
theorem E0_ok:EnvOk E0:=envOk_of (names_of names) sameN memo_nil rfl rfl
theorem known_eval (a b c:Nat):saysTrue (ev E0 100000 (.call 4 []) (hTab 6 [⟨2,a,.u8,Loom.tab32⟩,⟨3,b,.u8,Loom.tab64⟩,⟨0,c,.u64,Loom.tab10⟩]))=true:=by kernel_rfl
theorem known_call:Loom.FnSem Tryd.prog 4 [] [] (bB true) []:=Loom.fnSem_belowT (d:=.bool) (y:=true) fun base η Z w vs R hvs hK=>by
 cases vs with
 | cons _ _=>exact hvs.elim
 | nil =>
   obtain ⟨a,f1,e1⟩:=R.zs _ _ (hK ("math/bits.deBruijn32tab",.u8,Loom.tab32) (by simp [Loom.tabsK]) 2 (by kernel_rfl))
   obtain ⟨b,f2,e2⟩:=R.zs _ _ (hK ("math/bits.deBruijn64tab",.u8,Loom.tab64) (by simp [Loom.tabsK]) 3 (by kernel_rfl))
   obtain ⟨c,f3,e3⟩:=R.zs _ _ (hK ("internal/strconv.uint64pow10",.u64,Loom.tab10) (by simp [Loom.tabsK]) 0 (by kernel_rfl))
   refine (calls_true_tab E0_ok (by rfl) (known_eval a b c) w ?_).mono fun e w' ⟨he,hB⟩=>⟨_,he,fun _=>rfl,hB⟩
   intro x hx
   simp only [List.mem_cons,List.not_mem_nil,or_false] at hx
   rcases hx with rfl | rfl | rfl
   . exact ⟨f1,e1⟩
   . exact ⟨f2,e2⟩
   . exact ⟨f3,e3⟩
def cKnown39:Loom.Con:=Loom.con0 (.t,bB true,[])
theorem cKnown39_ok:Loom.ConOk Tryd.prog 4 cKnown39:=Loom.con0_ok (by kernel_rfl) fun _=>known_call
end Go.Proofs.YtejehoihhphpiaaDoor
