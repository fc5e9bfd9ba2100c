/- The world of the witness; what a row's listed tables say. -/
import Derived.Test.YtepmdidomecebaaGreatDoorCards
import Derived.Test.YtepmdidomecebaaGreatDoorTie
import Derived.WalkKit
import Derived.ProofKit
import Derived.OpenShut
import Derived.Deep.DeepHandedRow
import Derived.Lib.LaidTab
import Derived.Test.YtepmdidomecebaaGreatDoorMill1
import Derived.Test.YtepmdidomecebaaGreatDoorLoom4
namespace Go.Proofs.YtepmdidomecebaaGreatDoor
open Go.ChangeShapes Go.WideShapes Go.ChangeAt Go.RowKit Go.ar
set_option maxRecDepth 1000000
theorem own:ownKnob Tryz.prog.godebug=none:=by kernel_rfl
def Ky:DataW Unit->List Value
 | .lit (.int k n)=>[.int k n]
 | _=>[]
def cells1:DataW Unit->List Value
 | .agg l=>l.flatMap Ky
 | d=>Ky d
def cellsD:DataW Unit->List Value
 | .agg l=>l.flatMap cells1
 | d=>Ky d
def textD:DataW Unit->ByteArray
 | .iface _ (.ptr (.agg [.lit (.string l)]))=>⟨l.toArray⟩
 | _=>⟨#[]⟩
def Yl:DataW Unit->Bool
 | .iface _ _=>true
 | _=>false
noncomputable def low:Nat:=(World.holding Tryz.prog default ⟨#[],#[],[]⟩).heap.size
noncomputable def Kz (w:World) (P:Program) (n:Nat):List (String×DataW Unit)->World
 | []=>w
 | (name,d)::l=>match P.globalNamed name with
   | some g=>bif Yl d
    then Kz { w with heap:=w.heap.modify g fun | .cells _ t frozen=>.cells #[.iface 249 (.pointer (some ⟨low+n,0,none⟩))] t frozen | o=>o } P (n+1) l
    else Kz { w with heap:=w.heap.modify g fun | .cells _ t frozen=>.cells (cellsD d).toArray t frozen | o=>o } P n l
   | none=>w
def errs (l:List (String×DataW Unit)):List Obj:=(l.filter fun x=>Yl x.2).map fun x=>.cells #[.string (textD x.2)] 251
noncomputable def s7 (os:Os) (l:List (String×DataW Unit)):World:=Kz (World.holding Tryz.prog os ⟨(errs l).toArray,#[],[]⟩) Tryz.prog 0 l
theorem TT (os:Os) (args:Array Value):laidMet Tryz.prog Rows.resumeBackRow.laid ((s7 os Rows.resumeBackRow.laid).forCall (fun _ _=>0) ⟨#[],args,[]⟩).memory :=
 laidMet_of_run' 8 (by kernel_rfl) (by kernel_rfl)
theorem wC {P:Program} {x:String×DataW Unit} {r:List (String×DataW Unit)} {W:World} (h:laidMet P (x::r) W):laidMet P r W:=by
 obtain ⟨ps,hv,hnd,hall⟩:=h;obtain ⟨n,d⟩:=x;obtain ⟨g,t,cs,fuel,p,q,_,_,_,_,h5,rfl⟩:=hv;exact ⟨q,h5,(List.nodup_append.1 hnd).2.1,fun b off hm=>hall b off (by simp [hm])⟩
theorem BD {P:Program} {W:World} {name:String} {k:IntKind} {zs:List Int} (h:Lib.TabIs P W name k zs) {g:Nat} (hg:P.globalNamed name=some g):aJ.kg W g=some (zs.map (Value.int k)).toArray:=by
 unfold Lib.TabIs World.var? at h;rw [hg] at h;simp only [Option.bind_some] at h;unfold aJ.kg;split at h
 . rename_i c t fz e;rw [e];simp only [Option.some.injEq] at h ⊢;exact h
 . cases h
theorem knows {W:World} (h:laidMet Tryz.prog Rows.resumeBackRow.laid W):aJ.gH Tryz.prog (aJ.kg W):=by
 have t32:Lib.TabIs Tryz.prog W "math/bits.deBruijn32tab" .u8 aJ.Xo:=Lib.tabIs_of_head (g:=6) (t:=252) (e:=5) (n:=32) (by kernel_rfl) (by kernel_rfl) Tryz.underlying252 Tryz.underlying5 (by kernel_rfl) (by kernel_rfl) h;have t64:Lib.TabIs Tryz.prog W "math/bits.deBruijn64tab" .u8 aJ.Xn:=Lib.tabIs_of_head (g:=7) (t:=253) (e:=5) (n:=64) (by kernel_rfl) (by kernel_rfl) Tryz.underlying253 Tryz.underlying5 (by kernel_rfl) (by kernel_rfl) (wC h);have t10:Lib.TabIs Tryz.prog W "internal/strconv.uint64pow10" .u64 aJ.Nt:=Lib.tabIs_of_head (g:=1) (t:=225) (e:=168) (n:=20) (by kernel_rfl) (by kernel_rfl) Tryz.underlying225 Tryz.underlying168 (by kernel_rfl) (by kernel_rfl) (wC (wC h));intro x hx g hg;simp only [aJ.Nu,List.mem_cons,List.not_mem_nil,or_false] at hx;rcases hx with rfl | rfl | rfl
 . exact BD t32 hg
 . exact BD t64 hg
 . exact BD t10 hg
end Go.Proofs.YtepmdidomecebaaGreatDoor
