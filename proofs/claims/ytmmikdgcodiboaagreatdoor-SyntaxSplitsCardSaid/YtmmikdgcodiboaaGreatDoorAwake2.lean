/- The closed call awake() answers true in every world. -/
import Derived.Test.YtmmikdgcodiboaaGreatDoorAwake1
import Derived.Test.YtmmikdgcodiboaaGreatDoorSplit2
import Derived.Test.YtmmikdgcodiboaaGreatDoorLoom4
namespace Go.Proofs.YtmmikdgcodiboaaGreatDoor
open Go.RowKit Go.Mill Go.Loom
set_option maxRecDepth 1000000
noncomputable def E2:Mill.Env:={ P:=Tryz.prog,same:=[106],memo:=[(16,constG ([.p (.c (.str ⟨#[40,97,32,43,32,98,41,32,42,32,99,32,94,32,45,40,100,41]⟩))]) (.p (.c (.str ⟨#[40,97,32,43,32,98,41,32,42,32,99,94,45,100]⟩))))],con:=conL }
theorem E2_ok:EnvOk E2:=⟨names_of names,sameN,memo_cons (memo_const E1_ok k28) (memo_nil),con_ok rfl rfl,fun f args h h' e=>by cases e⟩
theorem awake_eval:saysTrue (Mill.ev E2 100000 (.call 5 []) h0)=true:=by kernel_rfl
theorem awake_true (w:World):Calls Tryz.prog 5 #[] w fun e w'=>e=.returned (.bool true)/\Below w.heap.size w w':=calls_true E2_ok awake_eval w
theorem awake_sem:FnSem Tryz.prog 5 [] [] (A.p (.c (.bool true))) []:=fnSem_below (d:=.bool) (y:=true) fun η Z w vs hvs=>by
 cases vs with
 | cons _ _=>exact hvs.elim
 | nil=>exact (awake_true w).mono fun e w' ⟨he,hB⟩=>⟨_,he,fun _=>rfl,hB⟩
theorem cAwake_ok:ConOk Tryz.prog 5 cAwake:=con0_ok (by kernel_rfl) fun _=>awake_sem
theorem splits_all:ForArgs (fun args=>FnSem Tryz.prog 3 args [] (dat .bool true) []) [.str] []:=fun s _=>splits_sem cAwake_ok s
end Go.Proofs.YtmmikdgcodiboaaGreatDoor
