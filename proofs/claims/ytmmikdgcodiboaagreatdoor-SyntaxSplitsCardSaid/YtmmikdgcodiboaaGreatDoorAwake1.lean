/- The contracts of strings.Join and strings.Count for the verified evaluator. -/
import Derived.Test.YtmmikdgcodiboaaGreatDoorShelf1
import Derived.Test.YtmmikdgcodiboaaGreatDoorMill2
namespace Go.Proofs.YtmmikdgcodiboaaGreatDoor
open Go.RowKit Go.Mill
noncomputable def strsE (l:List CV):Option (List ByteArray):=List.rec (some []) (fun x _ ih=>match x with | .str s=>(match ih with | some r=>some (s::r) | none=>none) | _=>none) l
noncomputable def joinC (args:List AV) (h:H):Option AV :=
 match args with
 | [.p (.c (.slice id off len cap _ _)),.p (.c (.str sep))]=>match rdL h id off len with
   | some l=>match strsE l with
     | some xs=>bif Nat.blt 0 len&&(Nat.ble len cap&&(Nat.ble len 1000&&Nat.ble (Lib.join (xs.map (·.data.toList)) sep.data.toList).length 1000000)) then some (.p (.c (.str ⟨(Lib.join (xs.map (·.data.toList)) sep.data.toList).toArray⟩))) else none
     | none=>none
   | none=>none
 | _=>none
theorem strsE_cons {x:CV} {l:List CV}:strsE (x::l)=match x with | .str s=>(match strsE l with | some r=>some (s::r) | none=>none) | _=>none:=rfl
theorem strsE_rel {ρ:Rho}:∀ {l:List CV} {xs:List ByteArray} {vs:List Value},strsE l=some xs->LRel (CRel ρ) l vs->vs=xs.map Value.string
 | [],xs,vs,e,h=>by
   cases e
   cases vs with
   | nil=>rfl
   | cons _ _=>exact h.elim
 | x :: l, xs, vs, e, h => by
   cases vs with
   | nil=>exact h.elim
   | cons v vs =>
     rw [strsE_cons] at e
     split at e
     . rename_i s
       split at e
       . rename_i r hr
         cases e
         have h1:v=.string s:=h.1
         rw [h1,strsE_rel hr h.2];rfl
       . cases e
     . cases e
theorem join_con {args:List AV} {h:H} {r:AV} (e:joinC args h=some r) (base:Nat) (ρ:Rho) (w:World) (vs:List Value) (R:Rel base ρ h w) (hvs:LRel (ARel ρ) args vs) :
 CallsIn Fence.wide 0 Tryz.prog 25 vs.toArray w fun e w'=>∃ u,e=.returned u/\ARel ρ r u/\Below w.heap.size w w':=by
 unfold joinC at e
 split at e
 . rename_i id off len cap ex sz sep
   split at e
   . rename_i l hl
     split at e
     . rename_i xs hxs
       obtain ⟨hb,e⟩:=bif_some e
       cases e
       simp only [Bool.and_eq_true,Nat.ble_eq,Nat.blt_eq] at hb
       match vs,hvs with
       | [a,b],hv =>
         obtain ⟨p,c,hp,rfl,hc,_⟩:=hv.1
         have hb':b=.string sep:=hv.2.1
         subst hb'
         obtain ⟨p',us,hp',hus,hul,hcell⟩:=rdL_rel R hl hb.1
         rw [hp] at hp';cases hp'
         have hu:=strsE_rel hxs hus
         subst hu
         simp only [List.length_map] at hul
         subst hul
         exact (callsIn_wide.2 (Tryz.strings_Join p.block (p.off+off) c xs sep w (fun j x hj=>hcell j _ (by simp [hj])) (R.lt _ _ hp) (by omega) (by omega) (by omega))).mono fun e w' ⟨he,hB⟩=>⟨_,he,rfl,hB⟩
     . cases e
   . cases e
 . cases e
set_option maxRecDepth 1000000
theorem names:namesOk Tryz.prog=true:=by kernel_rfl
theorem sameN:∀ f,f∈[106]->∀ x w,(callFunc f #[x]).run Tryz.prog w=.ok (.value x) w:=by
 intro f hf x w
 simp only [List.mem_singleton] at hf
 subst hf
 exact same_of Tryz.func106 (by kernel_rfl) (by kernel_rfl) (by kernel_rfl) (by kernel_rfl) x w
noncomputable def countC (args:List AV) (_h:H):Option AV:=match args with
 | [.p (.c (.str s)),.p (.c (.str sep))]=>(match sep.data.toList with | [c]=>some (.p (.c (.int .i64 (Lib.countByte s.data.toList c)))) | _=>none)
 | _=>none
theorem count_con {args : List AV} {h : H} {r : AV} (e : countC args h = some r) (base : Nat) (ρ : Rho) (w : World) (vs : List Value) (_R : Rel base ρ h w) (hvs : LRel (ARel ρ) args vs) :
 CallsIn Fence.wide 0 Tryz.prog 36 vs.toArray w fun e w'=>∃ u,e=.returned u/\ARel ρ r u/\Below w.heap.size w w':=by
 unfold countC at e
 split at e
 . rename_i s sep
   split at e
   . rename_i c hc
     cases e
     match vs,hvs with
     | [a,b],hv =>
       have ha:a=.string s:=hv.1
       have hb:b=.string sep:=hv.2.1
       have hs:sep=⟨#[c]⟩:=by
        apply ByteArray.ext
        apply Array.ext'
        rw [hc]
       subst ha;subst hb;subst hs
       exact (callsIn_wide.2 (Tryz.strings_Count_one s c w)).mono fun e w' ⟨he,hw⟩=>⟨_,he,rfl,hw▸Below.refl _ _⟩
   . cases e
 . cases e
noncomputable def conL:List (FuncId×(List AV->H->Option AV)):=[(25,joinC),(36,countC)]
theorem con_ok {E:Env} (hP:E.P=Tryz.prog) (hc:E.con=conL):∀ (f:FuncId) (args:List AV) (h:H) (r:AV),conE E.con f args h=some r->∀ (base:Nat) (ρ:Rho) (w:World) (vs:List Value),Rel base ρ h w->LRel (ARel ρ) args vs->
 CallsIn Fence.wide 0 E.P f vs.toArray w fun e w'=>∃ u,e=.returned u/\ARel ρ r u/\Below w.heap.size w w':=by
 intro f args h r e base ρ w vs R hvs
 rw [hc] at e
 rw [hP]
 have e':(bif Nat.beq 25 f then (match joinC args h with | some r=>some r | none=>(bif Nat.beq 36 f then (match countC args h with | some r=>some r | none=>none) else none)) else (bif Nat.beq 36 f then (match countC args h with | some r=>some r | none=>none) else none))=some r:=e
 have hcount:(bif Nat.beq 36 f then (match countC args h with | some r=>some r | none=>none) else none)=some r->CallsIn Fence.wide 0 Tryz.prog f vs.toArray w fun e w'=>∃ u,e=.returned u/\ARel ρ r u/\Below w.heap.size w w':=by
  intro e'
  obtain ⟨hf,e'⟩:=bif_some e'
  have hf:=Nat.eq_of_beq_eq_true hf
  subst hf
  split at e'
  . rename_i r' hr;cases e';exact count_con hr base ρ w vs R hvs
  . cases e'
 cases hb:Nat.beq 25 f with
 | false=>rw [hb] at e';exact hcount e'
 | true =>
   rw [hb] at e'
   simp only [cond_true] at e'
   split at e'
   . rename_i r' hr
     cases e'
     have hf:=Nat.eq_of_beq_eq_true hb
     subst hf
     exact join_con hr base ρ w vs R hvs
   . exact hcount e'
noncomputable def E1:Env:={ P:=Tryz.prog,same:=[106],memo:=[],con:=conL }
theorem E1_ok:EnvOk E1:=⟨names_of names,sameN,memo_nil,con_ok rfl rfl,fun f args h h' e=>by cases e⟩
set_option maxRecDepth 1000000
theorem k28:answers (ev E1 100000 (.call 16 ([.p (.c (.str ⟨#[40,97,32,43,32,98,41,32,42,32,99,32,94,32,45,40,100,41]⟩))])) h0) (.p (.c (.str ⟨#[40,97,32,43,32,98,41,32,42,32,99,94,45,100]⟩)))=true:=by kernel_rfl
end Go.Proofs.YtmmikdgcodiboaaGreatDoor
